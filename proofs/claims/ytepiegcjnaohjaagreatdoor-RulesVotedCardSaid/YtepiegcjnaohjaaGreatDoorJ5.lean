import Derived.Test.YtepiegcjnaohjaaGreatDoorJ4
import Derived.WalkKit
import Derived.Deep.RegionLaw
import Derived.Laws.CopyOwn
set_option linter.all false
set_option maxRecDepth 100000
set_option maxHeartbeats 8000000
namespace Go.Pm
open Go Go.VL
theorem zio (a : Int) (h : 0 <= a) (h' : a < 18446744073709551616) : (BitVec.ofInt 64 a).toNat = a.toNat := by
 rw [BitVec.toNat_ofInt];have : a % (2 ^ 64 : Nat) = a := Int.emod_eq_of_lt h (by omega);rw [this]
theorem and_mask32' (a : Int) (h : 0 <= a) (h' : a < 18446744073709551616) : zo0 .u64 a 4294967295 = a % 4294967296 := by
 unfold zo0;have e : (BitVec.ofInt IntKind.u64.bits a &&& BitVec.ofInt IntKind.u64.bits 4294967295).toNat = a.toNat % 4294967296 := by
  show (BitVec.ofInt 64 a &&& BitVec.ofInt 64 4294967295).toNat = _;rw [BitVec.toNat_and, zio a h h', zio _ (by omega) (by omega)];have := Nat.and_two_pow_sub_one_eq_mod a.toNat 32;simpa using this
 rw [e, IntKind.wrap_u64];omega
end Go.Pm
namespace Go
open Go.RowKit
theorem ziR {P : Program} (w : World) {ops : Array Oper} {rest : List Oper} {o : Oper} {a : Act} {Q : Exit -> Act -> World -> Prop}
  (hg : o.guard = none) (l c : Operand) (t : TypeId) (hop : o.op = Op.makeSlice t l c)
  (e : TypeId) (i : TypeInfo) (z : Value) (h1 : P.underlying t = some (.slice e)) (h2 : P.info? e = some i) (h3 : i.zero = some z) (h4 : i.size = 1) (hz : z.cells = #[z])
  (kl kc : IntKind) (L C : Int) (n : Nat) (hl : a.eval l = .int kl L) (hc : a.eval c = .int kc C) (hL : L = (n : Int)) (hC : C = (n : Int)) (b2 : i.bytes * n <= 281474976710656) (b3 : n <= maxLen)
  (hK : ∀ w', Hid (w'.heap[w.heap.size]? = some (.cells (List.replicate n z).toArray e (0, 0))) -> Below w.heap.size w w' -> wpList P ops Q rest (a.put o.dst (.slice (some ⟨w.heap.size, 0, none⟩) n n)) w') :
  wpList P ops Q (o :: rest) a w := by
 refine wpList_plain hg fun K hK' => ?_;have hrun := run_make (P := P) w t e i z h1 h2 h3 kl kc L C (by omega) (by omega) (by rw [hC]; have h := Int.ofNat_le.2 b2; rw [Int.natCast_mul] at h; exact h) (by unfold maxLen at b3; omega);subst hL;subst hC;unfold Oper.wp;simp [execOp, hop, hl, hc, hrun, Result.andThen];refine hK' _ _ (by
  have := hK (w.alloc (.cells (madeCells z.cells (n * i.size)) e)) ?_ ((Below.refl _ w).alloc (Nat.le_refl _) _)
  ·simpa using this
  ·show _ = _;rw [heap_alloc_new];have : madeCells z.cells (n * i.size) = (List.replicate n z).toArray := by
    rw [h4, Nat.mul_one, hz];apply Array.ext_getElem?;intro q;by_cases hq : q < n <;> simp [madeCells, hq, Nat.mod_one]
   rw [this])
end Go
namespace Go.Proofs.YtepiegcjnaohjaaGreatDoor.Df
open Go Go.VL Go.Proofs Go.RowKit
attribute [local simp] zdf zcf evPure opd uOf zaI St.put St.at getK binD binI binS binB nilD aggD zgQ zhI lookD lookR zcE Go.VL.nextD zcI zhV zhU zfX zb8 mkV zbo zbh zbf zbe zda zbb zbx zbJ mapEff zdm zfI Key.kk shiftI arith unD convD zdP loadD cellsAt fieldAddrD fieldD indexAddrD indexD sliceD cutD lenD minmaxD nilCheckD buildD fillD zb3 zdi zeX setAll zc1 zeI zcD zg3 zcy St.add zaO zbU rowsOf zdJ zcJ zam zac zaa zbm zcS zaN entry zbH zbL valD zcb zcp zgK zdr zds zcc zbN zaz za1 zbn delAll effD St.effS zc7 zbi za3 zc8 zbj za5 zcn za4 zaT zco zc4 zbM zcl zbw zcj zck zaY mkD zbq zbG zb0 zaz zcC D.ids Op.operands Call.operands zby makeIfD makeFuncD typeAssertD zhG zdG zdH zhb zcG IntKind.bits zcg zaS List.take_of_length_le List.range_succ
attribute [local irreducible] V G H HD HD2 zan Eff CallP CallV EndOK Fun Ret FinOK LoopI LoopW EndW
theorem zk7 (m : Nat) (hm : m <= 1000) : Fun Tryz.prog 255 [.u (.int .u64 1), .u (.int .u64 m)] (· = .tup [.u (.int .u64 0), .u (.int .u64 m)]) := by
 have h1 := Pm.and_mask32' (m : Int) (by omega) (by omega);have h2 : (m : Int) % 4294967296 = m := by omega
 rw [h2] at h1
 (refine Fun.of_body Tryz.func255 rfl (by simp) fun Γ hn => ?_); simp only [entry, ziC, ziN, maC, maN, oA, Tryz.ntmps255]
 repeat' (first
  | ((first | refine zag ?_ | refine zaj ?_ | refine zah ?_ | fail); simp [h1])
  | (refine zar ?_; simp only [zan])
  | fail)
 all_goals
 (refine EndOK.val (.inr rfl) ?_; simp [zaK, zaf, zas, Tryz.results255])
 have h3 := Pm.and_mask32' 1 (by omega) (by omega);have h4 : 1 * (m : Int) % 18446744073709551616 / 4294967296 % 18446744073709551616 = 0 := by omega
 have h5 := Pm.and_mask32' 0 (by omega) (by omega);have h6 : (m : Int) / 4294967296 = 0 := by omega
 rw [show (1 : Int) % 4294967296 = 1 by omega] at h3;rw [show (0 : Int) % 4294967296 = 0 by omega] at h5;rw [h3, h4, h5, h6];omega
theorem zn1 (m : Nat) (hm : m <= 1000) : Fun Tryz.prog 208 [.u (.int .u64 1), .u (.int .u64 m)] (· = .tup [.u (.int .u64 0), .u (.int .u64 m)]) := by
 have h1 := zk7 m hm
 (refine Fun.of_body Tryz.func208 rfl (by simp) fun Γ hn => ?_); simp only [entry, ziC, ziN, maC, maN, oA, Tryz.ntmps208]
 repeat' (first
  | ((first | refine zag ?_ | refine zaj ?_ | refine zah ?_ | fail); simp)
  | ((first | refine zar ?_ | refine zap ?_ | fail); simp only [zan])
  | (refine CallP.fE (h1) (by first | rfl | fail) (by first | (simp; done) | (simp; rfl) | fail) ?_; (try simp))
  | fail)
 (refine EndOK.val (.inr rfl) ?_; simp [zaK, zaf, zas, Tryz.results208])
end Go.Proofs.YtepiegcjnaohjaaGreatDoor.Df
namespace Go.Proofs.YtepiegcjnaohjaaGreatDoor.Df
open Go Go.VL Go.Proofs Go.RowKit
theorem zn2 (m : Nat) (hm : m <= 1000) (w : World) (hG : GlobIn (zid w)) : Calls Tryz.prog 208 #[.int .u64 1, .int .u64 m] w fun e w' => e = .returned (.tuple #[.int .u64 0, .int .u64 m]) /\ Below w.heap.size w w' := by
 have h := zn1 m hm ⟨zid w, fun _ => none, hG⟩ (w.heap.size <= ·) w #[.int .u64 1, .int .u64 m] ⟨(fun _ _ _ e => e), (fun i ob e => by simp [getK] at e), (fun i j x y h g b e => by simp [getK] at e)⟩ (fun _ _ => rfl) (fun b hb => hb)
  ⟨rfl, fun j d hj => by
   match j, hj with
   | 0, hj => cases hj; exact .u _ _ (.int _ _)
   | 1, hj => cases hj; exact .u _ _ (.int _ _)⟩
 refine h.mono ?_;rintro e w' ⟨v, d, obs, nx, k, rfl, hin, hsat, hhdr, hnx, hrep, hpu, rfl⟩;obtain ⟨vs, hl, rfl, hv⟩ := zgj hrep;refine ⟨?_, hin.os, hin.tape, hin.output, hin.size, fun b hb => hin.block b (by show ¬ w.heap.size <= b; omega)⟩
 match vs, hl with
 | [a, b], _ =>
  have h0 := zbF (hv 0 _ rfl);have h1 := zbF (hv 1 _ rfl);simp at h0 h1;rw [h0, h1]
def zgu (z : Value) (m k : Nat) : List Value := List.replicate k z ++ List.replicate (m - k) (.int .i64 0)
theorem zkp (z : Value) (m k : Nat) (h : k <= m) : (zgu z m k).length = m := by simp [zgu]; omega
theorem zjJ (z : Value) (m : Nat) : splice (List.replicate m (Value.int .i64 0)) 0 (List.replicate (min 1 m) z) = zgu z m (min 1 m) := by
 simp [splice, zgu, List.drop_replicate]
theorem zkT (z : Value) (m k : Nat) (h : k <= m) : splice (zgu z m k) k (List.replicate (min k (m - k)) z) = zgu z m (k + min k (m - k)) := by
 simp only [splice, zgu, List.length_replicate];rw [List.take_left' (by simp), List.drop_append, List.drop_eq_nil_of_le (by simp), List.nil_append, List.length_replicate, List.drop_replicate, <- List.append_assoc, List.replicate_append_replicate]
 congr 2
 omega
theorem zoW {g m k : Nat} {z : Value} {w : World} {t : TypeId} (hg : w.heap[g]? = some (.cells (zgu z m k).toArray t (0, 0))) (hk : k <= m) {j : Nat} {v : Value} (hj : (List.replicate (min k (m - k)) z)[j]? = some v) : w.drew.cell? ((⟨g, 0, none⟩ : Addr).add j) = some v := by
 have hl := (lGE.1 hj).1;simp at hl;rw [List.getElem?_replicate, if_pos (by omega)] at hj;cases hj;rw [Addr.add_lit, Nat.zero_add];show w.cell? _ = _;rw [cell_of_row w g j _ t (0, 0) hg];simp [zgu, List.getElem?_append_left, show j < k by omega]
theorem zqo {b m : Nat} {z : Value} {w w2 : World} (hB : Below w.heap.size w w2) (hb : b < w.heap.size) (hc : w.cell? ⟨b, 0, none⟩ = some z) {j : Nat} {v : Value} (hj : (List.replicate (min 1 m) z)[j]? = some v) : w2.cell? ⟨b, j, none⟩ = some v := by
 have hl := (lGE.1 hj).1;simp at hl;obtain rfl : j = 0 := by omega
 rw [List.getElem?_replicate] at hj;split at hj
 ·cases hj;exact (hB.cell (p := ⟨b, 0, none⟩) hb).trans hc
 ·omega
set_option maxHeartbeats 1600000 in
theorem zjR (z : Int) (b cap m : Nat) (w : World) (hm : m <= 1000) (hb : b < w.heap.size) (hc : w.cell? ⟨b, 0, none⟩ = some (.int .i64 z)) (hcap : 1 <= cap) (hG : GlobIn (zid w)) :
  Calls Tryz.prog 143 #[.slice (some ⟨b, 0, none⟩) 1 cap, .int .i64 m] w fun e w' => ∃ v, e = .returned v /\ w'.ownsRow w.heap.size 3 1 v m (List.replicate m (.int .i64 z)) /\ Below w.heap.size w w' := by
 have hm0 : ¬ (m : Int) < 0 := by omega
 have hw1 : IntKind.u64.wrap (m : Int) = m := by rw [IntKind.wrap_u64]; omega
 have hw2 : IntKind.i64.wrap (m : Int) = m := by rw [IntKind.wrap_i64]; omega
 have hw3 : ¬ (9223372036854775807 : Int) < m := by omega
 go_enter Tryz.func143, Tryz.ntmps143
 obtain ⟨i0, hi0, hz0, hz1, hz2⟩ := info_parts (show (Tryz.prog.info? 3).map (fun i => (i.zero, i.size, i.bytes)) = some (some (.int .i64 0), 1, 8) by kernel_rfl);have hsz : (Tryz.prog.info? 3).map (·.size) = some 1 := by rw [hi0]; simp [hz1]
 go_wp2_with (first
  | (go_at_call 208; refine (zn2 m hm _ hG).mono ?_; rintro e w1 ⟨rfl, hb1⟩)
  | (at_make; refine ziR _ rfl _ _ 26 rfl 3 i0 (.int .i64 0) Tryz.underlying26 hi0 hz0 hz1 rfl .i64 .i64 _ _ m rfl rfl rfl rfl (by rw [hz2]; omega) (by unfold maxLen; omega) ?_; intro w2 hg2 hb2)
  | ((with_reducible show wpList _ _ _ _ _ _); refine wpList_copy_splice (w := w2) rfl (.tmp 31) (.tmp 32) 26 26 rfl 3 Tryz.underlying26 hsz _ _ m m 1 cap rfl rfl w1.heap.size 0 (List.replicate m (.int .i64 0)) 3 ?a8 (List.replicate (min 1 m) (.int .i64 z)) ?a9 ?b1 ?b2 ?b3 w.heap.size w ?b4 ?b5 ?b6))
 case b1 => exact fun _ j v hj => zqo (hb1.trans (hb2.mono hb1.size)) hb hc hj
 case a8 => exact hg2
 case a9 => rw [List.length_replicate]
 case b2 => rw [List.length_replicate, List.length_replicate]; omega
 case b3 => exact fun v hv => by rw [List.eq_of_mem_replicate hv]; rfl
 case b4 => exact hb1.trans (hb2.mono hb1.size)
 case b5 => exact hb1.size
 intro w3 hg3 hb3;rw [zjJ] at hg3
 go_wp2
 go_loopw [8] (fun i wr => ∃ k : Nat, i = .int .i64 k /\ k <= m /\ (m = 0 \/ 1 <= k) /\ Hid (wr.heap[w1.heap.size]? = some (.cells (zgu (.int .i64 z) m k).toArray 3 (0, 0))) /\ Below w.heap.size w wr)
  (fun i _ => m - (intOf i).toNat)
 case atStart => exact ⟨min 1 m, rfl, by omega, by omega, hg3, hb3⟩
 case round =>
  obtain ⟨k, rfl, hk, hk1, hgk, hbk⟩ := hrel;by_cases hlt : k < m
  ·have hcs : (List.replicate (min k (m - k)) (Value.int .i64 z)).length = Nat.min k (m - k) := by rw [List.length_replicate]
   have hfit : k + (List.replicate (min k (m - k)) (Value.int .i64 z)).length <= (zgu (.int .i64 z) m k).length := by rw [List.length_replicate, zkp _ _ _ hk]; omega
   have hone : ∀ v ∈ List.replicate (min k (m - k)) (Value.int .i64 z), v.oneCell' = true := fun v hv => by rw [List.eq_of_mem_replicate hv]; rfl
   have hsrc : ∀ j v, (List.replicate (min k (m - k)) (Value.int .i64 z))[j]? = some v -> wr.drew.cell? ((⟨w1.heap.size, 0, none⟩ : Addr).add j) = some v := fun j v hj => zoW hgk hk hj
   go_wp2
   go_region_law (refine step_copy_splice rfl (.tmp 41) (.tmp 44) 26 26 rfl 3 Tryz.underlying26 hsz (if m = k then some ⟨w1.heap.size, 0, none⟩ else some ⟨w1.heap.size, k, none⟩) (some ⟨w1.heap.size, 0, none⟩) (m - k) (m - k) k m (by kernel_rfl) (by kernel_rfl) w1.heap.size k (zgu (.int .i64 z) m k) 3 hgk (List.replicate (min k (m - k)) (.int .i64 z)) hcs (fun _ => ⟨if_neg (by omega), _, rfl, hsrc⟩) hfit hone w.heap.size w hbk.drew hb1.size ?_; intro w4 hg4 hb4)
   rw [zkT _ _ _ hk] at hg4;obtain ⟨q, hq⟩ : ∃ q, q = Nat.min k (m - k) := ⟨_, rfl⟩;have hq2 : q = min k (m - k) := hq;have hsum : IntKind.i64.wrap ((k : Int) + (Nat.min k (m - k) : Nat)) = ((k + q : Nat) : Int) := by rw [<- hq, IntKind.wrap_i64]; omega
   rw [<- hq2] at hg4;have hlq : (List.replicate (min k (m - k)) (Value.int .i64 z)).length = q := by rw [List.length_replicate]; exact hq2.symm
   have hsum2 : IntKind.i64.wrap ((k : Int) + (q : Int)) = ((k + q : Nat) : Int) := by rw [IntKind.wrap_i64]; omega
   clear hsrc hone hfit hcs
   go_wp2
   have e1 : (k : Int) + (Nat.min k (m - k) : Nat) = ((k + q : Nat) : Int) := by rw [<- hq]; omega
   go_roundw
   case rel => exact ⟨k + q, e1, by omega, by omega, hg4⟩
   case measure =>
    rw [e1];show m - (((k + q : Nat) : Int)).toNat < m - ((k : Nat) : Int).toNat;omega
  ·obtain rfl : k = m := by omega
   go_wp2
   go_ret
   refine ⟨_, rfl, ⟨by simp, .inr ⟨_, _, _, rfl, hb1.size, hgk, Nat.le_refl _, by unfold maxLen; omega, ?_, ?_⟩⟩, hbk⟩
   ·simp [zkp]
   ·simp [zgu]
theorem zmq (j nx m : Nat) (z : Int) (hm : m <= 1000) : Ret Tryz.prog 143 [.vec j 1, .u (.int .i64 m)] [(j, .vec 3 1 (zbs [z]))] nx
  fun d obs nx' => d = .vec nx (List.replicate m z).length /\ obs = (nx, .vec 3 1 (zbs (List.replicate m z))) :: [(j, .vec 3 1 (zbs [z]))] /\ nx' = nx + 1 := by
 refine Ret.ztQ _ fun k own w vs hsat hrep => ?_;obtain ⟨h, xs, hh, hrow, _, _, hcell, _⟩ := (hsat.ob j (.vec 3 1 (zbs [z])) (by simp [getK])).vec;obtain ⟨h1, h2⟩ := hrep;have h3 := h2 0 _ rfl;have h4 := zbF (h2 1 _ rfl);have h6 : ∀ v0, Rep k (.vec j 1) v0 -> v0 = zaU h 1 := fun v0 h3 => by
  cases h3 with
  | vec i len g hg => rw [hh] at hg; cases hg; rfl
 have h5 : vs.getD 0 undef = zaU h 1 := h6 _ h3;have hvs : vs = #[zaU h 1, .int .i64 m] := by
  have hs2 : vs.size = 2 := by simpa using h1
  apply Array.ext_getElem?;intro i
  match i with
  | 0 => simp [hs2] at h5; simp [hs2, h5]
  | 1 => simp [hs2] at h4; simp [hs2, h4]
  | i + 2 => rw [Array.getElem?_eq_none (by omega), Array.getElem?_eq_none (by simp)]
 subst hvs;have hl : (zbs [z]).length = 1 := rfl;rw [hl] at hrow;obtain ⟨hxl, hrow⟩ := hrow;rcases hrow with ⟨_, hx⟩ | ⟨g, cap, cur, hv, _, hg, hnc, hcm, hcs, htk⟩
 ·omega
 ·rw [hv];have hz := hcell 0 [.u (.int .i64 z)] rfl 0 _ rfl;have hx0 : xs.getD 0 undef = .int .i64 z := zbF hz.2;have hpos : 0 < cur.size := by omega
  have hc : w.cell? ⟨g, 0, none⟩ = some (.int .i64 z) := by
   rw [cell_of_row w g 0 cur 3 (0, 0) hg];have : cur.toList.take 1 = xs := by simpa using htk
   rw [<- this] at hx0;cases hq : cur.toList with
   | nil => rw [<- Array.length_toList, hq] at hpos; simp at hpos
   | cons a r =>
    rw [hq] at hx0;simp at hx0;have : cur[0]? = some a := by rw [<- Array.getElem?_toList, hq]; rfl
    rw [this, hx0]
  refine (zjR z g cap m w hm (Array.getElem?_eq_some_iff.1 hg).1 hc hnc (k.glob.mono hsat.mem)).mono ?_;rintro e w' ⟨v, rfl, hr, hb⟩;exact ⟨v, rfl, by simpa using hr, hb⟩
theorem zpz (j nx m : Nat) (z : Int) (hm : m <= 1000) : RetX Tryz.prog 143 [.vec j 1, .u (.int .i64 m)] [(j, .vec 3 1 (zbs [z]))] nx
  fun q o n => q = .val (mkD (How.vec m) nx) /\ (∀ y, getK o y = getK ((nx, .vec 3 1 (zbs (List.replicate m z))) :: [(j, .vec 3 1 (zbs [z]))]) y) /\ n = nx + 1 :=
 (zmq j nx m z hm).x.mono fun r o n h => by
   cases r with
   | val d =>
    obtain ⟨rfl, rfl, rfl⟩ := h;exact ⟨by simp [mkD], fun y => rfl, rfl⟩
   | pan c => exact h.elim
end Go.Proofs.YtepiegcjnaohjaaGreatDoor.Df
namespace Go.Proofs.YtepiegcjnaohjaaGreatDoor.Df
open Go Go.VL Go.Proofs
attribute [local simp] zdf zcf evPure opd uOf zaI St.put St.at getK binD binI binS binB nilD aggD zgQ zhI lookD lookR zcE Go.VL.nextD zcI zhV zhU zfX zb8 mkV zbo zbh zbf zbe zda zbb zbx zbJ mapEff zdm zfI Key.kk shiftI arith unD convD zdP loadD cellsAt fieldAddrD fieldD indexAddrD indexD sliceD cutD lenD minmaxD nilCheckD buildD fillD zb3 zdi zeX setAll zc1 zeI zcD zg3 zcy St.add zaO zbU rowsOf zdJ zcJ zam zac zaa zbm zcS zaN entry zbH zbL valD zcb zcp zgK zdr zds zcc zbN zaz za1 zbn delAll effD St.effS zc7 zbi za3 zc8 zbj za5 zcn za4 zaT zco zc4 zbM zcl zbw zcj zck zaY mkD zbq zbG zb0 zaz zcC D.ids Op.operands Call.operands zby makeIfD makeFuncD typeAssertD zhG zdG zdH zhb zcG IntKind.bits zcg zaS List.take_of_length_le List.range_succ
attribute [local irreducible] V G H HD HD2 zan Eff CallP CallV EndOK Fun Ret FinOK LoopI LoopW EndW
theorem zoR (l : List Int) (hl : l.length <= 1000000) : Fun Tryz.prog 102 [.u (ints l)] (· = .u (ints l)) := by
 cases l with
 | nil =>
  (refine Fun.of_bodyW Tryz.func102 rfl (by simp) fun Γ hn => ?_); simp only [entry, ziC, ziN, maC, maN, oA, Tryz.ntmps102]
  simp only [ints, List.map_nil];refine zne (x := 0) rfl ?_ (fun a cp => ?_)
  ·repeat' (first
  | ((first | refine zag ?_ | refine zaj ?_ | refine zah ?_ | refine zai ?_ | fail); simp)
  | (refine zar ?_; simp only [zan])
  | fail)
   refine EndW.norm (EndW.here ?_)
   (refine EndOK.val (.inr rfl) ?_; simp [zaK, zaf, zas, Tryz.results102, zaC, zaD, zch, zci, frz, zbc, frzS, fv, zaV, za8, za9, frzObS, zay, zat, zbZ, zcd, zce, zbg])
  ·repeat' (first
  | ((first | refine zag ?_ | refine zaj ?_ | refine zah ?_ | refine zai ?_ | fail); simp)
  | ((first | refine zar ?_ | refine zap ?_ | fail); simp only [zan])
  | fail)
   (refine EndW.frzN 1 ?_; simp [frzN, frz1, zaD, zaC, St.frz, St.frzS, frzS, fv, zaV, za8, za9, frzObS, zay, zat, del, frz, zbc])
   refine EndW.norm (EndW.here ?_)
   (refine EndOK.val (.inr rfl) ?_; simp [zaK, zaf, zas, Tryz.results102, zaC, zaD, zch, zci, frz, zbc, frzS, fv, zaV, za8, za9, frzObS, zay, zat, zbZ, zcd, zce, zbg])
 | cons x l =>
  simp only [List.length_cons] at hl
  (refine Fun.of_bodyW Tryz.func102 rfl (by simp) fun Γ hn => ?_); simp only [entry, ziC, ziN, maC, maN, oA, Tryz.ntmps102]
  simp only [ints, List.map_cons]
  repeat' (first
  | ((first | refine zag ?_ | refine zaj ?_ | fail); simp)
  | (refine ⟨by omega, ?_⟩)
  | ((first | refine zah ?_ | refine zai ?_ | fail); simp)
  | ((first | refine zar ?_ | refine zap ?_ | fail); simp only [zan])
  | fail)
  (refine EndW.frzN 1 ?_; simp [frzN, frz1, zaD, zaC, St.frz, St.frzS, frzS, fv, zaV, za8, za9, frzObS, zay, zat, del, frz, zbc])
  refine EndW.here ?_
  (refine EndOK.val (.inr rfl) ?_; simp [zaK, zaf, zas, Tryz.results102, zaC, zaD, zch, zci, frz, zbc, frzS, fv, zaV, za8, za9, frzObS, zay, zat, zbZ, zcd, zce, zbg])
def zdC (m : Nat) : List Int := zgN (List.range m)
theorem zen (m : Nat) : (zdC m).length = m := by simp [zdC]
theorem zgv (m : Nat) (x : Int) : x ∈ zdC m ↔ 0 <= x /\ x < m /\ zfG m x.toNat = true := by
 simp only [zdC, zgN, List.mem_map, List.mem_range, zfG, decide_eq_true_eq];constructor
 ·rintro ⟨i, hi, rfl⟩;simp;omega
 ·rintro ⟨h1, h2, _⟩;exact ⟨x.toNat, by omega, by simp; omega⟩
theorem zoK (m : Nat) (hm : m <= 1000) : Fun Tryz.prog 79 [.u (.int .i64 m)] (· = .u (ints (zdC m))) := by
 simp only [ints]
 (refine Fun.of_bodyW Tryz.func79 rfl (by simp) fun Γ hn => ?_); simp only [entry, ziC, ziN, maC, maN, oA, Tryz.ntmps79]
 repeat' (first
  | ((first | refine zag ?_ | refine zaj ?_ | refine zah ?_ | refine zaA ?_ | fail); simp)
  | fail)
 refine zlt _ (Wk.own 3 3 1 (by decide) rfl) ?_;simp [St.own];refine zb4 (α := { k : Nat // k <= m }) [5] (fun k => [(3, .vec 0 k.1), (6, .u (.int .i64 k.1))]) (fun k => [(0, .vec 3 1 (zbs (zdC k.1)))]) 1 (fun k => m - k.1) ⟨0, by omega⟩ ?_ ?_
 ·exact (Wk.cut rfl (by simp [hn, St.lp]) (by simp [wkO, St.lp, zaa, getK, Ob.under, D.under, zad, zae, zav, zao, zdC, zbs]) (by simp [wkU, St.lp, zal, zaa, getK, D.under, zav, zao, zdC, zbs]) (by simp [wkE, St.lp, zal, zaa, getK, zav, zao, zdC, zbs] <;> (try (intros; simp_all; done)) <;> (try (intros; omega)) <;> (try grind)))
 rintro ⟨k, hk⟩;simp [St.lp, St.only, zal, zaa, getK];by_cases hlt : k < m
 ·have q7 : zbs (zdC k) ++ [[D.u (.int .i64 (k : Int))]] = zbs (zdC (k + 1)) := by simp [zdC, zbs, List.range_succ]
  have q8 := zdU (zdC k);have q9 := zen k
  repeat' (first
  | ((first | refine zag ?_ | refine zaj ?_ | fail); simp [hlt, zaH, q7, q8, q9])
  | (refine ⟨by omega, ?_⟩)
  | ((first | refine zah ?_ | refine zaq ?_ | fail); simp [hlt, zaH, q7, q8, q9])
  | (refine zap ?_; simp only [zan])
  | fail)
  refine LoopW.next ⟨k + 1, by omega⟩ (by simp; omega) ?_
  exact (Wk.zsL (0) (2) rfl (by simp [hn]) (by simp [hn]) (by simp [zav, zao]) (by simp [zhW, zeU, St.lp, zal, zaa, getK, zac, zam, D.under, D.le, D.ren, zav, zao] <;> (try (intros; simp_all; done)) <;> (try omega)) (by simp [wkR, zeQ, zcs, zct, zcN, zeE, zeU, St.lp, zaa, getK, zac, zam, obR, leU, zbR, zaX, Ob.under, D.under, D.le, D.ren, zav, zao] <;> (try (intros; simp_all; done)) <;> (try omega)))
 ·obtain rfl : k = m := by omega
  have q9 := zen k
  repeat' (first
  | ((first | refine zag ?_ | refine zaj ?_ | refine zah ?_ | fail); simp [hlt])
  | (refine zar ?_; simp only [zan])
  | (refine zaZ ?_; simp [zan])
  | fail)
  refine EndW.wk _ (Wk.frz 0 [] (us := (zdC k).map fun z => [U.int .i64 z]) rfl (zd2 _)) ?_;simp [St.frz, St.frzS, frzS, fv, zaV, frzObS, del, q9];refine EndW.norm (EndW.here ?_)
  (refine EndOK.val (.inr rfl) ?_; simp [zaK, zaf, zas, Tryz.results79, zaC, zaD, zch, zci, frz, zbc, frzS, fv, zaV, za8, za9, frzObS, zay, zat, zbZ, zcd, zce, zbg, q9])
theorem zkX (t j nx : Nat) (hj : j < nx) (zs : List Int) (hz : zs.length <= 1099511627776) : Ret Tryz.prog 146 [.vec j zs.length] [(j, .vec t 1 (zbs zs))] nx
  fun d obs nx' => d = .tup [] /\ obs = [(j, .vec t 1 (zbs zs.reverse))] /\ nx' = nx :=
 Ret.zrY (ret := fun _ _ => .tuple #[]) hj (by simp) (by simp only [maxLen]; omega) (fun blk cap w hH hb _ _ => (Tryz.slices_Reverse_int blk 0 cap zs w hH (by omega)).mono fun e w' ⟨h1, q, h2⟩ => ⟨h1, q, #[], by rw [h2, Go.Sort.grow_empty]⟩)
  (fun h0 p cap w => by subst h0; exact Tryz.slices_Reverse_int_empty p cap w) (.inl ⟨rfl, fun _ _ => rfl⟩)
end Go.Proofs.YtepiegcjnaohjaaGreatDoor.Df
namespace Go.Proofs.YtepiegcjnaohjaaGreatDoor.Df
open Go Go.VL
attribute [local simp] zdf zcf evPure opd uOf zaI St.put St.at getK binD binI binS binB nilD aggD zgQ zhI lookD lookR zcE Go.VL.nextD zcI zhV zhU zfX zb8 mkV zbo zbh zbf zbe zda zbb zbx zbJ mapEff zdm zfI Key.kk shiftI arith unD convD zdP loadD cellsAt fieldAddrD fieldD indexAddrD indexD sliceD cutD lenD minmaxD nilCheckD buildD fillD zb3 zdi zeX setAll zc1 zeI zcD zg3 zcy St.add zaO zbU rowsOf zdJ zcJ zam zac zaa zbm zcS zaN entry zbH zbL valD zcb zcp zgK zdr zds zcc zbN zaz za1 zbn delAll effD St.effS zc7 zbi za3 zc8 zbj za5 zcn za4 zaT zco zc4 zbM zcl zbw zcj zck zaY mkD zbq zbG zb0 zaz zcC D.ids Op.operands Call.operands zby makeIfD makeFuncD typeAssertD zhG zdG zdH zhb zcG IntKind.bits zcg zaS List.take_of_length_le List.range_succ
attribute [local irreducible] V G H HD HD2 zan Eff CallP CallV EndOK Fun Ret FinOK LoopI LoopW EndW
end Go.Proofs.YtepiegcjnaohjaaGreatDoor.Df
namespace Go.Proofs.YtepiegcjnaohjaaGreatDoor
open Go Go.VL
attribute [local simp] zdf zcf evPure opd uOf zaI St.put St.at getK binD binI binS binB nilD aggD zgQ zhI lookD lookR zcE Go.VL.nextD zcI zhV zhU zfX zb8 mkV zbo zbh zbf zbe zda zbb zbx zbJ mapEff zdm zfI Key.kk shiftI arith unD convD zdP loadD cellsAt fieldAddrD fieldD indexAddrD indexD sliceD cutD lenD minmaxD nilCheckD buildD fillD zb3 zdi zeX setAll zc1 zeI zcD zg3 zcy St.add zaO zbU rowsOf zdJ zcJ zam zac zaa zbm zcS zaN entry zbH zbL valD zcb zcp zgK zdr zds zcc zbN zaz za1 zbn delAll effD St.effS zc7 zbi za3 zc8 zbj za5 zcn za4 zaT zco zc4 zbM zcl zbw zcj zck zaY mkD zbq zbG zb0 zaz zcC D.ids Op.operands Call.operands zby makeIfD makeFuncD typeAssertD zhG zdG zdH zhb zcG IntKind.bits zcg zaS List.take_of_length_le List.range_succ
attribute [local irreducible] V G H HD HD2 zan Eff CallP CallV EndOK Fun Ret FinOK LoopI LoopW EndW
def zgG (l : Let) : List U := [.str l.name, .int .i64 l.body.op, .int .i64 l.body.n, .int .i64 l.body.unit, .str l.body.s, .sl (l.body.args.map Exp.row)]
def zpS (l : Let) : D := .u (.agg [.str l.name, .int .i64 l.body.op, .int .i64 l.body.n, .int .i64 l.body.unit, .str l.body.s, .sl (l.body.args.map Exp.row)])
def ze0 (l : List Let) : U := .sl (l.map fun l => [.str l.name, .int .i64 l.body.op, .int .i64 l.body.n, .int .i64 l.body.unit, .str l.body.s, .sl (l.body.args.map Exp.row)])
theorem zmU (l : List (Let)) (f : FuncId) (caps : List U) (p : Let -> Bool) (hf : ∀ n ∈ l, Fun Tryz.prog f (zpS n :: caps.map .u) (· = .u (.bool (p n)))) (hcl : zak Tryz.prog f = true)
  (hca : ∀ o, zcp o (caps.map .u) = some (caps.map .u, [])) : Fun Tryz.prog 151 [.u (ze0 l), .fnc (.func f) (caps.map .u)] (· = .u (.int .i64 (zfj p l 0))) := by
 (refine Fun.of_body Tryz.func151 rfl (by simp) fun Γ hn => ?_); simp only [entry, ziC, ziN, maC, maN, oA, Tryz.ntmps151]
 simp only [ze0];refine zgR (x := 0) rfl fun hl => ?_;simp at hl
 repeat' (first
  | ((first | refine zag ?_ | refine zaj ?_ | refine zah ?_ | refine zaA ?_ | fail); simp)
  | fail)
 refine zb2 (α := { i : Nat // i <= l.length /\ ∀ c ∈ l.take i, p c = false }) [0, 1, 7] (fun i => [(8, .u (.int .i64 i.1))]) (fun i => l.length - i.1) ⟨0, by omega, by simp⟩ ?_ ?_
 ·exact (Wk.env rfl rfl rfl (by simp [wkE, St.lp, zal, zaa, getK] <;> (try (intros; simp_all; done)) <;> (try (intros; omega)) <;> (try grind)))
 rintro ⟨i, hi, hb⟩;simp [St.lp, St.only, zal, zaa, getK];rcases hx : l[i]? with _ | n
 ·have hge : l.length <= i := by simpa using hx
  repeat' (first
  | ((first | refine zag ?_ | refine zaj ?_ | fail); simp [hx])
  | (refine ⟨by omega, ?_⟩)
  | (refine zah ?_; simp [hx])
  | (refine zar ?_; simp only [zan])
  | (refine zaZ ?_; simp [zan])
  | (intro hc <;> (try (exfalso; omega)))
  | fail)
  (refine EndOK.val (.inr rfl) ?_; simp [zaK, zaf, zas, Tryz.results151])
  rw [List.take_of_length_le hge] at hb;exact (zdA hb).symm
 ·have hlt : i < l.length := (lGE.1 hx).1;have h1 := hf n (List.mem_of_getElem? hx);simp only [zpS] at h1;cases hp : p n
  ·rw [hp] at h1
   repeat' (first
  | ((first | refine zag ?_ | refine zaj ?_ | fail); simp [hx, hca])
  | (refine ⟨by omega, ?_⟩)
  | ((first | refine zah ?_ | refine zai ?_ | refine zaq ?_ | fail); simp [hx, hca])
  | (refine zap ?_; simp only [zan])
  | (refine ⟨?_, by omega⟩)
  | (intro hc <;> (try (exfalso; omega)))
  | (refine CallP.fE (h1) (by first | rfl | fail) (by first | simp [hx, hca] <;> rfl | fail) ?_; (try simp [hcl, hx, hca]))
  | fail)
   refine LoopW.next ⟨i + 1, by omega, za7 hx hb hp⟩ (by simp; omega) ?_
   exact (Wk.env rfl rfl rfl (by simp [wkE, St.lp, zal, zaa, getK] <;> (try (intros; simp_all; done)) <;> (try (intros; omega)) <;> (try grind)))
  ·rw [hp] at h1
   repeat' (first
  | ((first | refine zag ?_ | refine zaj ?_ | refine zah ?_ | refine zai ?_ | fail); simp [hx, hca])
  | ((first | refine zar ?_ | refine zap ?_ | fail); simp only [zan])
  | (refine ⟨?_, by omega⟩)
  | (intro hc <;> (try (exfalso; omega)))
  | (refine CallP.fE (h1) (by first | rfl | fail) (by first | simp [hx, hca] <;> rfl | fail) ?_; (try simp [hcl, hx, hca]))
  | fail)
   (refine EndOK.val (.inr rfl) ?_; simp [zaK, zaf, zas, Tryz.results151])
   rw [ze2 hb hx hp];omega
theorem zeF (l : List (Let)) (f : FuncId) (caps : List U) (p : Let -> Bool) (hf : ∀ n ∈ l, Fun Tryz.prog f (zpS n :: caps.map .u) (· = .u (.bool (p n)))) (hcl : zak Tryz.prog f = true)
  (hca : ∀ o, zcp o (caps.map .u) = some (caps.map .u, [])) (hcb : ∀ o, zbN o (caps.map .u) = some (caps, [])) : Fun Tryz.prog 90 [.u (ze0 l), .fnc (.func f) (caps.map .u)] (· = .u (.bool (l.any p))) := by
 have h1 := zmU l f caps p hf hcl hca
 (refine Fun.of_body Tryz.func90 rfl (by simp) fun Γ hn => ?_); simp only [entry, ziC, ziN, maC, maN, oA, Tryz.ntmps90]
 simp only [ze0] at h1 ⊢
 repeat' (first
  | ((first | refine zag ?_ | refine zaj ?_ | refine zah ?_ | fail); simp [hcb])
  | (refine zar ?_; simp only [zan])
  | (refine CallP.fE (h1) (by first | rfl | fail) (by first | simp [hcb] <;> rfl | fail) ?_; (try simp [hcl, hcb]))
  | fail)
 (refine EndOK.val (.inr rfl) ?_; simp [zaK, zaf, zas, Tryz.results90])
 have h2 := zeB p l 0 (by omega);rw [Bool.eq_iff_iff];simpa using h2
theorem zm8 (u n : Int) : Fun Tryz.prog 276 (zmY u :: [U.row [.int .i64 n] 0].map .u) (· = .u (.bool (decide (u ≠ n)))) := by
 simp only [zmY, List.map_cons, List.map_nil]
 (refine Fun.of_body Tryz.func276 rfl (by simp) fun Γ hn => ?_); simp only [entry, ziC, ziN, maC, maN, oA, Tryz.ntmps276]
 repeat' (first
  | ((first | refine zag ?_ | refine zaj ?_ | refine zah ?_ | fail); simp)
  | (refine zar ?_; simp only [zan])
  | fail)
 (refine EndOK.val (.inr rfl) ?_; simp [zaK, zaf, zas, Tryz.results276])
def zhZ (u : Int) (l : List Int) : Bool := !l.any fun n => decide (n ≠ u)
theorem zhH (u : Int) (l : List Int) : Fun Tryz.prog 275 [.u (.int .i64 u), .u (.row [ints l] 0)] (· = .u (.bool (zhZ u l))) := by
 have h1 := zeG l 276 [U.row [.int .i64 u] 0] _ (fun n _ => zm8 n u) (by simp) (fun _ => rfl) (fun _ => rfl);simp only [List.map_cons, List.map_nil] at h1;unfold zhZ
 (refine Fun.of_body Tryz.func275 rfl (by simp) fun Γ hn => ?_); simp only [entry, ziC, ziN, maC, maN, oA, Tryz.ntmps275]
 simp only [ints] at h1 ⊢
 repeat' (first
  | ((first | refine zag ?_ | refine zaj ?_ | refine zah ?_ | fail); simp)
  | (refine zar ?_; simp only [zan])
  | (refine CallP.fE (h1) (by first | rfl | fail) (by first | (simp; done) | (simp; rfl) | fail) ?_; (try simp))
  | fail)
 (refine EndOK.val (.inr rfl) ?_; simp [zaK, zaf, zas, Tryz.results275])
def znI (a b : Int) : Int × Bool := if a = 0 \/ b = 0 then (0, false) else if a = 4 then (b, true) else if b = 4 then (a, true) else if a = 1 then (b, true) else if b = 1 then (a, true) else (0, false)
theorem zpA (a b : Int) : Fun Tryz.prog 277 [.u (.int .i64 a), .u (.int .i64 b)] (· = .tup [.u (.int .i64 (znI a b).1), .u (.bool (znI a b).2)]) := by
 (refine Fun.of_body Tryz.func277 rfl (by simp) fun Γ hn => ?_); simp only [entry, ziC, ziN, maC, maN, oA, Tryz.ntmps277]
 unfold znI
 repeat' (first
  | ((first | refine zag ?_ | refine zaj ?_ | refine zah ?_ | refine zai ?_ | refine zaA ?_ | fail); simp [zbL, zbH])
  | ((first | refine zar ?_ | refine zap ?_ | fail); simp only [zan])
  | (refine ⟨fun hc => ?_, fun hc => ?_⟩ <;> (try (exfalso; omega)))
  | fail)
 all_goals try ((refine EndOK.val (.inr rfl) ?_; simp [zaK, zaf, zas, Tryz.results277]); simp_all; done)
 all_goals
  refine zb2 (α := { i : Nat // i <= 2 /\ (1 <= i -> a ≠ 4 /\ b ≠ 4) /\ (2 <= i -> a ≠ 1 /\ b ≠ 1) }) [0, 1, 14, 15] (fun i => [(16, .u (.int .i64 i.1))]) (fun i => 2 - i.1) ⟨0, by omega, by omega, by omega⟩ ?_ ?_
  ·exact (Wk.cut rfl (by simp [hn, St.lp]) (by simp [wkO, St.lp, zaa, getK, Ob.under, D.under, zad, zae]) (by simp [wkU, St.lp, zal, zaa, getK, D.under]) (by simp [wkE, St.lp, zal, zaa, getK] <;> (try (intros; simp_all; done)) <;> (try (intros; omega)) <;> (try grind)))
  rintro ⟨i, hi, h1, h2⟩;simp [St.lp, St.only, zal, zaa, getK];have : i = 0 \/ i = 1 \/ i = 2 := by omega
  rcases this with rfl | rfl | rfl
  ·repeat' (first
  | ((first | refine zag ?_ | refine zaj ?_ | refine zah ?_ | refine zai ?_ | refine zaq ?_ | fail); simp)
  | ((first | refine zar ?_ | refine zap ?_ | fail); simp only [zan])
  | (refine ⟨fun hc => ?_, fun hc => ?_⟩ <;> (try (exfalso; omega)))
  | fail)
   ·(refine EndOK.val (.inr rfl) ?_; simp [zaK, zaf, zas, Tryz.results277])
    simp_all
   ·(refine EndOK.val (.inr rfl) ?_; simp [zaK, zaf, zas, Tryz.results277])
    simp_all
   ·refine LoopW.next ⟨1, by omega, by omega, by omega⟩ (by simp) ?_
    exact (Wk.cut rfl (by simp [hn, St.lp]) (by simp [wkO, St.lp, zaa, getK, Ob.under, D.under, zad, zae]) (by simp [wkU, St.lp, zal, zaa, getK, D.under]) (by simp [wkE, St.lp, zal, zaa, getK] <;> (try (intros; simp_all; done)) <;> (try (intros; omega)) <;> (try grind)))
  ·repeat' (first
  | ((first | refine zag ?_ | refine zaj ?_ | refine zah ?_ | refine zai ?_ | refine zaq ?_ | fail); simp)
  | ((first | refine zar ?_ | refine zap ?_ | fail); simp only [zan])
  | (refine ⟨fun hc => ?_, fun hc => ?_⟩ <;> (try (exfalso; omega)))
  | fail)
   ·(refine EndOK.val (.inr rfl) ?_; simp [zaK, zaf, zas, Tryz.results277])
    simp_all
   ·(refine EndOK.val (.inr rfl) ?_; simp [zaK, zaf, zas, Tryz.results277])
    simp_all
   ·refine LoopW.next ⟨2, by omega, by omega, by omega⟩ (by simp) ?_
    exact (Wk.cut rfl (by simp [hn, St.lp]) (by simp [wkO, St.lp, zaa, getK, Ob.under, D.under, zad, zae]) (by simp [wkU, St.lp, zal, zaa, getK, D.under]) (by simp [wkE, St.lp, zal, zaa, getK] <;> (try (intros; simp_all; done)) <;> (try (intros; omega)) <;> (try grind)))
  ·repeat' (first
  | ((first | refine zag ?_ | refine zaj ?_ | refine zah ?_ | fail); simp)
  | (refine zar ?_; simp only [zan])
  | (refine zaZ ?_; simp [zan])
  | fail)
   (refine EndOK.val (.inr rfl) ?_; simp [zaK, zaf, zas, Tryz.results277])
   simp_all
def l0 (l : List Int) (i : Nat) : Int := l.getD i 0
def zh9 (op : Int) (l : List Int) : Int × Bool :=
 if op = 2 \/ op = 3 \/ op = 6 \/ op = 7 then (l0 l 0, zhZ (l0 l 0) l && decide (l0 l 0 ≠ 0))
 else if op = 4 then znI (l0 l 0) (l0 l 1)
 else if op = 5 then (if l0 l 1 = 1 then (l0 l 0, decide (l0 l 0 ≠ 0) && decide (l0 l 0 ≠ 4)) else (1, zhZ (l0 l 0) l && (decide (l0 l 0 = 3) || decide (l0 l 0 = 2))))
 else if op = 8 then (0, zhZ (l0 l 0) l && decide (l0 l 0 ≠ 0))
 else if op = 9 then (0, zhZ (l0 l 0) l)
 else if op = 13 then (l0 l 1, decide (l0 l 0 = 0) && decide (l0 l 1 = l0 l 2))
 else (0, zhZ 0 l)
theorem zuY {l : List Int} (h : (l.length : Int) = 1) : ∃ a, l = [a] := List.length_eq_one_iff.1 (by omega)
theorem zuX {l : List Int} (h : (l.length : Int) = 2) : ∃ a b, l = [a, b] := by
 match l, h with
 | [], h => simp at h
 | [a], h => simp at h
 | [a, b], _ => exact ⟨a, b, rfl⟩
 | a :: b :: c :: l, h => simp at h; omega
theorem zuW {l : List Int} (h : (l.length : Int) = 3) : ∃ a b c, l = [a, b, c] := by
 match l, h with
 | [], h => simp at h
 | [a], h => simp at h
 | [a, b], h => simp at h
 | [a, b, c], _ => exact ⟨a, b, c, rfl⟩
 | a :: b :: c :: d :: l, h => simp at h; omega
theorem zqf (op : Int) (l : List Int) (hop : 2 <= op /\ op < 14) (hl : (l.length : Int) = zcm op) : Fun Tryz.prog 229 [.u (.int .i64 op), .u (ints l)] (· = .tup [.u (.int .i64 (zh9 op l).1), .u (.bool (zh9 op l).2)]) := by
 have h12 : op = 12 \/ op = 13 \/ op = 2 \/ op = 3 \/ op = 4 \/ op = 5 \/ op = 6 \/ op = 7 \/ op = 8 \/ op = 9 \/ op = 10 \/ op = 11 := by omega
 rcases h12 with rfl | rfl | h12
 ·obtain ⟨a, rfl⟩ := zuY (hl.trans rfl);have h1 := zhH 0 [a];simp only [zh9, l0];generalize zhZ 0 [a] = o1 at h1 ⊢
  (refine Fun.of_body Tryz.func229 rfl (by simp) fun Γ hn => ?_); simp only [entry, ziC, ziN, maC, maN, oA, Tryz.ntmps229]
  simp only [ints, List.map_cons, List.map_nil] at h1 ⊢
  repeat' (first
  | ((first | refine zag ?_ | refine zaj ?_ | refine zah ?_ | refine zai ?_ | refine zaA ?_ | refine zaq ?_ | fail); simp)
  | ((first | refine zar ?_ | refine zap ?_ | fail); simp only [zan])
  | (refine CallP.fE (h1) (by first | rfl | fail) (by first | (simp; done) | (simp; rfl) | fail) ?_; (try simp))
  | fail)
  all_goals
   (refine EndOK.val (.inr rfl) ?_; simp [zaK, zaf, zas, Tryz.results229])
 ·obtain ⟨a, b, c, rfl⟩ := zuW (hl.trans rfl);simp only [zh9, l0]
  (refine Fun.of_body Tryz.func229 rfl (by simp) fun Γ hn => ?_); simp only [entry, ziC, ziN, maC, maN, oA, Tryz.ntmps229]
  simp only [ints, List.map_cons, List.map_nil]
  repeat' (first
  | ((first | refine zag ?_ | refine zb6 ?_ | refine zaj ?_ | refine zah ?_ | refine zai ?_ | fail); simp)
  | (refine zcR ?_)
  | (refine hk _ ?_; clear hk k; simp only [zan])
  | (refine zb5 rfl (by kernel_rfl) (by kernel_rfl) fun k hk => ?_; simp)
  | (refine zd4 rfl (by simp) (fun hc => ?_) (fun hc => ?_) <;> (try simp at hc) <;> (try (exfalso; omega)) <;> (try simp))
  | ((first | refine zaA ?_ | refine zaq ?_ | fail); simp)
  | (refine zar ?_; simp only [zan])
  | fail)
  all_goals
   (refine EndOK.val (.inr rfl) ?_; simp [zaK, zaf, zas, Tryz.results229])
  all_goals (simp_all; done)
 ·obtain ⟨a, b, rfl⟩ := zuX (l := l) (by rw [hl]; rcases h12 with rfl | rfl | rfl | rfl | rfl | rfl | rfl | rfl | rfl | rfl <;> rfl);clear hl hop;have h1 := zhH a [a, b];have h2 := zhH 0 [a, b];have h3 := zpA a b;have e0 : l0 [a, b] 0 = a := rfl;have e1 : l0 [a, b] 1 = b := rfl;unfold zh9;rw [e0, e1];clear e0 e1;generalize zhZ a [a, b] = o1 at h1 ⊢;generalize zhZ 0 [a, b] = o2 at h2 ⊢;generalize znI a b = p at h3 ⊢;simp only [ints, List.map_cons, List.map_nil] at h1 h2 ⊢;rcases h12 with rfl | rfl | rfl | rfl | rfl | rfl | rfl | rfl | rfl | rfl
  all_goals
   (refine Fun.of_body Tryz.func229 rfl (by simp) fun Γ hn => ?_); simp only [entry, ziC, ziN, maC, maN, oA, Tryz.ntmps229]
   repeat' (first
  | ((first | refine zag ?_ | refine zb6 ?_ | refine zaj ?_ | refine zah ?_ | refine zai ?_ | fail); simp)
  | (refine zcR ?_)
  | (refine hk _ ?_; clear hk k; simp only [zan])
  | (refine zb5 rfl (by kernel_rfl) (by kernel_rfl) fun k hk => ?_; simp)
  | (refine zpg rfl (by simp) ?_; simp)
  | (refine zd4 rfl (by simp) (fun hc => ?_) (fun hc => ?_) <;> (try simp at hc) <;> (try (exfalso; omega)) <;> (try simp))
  | ((first | refine zaA ?_ | refine zaq ?_ | fail); simp)
  | ((first | refine zar ?_ | refine zap ?_ | fail); simp only [zan])
  | (refine ⟨fun hc => ?_, fun hc => ?_⟩ <;> (try (exfalso; omega)))
  | (refine CallV.fun_ (h1) (by first | rfl | fail) (by first | (simp; done) | (simp; rfl) | fail) ?_ <;> (try simp))
  | (refine CallP.fE (h1) (by first | rfl | fail) (by first | (simp; done) | (simp; rfl) | fail) ?_; (try simp))
  | (refine CallP.fE (h2) (by first | rfl | fail) (by first | (simp; done) | (simp; rfl) | fail) ?_; (try simp))
  | (refine CallV.fun_ (h3) (by first | rfl | fail) (by first | (simp; done) | (simp; rfl) | fail) ?_ <;> (try simp))
  | fail)
   all_goals
    (refine EndOK.val (.inr rfl) ?_; simp [zaK, zaf, zas, Tryz.results229])
   all_goals (clear h1 h2 h3; first | (simp_all; done) | (grind) | skip)
def asc {β : Type} : List (List UInt8 × β) -> List UInt8 -> Option β
 | [], _ => none
 | (k, b) :: l, x => if x = k then some b else asc l x
def zf7 {β : Type} : List (List UInt8 × β) -> List UInt8 -> β -> List (List UInt8 × β)
 | [], x, b => [(x, b)]
 | (k, c) :: l, x, b => if x = k then (k, b) :: l else (k, c) :: zf7 l x b
theorem zhs {β : Type} (f : β -> List U) (x : List UInt8) : ∀ (l : List (List UInt8 × β)), zb8 (l.map fun p => (Key.s p.1, f p.2)) (.s x) = (asc l x).map f
 | [] => rfl
 | (k, b) :: l => by
  simp only [List.map_cons, zb8, asc, Key.s.injEq];split
  ·rfl
  ·exact zhs f x l
theorem ziW {β : Type} (f : β -> List U) (x : List UInt8) (b : β) : ∀ (l : List (List UInt8 × β)), zdm (l.map fun p => (Key.s p.1, f p.2)) (.s x) (f b) = (zf7 l x b).map fun p => (Key.s p.1, f p.2)
 | [] => rfl
 | (k, c) :: l => by
  simp only [List.map_cons, zdm, zf7, Key.s.injEq];split
  ·rfl
  ·simp only [List.map_cons]; rw [ziW f x b l]
mutual
def zd5 (g : List UInt8 -> Option Int) (m : List UInt8 -> Option (Int × Int)) : Exp -> Int × Int
 | .mk op _ u s args =>
  if op = 0 then (u, 0)
  else if op = 1 then (match g s with | some u => (u, 0) | none => match m s with | some r => r | none => (0, 13))
  else match zfP g m args with
   | .error b => (0, b)
   | .ok l => if (zh9 op l).2 = true then ((zh9 op l).1, 0) else (0, 14)
def zfP (g : List UInt8 -> Option Int) (m : List UInt8 -> Option (Int × Int)) : List Exp -> Except Int (List Int)
 | [] => .ok []
 | e :: r => if (zd5 g m e).2 ≠ 0 then .error (zd5 g m e).2 else match zfP g m r with
  | .error b => .error b
  | .ok l => .ok ((zd5 g m e).1 :: l)
end
theorem ziZ (g m) (e : Exp) : zd5 g m e = if e.op = 0 then (e.unit, 0)
  else if e.op = 1 then (match g e.s with | some u => (u, 0) | none => match m e.s with | some r => r | none => (0, 13))
  else match zfP g m e.args with
   | .error b => (0, b)
   | .ok l => if (zh9 e.op l).2 = true then ((zh9 e.op l).1, 0) else (0, 14) := by
 cases e with | mk op n u s args => rw [zd5]; rfl
theorem zjF {g m} : ∀ {l : List Exp}, (∀ x ∈ l, (zd5 g m x).2 = 0) -> zfP g m l = .ok (l.map fun x => (zd5 g m x).1)
 | [], _ => by rw [zfP]; rfl
 | e :: r, h => by
  rw [zfP, if_neg (by simp [h e (by simp)]), zjF fun x hx => h x (by simp [hx])];rfl
theorem zih {g m} : ∀ {l : List Exp} {i : Nat} {e : Exp}, l[i]? = some e -> (∀ x ∈ l.take i, (zd5 g m x).2 = 0) -> (zd5 g m e).2 ≠ 0 -> zfP g m l = .error (zd5 g m e).2
 | [], i, e, h, _, _ => by simp at h
 | a :: r, 0, e, h, _, h2 => by
  simp at h;subst h;rw [zfP, if_pos h2]
 | a :: r, i + 1, e, h, h1, h2 => by
  rw [zfP, if_neg (by simp [h1 a (by simp)]), zih (l := r) (i := i) (by simpa using h) (fun x hx => h1 x (by simp [hx])) h2]
mutual
def zgE (m : List UInt8 -> Bool) : Exp -> Bool
 | .mk op _ u s args =>
  if op = 0 then decide (u = 4)
  else if op = 1 then m s
  else if op = 2 \/ op = 3 \/ op = 6 \/ op = 7 then zdN m args 0
  else if op = 4 then zdN m args 0 && zdN m args 1
  else if op = 13 then zdN m args 1
  else false
def zdN (m : List UInt8 -> Bool) : List Exp -> Nat -> Bool
 | [], _ => false
 | e :: _, 0 => zgE m e
 | _ :: r, n + 1 => zdN m r n
end
theorem znD (m) (e : Exp) : zgE m e = if e.op = 0 then decide (e.unit = 4)
  else if e.op = 1 then m e.s
  else if e.op = 2 \/ e.op = 3 \/ e.op = 6 \/ e.op = 7 then zdN m e.args 0
  else if e.op = 4 then zdN m e.args 0 && zdN m e.args 1
  else if e.op = 13 then zdN m e.args 1
  else false := by
 cases e with | mk op n u s args => rw [zgE]; rfl
abbrev LM := List (List UInt8 × Int × Int × Bool)
abbrev GM := List (List UInt8 × Int)
def zp3 (g : GM) : List (Key × List U) := g.map fun p => (Key.s p.1, [U.int .i64 p.2])
def zq2 (m : LM) : List (Key × List U) := m.map fun p => (Key.s p.1, [U.int .i64 p.2.1, .int .i64 p.2.2.1, .bool p.2.2.2])
theorem zq1 (g : GM) (x : List UInt8) : zb8 (zp3 g) (.s x) = (asc g x).map fun u => [U.int .i64 u] := zhs (fun u : Int => [U.int .i64 u]) x g
theorem zq0 (g : LM) (x : List UInt8) : zb8 (zq2 g) (.s x) = (asc g x).map fun q => [U.int .i64 q.1, .int .i64 q.2.1, .bool q.2.2] := zhs (fun q : Int × Int × Bool => [U.int .i64 q.1, .int .i64 q.2.1, .bool q.2.2]) x g
def jU (g : GM) (m : LM) : U := .row [.map .s false (zp3 g), .map .s true (zq2 m)] 0
def gF (g : GM) : List UInt8 -> Option Int := asc g
def mF (m : LM) : List UInt8 -> Option (Int × Int) := fun x => (asc m x).map fun q => (q.1, q.2.1)
def sF (m : LM) : List UInt8 -> Bool := fun x => ((asc m x).map fun q => q.2.2).getD false
theorem zil {d : Nat} {e : Exp} (h : zbB (d + 1) e = true) : (e.args.length : Int) = zcm e.op /\ 0 <= e.op /\ e.op < 14 /\ (e.op ≠ 0 -> e.op ≠ 1 -> ∀ x ∈ e.args, zbB d x = true) := by
 rw [zbB, Bool.and_eq_true, decide_eq_true_eq] at h;obtain ⟨h1, h2⟩ := h;have h3 : 0 <= e.op /\ e.op < 14 := by
  unfold zcm at h1;split at h1
  ·omega
  ·split at h1
   ·omega
   ·split at h1
    ·omega
    ·split at h1
     ·omega
     ·omega
 refine ⟨h1, h3.1, h3.2, fun ha hb x hx => ?_⟩;rw [if_neg ha] at h2;split at h2
 ·cases h2
 ·simp only [if_neg hb, Bool.and_eq_true, Bool.not_eq_true', List.any_eq_false, Bool.not_eq_true] at h2;have := h2.2 x hx;simpa using this
theorem ziY (g : GM) (m : LM) : ∀ (d : Nat) (e : Exp), zbB d e = true -> Fun Tryz.prog 180 [.u (jU g m), zeD e] (· = .tup [.u (.int .i64 (zd5 (gF g) (mF m) e).1), .u (.int .i64 (zd5 (gF g) (mF m) e).2)])
 | 0, e, h => by simp [zbB] at h
 | d + 1, e, h => by
  obtain ⟨h1, h2, h3, h4⟩ := zil h;have hg := zq1 g e.s;have hm := zq0 m e.s;by_cases h0 : e.op = 0
  ·rw [ziZ, if_pos h0]
   (refine Fun.of_body Tryz.func180 rfl (by simp) fun Γ hn => ?_); simp only [entry, ziC, ziN, maC, maN, oA, Tryz.ntmps180]
   simp only [zeD, jU]
   repeat' (first
  | ((first | refine zag ?_ | refine zaj ?_ | refine zah ?_ | refine zai ?_ | refine zaA ?_ | fail); simp [h0])
  | (refine zar ?_; simp only [zan])
  | fail)
   (refine EndOK.val (.inr rfl) ?_; simp [zaK, zaf, zas, Tryz.results180])
  by_cases hnm : e.op = 1
  ·rw [ziZ, if_neg h0, if_pos hnm]
   (refine Fun.of_body Tryz.func180 rfl (by simp) fun Γ hn => ?_); simp only [entry, ziC, ziN, maC, maN, oA, Tryz.ntmps180]
   simp only [zeD, jU];cases hga : asc g e.s with
   | some u =>
    rw [hga] at hg;simp only [Option.map_some] at hg
    repeat' (first
  | ((first | refine zag ?_ | refine zb6 ?_ | refine zaj ?_ | refine zah ?_ | refine zai ?_ | fail); simp [h0, hnm, hg])
  | (refine zcR ?_)
  | (refine hk _ ?_; clear hk k; simp only [zan])
  | (refine zb5 rfl (by kernel_rfl) (by kernel_rfl) fun k hk => ?_; simp [h0, hnm, hg])
  | (refine zaA ?_; simp [h0, hnm, hg])
  | (refine zar ?_; simp only [zan])
  | fail)
    (refine EndOK.val (.inr rfl) ?_; simp [zaK, zaf, zas, Tryz.results180])
    simp [gF, hga]
   | none =>
    rw [hga] at hg;simp only [Option.map_none] at hg;cases hma : asc m e.s with
    | some q =>
     rw [hma] at hm;simp only [Option.map_some] at hm
     repeat' (first
  | ((first | refine zag ?_ | refine zhQ rfl ?_ | refine zb6 ?_ | refine zhR rfl ?_ | refine zaj ?_ | refine zah ?_ | refine zai ?_ | fail); simp [h0, hnm, hg, hm])
  | (refine zgD (hC _ (by kernel_rfl)) (hk _ ?_); clear hC hk C k; simp only [zan])
  | (refine zcR ?_)
  | (refine hk _ ?_; clear hk k; simp only [zan])
  | (refine zb5 rfl (by kernel_rfl) (by kernel_rfl) fun k hk => ?_; simp [h0, hnm, hg, hm])
  | (refine zhO rfl (by kernel_rfl) (by kernel_rfl) (by simp [hn]) fun C k hC hk => ?_; simp [h0, hnm, hg, hm])
  | (refine zaA ?_; simp [h0, hnm, hg, hm])
  | ((first | refine zar ?_ | refine zap ?_ | fail); simp only [zan])
  | fail)
     (refine EndOK.val (.inr rfl) ?_; simp [zaK, zaf, zas, Tryz.results180])
     simp [gF, hga, mF, hma]
    | none =>
     rw [hma] at hm;simp only [Option.map_none] at hm
     repeat' (first
  | ((first | refine zag ?_ | refine zhQ rfl ?_ | refine zb6 ?_ | refine zhR rfl ?_ | refine zaj ?_ | refine zah ?_ | refine zai ?_ | fail); simp [h0, hnm, hg, hm])
  | (refine zgD (hC _ (by kernel_rfl)) (hk _ ?_); clear hC hk C k; simp only [zan])
  | (refine zcR ?_)
  | (refine hk _ ?_; clear hk k; simp only [zan])
  | (refine zb5 rfl (by kernel_rfl) (by kernel_rfl) fun k hk => ?_; simp [h0, hnm, hg, hm])
  | (refine zhO rfl (by kernel_rfl) (by kernel_rfl) (by simp [hn]) fun C k hC hk => ?_; simp [h0, hnm, hg, hm])
  | (refine zaA ?_; simp [h0, hnm, hg, hm])
  | ((first | refine zar ?_ | refine zap ?_ | fail); simp only [zan])
  | fail)
     (refine EndOK.val (.inr rfl) ?_; simp [zaK, zaf, zas, Tryz.results180])
     simp [gF, hga, mF, hma]
  rw [ziZ, if_neg h0, if_neg hnm]
  (refine Fun.of_body Tryz.func180 rfl (by simp) fun Γ hn => ?_); simp only [entry, ziC, ziN, maC, maN, oA, Tryz.ntmps180]
  simp only [zeD, jU];have hr := h4 h0 hnm
  repeat' (first
  | ((first | refine zag ?_ | refine zaj ?_ | refine zah ?_ | refine zai ?_ | refine zaA ?_ | fail); simp [h0, hnm])
  | (refine zap ?_; simp only [zan])
  | fail)
  refine zlt _ (Wk.own 10 3 1 (by decide) rfl) ?_;simp [St.own];refine zb4 (α := { p : Nat × List Int // p.1 <= e.args.length /\ p.2 = (e.args.take p.1).map (fun x => (zd5 (gF g) (mF m) x).1) /\ ∀ x ∈ e.args.take p.1, (zd5 (gF g) (mF m) x).2 = 0 }) [0, 3, 53, 54]
   (fun p => [(10, .vec 1 p.1.2.length), (55, .u (.int .i64 p.1.1))]) (fun p => [(1, .vec 3 1 (rowsD (p.1.2.map fun n => [U.int .i64 n]))), (0, .box [.u (.int .i64 e.op), .u (.int .i64 e.n), .u (.int .i64 e.unit), .u (.str e.s), .u (.sl (e.args.map Exp.row))])]) 2
   (fun p => e.args.length - p.1.1) ⟨(0, []), by simp, by simp, by simp⟩ ?_ ?_
  ·exact (Wk.cut rfl (by simp [hn, St.lp]) (by simp [wkO, St.lp, zaa, getK, Ob.under, D.under, zad, zae]) (by simp [wkU, St.lp, zal, zaa, getK, D.under]) (by simp [wkE, St.lp, zal, zaa, getK] <;> (try (intros; simp_all; done)) <;> (try (intros; omega)) <;> (try grind)))
  rintro ⟨⟨i, acc⟩, hi, hacc, hb⟩;simp only at hi hacc hb;simp [St.lp, St.only, zal, zaa, getK];rcases hx : e.args[i]? with _ | x
  ·have hge : e.args.length <= i := by simpa using hx
   rw [List.take_of_length_le hge] at hacc hb;have hok := zjF hb;rw [<- hacc] at hok;have hal : (acc.length : Int) = zcm e.op := by rw [hacc]; simpa using h1
   have h5 := zqf e.op acc (by omega) hal;simp only [ints] at h5;generalize hcb : zh9 e.op acc = cb at h5;obtain ⟨c1, c2⟩ := cb
   repeat' (first
  | ((first | refine zag ?_ | refine zaj ?_ | fail); simp [hx, h0, hnm])
  | (refine ⟨by omega, ?_⟩)
  | ((first | refine zah ?_ | refine zai ?_ | fail); simp [hx, h0, hnm])
  | ((first | refine zar ?_ | refine zap ?_ | fail); simp only [zan])
  | (refine zaZ ?_; simp [zan])
  | (refine ⟨fun hc => ?_, fun hc => ?_⟩ <;> (try (exfalso; omega)))
  | (intro hc <;> (try (exfalso; omega)))
  | (refine CallP.fE (h5) (by first | rfl | fail) (by first | simp [hx, h0, hnm] <;> rfl | fail) ?_; (try simp [hx, h0, hnm]))
  | fail)
   all_goals
    (refine EndOK.val (.inr rfl) ?_; simp [zaK, zaf, zas, Tryz.results180])
   all_goals (rw [hok]; simp_all; done)
  ·have hlt : i < e.args.length := (lGE.1 hx).1;have h5 := ziY g m d x (hr x (List.mem_of_getElem? hx));simp only [zeD, jU] at h5;have hal : acc.length = i := by rw [hacc]; simp; omega
   have h3a : e.args.length <= 3 := by
    have : zcm e.op ≤ 3 := by unfold zcm; repeat' split
                              all_goals omega
    omega
   have her := fun h => zih (g := gF g) (m := mF m) hx hb h;generalize hun : zd5 (gF g) (mF m) x = un at h5 her;obtain ⟨u, er⟩ := un
   repeat' (first
  | ((first | refine zag ?_ | refine zaj ?_ | fail); simp [hx, x.row_eq, h0, hnm])
  | (refine ⟨by omega, ?_⟩)
  | ((first | refine zah ?_ | refine zai ?_ | refine zaq ?_ | fail); simp [hx, x.row_eq, h0, hnm])
  | ((first | refine zar ?_ | refine zap ?_ | fail); simp only [zan])
  | (refine ⟨?_, by omega⟩)
  | (refine ⟨fun hc => ?_, fun hc => ?_⟩ <;> (try (exfalso; omega)))
  | (intro hc <;> (try (exfalso; omega)))
  | (refine CallP.fE (h5) (by first | rfl | fail) (by first | simp [hx, x.row_eq, h0, hnm] <;> rfl | fail) ?_; (try simp [hx, x.row_eq, h0, hnm]))
  | fail)
   ·(refine EndOK.val (.inr rfl) ?_; simp [zaK, zaf, zas, Tryz.results180])
    rw [her (by simpa using (by assumption : ¬ er = 0))];simp
   ·skip
    refine LoopW.next ⟨(i + 1, acc ++ [u]), (by omega : i + 1 <= e.args.length), (?_ : acc ++ [u] = _), ?_⟩ (by simp; omega) ?_
    ·rw [List.take_succ_eq_append_getElem hlt, List.map_append, <- hacc, (lGE.1 hx).2];simp [hun]
    ·exact za7 hx hb (by simp_all)
    ·exact (Wk.ren ((fun i => if i = 1 then 4 else i)) rfl (by first | (simp [hn]; done) | (intro i hi; rw [hn] at hi; constructor <;> (try simp) <;> (try (intro _)) <;> omega)) (by simp [zhW, St.lp, zal, zaa, getK, zac, zam, D.under, D.le, D.ren] <;> (try (intros; simp_all; done)) <;> (try omega)) (by simp [wkR, St.lp, zaa, getK, zac, zam, obR, leU, zbR, zaX, Ob.under, D.under, D.le, D.ren] <;> (try (intros; simp_all; done)) <;> (try omega)) (by simp))
theorem zeS (g : GM) (m : LM) : ∀ (d : Nat) (e : Exp), zbB d e = true -> Fun Tryz.prog 228 [.u (jU g m), zeD e] (· = .u (.bool (zgE (sF m) e)))
 | 0, e, h => by simp [zbB] at h
 | d + 1, e, h => by
  obtain ⟨h1, h2, h3, h4⟩ := zil h;rw [znD];have hm := zq0 m e.s;by_cases h0 : e.op = 0
  ·rw [if_pos h0]
   (refine Fun.of_body Tryz.func228 rfl (by simp) fun Γ hn => ?_); simp only [entry, ziC, ziN, maC, maN, oA, Tryz.ntmps228]
   simp only [zeD, jU]
   repeat' (first
  | ((first | refine zag ?_ | refine zaj ?_ | refine zah ?_ | refine zai ?_ | refine zaA ?_ | fail); simp [h0])
  | (refine zar ?_; simp only [zan])
  | fail)
   (refine EndOK.val (.inr rfl) ?_; simp [zaK, zaf, zas, Tryz.results228])
  rw [if_neg h0];by_cases hnm : e.op = 1
  ·rw [if_pos hnm];cases hma : asc m e.s with
   | some q =>
    rw [hma] at hm;simp only [Option.map_some] at hm
    (refine Fun.of_body Tryz.func228 rfl (by simp) fun Γ hn => ?_); simp only [entry, ziC, ziN, maC, maN, oA, Tryz.ntmps228]
    simp only [zeD, jU]
    repeat' (first
  | ((first | refine zag ?_ | refine zb6 ?_ | refine zaj ?_ | refine zah ?_ | refine zai ?_ | fail); simp [h0, hnm, hm])
  | (refine zcR ?_)
  | (refine hk _ ?_; clear hk k; simp only [zan])
  | (refine zb5 rfl (by kernel_rfl) (by kernel_rfl) fun k hk => ?_; simp [h0, hnm, hm])
  | (refine zaA ?_; simp [h0, hnm, hm])
  | (refine zar ?_; simp only [zan])
  | fail)
    (refine EndOK.val (.inr rfl) ?_; simp [zaK, zaf, zas, Tryz.results228])
    simp [sF, hma]
   | none =>
    rw [hma] at hm;simp only [Option.map_none] at hm
    (refine Fun.of_body Tryz.func228 rfl (by simp) fun Γ hn => ?_); simp only [entry, ziC, ziN, maC, maN, oA, Tryz.ntmps228]
    simp only [zeD, jU]
    repeat' (first
  | ((first | refine zag ?_ | refine zb6 ?_ | refine zaj ?_ | refine zah ?_ | refine zai ?_ | fail); simp [h0, hnm, hm])
  | (refine zcR ?_)
  | (refine hk _ ?_; clear hk k; simp only [zan])
  | (refine zb5 rfl (by kernel_rfl) (by kernel_rfl) fun k hk => ?_; simp [h0, hnm, hm])
  | (refine zaA ?_; simp [h0, hnm, hm])
  | (refine zar ?_; simp only [zan])
  | fail)
    (refine EndOK.val (.inr rfl) ?_; simp [zaK, zaf, zas, Tryz.results228])
    simp [sF, hma]
  rw [if_neg hnm];have hr := h4 h0 hnm;by_cases hA : e.op = 2 \/ e.op = 3 \/ e.op = 6 \/ e.op = 7
  ·rw [if_pos hA];have hl : e.args.length = 2 := by
    rcases hA with ha | ha | ha | ha <;> rw [ha] at h1 <;> simp [zcm] at h1 <;> omega
   obtain ⟨a, b, hab⟩ : ∃ a b, e.args = [a, b] := by
    match hq : e.args, hl with
    | [a, b], _ => exact ⟨a, b, rfl⟩
   have h5 := zeS g m d a (hr a (by simp [hab]));simp only [zeD, jU] at h5;rw [hab, zdN];rcases hA with ha | ha | ha | ha
   all_goals
    (refine Fun.of_body Tryz.func228 rfl (by simp) fun Γ hn => ?_); simp only [entry, ziC, ziN, maC, maN, oA, Tryz.ntmps228]
    simp only [zeD, jU]
    repeat' (first
  | ((first | refine zag ?_ | refine zaj ?_ | refine zah ?_ | refine zai ?_ | refine zaA ?_ | refine zaq ?_ | fail); simp [ha, hab, a.row_eq, b.row_eq])
  | ((first | refine zar ?_ | refine zap ?_ | fail); simp only [zan])
  | (refine CallP.fE (h5) (by first | rfl | fail) (by first | simp [ha, hab, a.row_eq, b.row_eq] <;> rfl | fail) ?_; (try simp [ha, hab, a.row_eq, b.row_eq]))
  | fail)
    (refine EndOK.val (.inr rfl) ?_; simp [zaK, zaf, zas, Tryz.results228])
  rw [if_neg hA];by_cases hB : e.op = 4
  ·rw [if_pos hB];have hl : e.args.length = 2 := by rw [hB] at h1; simp [zcm] at h1; omega
   obtain ⟨a, b, hab⟩ : ∃ a b, e.args = [a, b] := by
    match hq : e.args, hl with
    | [a, b], _ => exact ⟨a, b, rfl⟩
   have h5 := zeS g m d a (hr a (by simp [hab]));have h6 := zeS g m d b (hr b (by simp [hab]));simp only [zeD, jU] at h5 h6;rw [hab, zdN, zdN, zdN];generalize zgE (sF m) a = x1 at h5 ⊢;generalize zgE (sF m) b = x2 at h6 ⊢
   (refine Fun.of_body Tryz.func228 rfl (by simp) fun Γ hn => ?_); simp only [entry, ziC, ziN, maC, maN, oA, Tryz.ntmps228]
   simp only [zeD, jU]
   repeat' (first
  | ((first | refine zag ?_ | refine zaj ?_ | refine zah ?_ | refine zai ?_ | refine zaA ?_ | refine zaq ?_ | fail); simp [hB, hab, a.row_eq, b.row_eq])
  | (refine zar ?_; simp only [zan])
  | (refine ⟨fun hc => ?_, fun hc => ?_⟩ <;> (try (exfalso; omega)))
  | (refine CallP.fE (h5) (by first | rfl | fail) (by first | simp [hB, hab, a.row_eq, b.row_eq] <;> rfl | fail) ?_; (try simp [hB, hab, a.row_eq, b.row_eq]))
  | (refine CallP.fE (h6) (by first | rfl | fail) (by first | simp [hB, hab, a.row_eq, b.row_eq] <;> rfl | fail) ?_; (try simp [hB, hab, a.row_eq, b.row_eq]))
  | fail)
   all_goals
    (refine EndOK.val (.inr rfl) ?_; simp [zaK, zaf, zas, Tryz.results228])
   all_goals (simp_all; done)
  rw [if_neg hB];by_cases hC : e.op = 13
  ·rw [if_pos hC];have hl : e.args.length = 3 := by rw [hC] at h1; simp [zcm] at h1; omega
   obtain ⟨a, b, c, hab⟩ : ∃ a b c, e.args = [a, b, c] := by
    match hq : e.args, hl with
    | [a, b, c], _ => exact ⟨a, b, c, rfl⟩
   have h5 := zeS g m d b (hr b (by simp [hab]));simp only [zeD, jU] at h5;rw [hab, zdN, zdN]
   (refine Fun.of_body Tryz.func228 rfl (by simp) fun Γ hn => ?_); simp only [entry, ziC, ziN, maC, maN, oA, Tryz.ntmps228]
   simp only [zeD, jU]
   repeat' (first
  | ((first | refine zag ?_ | refine zaj ?_ | refine zah ?_ | refine zai ?_ | refine zaA ?_ | refine zaq ?_ | fail); simp [hC, hab, a.row_eq, b.row_eq, c.row_eq])
  | (refine zar ?_; simp only [zan])
  | (refine CallP.fE (h5) (by first | rfl | fail) (by first | simp [hC, hab, a.row_eq, b.row_eq, c.row_eq] <;> rfl | fail) ?_; (try simp [hC, hab, a.row_eq, b.row_eq, c.row_eq]))
  | fail)
   (refine EndOK.val (.inr rfl) ?_; simp [zaK, zaf, zas, Tryz.results228])
  rw [if_neg hC];have hD : ¬ e.op = 2 /\ ¬ e.op = 3 /\ ¬ e.op = 6 /\ ¬ e.op = 7 := by omega
  (refine Fun.of_body Tryz.func228 rfl (by simp) fun Γ hn => ?_); simp only [entry, ziC, ziN, maC, maN, oA, Tryz.ntmps228]
  simp only [zeD, jU]
  repeat' (first
  | ((first | refine zag ?_ | refine zaj ?_ | refine zah ?_ | refine zai ?_ | refine zaA ?_ | refine zaq ?_ | fail); simp [h0, hnm, hB, hC, hD.1, hD.2.1, hD.2.2.1, hD.2.2.2])
  | ((first | refine zar ?_ | refine zap ?_ | fail); simp only [zan])
  | fail)
  (refine EndOK.val (.inr rfl) ?_; simp [zaK, zaf, zas, Tryz.results228])
theorem zrp (l : Let) : Fun Tryz.prog 227 (zpS l :: [].map .u) (· = .u (.bool (!zbB 12 l.body))) := by
 have h1 := zeT l.body;simp only [zpS, List.map_nil, zeD] at h1 ⊢
 (refine Fun.of_body Tryz.func227 rfl (by simp) fun Γ hn => ?_); simp only [entry, ziC, ziN, maC, maN, oA, Tryz.ntmps227]
 repeat' (first
  | ((first | refine zag ?_ | refine zaj ?_ | refine zah ?_ | fail); simp)
  | (refine zar ?_; simp only [zan])
  | (refine CallP.fE (h1) (by first | rfl | fail) (by first | (simp; done) | (simp; rfl) | fail) ?_; (try simp))
  | fail)
 (refine EndOK.val (.inr rfl) ?_; simp [zaK, zaf, zas, Tryz.results227])
def zgL (l : List Var) : U := .sl (l.map fun v => [.str v.name, .int .i64 v.unit, .int .i64 v.n])
def gOf (names : List Var) : GM := names.foldl (fun g v => if asc g v.name = none then zf7 g v.name v.unit else g) []
def mOf (g : GM) (lets : List Let) : LM := lets.foldl (fun m l => zf7 m l.name ((zd5 (gF g) (mF m) l.body).1, (zd5 (gF g) (mF m) l.body).2, zgE (sF m) l.body)) []
def zha (v : Var) : Bool := decide (0 <= v.unit) && decide (v.unit < 5)
def zgU (lets : List Let) (e : Exp) : Bool := decide (lets.length <= 20) && zbB 12 e && !lets.any (fun l => !zbB 12 l.body)
def okJ (lets : List Let) (names : List Var) (e : Exp) : Bool := zgU lets e && names.all zha
def zos (lets : List Let) (names : List Var) (e : Exp) : D := if okJ lets names e = true then .tup [.u (jU (gOf names) (mOf (gOf names) lets)), .u (.bool true)] else .tup [.u (.oth (.pointer none)), .u (.bool false)]
theorem zns (g : GM) (x : List UInt8) (u : Int) : zdm (zp3 g) (.s x) [U.int .i64 u] = zp3 (zf7 g x u) := ziW (fun u : Int => [U.int .i64 u]) x u g
theorem zjC (g : LM) (x : List UInt8) (u e : Int) (b : Bool) : zdm (zq2 g) (.s x) [U.int .i64 u, .int .i64 e, .bool b] = zq2 (zf7 g x (u, e, b)) := ziW (fun q : Int × Int × Bool => [U.int .i64 q.1, .int .i64 q.2.1, .bool q.2.2]) x (u, e, b) g
theorem ziH {α β : Type} (f : β -> α -> β) (b : β) {l : List α} {i : Nat} {x : α} (h : l[i]? = some x) : (l.take (i + 1)).foldl f b = f ((l.take i).foldl f b) x := by
 obtain ⟨hi, rfl⟩ := lGE.1 h;rw [List.take_succ_eq_append_getElem hi, List.foldl_append];rfl
theorem zp4 {names : List Var} {i : Nat} {v : Var} (h : names[i]? = some v) : gOf (names.take (i + 1)) = if asc (gOf (names.take i)) v.name = none then zf7 (gOf (names.take i)) v.name v.unit else gOf (names.take i) := ziH _ _ h
theorem zpH {g : GM} {lets : List Let} {i : Nat} {l : Let} (h : lets[i]? = some l) : mOf g (lets.take (i + 1)) = zf7 (mOf g (lets.take i)) l.name ((zd5 (gF g) (mF (mOf g (lets.take i))) l.body).1, (zd5 (gF g) (mF (mOf g (lets.take i))) l.body).2, zgE (sF (mOf g (lets.take i))) l.body) := ziH _ _ h
theorem zor (lets : List Let) (names : List Var) (e : Exp) : Fun Tryz.prog 179 [.u (ze0 lets), .u (zgL names), zeD e] (· = zos lets names e) := by
 have h1 := zeT e;have h2 := zeF lets 227 [] _ (fun x _ => zrp x) (by simp) (fun _ => rfl) (fun _ => rfl);simp only [List.map_nil, ze0, zeD] at h1 h2;generalize hre : zbB 12 e = re at h1;generalize hrl : (lets.any fun l => !zbB 12 l.body) = rl at h2;have hok0 : okJ lets names e = (decide (lets.length <= 20) && re && !rl && names.all zha) := by rw [okJ, zgU, hre, hrl]
 have hre' := hre;have hrl' := hrl;clear hre hrl;unfold zos;generalize okJ lets names e = K at hok0 ⊢
 (refine Fun.of_bodyW Tryz.func179 rfl (by simp) fun Γ hn => ?_); simp only [entry, ziC, ziN, maC, maN, oA, Tryz.ntmps179]
 simp only [zeD, ze0, zgL];refine zgR (x := 0) rfl fun hl0 => ?_;refine zgR (x := 1) rfl fun hl1 => ?_;simp only [List.length_map] at hl0 hl1
 repeat' (first
  | ((first | refine zag ?_ | refine zaj ?_ | refine zah ?_ | refine zai ?_ | refine zaA ?_ | fail); simp)
  | ((first | refine zar ?_ | refine zap ?_ | fail); simp only [zan])
  | (refine ⟨fun hc => ?_, fun hc => ?_⟩ <;> (try (exfalso; omega)))
  | (refine CallP.fE (h1) (by first | rfl | fail) (by first | (simp; done) | (simp; rfl) | fail) ?_; (try simp))
  | (refine CallP.fE (h2) (by first | rfl | fail) (by first | (simp; done) | (simp; rfl) | fail) ?_; (try simp))
  | fail)
 all_goals try (refine EndW.here ?_; have hKf : K = false := (by first | (rw [hok0]; clear h1 h2 hok0 hre' hrl'; simp; intros; simp_all; done) | (rw [hok0]; clear h1 h2 hok0 hre' hrl'; simp; intros; omega) | fail); subst hKf; (refine EndOK.val (.inr rfl) ?_; simp [zaK, zaf, zas, Tryz.results179]); done)
 refine zb4 (α := { i : Nat // i <= names.length /\ ∀ v ∈ names.take i, zha v = true }) [0, 8, 33, 34] (fun i => [(35, .u (.int .i64 i.1))])
  (fun i => [(3, .box [.mp 1, .mp 2]), (2, .map .s true []), (1, .map .s false (zg1 (zp3 (gOf (names.take i.1))))), (0, .box [.u (.int .i64 e.op), .u (.int .i64 e.n), .u (.int .i64 e.unit), .u (.str e.s), .u (.sl (e.args.map Exp.row))])]) 4
  (fun i => names.length - i.1) ⟨0, by omega, by simp⟩ ?_ ?_
 ·exact (Wk.cut rfl (by simp [hn, St.lp]) (by simp [wkO, St.lp, zaa, getK, Ob.under, D.under, zad, zae, gOf, zp3, zbo, Ob.under]) (by simp [wkU, St.lp, zal, zaa, getK, D.under, gOf, zp3, zbo, Ob.under]) (by simp [wkE, St.lp, zal, zaa, getK, gOf, zp3, zbo, Ob.under] <;> (try (intros; simp_all; done)) <;> (try (intros; omega)) <;> (try grind)))
 rintro ⟨i, hi, hb⟩;simp [St.lp, St.only, zal, zaa, getK];rcases hx : names[i]? with _ | v
 ·have hge : names.length <= i := by simpa using hx
  obtain rfl : i = names.length := by omega
  rw [List.take_length] at hb;have hall : names.all zha = true := by simpa [List.all_eq_true] using hb
  repeat' (first
  | ((first | refine zag ?_ | refine zaj ?_ | refine zah ?_ | refine zaA ?_ | fail); simp [hx])
  | (refine zaZ ?_; simp [zan])
  | fail)
  refine zb4 (α := { i : Nat // i <= lets.length }) [8, 68, 69] (fun i => [(70, .u (.int .i64 i.1))])
   (fun i => [(3, .box [.mp 1, .mp 2]), (2, .map .s true (zg1 (zq2 (mOf (gOf names) (lets.take i.1))))), (1, .map .s false (zg1 (zp3 (gOf names)))), (0, .box [.u (.int .i64 e.op), .u (.int .i64 e.n), .u (.int .i64 e.unit), .u (.str e.s), .u (.sl (e.args.map Exp.row))])]) 4
   (fun i => lets.length - i.1) ⟨0, by omega⟩ ?_ ?_
  ·exact (Wk.cut rfl (by simp [hn, St.lp]) (by simp [wkO, St.lp, zaa, getK, Ob.under, D.under, zad, zae, mOf, zq2, zbo, Ob.under]) (by simp [wkU, St.lp, zal, zaa, getK, D.under, mOf, zq2, zbo, Ob.under]) (by simp [wkE, St.lp, zal, zaa, getK, mOf, zq2, zbo, Ob.under] <;> (try (intros; simp_all; done)) <;> (try (intros; omega)) <;> (try grind)))
  rintro ⟨k, hk0⟩;simp [St.lp, St.only, zal, zaa, getK];rcases hy : lets[k]? with _ | l
  ·have hgk : lets.length <= k := by simpa using hy
   obtain rfl : k = lets.length := by omega
   obtain rfl : K = true := by
    rw [hok0, hall];have : lets.length <= 20 := by omega
    clear h1 h2;simp_all
   repeat' (first
  | ((first | refine zag ?_ | refine zaj ?_ | refine zah ?_ | fail); simp [hy])
  | (refine zar ?_; simp only [zan])
  | (refine zaZ ?_; simp [zan])
  | fail)
   (refine EndW.frzN 2 ?_; simp [frzN, frz1, zaD, zaC, St.frz, St.frzS, frzS, fv, zaV, za8, za9, frzObS, zay, zat, del, frz, zbc])
   (refine EndW.frzB 3 ?_; simp [frzB, zaD, zaC, St.frzS, frzS, fv, zaV, za8, za9, frzObS, zay, zat, del])
   refine EndW.here ?_
   (refine EndOK.val (.inr rfl) ?_; simp [zaK, zaf, zas, Tryz.results179])
   rfl
  ·have hltk : k < lets.length := (lGE.1 hy).1;have hsu := zpH (g := gOf names) hy;have hrl : zbB 12 l.body = true := by
    have h7 : (lets.any fun l => !zbB 12 l.body) = false := by rw [hrl']; assumption
    rw [List.any_eq_false] at h7;simpa using h7 l (List.mem_of_getElem? hy)
   have h5 := ziY (gOf names) (mOf (gOf names) (lets.take k)) 12 l.body hrl;have h6 := zeS (gOf names) (mOf (gOf names) (lets.take k)) 12 l.body hrl;simp only [zeD, jU] at h5 h6
   repeat' (first
  | ((first | refine zag ?_ | refine zhQ rfl ?_ | refine zhR rfl ?_ | refine zaj ?_ | fail); simp [hy, zjC])
  | (refine ⟨by omega, ?_⟩)
  | (refine zah ?_; simp [hy, zjC])
  | (refine zgD (hC _ (by kernel_rfl)) (hk _ ?_); clear hC hk C k; simp only [zan])
  | (refine zhO rfl (by kernel_rfl) (by kernel_rfl) (by simp [hn]) fun C k hC hk => ?_; simp [hy, zjC])
  | (refine zaq ?_; simp [hy, zjC])
  | (refine zap ?_; simp only [zan])
  | (refine ⟨?_, by omega⟩)
  | (intro hc <;> (try (exfalso; omega)))
  | (refine CallP.fE (h5) (by first | rfl | fail) (by first | simp [hy, zjC] <;> rfl | fail) ?_; (try simp [hy, zjC]))
  | (refine CallV.fun_ (h6) (by first | rfl | fail) (by first | simp [hy, zjC] <;> rfl | fail) ?_ <;> (try simp [hy, zjC]))
  | fail)
   refine LoopW.next ⟨k + 1, by omega⟩ (by simp; omega) ?_
   exact (Wk.cut rfl (by simp [hn, St.lp]) (by simp [wkO, St.lp, zaa, getK, Ob.under, D.under, zad, zae, hsu]) (by simp [wkU, St.lp, zal, zaa, getK, D.under, hsu]) (by simp [wkE, St.lp, zal, zaa, getK, hsu] <;> (try (intros; simp_all; done)) <;> (try (intros; omega)) <;> (try grind)))
 ·have hlt : i < names.length := (lGE.1 hx).1;have hg := zq1 (gOf (names.take i)) v.name;have hsu := zp4 hx;have hok : zha v = (decide (0 <= v.unit) && decide (v.unit < 5)) := rfl;have hbad : zha v = false -> names.all zha = false := fun h => by
   rw [List.all_eq_false];exact ⟨v, List.mem_of_getElem? hx, by simp [h]⟩
  cases hga : asc (gOf (names.take i)) v.name with
  | some u =>
   rw [hga] at hg hsu;simp only [Option.map_some] at hg
   repeat' (first
  | ((first | refine zag ?_ | refine zb6 ?_ | refine zaj ?_ | fail); simp [hx, hg])
  | (refine ⟨by omega, ?_⟩)
  | ((first | refine zah ?_ | refine zai ?_ | fail); simp [hx, hg])
  | (refine zcR ?_)
  | (refine hk _ ?_; clear hk k; simp only [zan])
  | (refine zb5 rfl (by kernel_rfl) (by kernel_rfl) fun k hk => ?_; simp [hx, hg])
  | (refine zaq ?_; simp [hx, hg])
  | ((first | refine zar ?_ | refine zap ?_ | fail); simp only [zan])
  | (refine ⟨?_, by omega⟩)
  | (refine ⟨fun hc => ?_, fun hc => ?_⟩ <;> (try (exfalso; omega)))
  | (intro hc <;> (try (exfalso; omega)))
  | fail)
   all_goals first
    | (refine LoopW.next ⟨i + 1, by omega, za7 hx hb (by rw [hok]; simp; omega)⟩ (by simp; omega) ?_; exact (Wk.cut rfl (by simp [hn, St.lp]) (by simp [wkO, St.lp, zaa, getK, Ob.under, D.under, zad, zae, hsu]) (by simp [wkU, St.lp, zal, zaa, getK, D.under, hsu]) (by simp [wkE, St.lp, zal, zaa, getK, hsu] <;> (try (intros; simp_all; done)) <;> (try (intros; omega)) <;> (try grind))))
    | (refine EndW.here ?_; have hKf : K = false := (by first | (rw [hok0, hbad (by rw [hok]; simp; omega)]; simp; done) | fail); subst hKf; (refine EndOK.val (.inr rfl) ?_; simp [zaK, zaf, zas, Tryz.results179]))
  | none =>
   rw [hga] at hg hsu;simp only [Option.map_none] at hg
   repeat' (first
  | ((first | refine zag ?_ | refine zhQ rfl ?_ | refine zb6 ?_ | refine zhR rfl ?_ | refine zaj ?_ | fail); simp [hx, hg, zns])
  | (refine ⟨by omega, ?_⟩)
  | ((first | refine zah ?_ | refine zai ?_ | fail); simp [hx, hg, zns])
  | (refine zgD (hC _ (by kernel_rfl)) (hk _ ?_); clear hC hk C k; simp only [zan])
  | (refine zcR ?_)
  | (refine hk _ ?_; clear hk k; simp only [zan])
  | (refine zb5 rfl (by kernel_rfl) (by kernel_rfl) fun k hk => ?_; simp [hx, hg, zns])
  | (refine zhO rfl (by kernel_rfl) (by kernel_rfl) (by simp [hn]) fun C k hC hk => ?_; simp [hx, hg, zns])
  | (refine zaq ?_; simp [hx, hg, zns])
  | ((first | refine zar ?_ | refine zap ?_ | fail); simp only [zan])
  | (refine ⟨?_, by omega⟩)
  | (refine ⟨fun hc => ?_, fun hc => ?_⟩ <;> (try (exfalso; omega)))
  | (intro hc <;> (try (exfalso; omega)))
  | fail)
   all_goals first
    | (refine LoopW.next ⟨i + 1, by omega, za7 hx hb (by rw [hok]; simp; omega)⟩ (by simp; omega) ?_; exact (Wk.cut rfl (by simp [hn, St.lp]) (by simp [wkO, St.lp, zaa, getK, Ob.under, D.under, zad, zae, hsu]) (by simp [wkU, St.lp, zal, zaa, getK, D.under, hsu]) (by simp [wkE, St.lp, zal, zaa, getK, hsu] <;> (try (intros; simp_all; done)) <;> (try (intros; omega)) <;> (try grind))))
    | (refine EndW.here ?_; have hKf : K = false := (by first | (rw [hok0, hbad (by rw [hok]; simp; omega)]; simp; done) | fail); subst hKf; (refine EndOK.val (.inr rfl) ?_; simp [zaK, zaf, zas, Tryz.results179]))
def inB (lo hi : Int) (l : List Int) : Bool := !l.any fun n => decide (n < lo) || decide (hi < n)
theorem zrv (lo hi n : Int) : Fun Tryz.prog 166 (zmY n :: [U.row [.int .i64 lo] 0, U.row [.int .i64 hi] 0].map .u) (· = .u (.bool (decide (n < lo) || decide (hi < n)))) := by
 simp only [zmY, List.map_cons, List.map_nil]
 (refine Fun.of_body Tryz.func166 rfl (by simp) fun Γ hn => ?_); simp only [entry, ziC, ziN, maC, maN, oA, Tryz.ntmps166]
 repeat' (first
  | ((first | refine zag ?_ | refine zaj ?_ | refine zah ?_ | fail); simp)
  | (refine zar ?_; simp only [zan])
  | (refine ⟨fun hc => ?_, fun hc => ?_⟩ <;> (try (exfalso; omega)))
  | fail)
 all_goals
  (refine EndOK.val (.inr rfl) ?_; simp [zaK, zaf, zas, Tryz.results166])
 all_goals grind
theorem zkg (lo hi : Int) (l : List Int) : Fun Tryz.prog 98 [.u (.int .i64 lo), .u (.int .i64 hi), .u (ints l)] (· = .u (.bool (inB lo hi l))) := by
 have h1 := zeG l 166 [U.row [.int .i64 lo] 0, U.row [.int .i64 hi] 0] _ (fun n _ => zrv lo hi n) (by simp) (fun _ => rfl) (fun _ => rfl);simp only [List.map_cons, List.map_nil] at h1;unfold inB
 (refine Fun.of_body Tryz.func98 rfl (by simp) fun Γ hn => ?_); simp only [entry, ziC, ziN, maC, maN, oA, Tryz.ntmps98]
 simp only [ints] at h1 ⊢
 repeat' (first
  | ((first | refine zag ?_ | refine zaj ?_ | refine zah ?_ | fail); simp)
  | (refine zar ?_; simp only [zan])
  | (refine CallP.fE (h1) (by first | rfl | fail) (by first | (simp; done) | (simp; rfl) | fail) ?_; (try simp))
  | fail)
 (refine EndOK.val (.inr rfl) ?_; simp [zaK, zaf, zas, Tryz.results98])
theorem zgi (x l : Let) : Fun Tryz.prog 100 (zpS x :: [U.row (zgG l) 0].map .u) (· = .u (.bool (decide (x.name = l.name)))) := by
 simp only [zpS, zgG, List.map_cons, List.map_nil]
 (refine Fun.of_body Tryz.func100 rfl (by simp) fun Γ hn => ?_); simp only [entry, ziC, ziN, maC, maN, oA, Tryz.ntmps100]
 repeat' (first
  | ((first | refine zag ?_ | refine zaj ?_ | refine zah ?_ | fail); simp)
  | (refine zar ?_; simp only [zan])
  | fail)
 (refine EndOK.val (.inr rfl) ?_; simp [zaK, zaf, zas, Tryz.results100])
structure By where
 kind : Int
 period : Int
 grace : Int
 wait : Int
 last : Int
 order : Int
 sld : Bool
 backs : Int
 voices : Int
 jury : Int
 fund : Int
 lets : List Let
 due : Exp
 fine : Exp
 pay : Exp
 cover : Exp
 hold : Exp
 deriving Inhabited
def zbu (b : By) : List U := [.int .i64 b.kind, .int .i64 b.period, .int .i64 b.grace, .int .i64 b.wait, .int .i64 b.last, .int .i64 b.order, .bool b.sld, .int .i64 b.backs, .int .i64 b.voices, .int .i64 b.jury, .int .i64 b.fund,
 .sl (b.lets.map fun l => [.str l.name, .int .i64 l.body.op, .int .i64 l.body.n, .int .i64 l.body.unit, .str l.body.s, .sl (l.body.args.map Exp.row)]),
 .int .i64 b.due.op, .int .i64 b.due.n, .int .i64 b.due.unit, .str b.due.s, .sl (b.due.args.map Exp.row),
 .int .i64 b.fine.op, .int .i64 b.fine.n, .int .i64 b.fine.unit, .str b.fine.s, .sl (b.fine.args.map Exp.row),
 .int .i64 b.pay.op, .int .i64 b.pay.n, .int .i64 b.pay.unit, .str b.pay.s, .sl (b.pay.args.map Exp.row),
 .int .i64 b.cover.op, .int .i64 b.cover.n, .int .i64 b.cover.unit, .str b.cover.s, .sl (b.cover.args.map Exp.row),
 .int .i64 b.hold.op, .int .i64 b.hold.n, .int .i64 b.hold.unit, .str b.hold.s, .sl (b.hold.args.map Exp.row)]
def zrx (b : By) : Bool := inB 0 2 [b.kind] && inB 0 2 [b.order] && inB 1 1000 [b.period, b.last] && inB 0 1000 [b.grace, b.wait, b.voices, b.fund] && inB 0 60 [b.backs, b.jury]
def zka (seen : List Let) : List Let -> Bool
 | [] => true
 | l :: r => zeA l.name && zbB 12 l.body && !seen.any (fun x => decide (x.name = l.name)) && zka (seen ++ [l]) r
theorem zpM {L : List Let} {i : Nat} {l : Let} (h : L[i]? = some l) : zka (L.take i) (L.drop i) = (zeA l.name && zbB 12 l.body && !(L.take i).any (fun x => decide (x.name = l.name)) && zka (L.take (i + 1)) (L.drop (i + 1))) := by
 obtain ⟨hi, rfl⟩ := lGE.1 h;rw [List.drop_eq_getElem_cons hi, zka, List.take_succ_eq_append_getElem hi]
def zrD (b : By) : Bool := zbB 12 b.due && zbB 12 b.fine && zbB 12 b.pay && zbB 12 b.cover && zbB 12 b.hold
def zdb (b : By) : Bool := zrx b && !(b.sld && decide (b.kind ≠ 1)) && decide (b.lets.length <= 20) && zka [] b.lets && zrD b
set_option maxRecDepth 100000 in
set_option maxHeartbeats 4000000 in
theorem zhg (b : By) : Fun Tryz.prog 40 [.u (.agg (zbu b))] (· = .u (.bool (zdb b))) := by
 have i1 := zkg 0 2 [b.kind];have i2 := zkg 0 2 [b.order];have i3 := zkg 1 1000 [b.period, b.last];have i4 := zkg 0 1000 [b.grace, b.wait, b.voices, b.fund];have i5 := zkg 0 60 [b.backs, b.jury];simp only [ints, List.map_cons, List.map_nil] at i1 i2 i3 i4 i5;have hr : ∀ e : Exp, Fun Tryz.prog 89 [.u (.agg [.int .i64 e.op, .int .i64 e.n, .int .i64 e.unit, .str e.s, .sl (e.args.map Exp.row)])] (· = .u (.bool (zbB 12 e))) := fun e => zeT e;have e1 := hr b.due;have e2 := hr b.fine;have e3 := hr b.pay;have e4 := hr b.cover;have e5 := hr b.hold;unfold zdb zrx zrD;generalize inB 0 2 [b.kind] = c1 at i1 ⊢;generalize inB 0 2 [b.order] = c2 at i2 ⊢;generalize inB 1 1000 [b.period, b.last] = c3 at i3 ⊢;generalize inB 0 1000 [b.grace, b.wait, b.voices, b.fund] = c4 at i4 ⊢;generalize inB 0 60 [b.backs, b.jury] = c5 at i5 ⊢
 (refine Fun.of_body Tryz.func40 rfl (by simp) fun Γ hn => ?_); simp only [entry, ziC, ziN, maC, maN, oA, Tryz.ntmps40]
 simp only [zbu]
 repeat' (first
  | ((first | refine zag ?_ | refine zaj ?_ | refine zah ?_ | refine zai ?_ | refine zaA ?_ | fail); simp)
  | ((first | refine zar ?_ | refine zap ?_ | fail); simp only [zan])
  | (refine ⟨fun hc => ?_, fun hc => ?_⟩ <;> (try (exfalso; omega)))
  | (refine CallP.fE (i1) (by first | rfl | fail) (by first | (simp; done) | (simp; rfl) | fail) ?_; (try simp))
  | (refine CallP.fE (i2) (by first | rfl | fail) (by first | (simp; done) | (simp; rfl) | fail) ?_; (try simp))
  | (refine CallP.fE (i3) (by first | rfl | fail) (by first | (simp; done) | (simp; rfl) | fail) ?_; (try simp))
  | (refine CallP.fE (i4) (by first | rfl | fail) (by first | (simp; done) | (simp; rfl) | fail) ?_; (try simp))
  | (refine CallP.fE (i5) (by first | rfl | fail) (by first | (simp; done) | (simp; rfl) | fail) ?_; (try simp))
  | fail)
 all_goals try ((refine EndOK.val (.inr rfl) ?_; simp [zaK, zaf, zas, Tryz.results40]); clear i1 i2 i3 i4 i5 hr e1 e2 e3 e4 e5; grind)
 all_goals
  refine zb2 (α := { i : Nat // i <= b.lets.length /\ zka [] b.lets = zka (b.lets.take i) (b.lets.drop i) }) [1, 62, 63] (fun i => [(64, .u (.int .i64 i.1))]) (fun i => b.lets.length - i.1) ⟨0, by omega, by simp⟩ ?_ ?_
  ·exact (Wk.cut rfl (by simp [hn, St.lp]) (by simp [wkO, St.lp, zaa, getK, Ob.under, D.under, zad, zae]) (by simp [wkU, St.lp, zal, zaa, getK, D.under]) (by simp [wkE, St.lp, zal, zaa, getK] <;> (try (intros; simp_all; done)) <;> (try (intros; omega)) <;> (try grind)))
  rintro ⟨i, hi, hb⟩;simp [St.lp, St.only, zal, zaa, getK];rcases hx : b.lets[i]? with _ | l
  ·have hge : b.lets.length <= i := by simpa using hx
   have hb' : zka [] b.lets = true := by rw [hb, List.drop_of_length_le hge]; rfl
   generalize zbB 12 b.due = x1 at e1 ⊢;generalize zbB 12 b.fine = x2 at e2 ⊢;generalize zbB 12 b.pay = x3 at e3 ⊢;generalize zbB 12 b.cover = x4 at e4 ⊢;generalize zbB 12 b.hold = x5 at e5 ⊢
   repeat' (first
  | ((first | refine zag ?_ | refine zaj ?_ | fail); simp [hx])
  | (refine ⟨by omega, ?_⟩)
  | (refine zah ?_; simp [hx])
  | (refine zar ?_; simp only [zan])
  | (refine zaZ ?_; simp [zan])
  | (refine ⟨fun hc => ?_, fun hc => ?_⟩ <;> (try (exfalso; omega)))
  | (intro hc <;> (try (exfalso; omega)))
  | (refine CallP.fE (e1) (by first | rfl | fail) (by first | simp [hx] <;> rfl | fail) ?_; (try simp [hx]))
  | (refine CallP.fE (e2) (by first | rfl | fail) (by first | simp [hx] <;> rfl | fail) ?_; (try simp [hx]))
  | (refine CallP.fE (e3) (by first | rfl | fail) (by first | simp [hx] <;> rfl | fail) ?_; (try simp [hx]))
  | (refine CallP.fE (e4) (by first | rfl | fail) (by first | simp [hx] <;> rfl | fail) ?_; (try simp [hx]))
  | (refine CallP.fE (e5) (by first | rfl | fail) (by first | simp [hx] <;> rfl | fail) ?_; (try simp [hx]))
  | fail)
   all_goals
    (refine EndOK.val (.inr rfl) ?_; simp [zaK, zaf, zas, Tryz.results40])
   all_goals
    clear i1 i2 i3 i4 i5 hr e1 e2 e3 e4 e5
    grind
  ·have hlt : i < b.lets.length := (lGE.1 hx).1;have hnx := zpM hx;have e6 := zgX l.name;have e7 := hr l.body;have e8 := zeF (b.lets.take i) 100 [U.row (zgG l) 0] _ (fun x _ => zgi x l) (by simp) (fun _ => rfl) (fun _ => rfl);simp only [ze0, zgG, List.map_cons, List.map_nil] at e8;generalize zeA l.name = y1 at e6 hnx;generalize zbB 12 l.body = y2 at e7 hnx;generalize ((b.lets.take i).any fun x => decide (x.name = l.name)) = y3 at e8 hnx
   repeat' (first
  | ((first | refine zag ?_ | refine zaj ?_ | fail); simp [hx])
  | (refine ⟨by omega, ?_⟩)
  | ((first | refine zah ?_ | refine zai ?_ | refine zaq ?_ | fail); simp [hx])
  | ((first | refine zar ?_ | refine zap ?_ | fail); simp only [zan])
  | (refine ⟨?_, by omega⟩)
  | (refine ⟨fun hc => ?_, fun hc => ?_⟩ <;> (try (exfalso; omega)))
  | (intro hc <;> (try (exfalso; omega)))
  | (refine CallP.fE (e6) (by first | rfl | fail) (by first | simp [hx] <;> rfl | fail) ?_; (try simp [hx]))
  | (refine CallP.fE (e7) (by first | rfl | fail) (by first | simp [hx] <;> rfl | fail) ?_; (try simp [hx]))
  | (refine CallP.fE (e8) (by first | rfl | fail) (by first | simp [hx] <;> rfl | fail) ?_; (try simp [hx]))
  | fail)
   all_goals first
    | (refine LoopW.next ⟨i + 1, by omega, by simp_all⟩ (by simp; omega) ?_; exact (Wk.cut rfl (by simp [hn, St.lp]) (by simp [wkO, St.lp, zaa, getK, Ob.under, D.under, zad, zae]) (by simp [wkU, St.lp, zal, zaa, getK, D.under]) (by simp [wkE, St.lp, zal, zaa, getK] <;> (try (intros; simp_all; done)) <;> (try (intros; omega)) <;> (try grind))))
    | ((refine EndOK.val (.inr rfl) ?_; simp [zaK, zaf, zas, Tryz.results40]); clear i1 i2 i3 i4 i5 hr e1 e2 e3 e4 e5 e6 e7 e8; grind)
end Go.Proofs.YtepiegcjnaohjaaGreatDoor
namespace Go.Proofs.YtepiegcjnaohjaaGreatDoor.Df
open Go Go.VL
end Go.Proofs.YtepiegcjnaohjaaGreatDoor.Df
namespace Go.Proofs.YtepiegcjnaohjaaGreatDoor.Df
open Go Go.VL
end Go.Proofs.YtepiegcjnaohjaaGreatDoor.Df
namespace Go.Proofs.YtepiegcjnaohjaaGreatDoor
open Go Go.VL
open Df in
structure Lw where
 mark : Int
 base : Int
 text : List UInt8
def zdT (l : List Lw) : U := .sl (l.map fun x => [.int .i64 x.mark, .int .i64 x.base, .str x.text])
def iN (l : List Nat) : List Int := l.map (fun n : Nat => (n : Int))
def effS (s : List Nat × List Nat × Int × Nat) (x : Lw) : List Nat × List Nat × Int × Nat := if x.base = s.2.2.1 then (s.1 ++ [s.2.2.2], s.2.1, x.mark, s.2.2.2 + 1) else (s.1, s.2.1 ++ [s.2.2.2], s.2.2.1, s.2.2.2 + 1)
def eff (f : Int) (l : List Lw) : List Nat × List Nat × Int × Nat := l.foldl effS ([], [], f, 0)
theorem zi2 {α : Type} {p : List α -> Prop} (h0 : p []) (hs : ∀ l x, p l -> p (l ++ [x])) (l : List α) : p l := by
 have : ∀ r : List α, p r.reverse := fun r => by
  induction r with
  | nil => exact h0
  | cons a r ih => rw [List.reverse_cons]; exact hs _ _ ih
 rw [<- List.reverse_reverse l];exact this _
theorem zjl (f : Int) (l : List Lw) (x : Lw) : eff f (l ++ [x]) = effS (eff f l) x := by simp [eff]
theorem zqb {l : List Lw} {i : Nat} {x : Lw} (h : l[i]? = some x) (f : Int) : eff f (l.take (i + 1)) = effS (eff f (l.take i)) x := by
 obtain ⟨hi, rfl⟩ := lGE.1 h;rw [List.take_succ_eq_append_getElem hi, zjl]
theorem ze8 (f : Int) : ∀ l : List Lw, (eff f l).2.2.2 = l.length /\ (eff f l).1.length + (eff f l).2.1.length = l.length /\ (∀ n ∈ (eff f l).1, n < l.length) /\ (∀ n ∈ (eff f l).2.1, n < l.length) /\ (eff f l).2.2.1 = (match (eff f l).1.getLast? with | none => f | some n => ((l[n]?).map (·.mark)).getD 0) := by
 refine zi2 (by simp [eff]) ?_
 ·intro l x ih;obtain ⟨h1, h2, h3, h4, h5⟩ := ih;rw [zjl, effS];split
  ·refine ⟨by simp [h1], by simp; omega, fun n hn => ?_, fun n hn => ?_, ?_⟩
   ·rcases List.mem_append.1 hn with h | h
    ·have := h3 n h; simp; omega
    ·simp at h; subst h; simp [h1]
   ·have := h4 n hn; simp; omega
   ·simp [h1]
  ·refine ⟨by simp [h1], by simp; omega, fun n hn => ?_, fun n hn => ?_, ?_⟩
   ·have := h3 n hn; simp; omega
   ·rcases List.mem_append.1 hn with h | h
    ·have := h4 n h; simp; omega
    ·simp at h; subst h; simp [h1]
   ·show (eff f l).2.2.1 = _;rw [h5];cases hg : (eff f l).1.getLast? with
    | none => rfl
    | some n =>
     have := h3 n (List.mem_of_getLast? hg);simp only;rw [List.getElem?_append_left this]
def zem (f : Int) (l : List Lw) : Int := (eff f l).2.2.1
def zsB (f : Int) (l : List Lw) : List Int := (eff f l).1.map fun n => ((l[n]?).map (·.mark)).getD 0
def zoV (f : Int) (l : List Lw) : List Int := f :: zsB f l
def zeR (first : List UInt8) (f : Int) (l : List Lw) : List UInt8 := match (eff f l).1.getLast? with | none => first | some n => ((l[n]?).map (·.text)).getD []
def zmf (f : Int) (l : List Lw) : List Int := iN (eff f l).2.1
theorem zoA (l : List Nat) (n : Nat) : iN (l ++ [n]) = iN l ++ [(n : Int)] := by simp [iN]
theorem zeL (l : List Nat) : (iN l).length = l.length := by simp [iN]
theorem zhw (l : List Int) (n : Int) : zbs l ++ [[.u (.int .i64 n)]] = zbs (l ++ [n]) := by simp [zbs]
theorem zpZ (S : D -> Option U) (l : List Int) : (zbs l).map (fun r => r.map (frzS S)) = zbs l := by simp [zbs, frzS]
end Go.Proofs.YtepiegcjnaohjaaGreatDoor
namespace Go.Proofs.YtepiegcjnaohjaaGreatDoor.Df
open Go Go.VL
theorem zjL (l : List Int) : (zft l).Pairwise (· <= ·) := by
 have := List.pairwise_mergeSort (le := fun (x y : Int) => decide (x <= y)) (fun a b c h1 h2 => by simp at *; omega) (fun a b => by simp; omega) l;simpa [zft] using this
theorem zmj (l : List Int) : (zft l).Perm l := List.mergeSort_perm l _
theorem zll (zs : List Int) (x : Int) : x ∈ Lib.compact zs ↔ x ∈ zs := by
 unfold Lib.compact Lib.compactUpTo;simp only [List.mem_map, List.mem_filter, List.mem_range];constructor
 ·rintro ⟨j, ⟨hj, _⟩, rfl⟩;simp [hj]
 ·intro h;obtain ⟨k, hk⟩ := List.getElem?_of_mem h;have hkl := (lGE.1 hk).1;obtain ⟨j, h1, h2, h3, h4⟩ := zlY (P := fun j => zs[j - 1]? = some x) (k := k + 1) (by omega) (by simpa using hk);have hjl := (lGE.1 h3).1;refine ⟨j - 1, ⟨hjl, ?_⟩, ?_⟩
  ·simp only [Lib.keeps, decide_eq_true_eq];by_cases h0 : j - 1 = 0
   ·exact .inl h0
   ·right;have h5 := h4 (j - 1) (by omega) (by omega);intro e;apply h5;have e2 : zs[j - 1 - 1]? = zs[j - 1]? := by
     rw [List.getElem?_eq_getElem (by omega), List.getElem?_eq_getElem hjl]
     congr 1
     simpa [hjl, show j - 1 - 1 < zs.length by omega] using e.symm
    rw [e2, h3]
  ·have := (lGE.1 h3).2;simp [hjl, this]
theorem zm7 {zs : List Int} (hs : zs.Pairwise (· <= ·)) : (Lib.compact zs).Pairwise (· < ·) := by
 unfold Lib.compact Lib.compactUpTo;rw [List.pairwise_map];refine List.Pairwise.imp_of_mem (fun {i j} hi hj hij => ?_) (List.Pairwise.filter _ List.pairwise_lt_range);have hj1 := List.mem_range.1 (List.mem_filter.1 hj).1;have hj2 := (List.mem_filter.1 hj).2;simp only [Lib.keeps, decide_eq_true_eq] at hj2;have hil : i < zs.length := by omega
 have hne : zs[j] ≠ zs[j - 1] := by
  rcases hj2 with h | h
  ·omega
  ·simpa [hj1, show j - 1 < zs.length by omega] using h
 have h1 : zs[j - 1] <= zs[j] := List.pairwise_iff_getElem.1 hs (j - 1) j (by omega) hj1 (by omega);have h2 : zs[i] <= zs[j - 1] := by
  rcases Nat.lt_or_ge i (j - 1) with h | h
  ·exact List.pairwise_iff_getElem.1 hs i (j - 1) (by omega) (by omega) h
  ·obtain rfl : i = j - 1 := by omega
   exact Int.le_refl _
 simp [hj1, hil];omega
def zgM (nx : List Int) : List Int := Lib.compact (zft nx)
theorem zee (nx : List Int) (x : Int) : x ∈ zgM nx ↔ x ∈ nx := by rw [zgM, zll]; exact (zmj nx).mem_iff
theorem zj6 {n : Nat} (nx : List Int) (h : ∀ x ∈ nx, 0 <= x /\ x < (n : Int)) : (zgM nx).length <= n := by
 have h1 : ((zgM nx).map Int.toNat).Nodup := by
  rw [List.Nodup, List.pairwise_map];refine List.Pairwise.imp_of_mem (fun {a b} ha hb hab e => ?_) (zm7 (zjL nx));have := h a ((zee nx a).1 ha);have := h b ((zee nx b).1 hb);omega
 have h2 := zlM (n := n) h1 fun x hx => by
  obtain ⟨y, hy, rfl⟩ := List.mem_map.1 hx;have := h y ((zee nx y).1 hy);omega
 simpa using h2
theorem PM.take {n : Nat} {l : List Con} {bg r all rest t st L} {v : Nat} {es : List Nat} (hl : OkC n l) (hv : (v : Int) ∈ all) (hm : ∀ i ∈ es, i ∈ zcL l v) (h : PM n l bg r all rest v es t st L) : ∀ q, q <= es.length -> ∃ L', PM n l bg r all rest v (es.drop q) (t + q) ((es.take q).foldl (zmr l) st) L'
 | 0, _ => ⟨L, by simpa using h⟩
 | q + 1, hq => by
  obtain ⟨L1, h1⟩ := PM.take hl hv hm h q (by omega);have hx : es[q]? = some es[q] := List.getElem?_eq_getElem (by omega);obtain ⟨c, h2, h3⟩ := zfW.1 (hm es[q] (List.getElem_mem _));rw [List.drop_eq_getElem_cons (by omega)] at h1;obtain ⟨L2, h4⟩ := h1.step hl h2 hv h3;refine ⟨L2, ?_⟩;rw [zdL hx, List.foldl_append];exact h4
theorem PI.take {n : Nat} {l : List Con} {bg r todo t g L} (hl : OkC n l) (h : PI n l bg r todo t g L) : ∀ p, p <= todo.length -> ∃ L' u, PM n l bg r todo (todo.drop p) u [] (t + p * l.length) ((todo.take p).foldl (zif l) (g, [])) L'
 | 0, _ => ⟨L, 0, by simpa using h.start⟩
 | p + 1, hp => by
  obtain ⟨L1, u, h1⟩ := PI.take hl h p (by omega);have hx : todo[p]? = some todo[p] := List.getElem?_eq_getElem (by omega);rw [List.drop_eq_getElem_cons (by omega)] at h1;obtain ⟨L2, h2⟩ := h1.visit hl (List.getElem_mem _);refine ⟨L2, todo[p].toNat, ?_⟩;rw [zdL hx, List.foldl_append, Nat.succ_mul, <- nAA];exact h2
def zqU (l : List Con) (m : Nat) (g : GS) : List (Nat × Ob) := [(5, .box [.u (consU l), .u (.sl ((List.range m).map fun v => [ints (zgN (zcL l v))])), .vec 1 m, .vec 3 m, .vec 4 m]), (1, .vec 3 1 (zbs (lst m g.val))), (3, .vec 3 1 (zbs (lst m (zhY (-1) g)))), (4, .vec 4 1 (zdq (bst m g.kn)))]
end Go.Proofs.YtepiegcjnaohjaaGreatDoor.Df
namespace Go.Proofs.YtepiegcjnaohjaaGreatDoor
open Go Go.VL
theorem zmp {lets : List Let} {e : Exp} (h : zgU lets e = true) : lets.length <= 20 /\ zbB 12 e = true /\ ∀ l ∈ lets, zbB 12 l.body = true := by
 simp only [zgU, Bool.and_eq_true, decide_eq_true_eq, Bool.not_eq_true', List.any_eq_false, Bool.not_eq_true] at h;exact ⟨h.1.1, h.1.2, fun l hl => by have := h.2 l hl; simpa using this⟩
abbrev Tab := List (Int × Int × Bool)
abbrev TM := Tab -> Except Int Int × Tab
def TM.bind (f : TM) (g : Int -> TM) : TM := fun t => match f t with | (.ok v, t') => g v t' | (.error e, t') => (.error e, t')
def TM.ret (x : Except Int Int) : TM := fun t => (x, t)
theorem TM.bind_ok {f : TM} {g : Int -> TM} {t t' : Tab} {v : Int} (h : f t = (.ok v, t')) : f.bind g t = g v t' := by unfold TM.bind; rw [h]
def inC (v : Int) : Prop := -1099511627776 <= v /\ v <= 1099511627776
structure TabOK (L : Nat) (t : Tab) : Prop where
 len : t.length = L
 small : ∀ (i : Nat) (v e : Int) (d : Bool), t[i]? = some (v, e, d) -> inC v
def TMok (L : Nat) (f : TM) : Prop := ∀ t, TabOK L t -> TabOK L (f t).2 /\ (∀ v, (f t).1 = .ok v -> inC v) /\ (∀ e, (f t).1 = .error e -> e ≠ 0)
theorem TMok.bind {L f g} (hf : TMok L f) (hg : ∀ a, inC a -> TMok L (g a)) : TMok L (TM.bind f g) := fun t ht => by
 obtain ⟨h1, h2, h3⟩ := hf t ht;unfold TM.bind;rcases hft : f t with ⟨r | v, t'⟩
 ·rw [hft] at h1 h3;refine ⟨h1, ?_, ?_⟩
  ·intro v h; cases h
  ·intro e h; exact h3 e h
 ·rw [hft] at h1 h2;exact hg v (h2 v rfl) t' h1
theorem TMok.ret {L} {x : Except Int Int} (h : ∀ v, x = .ok v -> inC v) (he : ∀ e, x = .error e -> e ≠ 0) : TMok L (TM.ret x) := fun t ht => ⟨ht, h, he⟩
theorem TMok.ok {L} {v : Int} (h : inC v) : TMok L (TM.ret (.ok v)) := .ret (fun w hw => by cases hw; exact h) (fun e he => by cases he)
end Go.Proofs.YtepiegcjnaohjaaGreatDoor
namespace Go.Proofs.YtepiegcjnaohjaaGreatDoor
open Go Go.VL
structure Tok where
 kind : Int
 text : List UInt8
 n : Int
 pos : Int
 deriving DecidableEq, Inhabited
def Tok.row (t : Tok) : List U := [.int .i64 t.kind, .str t.text, .int .i64 t.n, .int .i64 t.pos]
def zcr (c : UInt8) : Bool := decide (c.toNat = 32) || decide (c.toNat = 9) || decide (c.toNat = 10)
def zdp (c : UInt8) : Bool := zdv c || zbC c
def zbz (s : List UInt8) : Int := s.foldl (fun n c => 10 * n + ((c.toNat : Int) - 48)) 0
def zgl (s : List UInt8) : Option Int :=
 if s = [] \/ zcT zbC s ≠ s.length \/ (s.head? = some 48 /\ s ≠ [48]) \/ 13 < s.length then none else if 1099511627776 < zbz s then none else some (zbz s)
theorem ze9 (s : List UInt8) (c : UInt8) : zbz (s ++ [c]) = 10 * zbz s + ((c.toNat : Int) - 48) := by simp [zbz]
theorem zf5 : ∀ (n : Nat) (s : List UInt8), s.length = n -> (∀ c ∈ s, zbC c = true) -> 0 <= zbz s /\ zbz s < 10 ^ n
 | 0, s, h, _ => by have := List.eq_nil_of_length_eq_zero h; subst this; simp [zbz]
 | n + 1, s, h, hd => by
  have hne : s ≠ [] := fun e => by rw [e] at h; simp at h
  obtain ⟨t, c, rfl⟩ : ∃ t c, s = t ++ [c] := ⟨s.dropLast, s.getLast hne, (List.dropLast_concat_getLast hne).symm⟩;have h1 := zf5 n t (by simpa using h) (fun x hx => hd x (by simp [hx]));have h2 := hd c (by simp);simp only [zbC, Bool.and_eq_true, decide_eq_true_eq] at h2;rw [ze9];have : (10 : Int) ^ (n + 1) = 10 * 10 ^ n := by rw [Int.pow_succ]; omega
  omega
end Go.Proofs.YtepiegcjnaohjaaGreatDoor
namespace Go.Proofs.YtepiegcjnaohjaaGreatDoor
open Go Go.VL
def signsL : List (List UInt8) := [[61, 61], [59], [44], [61], [60], [43], [45], [42], [47], [40], [41]]
def zh0 (s : List UInt8) : Except Int Tok := match s with
 | [] => .error 0
 | c :: r => if zdv c = true then
   if zjy ((c :: r).take (zcT zdp (c :: r))) = true then .ok ⟨1, (c :: r).take (zcT zdp (c :: r)), 0, 0⟩ else .error 13
  else if zbC c = true then
   match zgl ((c :: r).take (zcT zbC (c :: r))) with | some n => .ok ⟨2, (c :: r).take (zcT zbC (c :: r)), n, 0⟩ | none => .error 3
  else match signsL.find? fun x => x.isPrefixOf (c :: r) with | some x => .ok ⟨3, x, 0, 0⟩ | none => .error 11
def nextD (s : List UInt8) : D := match zh0 s with | .ok t => .tup [.u (.agg [.int .i64 t.kind, .str t.text, .int .i64 t.n, .int .i64 t.pos]), .u (.int .i64 0)] | .error e => .tup [.u (.agg [.int .i64 0, .str [], .int .i64 0, .int .i64 0]), .u (.int .i64 e)]
end Go.Proofs.YtepiegcjnaohjaaGreatDoor
namespace Go.Proofs.YtepiegcjnaohjaaGreatDoor
open Go Go.VL
def zcX (f : Int) : List Lw -> List Lw
 | [] => []
 | x :: l => if x.base = f then x :: zcX x.mark l else zcX f l
def zdF (f : Int) (l : List Lw) : Int := (zcX f l).foldl (fun _ x => x.mark) f
theorem zsi (f : Int) : ∀ l : List Lw, l.foldl (fun _ x => x.mark) f = (match l.getLast? with | none => f | some x => x.mark) := fun l => by
 refine zi2 (p := fun l => l.foldl (fun _ x => x.mark) f = (match l.getLast? with | none => f | some x => x.mark)) rfl ?_ l;intro l x _;simp
theorem zhA (f : Int) (a b : List Lw) : zcX f (a ++ b) = zcX f a ++ zcX (zdF f a) b := by
 induction a generalizing f with
 | nil => simp [zcX, zdF]
 | cons x a ih =>
  rw [List.cons_append, zcX, zcX];by_cases h : x.base = f
  ·rw [if_pos h, if_pos h, ih, List.cons_append, zdF, zdF, zcX, if_pos h, List.foldl_cons]
  ·rw [if_neg h, if_neg h, ih, zdF, zdF, zcX, if_neg h]
theorem zkd (f : Int) (a b : List Lw) : zdF f (a ++ b) = zdF (zdF f a) b := by
 rw [zdF, zhA, List.foldl_append]; rfl
theorem zmZ (f : Int) (l : List Lw) (x : Lw) : zcX f (l ++ [x]) = if x.base = zdF f l then zcX f l ++ [x] else zcX f l := by
 rw [zhA, zcX];split
 ·rw [zcX]
 ·rw [zcX, List.append_nil]
theorem zl2 (f : Int) : ∀ l : List Lw, (eff f l).1.map (fun n => l[n]?) = (zcX f l).map some /\ (eff f l).2.2.1 = zdF f l := by
 refine zi2 (by simp [eff, zcX, zdF]) ?_;intro l x ⟨h1, h2⟩;obtain ⟨f1, _, f3, _, _⟩ := ze8 f l;have hc : (eff f l).1.map (fun n => (l ++ [x])[n]?) = (zcX f l).map some := by
  rw [<- h1];exact List.map_congr_left fun n hn => by rw [List.getElem?_append_left (f3 n hn)]
 rw [zjl, effS, zmZ, zkd, h2];by_cases h : x.base = zdF f l
 ·rw [if_pos h, if_pos h];refine ⟨?_, by simp [zdF, zcX, h]⟩;rw [List.map_append, hc, List.map_append];simp [f1]
 ·rw [if_neg h, if_neg h];refine ⟨hc, ?_⟩;have e : zdF (zdF f l) [x] = zdF f l := by rw [zdF, zcX, if_neg h]; rfl
  rw [e]
theorem zhD (f : Int) (l : List Lw) : zem f l = zdF f l := (zl2 f l).2
theorem zgT (first : List UInt8) (f : Int) (l : List Lw) : zeR first f l = (match (zcX f l).getLast? with | none => first | some x => x.text) := by
 have h := congrArg List.getLast? (zl2 f l).1;rw [List.getLast?_map, List.getLast?_map] at h;unfold zeR;cases hg : (eff f l).1.getLast? with
 | none =>
  rw [hg] at h;cases hk : (zcX f l).getLast? with
  | none => rfl
  | some x => rw [hk] at h; cases h
 | some n =>
  rw [hg] at h;cases hk : (zcX f l).getLast? with
  | none => rw [hk] at h; cases h
  | some x => rw [hk] at h; simp only [Option.map_some, Option.some.injEq] at h; simp [h]
theorem zmn (s : List UInt8) (f : Int) (a b : List Lw) : zeR s f (a ++ b) = zeR (zeR s f a) (zem f a) b := by
 rw [zgT, zgT s, zgT (match (zcX f a).getLast? with | none => s | some x => x.text), zhD, zhA];cases hg : (zcX (zdF f a) b).getLast? with
 | none =>
  have : zcX (zdF f a) b = [] := List.getLast?_eq_none_iff.1 hg;rw [this, List.append_nil]
 | some x => rw [List.getLast?_append, hg]; rfl
end Go.Proofs.YtepiegcjnaohjaaGreatDoor
namespace Go.Proofs.YtepiegcjnaohjaaGreatDoor
open Go Go.VL
structure Vo where
 mark : Int
 who : Int
 yes : Bool
 day : Int
def voU (l : List Vo) : U := .sl (l.map fun v => [.int .i64 v.mark, .int .i64 v.who, .bool v.yes, .int .i64 v.day])
def voR (l : List Vo) : List (List D) := l.map fun v => [.u (.int .i64 v.mark), .u (.int .i64 v.who), .u (.bool v.yes), .u (.int .i64 v.day)]
theorem zaL (l : List Vo) : (voR l).length = l.length := by simp [voR]
theorem zlB (l : List Vo) : rowsD (l.map fun v => [U.int .i64 v.mark, .int .i64 v.who, .bool v.yes, .int .i64 v.day]) = voR l := by simp [rowsD, voR, Function.comp_def]
theorem zaQ (l : List Vo) : zcg (voR l) = some (l.map fun v => [U.int .i64 v.mark, .int .i64 v.who, .bool v.yes, .int .i64 v.day]) := by rw [<- zlB]; simp
theorem zcq (l) : zaX (voR l) = True := by rw [<- zlB]; simp
theorem zbX (n : Nat) (l) : (∀ x ∈ voR l, ∀ y ∈ x, D.under n y = true) ↔ True := by
 refine ⟨fun _ => trivial, fun _ x hx y hy => ?_⟩;obtain ⟨b, _, rfl⟩ := List.mem_map.1 hx;simp at hy;rcases hy with rfl | rfl | rfl | rfl <;> simp [D.under]
theorem zlC (l : List Vo) : zh2 4 (voR l) := fun r hr => by obtain ⟨t, _, rfl⟩ := List.mem_map.1 hr; rfl
theorem zlA (l : List Vo) (v : Vo) : voR l ++ [[.u (.int .i64 v.mark), .u (.int .i64 v.who), .u (.bool v.yes), .u (.int .i64 v.day)]] = voR (l ++ [v]) := by simp [voR]
theorem zrd (S : D -> Option U) (l : List Vo) : (voR l).map (fun r => r.map (frzS S)) = voR l := by simp [voR, frzS]
def zdw (l : List Int) : Bool := decide (l ≠ []) && decide (l.length <= 60) && decide l.Nodup && l.all fun x => decide (0 <= x) && decide (x < 200)
theorem zkQ {l : List Int} (h0 : l ≠ []) (h1 : l.length <= 60) (h2 : l.Nodup) (h3 : ∀ y ∈ l, 0 <= y /\ y < 200) : zdw l = true := by
 simp only [zdw, Bool.and_eq_true, decide_eq_true_eq, List.all_eq_true];exact ⟨⟨⟨h0, h1⟩, h2⟩, h3⟩
theorem zgd {l : List Int} (h : zdw l = true) : l ≠ [] /\ l.length <= 60 /\ l.Nodup /\ ∀ y ∈ l, 0 <= y /\ y < 200 := by
 simp only [zdw, Bool.and_eq_true, decide_eq_true_eq, List.all_eq_true] at h;exact ⟨h.1.1.1, h.1.1.2, h.1.2, h.2⟩
theorem zig {l : List Int} {i : Nat} {x : Int} (hx : l[i]? = some x) (h : (x < 0 \/ 200 <= x) \/ x ∈ l.take i) : zdw l = false := by
 cases hv : zdw l with
 | false => rfl
 | true =>
  obtain ⟨_, _, h2, h3⟩ := zgd hv;exfalso;rcases h with h | h
  ·have := h3 x (List.mem_of_getElem? hx); omega
  ·obtain ⟨hi, rfl⟩ := lGE.1 hx;have e := List.take_append_drop i l;rw [<- e, List.nodup_append] at h2;exact h2.2.2 _ h _ (List.mem_iff_getElem?.2 ⟨0, by rw [List.getElem?_drop]; exact List.getElem?_eq_getElem hi⟩) rfl
def zsA (l : List Int) (x : Int) : Int := match l.findIdx? (· = x) with | none => -1 | some i => i
theorem zkn {l : List Int} {x : Int} (h : x ∉ l) : l.findIdx? (· = x) = none := by
 rw [List.findIdx?_eq_none_iff]; intro y hy; simp; intro e; exact h (e ▸ hy)
theorem zp8 {l : List Int} {x : Int} {i : Nat} (hx : l[i]? = some x) (h : x ∉ l.take i) : l.findIdx? (· = x) = some i := by
 rw [List.findIdx?_eq_some_iff_getElem];obtain ⟨hi, e⟩ := lGE.1 hx;refine ⟨hi, by simp [e], fun j hj => ?_⟩;simp;intro e2;exact h (List.mem_iff_getElem?.2 ⟨j, by rw [List.getElem?_take_of_lt hj, List.getElem?_eq_getElem (by omega), e2]⟩)
def cnt (members : List Int) (until_ : Int) : List Int -> List Vo -> List Vo
 | _, [] => []
 | seen, v :: r => if until_ < v.day \/ v.who ∈ seen \/ v.who ∉ members then cnt members until_ seen r else v :: cnt members until_ (seen ++ [v.who]) r
def zf6 (members : List Int) (until_ : Int) (l : List Vo) : List Vo := if zdw members = true then cnt members until_ [] l else []
theorem zln (members : List Int) (u : Int) : ∀ (a b : List Vo) (seen : List Int), cnt members u seen (a ++ b) = cnt members u seen a ++ cnt members u (seen ++ (cnt members u seen a).map (·.who)) b
 | [], b, seen => by simp [cnt]
 | v :: a, b, seen => by
  rw [List.cons_append, cnt, cnt];split
  ·exact zln members u a b seen
  ·rw [zln members u a b]; simp
def zhX (l : List Int) : List (Key × List U) := l.map fun g => (Key.i .i64 g, [U.bool true])
theorem ziw (g : Int) : ∀ l : List Int, zb8 (zhX l) (.i .i64 g) = if g ∈ l then some [U.bool true] else none
 | [] => rfl
 | a :: l => by
  have := ziw g l;simp only [zhX] at this;simp only [zhX, List.map_cons, zb8, this, List.mem_cons, Key.i.injEq, true_and];by_cases h : g = a <;> simp [h]
theorem znr {g : Int} {l : List Int} (h : g ∉ l) : zdm (zhX l) (.i .i64 g) [U.bool true] = zhX (l ++ [g]) := by
 rw [zfO]
 ·simp [zhX]
 ·intro p hp;obtain ⟨a, ha, rfl⟩ := List.mem_map.1 hp;intro e;simp at e;exact h (e ▸ ha)
def zic (l : List Vo) : Nat := (l.filter (·.yes)).length
def znE (members need : Int) (l : List Vo) : Int := if need <= zic l then 1 else if members - need < (l.length : Int) - zic l then 2 else 0
end Go.Proofs.YtepiegcjnaohjaaGreatDoor
namespace Go.Proofs.YtepiegcjnaohjaaGreatDoor
open Go Go.VL
theorem zqg {members : List Int} {u : Int} {l : List Vo} {i : Nat} {v : Vo} (h : l[i]? = some v) : cnt members u [] (l.take (i + 1)) = cnt members u [] (l.take i) ++ (if u < v.day \/ v.who ∈ (cnt members u [] (l.take i)).map (·.who) \/ v.who ∉ members then [] else [v]) := by
 obtain ⟨hi, rfl⟩ := lGE.1 h;rw [List.take_succ_eq_append_getElem hi, zln, List.nil_append]
 congr 1
theorem zjt (members : List Int) (u : Int) : ∀ (l : List Vo) (seen : List Int), (cnt members u seen l).length <= l.length
 | [], _ => by simp [cnt]
 | v :: l, seen => by
  rw [cnt];split
  ·have := zjt members u l seen; simp; omega
  ·have := zjt members u l (seen ++ [v.who]); simp; omega
theorem zoO (members : List Int) (u : Int) (l : List Vo) : (zf6 members u l).length <= l.length := by
 unfold zf6; split
 ·exact zjt _ _ _ _
 ·simp
theorem zpn {l : List Vo} {i : Nat} {v : Vo} (h : l[i]? = some v) : zic (l.take (i + 1)) = zic (l.take i) + (if v.yes = true then 1 else 0) := by
 obtain ⟨hi, rfl⟩ := lGE.1 h;rw [List.take_succ_eq_append_getElem hi, zic, zic, List.filter_append, List.length_append];split <;> simp_all
theorem zqS (l : List Vo) : zic l <= l.length := List.length_filter_le _ _
end Go.Proofs.YtepiegcjnaohjaaGreatDoor
namespace Go.Proofs.YtepiegcjnaohjaaGreatDoor
open Go Go.VL Go.ChangeShapes Go.WideShapes Go.ChangeAt Go.RowKit
theorem Tryz.own : ownKnob Tryz.prog.godebug = none := by kernel_rfl
theorem Tryz.zrW : laidOutB Tryz.prog = true := by kernel_rfl
theorem Tryz.zwz : zik Tryz.prog = true := by kernel_rfl
theorem zsp {u : U} (h : ArgU Tryz.prog 9 u) : ∃ n, u = .str n := by
 obtain ⟨n, h1, _⟩ := (h.one (by simp) (by simp)).of_str (by simp);exact ⟨n, by simpa using h1⟩
end Go.Proofs.YtepiegcjnaohjaaGreatDoor
namespace Go.Proofs.YtepiegcjnaohjaaGreatDoor
open Go Go.VL
theorem zsx {r : List U} (h : HasRow Tryz.prog 39 r) : ∃ c : Lw, r = [.int .i64 c.mark, .int .i64 c.base, .str c.text] /\ True := by
 obtain ⟨rs, hr, h⟩ := h.of_struct zuP
 match rs, h with
 | [a1, a2, a3], h =>
  obtain ⟨h1, h2, h3, _⟩ := h;obtain ⟨x1, rfl, _⟩ := h1.of_int io3;obtain ⟨x2, rfl, _⟩ := h2.of_int io3;obtain ⟨x3, rfl, _⟩ := h3.of_str (by simp);exact ⟨⟨x1, x2, x3⟩, hr, trivial⟩
theorem zrs {u : U} (h : ArgU Tryz.prog 22 u) : ∃ l : List Lw, u = zdT l := by
 obtain ⟨rows, h1, _, h2⟩ := (h.one (by simp) (by simp)).of_slice zvc;obtain ⟨l, rfl, _⟩ := rows_list (fun x : Lw => [.int .i64 x.mark, .int .i64 x.base, .str x.text]) (fun _ => True) (rows := rows) fun r hr => zsx (h2 r hr);exact ⟨l, by simpa [zdT] using h1⟩
end Go.Proofs.YtepiegcjnaohjaaGreatDoor
namespace Go.Proofs.YtepiegcjnaohjaaGreatDoor.Df
open Go Go.VL
attribute [local simp] zdf zcf evPure opd uOf zaI St.put St.at getK binD binI binS binB nilD aggD zgQ zhI lookD lookR zcE Go.VL.nextD zcI zhV zhU zfX zb8 mkV zbo zbh zbf zbe zda zbb zbx zbJ mapEff zdm zfI Key.kk shiftI arith unD convD zdP loadD cellsAt fieldAddrD fieldD indexAddrD indexD sliceD cutD lenD minmaxD nilCheckD buildD fillD zb3 zdi zeX setAll zc1 zeI zcD zg3 zcy St.add zaO zbU rowsOf zdJ zcJ zam zac zaa zbm zcS zaN entry zbH zbL valD zcb zcp zgK zdr zds zcc zbN zaz za1 zbn delAll effD St.effS zc7 zbi za3 zc8 zbj za5 zcn za4 zaT zco zc4 zbM zcl zbw zcj zck zaY mkD zbq zbG zb0 zaz zcC D.ids Op.operands Call.operands zby makeIfD makeFuncD typeAssertD zhG zdG zdH zhb zcG IntKind.bits zcg zaS List.take_of_length_le List.range_succ
attribute [local irreducible] V G H HD HD2 zan Eff CallP CallV EndOK Fun Ret FinOK LoopI LoopW EndW
theorem rsame_fun (a b : List Int) (hl : a.length <= 1000000) : Fun Tryz.prog 16 [.u (ints a), .u (ints b)] (· = .u (.bool (decide (a = b)))) := by
 simp only [ints];by_cases hab : a.length = b.length
 ·(refine Fun.of_body Tryz.func16 rfl (by simp) fun Γ hn => ?_); simp only [entry, ziC, ziN, maC, maN, oA, Tryz.ntmps16]
  repeat' (first
  | ((first | refine zag ?_ | refine zaj ?_ | refine zah ?_ | refine zai ?_ | refine zaA ?_ | fail); simp [hab])
  | (refine zap ?_; simp only [zan])
  | fail)
  refine zb2 (α := { i : Nat // i <= a.length /\ a.take i = b.take i }) [0, 1] (fun i => [(5, .u (.int .i64 i.1))]) (fun i => a.length - i.1) ⟨0, by omega, by simp⟩ ?_ ?_
  ·exact (Wk.cut rfl (by simp [hn, St.lp]) (by simp [wkO, St.lp, zaa, getK, Ob.under, D.under, zad, zae]) (by simp [wkU, St.lp, zal, zaa, getK, D.under]) (by simp [wkE, St.lp, zal, zaa, getK] <;> (try (intros; simp_all; done)) <;> (try (intros; omega)) <;> (try grind)))
  rintro ⟨i, hi, hb⟩;simp [St.lp, St.only, zal, zaa, getK];rcases hx : a[i]? with _ | x
  ·have hge : a.length <= i := by simpa using hx
   obtain rfl : i = a.length := by omega
   have he : a = b := by rw [List.take_length, hab, List.take_length] at hb; exact hb
   have hge2 : b.length <= a.length := by omega
   repeat' (first
  | ((first | refine zag ?_ | refine zaj ?_ | refine zah ?_ | refine zai ?_ | fail); simp [hx, hab])
  | (refine zar ?_; simp only [zan])
  | (refine zaZ ?_; simp [zan])
  | fail)
   (refine EndOK.val (.inr rfl) ?_; simp [zaK, zaf, zas, Tryz.results16])
   simp [he]
  ·have hlt : i < a.length := (lGE.1 hx).1;have hlt2 : i < b.length := by omega
   obtain ⟨y, hy⟩ : ∃ y, b[i]? = some y := ⟨_, List.getElem?_eq_getElem hlt2⟩;by_cases hxy : x = y
   ·subst hxy
    repeat' (first
  | ((first | refine zag ?_ | refine zb6 ?_ | refine zaj ?_ | fail); simp [hx, hy, hab])
  | (refine ⟨by omega, ?_⟩)
  | ((first | refine zah ?_ | refine zai ?_ | fail); simp [hx, hy, hab])
  | (refine zcR ?_)
  | (refine hk _ ?_; clear hk k; simp only [zan])
  | (refine zb5 rfl (by kernel_rfl) (by kernel_rfl) fun k hk => ?_; simp [hx, hy, hab])
  | (refine zaq ?_; simp [hx, hy, hab])
  | (refine zap ?_; simp only [zan])
  | (refine ⟨?_, by omega⟩)
  | (intro hc <;> (try (exfalso; omega)))
  | fail)
    refine LoopW.next ⟨i + 1, by omega, by rw [zdL hx, zdL hy, hb]⟩ (by simp; omega) ?_
    exact (Wk.cut rfl (by simp [hn, St.lp]) (by simp [wkO, St.lp, zaa, getK, Ob.under, D.under, zad, zae]) (by simp [wkU, St.lp, zal, zaa, getK, D.under]) (by simp [wkE, St.lp, zal, zaa, getK] <;> (try (intros; simp_all; done)) <;> (try (intros; omega)) <;> (try grind)))
   ·have hne : a ≠ b := fun h => by subst h; rw [hx] at hy; cases hy; exact hxy rfl
    repeat' (first
  | ((first | refine zag ?_ | refine zb6 ?_ | refine zaj ?_ | refine zah ?_ | refine zai ?_ | fail); simp [hx, hy, hab, hxy])
  | (refine zcR ?_)
  | (refine hk _ ?_; clear hk k; simp only [zan])
  | (refine zb5 rfl (by kernel_rfl) (by kernel_rfl) fun k hk => ?_; simp [hx, hy, hab, hxy])
  | ((first | refine zar ?_ | refine zap ?_ | fail); simp only [zan])
  | (refine ⟨?_, by omega⟩)
  | (intro hc <;> (try (exfalso; omega)))
  | fail)
    (refine EndOK.val (.inr rfl) ?_; simp [zaK, zaf, zas, Tryz.results16])
    simp [hne]
 ·have hne : a ≠ b := fun h => hab (by rw [h])
  (refine Fun.of_body Tryz.func16 rfl (by simp) fun Γ hn => ?_); simp only [entry, ziC, ziN, maC, maN, oA, Tryz.ntmps16]
  repeat' (first
  | ((first | refine zag ?_ | refine zaj ?_ | refine zah ?_ | refine zai ?_ | fail); simp [hab])
  | (refine zar ?_; simp only [zan])
  | (refine ⟨?_, by omega⟩)
  | (intro hc <;> (try (exfalso; omega)))
  | fail)
  (refine EndOK.val (.inr rfl) ?_; simp [zaK, zaf, zas, Tryz.results16])
  simp [hne]
end Go.Proofs.YtepiegcjnaohjaaGreatDoor.Df
namespace Go.Proofs.YtepiegcjnaohjaaGreatDoor
open Go Go.VL
open Df in
attribute [local simp] zdf zcf evPure opd uOf zaI St.put St.at getK binD binI binS binB nilD aggD zgQ zhI lookD lookR zcE Go.VL.nextD zcI zhV zhU zfX zb8 mkV zbo zbh zbf zbe zda zbb zbx zbJ mapEff zdm zfI Key.kk shiftI arith unD convD zdP loadD cellsAt fieldAddrD fieldD indexAddrD indexD sliceD cutD lenD minmaxD nilCheckD buildD fillD zb3 zdi zeX setAll zc1 zeI zcD zg3 zcy St.add zaO zbU rowsOf zdJ zcJ zam zac zaa zbm zcS zaN entry zbH zbL valD zcb zcp zgK zdr zds zcc zbN zaz za1 zbn delAll effD St.effS zc7 zbi za3 zc8 zbj za5 zcn za4 zaT zco zc4 zbM zcl zbw zcj zck zaY mkD zbq zbG zb0 zaz zcC D.ids Op.operands Call.operands zby makeIfD makeFuncD typeAssertD zhG zdG zdH zhb zcG IntKind.bits zcg zaS List.take_of_length_le List.range_succ
attribute [local irreducible] V G H HD HD2 zan Eff CallP CallV EndOK Fun Ret FinOK LoopI LoopW EndW
open Df in
theorem zfD (f : Int) (l : List Lw) (hl : l.length <= 1000000) : Fun Tryz.prog 52 [.u (.int .i64 f), .u (zdT l)] (· = .tup [.u (ints (iN (eff f l).1)), .u (ints (iN (eff f l).2.1))]) := by
 unfold zdT
 (refine Fun.of_bodyW Tryz.func52 rfl (by simp) fun Γ hn => ?_); simp only [entry, ziC, ziN, maC, maN, oA, Tryz.ntmps52]
 repeat' (first
  | ((first | refine zag ?_ | refine zaj ?_ | refine zah ?_ | refine zaA ?_ | fail); simp)
  | fail)
 refine zlt _ (Wk.own 4 3 1 (by decide) rfl) ?_;simp [St.own];refine zlt _ (Wk.own 5 3 1 (by decide) rfl) ?_;simp [St.own];refine zb4 (α := { i : Nat // i <= l.length }) [8, 9] (fun i => [(0, .u (.int .i64 (eff f (l.take i.1)).2.2.1)), (4, .vec 0 (eff f (l.take i.1)).1.length), (5, .vec 1 (eff f (l.take i.1)).2.1.length), (10, .u (.int .i64 i.1))])
  (fun i => [(0, .vec 3 1 (zbs (iN (eff f (l.take i.1)).1))), (1, .vec 3 1 (zbs (iN (eff f (l.take i.1)).2.1)))]) 2 (fun i => l.length - i.1) ⟨0, by omega⟩ ?_ ?_
 ·exact (Wk.cut rfl (by simp [hn, St.lp]) (by simp [wkO, St.lp, zaa, getK, Ob.under, D.under, zad, zae, eff, zbs, iN]) (by simp [wkU, St.lp, zal, zaa, getK, D.under, eff, zbs, iN]) (by simp [wkE, St.lp, zal, zaa, getK, eff, zbs, iN] <;> (try (intros; simp_all; done)) <;> (try (intros; omega)) <;> (try grind)))
 rintro ⟨i, hi⟩;simp [St.lp, St.only, zal, zaa, getK];rcases hx : l[i]? with _ | x
 ·have hge : l.length <= i := by simpa using hx
  obtain rfl : i = l.length := by omega
  simp only [List.take_length]
  repeat' (first
  | ((first | refine zag ?_ | refine zaj ?_ | refine zah ?_ | fail); simp [hx])
  | (refine zar ?_; simp only [zan])
  | (refine zaZ ?_; simp [zan])
  | fail)
  (refine EndW.frzN 2 ?_; simp [frzN, frz1, zaD, zaC, St.frz, St.frzS, frzS, fv, zaV, za8, za9, frzObS, zay, zat, del, frz, zbc, zpZ, zd2, zaH, zeL])
  refine EndW.norm (EndW.here ?_)
  (refine EndOK.val (.inr rfl) ?_; simp [zaK, zaf, zas, Tryz.results52, zaC, zaD, zch, zci, frz, zbc, frzS, fv, zaV, za8, za9, frzObS, zay, zat, zbZ, zcd, zce, zbg, zd2, zaH, zeL])
  simp [ints]
 ·have hlt : i < l.length := (lGE.1 hx).1;obtain ⟨f1, f2, _, _, _⟩ := ze8 f (l.take i);have hst := zqb hx f;have htl : (l.take i).length = i := by rw [List.length_take]; omega
  rw [htl] at f1 f2;rw [effS, f1] at hst;generalize eff f (l.take i) = E at *;obtain ⟨G, V, m, k⟩ := E;simp only at f1 f2 hst;have hlrG : zh2 1 (zbs (iN G)) := zdU _;have hlrV : zh2 1 (zbs (iN V)) := zdU _;have hsG := zhw (iN G) i;have hsV := zhw (iN V) i;by_cases hb : x.base = m
  ·rw [if_pos hb] at hst;have hk2 : k = i := f1;have e1 := zoA G i
   repeat' (first
  | ((first | refine zag ?_ | refine zhQ rfl ?_ | refine zhR rfl ?_ | refine zaj ?_ | fail); simp [hx, hb, zaH, zeL, hlrG, hsG])
  | (refine ⟨by omega, ?_⟩)
  | ((first | refine zah ?_ | refine zai ?_ | fail); simp [hx, hb, zaH, zeL, hlrG, hsG])
  | (refine zgD (hC _ (by kernel_rfl)) (hk _ ?_); clear hC hk C k; simp only [zan])
  | (refine zhO rfl (by kernel_rfl) (by kernel_rfl) (by simp [hn]) fun C k hC hk => ?_; simp [hx, hb, zaH, zeL, hlrG, hsG])
  | (refine zaq ?_; simp [hx, hb, zaH, zeL, hlrG, hsG])
  | (refine zap ?_; simp only [zan])
  | (refine ⟨?_, by omega⟩)
  | (intro hc <;> (try (exfalso; omega)))
  | fail)
   refine LoopW.next ⟨i + 1, by omega⟩ (by simp; omega) ?_
   exact (Wk.ren ((fun i => if i = 0 then 4 else i)) rfl (by first | (simp [hn]; done) | (intro i hi; rw [hn] at hi; constructor <;> (try simp) <;> (try (intro _)) <;> omega)) (by simp [zhW, St.lp, zal, zaa, getK, zac, zam, D.under, D.le, D.ren, zav, zao, e1, hst] <;> (try (intros; simp_all; done)) <;> (try omega)) (by simp [wkR, St.lp, zaa, getK, zac, zam, obR, leU, zbR, zaX, Ob.under, D.under, D.le, D.ren, zav, zao, e1, hst] <;> (try (intros; simp_all; done)) <;> (try omega)) (by simp [zav, zao, e1, hst]))
  ·rw [if_neg hb] at hst;have hk2 : k = i := f1;have e1 := zoA V i
   repeat' (first
  | ((first | refine zag ?_ | refine zaj ?_ | fail); simp [hx, hb, zaH, zeL, hlrV, hsV])
  | (refine ⟨by omega, ?_⟩)
  | ((first | refine zah ?_ | refine zai ?_ | refine zaq ?_ | fail); simp [hx, hb, zaH, zeL, hlrV, hsV])
  | (refine zap ?_; simp only [zan])
  | (refine zaZ ?_; simp [zan])
  | (refine ⟨?_, by omega⟩)
  | (intro hc <;> (try (exfalso; omega)))
  | fail)
   refine LoopW.next ⟨i + 1, by omega⟩ (by simp; omega) ?_
   exact (Wk.ren ((fun i => if i = 1 then 4 else i)) rfl (by first | (simp [hn]; done) | (intro i hi; rw [hn] at hi; constructor <;> (try simp) <;> (try (intro _)) <;> omega)) (by simp [zhW, St.lp, zal, zaa, getK, zac, zam, D.under, D.le, D.ren, zav, zao, e1, hst] <;> (try (intros; simp_all; done)) <;> (try omega)) (by simp [wkR, St.lp, zaa, getK, zac, zam, obR, leU, zbR, zaX, Ob.under, D.under, D.le, D.ren, zav, zao, e1, hst] <;> (try (intros; simp_all; done)) <;> (try omega)) (by simp [zav, zao, e1, hst]))
theorem zf2 (f : Int) (l : List Lw) (hl : l.length <= 1000000) : Fun Tryz.prog 15 [.u (.int .i64 f), .u (zdT l)] (· = .tup [.u (.int .i64 (zem f l)), .u (ints (zmf f l))]) := by
 have he := zfD f l hl;obtain ⟨f1, f2, f3, _, f5⟩ := ze8 f l;unfold zem zmf;rw [f5];cases hg : (eff f l).1.getLast? with
 | none =>
  have h0 : (eff f l).1 = [] := List.getLast?_eq_none_iff.1 hg;rw [h0] at he;simp only [ints, zdT, iN, List.map_nil] at he ⊢
  (refine Fun.of_body Tryz.func15 rfl (by simp) fun Γ hn => ?_); simp only [entry, ziC, ziN, maC, maN, oA, Tryz.ntmps15]
  repeat' (first
  | ((first | refine zag ?_ | refine zaj ?_ | refine zah ?_ | refine zai ?_ | fail); simp)
  | ((first | refine zar ?_ | refine zap ?_ | fail); simp only [zan])
  | (refine CallP.fE (he) (by first | rfl | fail) (by first | (simp; done) | (simp; rfl) | fail) ?_; (try simp))
  | fail)
  (refine EndOK.val (.inr rfl) ?_; simp [zaK, zaf, zas, Tryz.results15])
 | some n =>
  obtain ⟨G, h0⟩ := List.getLast?_eq_some_iff.1 hg;have hnl := f3 n (by rw [h0]; simp);have hG : G.length <= 1000000 := by have := congrArg List.length h0; simp at this; omega
  obtain ⟨x, hx⟩ : ∃ x, l[n]? = some x := ⟨_, List.getElem?_eq_getElem hnl⟩;rw [h0] at he;simp only [hx, Option.map_some, Option.getD_some];have e1 : (List.map (fun n : Int => [U.int .i64 n]) (iN (G ++ [n])))[G.length]? = some [U.int .i64 n] := by simp [iN]
  have e2 : (List.map (fun n : Int => [U.int .i64 n]) (iN (G ++ [n]))).length = G.length + 1 := by simp [iN]
  simp only [ints, zdT] at he ⊢;have e3 : ∀ h : G.length < (List.map (fun n : Int => [U.int .i64 n]) (iN (G ++ [n]))).length, (List.map (fun n : Int => [U.int .i64 n]) (iN (G ++ [n])))[G.length]'h = [U.int .i64 n] := fun h => (lGE.1 e1).2;clear e1;generalize List.map (fun n : Int => [U.int .i64 n]) (iN (G ++ [n])) = GR at *
  (refine Fun.of_body Tryz.func15 rfl (by simp) fun Γ hn => ?_); simp only [entry, ziC, ziN, maC, maN, oA, Tryz.ntmps15]
  repeat' (first
  | ((first | refine zag ?_ | refine zaj ?_ | fail); simp [e3, e2, hx])
  | (refine ⟨by omega, ?_⟩)
  | ((first | refine zah ?_ | refine zai ?_ | refine zaq ?_ | fail); simp [e3, e2, hx])
  | (refine zar ?_; simp only [zan])
  | (refine CallP.fE (he) (by first | rfl | fail) (by first | simp [e3, e2, hx] <;> rfl | fail) ?_; (try simp [e3, e2, hx]))
  | fail)
  (refine EndOK.val (.inr rfl) ?_; simp [zaK, zaf, zas, Tryz.results15])
theorem zfT (first : List UInt8) (f : Int) (l : List Lw) (hl : l.length <= 1000000) : Fun Tryz.prog 18 [.u (.str first), .u (.int .i64 f), .u (zdT l)] (· = .u (.str (zeR first f l))) := by
 have he := zfD f l hl;obtain ⟨f1, f2, f3, _, f5⟩ := ze8 f l;unfold zeR;cases hg : (eff f l).1.getLast? with
 | none =>
  have h0 : (eff f l).1 = [] := List.getLast?_eq_none_iff.1 hg;rw [h0] at he;simp only [ints, zdT, iN, List.map_nil] at he ⊢
  (refine Fun.of_body Tryz.func18 rfl (by simp) fun Γ hn => ?_); simp only [entry, ziC, ziN, maC, maN, oA, Tryz.ntmps18]
  repeat' (first
  | ((first | refine zag ?_ | refine zaj ?_ | refine zah ?_ | refine zai ?_ | fail); simp)
  | ((first | refine zar ?_ | refine zap ?_ | fail); simp only [zan])
  | (refine CallP.fE (he) (by first | rfl | fail) (by first | (simp; done) | (simp; rfl) | fail) ?_; (try simp))
  | fail)
  (refine EndOK.val (.inr rfl) ?_; simp [zaK, zaf, zas, Tryz.results18])
 | some n =>
  obtain ⟨G, h0⟩ := List.getLast?_eq_some_iff.1 hg;have hnl := f3 n (by rw [h0]; simp);have hG : G.length <= 1000000 := by have := congrArg List.length h0; simp at this; omega
  obtain ⟨x, hx⟩ : ∃ x, l[n]? = some x := ⟨_, List.getElem?_eq_getElem hnl⟩;rw [h0] at he;simp only [hx, Option.map_some, Option.getD_some];have e1 : (List.map (fun n : Int => [U.int .i64 n]) (iN (G ++ [n])))[G.length]? = some [U.int .i64 n] := by simp [iN]
  have e2 : (List.map (fun n : Int => [U.int .i64 n]) (iN (G ++ [n]))).length = G.length + 1 := by simp [iN]
  simp only [ints, zdT] at he ⊢;have e3 : ∀ h : G.length < (List.map (fun n : Int => [U.int .i64 n]) (iN (G ++ [n]))).length, (List.map (fun n : Int => [U.int .i64 n]) (iN (G ++ [n])))[G.length]'h = [U.int .i64 n] := fun h => (lGE.1 e1).2;clear e1;generalize List.map (fun n : Int => [U.int .i64 n]) (iN (G ++ [n])) = GR at *
  (refine Fun.of_body Tryz.func18 rfl (by simp) fun Γ hn => ?_); simp only [entry, ziC, ziN, maC, maN, oA, Tryz.ntmps18]
  repeat' (first
  | ((first | refine zag ?_ | refine zaj ?_ | fail); simp [e3, e2, hx])
  | (refine ⟨by omega, ?_⟩)
  | ((first | refine zah ?_ | refine zai ?_ | fail); simp [e3, e2, hx])
  | (refine zar ?_; simp only [zan])
  | (refine CallP.fE (he) (by first | rfl | fail) (by first | simp [e3, e2, hx] <;> rfl | fail) ?_; (try simp [e3, e2, hx]))
  | fail)
  (refine EndOK.val (.inr rfl) ?_; simp [zaK, zaf, zas, Tryz.results18])
open Df in
theorem zoT (f : Int) (l : List Lw) (hl : l.length <= 1000000) : Fun Tryz.prog 17 [.u (.int .i64 f), .u (zdT l)] (· = .u (ints (zoV f l))) := by
 have he := zfD f l hl;obtain ⟨f1, f2, f3, _, f5⟩ := ze8 f l;unfold zoV zsB;generalize (eff f l).1 = G at *;generalize iN (eff f l).2.1 = V at he;have hg : G.length <= l.length := by omega
 obtain ⟨ML, hML⟩ : ∃ ML : List Int, ML = G.map fun n => ((l[n]?).map (·.mark)).getD 0 := ⟨_, rfl⟩;rw [<- hML];have hMLl : ML.length = G.length := by rw [hML, List.length_map]
 have hMLi : ∀ (i n : Nat) (x : Lw), G[i]? = some n -> l[n]? = some x -> ML[i]? = some x.mark := fun i n x h1 h2 => by rw [hML, List.getElem?_map, h1]; simp [h2]
 clear hML;simp only [ints, zdT] at he ⊢
 (refine Fun.of_bodyW Tryz.func17 rfl (by simp) fun Γ hn => ?_); simp only [entry, ziC, ziN, maC, maN, oA, Tryz.ntmps17]
 repeat' (first
  | ((first | refine zag ?_ | refine zaj ?_ | refine zah ?_ | refine zaA ?_ | fail); simp)
  | (refine CallP.fE (he) (by first | rfl | fail) (by first | (simp; done) | (simp; rfl) | fail) ?_; (try simp))
  | fail)
 refine zb4 (α := { i : Nat // i <= G.length }) [1, 18, 19] (fun i => [(7, .vec 0 (i.1 + 1)), (20, .u (.int .i64 i.1))])
  (fun i => [(0, .vec 3 1 (zbs (f :: ML.take i.1)))]) 1 (fun i => G.length - i.1) ⟨0, by omega⟩ ?_ ?_
 ·exact (Wk.cut rfl (by simp [hn, St.lp]) (by simp [wkO, St.lp, zaa, getK, Ob.under, D.under, zad, zae, zbs, iN]) (by simp [wkU, St.lp, zal, zaa, getK, D.under, zbs, iN]) (by simp [wkE, St.lp, zal, zaa, getK, zbs, iN] <;> (try (intros; simp_all; done)) <;> (try (intros; omega)) <;> (try grind)))
 rintro ⟨i, hi⟩;simp [St.lp, St.only, zal, zaa, getK];have hmin : min i ML.length = i := by omega
 rcases hx : G[i]? with _ | n
 ·have hge : G.length <= i := by simpa using hx
  obtain rfl : i = G.length := by omega
  have ht : ML.take G.length = ML := List.take_of_length_le (by omega)
  repeat' (first
  | ((first | refine zag ?_ | refine zaj ?_ | refine zah ?_ | fail); simp [hx, iN])
  | (refine zar ?_; simp only [zan])
  | (refine zaZ ?_; simp [zan])
  | fail)
  (refine EndW.frzN 1 ?_; simp [frzN, frz1, zaD, zaC, St.frz, St.frzS, frzS, fv, zaV, za8, za9, frzObS, zay, zat, del, frz, zbc, zd2, zaH, zeL, ht, hMLl])
  refine EndW.norm (EndW.here ?_)
  (refine EndOK.val (.inr rfl) ?_; simp [zaK, zaf, zas, Tryz.results17, zaC, zaD, zch, zci, frz, zbc, frzS, fv, zaV, za8, za9, frzObS, zay, zat, zbZ, zcd, zce, zbg, zd2, zaH, zeL])
 ·have hlt : i < G.length := (lGE.1 hx).1;have hnl := f3 n (List.mem_of_getElem? hx);obtain ⟨x, hy⟩ : ∃ x, l[n]? = some x := ⟨_, List.getElem?_eq_getElem hnl⟩;have hlR : ∀ L : List Int, zh2 1 (zbs L) := fun L => zdU L;have hm := hMLi i n x hx hy;have hsn : ML.take (i + 1) = ML.take i ++ [x.mark] := by rw [List.take_succ, hm]; rfl
  have hs := zhw (f :: ML.take i) x.mark;have hIN : ∀ h : i < (iN G).length, (iN G)[i]'h = (n : Int) := fun h => (lGE.1 (show (iN G)[i]? = some (n : Int) by simp [iN, hx])).2
  repeat' (first
  | ((first | refine zag ?_ | refine zaj ?_ | fail); simp [hlt, zeL, hIN, hy, zaH, hmin, hlR, hs])
  | (refine ⟨by omega, ?_⟩)
  | ((first | refine zah ?_ | refine zaq ?_ | fail); simp [hlt, zeL, hIN, hy, zaH, hmin, hlR, hs])
  | (refine zap ?_; simp only [zan])
  | fail)
  refine LoopW.next ⟨i + 1, by omega⟩ (by simp; omega) ?_
  exact (Wk.ren ((fun i => if i = 0 then 2 else i)) rfl (by first | (simp [hn]; done) | (intro i hi; rw [hn] at hi; constructor <;> (try simp) <;> (try (intro _)) <;> omega)) (by simp [zhW, St.lp, zal, zaa, getK, zac, zam, D.under, D.le, D.ren, zav, zao, hsn] <;> (try (intros; simp_all; done)) <;> (try omega)) (by simp [wkR, St.lp, zaa, getK, zac, zam, obR, leU, zbR, zaX, Ob.under, D.under, D.le, D.ren, zav, zao, hsn] <;> (try (intros; simp_all; done)) <;> (try omega)) (by simp [zav, zao, hsn]))
end Go.Proofs.YtepiegcjnaohjaaGreatDoor
namespace Go.Proofs.YtepiegcjnaohjaaGreatDoor
open Go Go.VL
attribute [local simp] zdf zcf evPure opd uOf zaI St.put St.at getK binD binI binS binB nilD aggD zgQ zhI lookD lookR zcE Go.VL.nextD zcI zhV zhU zfX zb8 mkV zbo zbh zbf zbe zda zbb zbx zbJ mapEff zdm zfI Key.kk shiftI arith unD convD zdP loadD cellsAt fieldAddrD fieldD indexAddrD indexD sliceD cutD lenD minmaxD nilCheckD buildD fillD zb3 zdi zeX setAll zc1 zeI zcD zg3 zcy St.add zaO zbU rowsOf zdJ zcJ zam zac zaa zbm zcS zaN entry zbH zbL valD zcb zcp zgK zdr zds zcc zbN zaz za1 zbn delAll effD St.effS zc7 zbi za3 zc8 zbj za5 zcn za4 zaT zco zc4 zbM zcl zbw zcj zck zaY mkD zbq zbG zb0 zaz zcC D.ids Op.operands Call.operands zby makeIfD makeFuncD typeAssertD zhG zdG zdH zhb zcG IntKind.bits zcg zaS List.take_of_length_le List.range_succ
attribute [local irreducible] V G H HD HD2 zan Eff CallP CallV EndOK Fun Ret FinOK LoopI LoopW EndW
def zdx (lets : List Let) (names : List Var) (e : Exp) : Int × Int := if okJ lets names e = true then zd5 (gF (gOf names)) (mF (mOf (gOf names) lets)) e else (0, 1)
theorem zeb (lets : List Let) (names : List Var) (e : Exp) : Fun Tryz.prog 110 [.u (ze0 lets), .u (zgL names), zeD e] (· = .tup [.u (.int .i64 (zdx lets names e).1), .u (.int .i64 (zdx lets names e).2)]) := by
 have h1 := zor lets names e;unfold zdx;unfold zos at h1;cases hK : okJ lets names e
 ·rw [hK] at h1;simp only [ze0, zgL, zeD, Bool.false_eq_true, if_false] at h1 ⊢
  (refine Fun.of_body Tryz.func110 rfl (by simp) fun Γ hn => ?_); simp only [entry, ziC, ziN, maC, maN, oA, Tryz.ntmps110]
  repeat' (first
  | ((first | refine zag ?_ | refine zaj ?_ | refine zah ?_ | refine zai ?_ | fail); simp)
  | (refine zar ?_; simp only [zan])
  | (refine CallP.fE (h1) (by first | rfl | fail) (by first | (simp; done) | (simp; rfl) | fail) ?_; (try simp))
  | fail)
  (refine EndOK.val (.inr rfl) ?_; simp [zaK, zaf, zas, Tryz.results110])
 ·rw [hK] at h1;have hre : zbB 12 e = true := by
   simp only [okJ, Bool.and_eq_true] at hK;exact (zmp hK.1).2.1
  have h2 := ziY (gOf names) (mOf (gOf names) lets) 12 e hre;simp only [ze0, zgL, zeD, if_true, jU] at h1 h2 ⊢;generalize zd5 (gF (gOf names)) (mF (mOf (gOf names) lets)) e = r at h2 ⊢
  (refine Fun.of_body Tryz.func110 rfl (by simp) fun Γ hn => ?_); simp only [entry, ziC, ziN, maC, maN, oA, Tryz.ntmps110]
  repeat' (first
  | ((first | refine zag ?_ | refine zaj ?_ | refine zah ?_ | refine zai ?_ | fail); simp)
  | ((first | refine zar ?_ | refine zap ?_ | fail); simp only [zan])
  | (refine CallP.fE (h1) (by first | rfl | fail) (by first | (simp; done) | (simp; rfl) | fail) ?_; (try simp))
  | (refine CallP.fE (h2) (by first | rfl | fail) (by first | (simp; done) | (simp; rfl) | fail) ?_; (try simp))
  | fail)
  (refine EndOK.val (.inr rfl) ?_; simp [zaK, zaf, zas, Tryz.results110])
def zbI (c : List UInt8) : List Var :=
 if c = [100, 117, 101] then [⟨[109, 101, 109, 98, 101, 114, 115], 1, 0⟩, ⟨[112, 101, 114, 105, 111, 100], 1, 0⟩, ⟨[108, 97, 115, 116], 1, 0⟩, ⟨[97, 103, 101], 2, 0⟩]
 else if c = [102, 105, 110, 101] then [⟨[108, 97, 116, 101], 2, 0⟩, ⟨[109, 101, 109, 98, 101, 114, 115], 1, 0⟩, ⟨[112, 101, 114, 105, 111, 100], 1, 0⟩, ⟨[108, 97, 115, 116], 1, 0⟩, ⟨[97, 103, 101], 2, 0⟩]
 else if c = [112, 97, 121] then [⟨[112, 111, 116], 3, 0⟩, ⟨[98, 105, 100], 3, 0⟩, ⟨[109, 101, 109, 98, 101, 114, 115], 1, 0⟩, ⟨[112, 101, 114, 105, 111, 100], 1, 0⟩]
 else if c = [99, 111, 118, 101, 114] then [⟨[112, 97, 105, 100], 3, 0⟩, ⟨[99, 108, 97, 105, 109, 115], 1, 0⟩, ⟨[97, 103, 101], 2, 0⟩, ⟨[109, 101, 109, 98, 101, 114, 115], 1, 0⟩]
 else if c = [104, 111, 108, 100] then [⟨[109, 101, 109, 98, 101, 114, 115], 1, 0⟩, ⟨[104, 111, 108, 100, 115], 3, 0⟩]
 else []
def clausesL : List (List UInt8) := [[100, 117, 101], [102, 105, 110, 101], [112, 97, 121], [99, 111, 118, 101, 114], [104, 111, 108, 100]]
def ztH (b : By) (c : List UInt8) : Exp :=
 if c = [100, 117, 101] then b.due else if c = [102, 105, 110, 101] then b.fine else if c = [112, 97, 121] then b.pay else if c = [99, 111, 118, 101, 114] then b.cover else b.hold
def zgH (s : List UInt8) : Bool := clausesL.any fun c => (zbI c).any fun v => decide (v.name = s)
theorem zrB {α : Type} {p : α -> Bool} {l : List α} {i : Nat} {x : α} (h : ∀ c ∈ l.take i, p c = false) (hx : l[i]? = some x) (hp : p x = true) : l.find? p = some x := by
 induction l generalizing i with
 | nil => simp at hx
 | cons a l ih =>
  cases i with
  | zero => simp at hx; subst hx; simp [hp]
  | succ i =>
   rw [List.find?_cons, h a (by simp)];exact ih (i := i) (fun c hc => h c (by simp [hc])) (by simpa using hx)
theorem zrA {α : Type} {p : α -> Bool} {l : List α} (h : ∀ c ∈ l, p c = false) : l.find? p = none := by
 rw [List.find?_eq_none];intro x hx;simp [h x hx]
def znf (c : List UInt8) : Key × List U := (Key.s c, [zgL (zbI c)])
def ziE : List (Key × List U) := clausesL.map znf
theorem zoG : Fun Tryz.prog 86 [] (· = .tup [.u (zev clausesL), .u (.map .s false ziE)]) := by
 (refine Fun.of_bodyW Tryz.func86 rfl (by simp) fun Γ hn => ?_); simp only [entry, ziC, ziN, maC, maN, oA, Tryz.ntmps86]
 repeat' (first
  | ((first | refine zag ?_ | refine zaj ?_ | refine zah ?_ | fail); simp [zbL, zbH])
  | (refine zrS rfl (by kernel_rfl) (by kernel_rfl) (by simp [hn]) fun C k hC hk => ?_; simp [zbL, zbH])
  | ((first | refine zr3 rfl ?_ | refine zr4 ?_ | refine zr8 rfl rfl ?_ | fail); simp [zbL, zbH])
  | (refine zr5 (hC _ _ (by kernel_rfl) (by kernel_rfl)) (hk _ ?_); clear hC hk C k; simp only [zan]; simp [St.ins, zp0, zs5, zam, zaa])
  | (refine zar ?_; simp only [zan])
  | fail)
 (refine EndW.frzN 8 ?_; simp [frzN, frz1, zaD, zaC, St.frz, St.frzS, frzS, fv, zaV, za8, za9, frzObS, zay, zat, del, frz, zbc])
 refine EndW.here ?_
 (refine EndOK.val (.inr rfl) ?_; simp [zaK, zaf, zas, Tryz.results86])
 simp [zev, clausesL, ziE, znf, zgL, zbI]
theorem zeh (c : List UInt8) : zb8 ziE (.s c) = if c ∈ clausesL then some [zgL (zbI c)] else none := by
 simp only [ziE, clausesL, List.map_cons, List.map_nil, znf, zb8, Key.s.injEq, List.mem_cons, List.not_mem_nil, or_false]
 repeat' split
 all_goals simp_all
def zsk (v : Var) : D := .u (.agg [.str v.name, .int .i64 v.unit, .int .i64 v.n])
theorem zmP (l : List (Var)) (f : FuncId) (caps : List U) (p : Var -> Bool) (hf : ∀ n ∈ l, Fun Tryz.prog f (zsk n :: caps.map .u) (· = .u (.bool (p n)))) (hcl : zak Tryz.prog f = true)
  (hca : ∀ o, zcp o (caps.map .u) = some (caps.map .u, [])) : Fun Tryz.prog 160 [.u (zgL l), .fnc (.func f) (caps.map .u)] (· = .u (.int .i64 (zfj p l 0))) := by
 (refine Fun.of_body Tryz.func160 rfl (by simp) fun Γ hn => ?_); simp only [entry, ziC, ziN, maC, maN, oA, Tryz.ntmps160]
 simp only [zgL];refine zgR (x := 0) rfl fun hl => ?_;simp at hl
 repeat' (first
  | ((first | refine zag ?_ | refine zaj ?_ | refine zah ?_ | refine zaA ?_ | fail); simp)
  | fail)
 refine zb2 (α := { i : Nat // i <= l.length /\ ∀ c ∈ l.take i, p c = false }) [0, 1, 7] (fun i => [(8, .u (.int .i64 i.1))]) (fun i => l.length - i.1) ⟨0, by omega, by simp⟩ ?_ ?_
 ·exact (Wk.env rfl rfl rfl (by simp [wkE, St.lp, zal, zaa, getK] <;> (try (intros; simp_all; done)) <;> (try (intros; omega)) <;> (try grind)))
 rintro ⟨i, hi, hb⟩;simp [St.lp, St.only, zal, zaa, getK];rcases hx : l[i]? with _ | n
 ·have hge : l.length <= i := by simpa using hx
  repeat' (first
  | ((first | refine zag ?_ | refine zaj ?_ | fail); simp [hx])
  | (refine ⟨by omega, ?_⟩)
  | (refine zah ?_; simp [hx])
  | (refine zar ?_; simp only [zan])
  | (refine zaZ ?_; simp [zan])
  | (intro hc <;> (try (exfalso; omega)))
  | fail)
  (refine EndOK.val (.inr rfl) ?_; simp [zaK, zaf, zas, Tryz.results160])
  rw [List.take_of_length_le hge] at hb;exact (zdA hb).symm
 ·have hlt : i < l.length := (lGE.1 hx).1;have h1 := hf n (List.mem_of_getElem? hx);simp only [zsk] at h1;cases hp : p n
  ·rw [hp] at h1
   repeat' (first
  | ((first | refine zag ?_ | refine zaj ?_ | fail); simp [hx, hca])
  | (refine ⟨by omega, ?_⟩)
  | ((first | refine zah ?_ | refine zai ?_ | refine zaq ?_ | fail); simp [hx, hca])
  | (refine zap ?_; simp only [zan])
  | (refine ⟨?_, by omega⟩)
  | (intro hc <;> (try (exfalso; omega)))
  | (refine CallP.fE (h1) (by first | rfl | fail) (by first | simp [hx, hca] <;> rfl | fail) ?_; (try simp [hcl, hx, hca]))
  | fail)
   refine LoopW.next ⟨i + 1, by omega, za7 hx hb hp⟩ (by simp; omega) ?_
   exact (Wk.env rfl rfl rfl (by simp [wkE, St.lp, zal, zaa, getK] <;> (try (intros; simp_all; done)) <;> (try (intros; omega)) <;> (try grind)))
  ·rw [hp] at h1
   repeat' (first
  | ((first | refine zag ?_ | refine zaj ?_ | refine zah ?_ | refine zai ?_ | fail); simp [hx, hca])
  | ((first | refine zar ?_ | refine zap ?_ | fail); simp only [zan])
  | (refine ⟨?_, by omega⟩)
  | (intro hc <;> (try (exfalso; omega)))
  | (refine CallP.fE (h1) (by first | rfl | fail) (by first | simp [hx, hca] <;> rfl | fail) ?_; (try simp [hcl, hx, hca]))
  | fail)
   (refine EndOK.val (.inr rfl) ?_; simp [zaK, zaf, zas, Tryz.results160])
   rw [ze2 hb hx hp];omega
theorem zjp (l : List (Var)) (f : FuncId) (caps : List U) (p : Var -> Bool) (hf : ∀ n ∈ l, Fun Tryz.prog f (zsk n :: caps.map .u) (· = .u (.bool (p n)))) (hcl : zak Tryz.prog f = true)
  (hca : ∀ o, zcp o (caps.map .u) = some (caps.map .u, [])) (hcb : ∀ o, zbN o (caps.map .u) = some (caps, [])) : Fun Tryz.prog 108 [.u (zgL l), .fnc (.func f) (caps.map .u)] (· = .u (.bool (l.any p))) := by
 have h1 := zmP l f caps p hf hcl hca
 (refine Fun.of_body Tryz.func108 rfl (by simp) fun Γ hn => ?_); simp only [entry, ziC, ziN, maC, maN, oA, Tryz.ntmps108]
 simp only [zgL] at h1 ⊢
 repeat' (first
  | ((first | refine zag ?_ | refine zaj ?_ | refine zah ?_ | fail); simp [hcb])
  | (refine zar ?_; simp only [zan])
  | (refine CallP.fE (h1) (by first | rfl | fail) (by first | simp [hcb] <;> rfl | fail) ?_; (try simp [hcl, hcb]))
  | fail)
 (refine EndOK.val (.inr rfl) ?_; simp [zaK, zaf, zas, Tryz.results108])
 have h2 := zeB p l 0 (by omega);rw [Bool.eq_iff_iff];simpa using h2
theorem ziK (v : Var) (l : Let) : Fun Tryz.prog 109 (zsk v :: [U.row (zgG l) 0].map .u) (· = .u (.bool (decide (v.name = l.name)))) := by
 simp only [zsk, zgG, List.map_cons, List.map_nil]
 (refine Fun.of_body Tryz.func109 rfl (by simp) fun Γ hn => ?_); simp only [entry, ziC, ziN, maC, maN, oA, Tryz.ntmps109]
 repeat' (first
  | ((first | refine zag ?_ | refine zaj ?_ | refine zah ?_ | fail); simp)
  | (refine zar ?_; simp only [zan])
  | fail)
 (refine EndOK.val (.inr rfl) ?_; simp [zaK, zaf, zas, Tryz.results109])
def zfF (b : By) (c : List UInt8) : Option (List UInt8 × Int) :=
 if (zdx b.lets (zbI c) (ztH b c)).2 = 0 then (if (zdx b.lets (zbI c) (ztH b c)).1 ≠ 3 then some (c, 14) else none) else some (c, (zdx b.lets (zbI c) (ztH b c)).2)
def zea (b : By) : List (List UInt8) -> List UInt8 × Int
 | [] => ([], 0)
 | c :: r => match zfF b c with | some x => x | none => zea b r
def zep (b : By) : List UInt8 × Int := if zdb b = false then ([], 1) else match b.lets.find? (fun l => zgH l.name) with | some l => (l.name, 5) | none => zea b clausesL
theorem zna (b : By) : Fun Tryz.prog 53 [.u (.agg (zbu b))] (· = .tup [.u (.str (zep b).1), .u (.int .i64 (zep b).2)]) := by
 have h0 := zhg b;have h1 := zoG;have hrb : zdb b = true -> b.lets.length <= 20 := fun h => by
  simp only [zdb, Bool.and_eq_true, decide_eq_true_eq] at h;exact h.1.1.2
 unfold zep;generalize zdb b = rb at h0 hrb ⊢;simp only [zbu] at h0;cases rb
 ·(refine Fun.of_body Tryz.func53 rfl (by simp) fun Γ hn => ?_); simp only [entry, ziC, ziN, maC, maN, oA, Tryz.ntmps53]
  simp only [zbu]
  repeat' (first
  | ((first | refine zag ?_ | refine zaj ?_ | refine zah ?_ | refine zai ?_ | fail); simp)
  | (refine zar ?_; simp only [zan])
  | (refine CallP.fE (h0) (by first | rfl | fail) (by first | (simp; done) | (simp; rfl) | fail) ?_; (try simp))
  | fail)
  (refine EndOK.val (.inr rfl) ?_; simp [zaK, zaf, zas, Tryz.results53])
 have h20 := hrb rfl
 (refine Fun.of_body Tryz.func53 rfl (by simp) fun Γ hn => ?_); simp only [entry, ziC, ziN, maC, maN, oA, Tryz.ntmps53]
 simp only [zbu]
 repeat' (first
  | ((first | refine zag ?_ | refine zaj ?_ | refine zah ?_ | refine zai ?_ | refine zaA ?_ | fail); simp)
  | (refine zap ?_; simp only [zan])
  | (refine CallP.fE (h0) (by first | rfl | fail) (by first | (simp; done) | (simp; rfl) | fail) ?_; (try simp))
  | (refine CallP.fE (h1) (by first | rfl | fail) (by first | (simp; done) | (simp; rfl) | fail) ?_; (try simp))
  | fail)
 refine zb2 (α := { i : Nat // i <= b.lets.length /\ ∀ l ∈ b.lets.take i, zgH l.name = false }) [1, 4, 5, 22, 23] (fun i => [(24, .u (.int .i64 i.1))]) (fun i => b.lets.length - i.1) ⟨0, by omega, by simp⟩ ?_ ?_
 ·exact (Wk.cut rfl (by simp [hn, St.lp]) (by simp [wkO, St.lp, zaa, getK, Ob.under, D.under, zad, zae]) (by simp [wkU, St.lp, zal, zaa, getK, D.under]) (by simp [wkE, St.lp, zal, zaa, getK] <;> (try (intros; simp_all; done)) <;> (try (intros; omega)) <;> (try grind)))
 rintro ⟨i, hi, hb⟩;simp [St.lp, St.only, zal, zaa, getK];rcases hx : b.lets[i]? with _ | l
 ·have hge : b.lets.length <= i := by simpa using hx
  obtain rfl : i = b.lets.length := by omega
  rw [List.take_length] at hb;have hfn := zrA (p := fun l : Let => zgH l.name) hb
  repeat' (first
  | ((first | refine zag ?_ | refine zaj ?_ | refine zah ?_ | refine zaA ?_ | fail); simp [hx, zbL, zbH])
  | (refine zaZ ?_; simp [zan])
  | fail)
  have step : ∀ {k : Nat} {c : List UInt8}, clausesL[k]? = some c -> zea b clausesL = zea b (clausesL.drop k) -> zea b clausesL = match zfF b c with | some x => x | none => zea b (clausesL.drop (k + 1)) := fun {k c} h1 h2 => by
   obtain ⟨hk, rfl⟩ := lGE.1 h1;rw [h2, List.drop_eq_getElem_cons hk, zea]
  refine zb2 (α := { k : Nat // k <= 5 /\ zea b clausesL = zea b (clausesL.drop k) }) [1, 4, 5, 50, 51] (fun k => [(52, .u (.int .i64 k.1))]) (fun k => 5 - k.1) ⟨0, by omega, by simp⟩ ?_ ?_
  ·exact (Wk.cut rfl (by simp [hn, St.lp]) (by simp [wkO, St.lp, zaa, getK, Ob.under, D.under, zad, zae]) (by simp [wkU, St.lp, zal, zaa, getK, D.under]) (by simp [wkE, St.lp, zal, zaa, getK] <;> (try (intros; simp_all; done)) <;> (try (intros; omega)) <;> (try grind)))
  rintro ⟨k, hk, hd⟩;simp [St.lp, St.only, zal, zaa, getK];have hk6 : k = 0 \/ k = 1 \/ k = 2 \/ k = 3 \/ k = 4 \/ k = 5 := by omega
  rcases hk6 with rfl | rfl | rfl | rfl | rfl | rfl
  ·have st := step (k := 0) (c := [100, 117, 101]) rfl hd;have e1 := zeb b.lets (zbI [100, 117, 101]) b.due;have hlk := zeh [100, 117, 101];rw [if_pos (by simp [clausesL])] at hlk;have cp : zfF b [100, 117, 101] = if (zdx b.lets (zbI [100, 117, 101]) b.due).2 = 0 then (if (zdx b.lets (zbI [100, 117, 101]) b.due).1 ≠ 3 then some ([100, 117, 101], 14) else none) else some ([100, 117, 101], (zdx b.lets (zbI [100, 117, 101]) b.due).2) := rfl;generalize zdx b.lets (zbI [100, 117, 101]) b.due = r at e1 cp;obtain ⟨u, er⟩ := r;simp only [zeD, ze0] at e1;simp only at cp;have hcl : clausesL[0]? = some [100, 117, 101] := rfl
   repeat' (first
  | ((first | refine zag ?_ | refine zb6 ?_ | refine zaj ?_ | fail); simp [hlk, hcl, zev])
  | (refine ⟨by omega, ?_⟩)
  | ((first | refine zah ?_ | refine zai ?_ | fail); simp [hlk, hcl, zev])
  | (refine zcR ?_)
  | (refine hk _ ?_; clear hk k; simp only [zan])
  | (refine zb5 rfl (by kernel_rfl) (by kernel_rfl) fun k hk => ?_; simp [hlk, hcl, zev])
  | (refine zaq ?_; simp [hlk, hcl, zev])
  | ((first | refine zar ?_ | refine zap ?_ | fail); simp only [zan])
  | (refine ⟨?_, by omega⟩)
  | (refine ⟨fun hc => ?_, fun hc => ?_⟩ <;> (try (exfalso; omega)))
  | (intro hc <;> (try (exfalso; omega)))
  | (refine CallV.fun_ (e1) (by first | rfl | fail) (by first | simp [hlk, hcl, zev] <;> rfl | fail) ?_ <;> (try simp [hlk, hcl, zev]))
  | fail)
   all_goals first
    | (have g1 : er = 0 := (by first | assumption | fail); have g2 : u = 3 := (by first | assumption | fail); rw [cp, if_pos g1, if_neg (by simp [g2])] at st; refine LoopW.next ⟨0 + 1, by omega, st⟩ (by simp) ?_; exact (Wk.cut rfl (by simp [hn, St.lp]) (by simp [wkO, St.lp, zaa, getK, Ob.under, D.under, zad, zae]) (by simp [wkU, St.lp, zal, zaa, getK, D.under]) (by simp [wkE, St.lp, zal, zaa, getK] <;> (try (intros; simp_all; done)) <;> (try (intros; omega)) <;> (try grind))))
    | (have g1 : er = 0 := (by first | assumption | fail); have g2 : ¬ u = 3 := (by first | assumption | fail); rw [cp, if_pos g1, if_pos g2] at st; (refine EndOK.val (.inr rfl) ?_; simp [zaK, zaf, zas, Tryz.results53]); rw [hfn, st]; simp; done)
    | (have g1 : ¬ er = 0 := (by first | assumption | fail); rw [cp, if_neg g1] at st; (refine EndOK.val (.inr rfl) ?_; simp [zaK, zaf, zas, Tryz.results53]); rw [hfn, st]; simp; done)
  ·have st := step (k := 1) (c := [102, 105, 110, 101]) rfl hd;have e1 := zeb b.lets (zbI [102, 105, 110, 101]) b.fine;have hlk := zeh [102, 105, 110, 101];rw [if_pos (by simp [clausesL])] at hlk;have cp : zfF b [102, 105, 110, 101] = if (zdx b.lets (zbI [102, 105, 110, 101]) b.fine).2 = 0 then (if (zdx b.lets (zbI [102, 105, 110, 101]) b.fine).1 ≠ 3 then some ([102, 105, 110, 101], 14) else none) else some ([102, 105, 110, 101], (zdx b.lets (zbI [102, 105, 110, 101]) b.fine).2) := rfl;generalize zdx b.lets (zbI [102, 105, 110, 101]) b.fine = r at e1 cp;obtain ⟨u, er⟩ := r;simp only [zeD, ze0] at e1;simp only at cp;have hcl : clausesL[1]? = some [102, 105, 110, 101] := rfl
   repeat' (first
  | ((first | refine zag ?_ | refine zb6 ?_ | refine zaj ?_ | fail); simp [hlk, hcl, zev])
  | (refine ⟨by omega, ?_⟩)
  | ((first | refine zah ?_ | refine zai ?_ | fail); simp [hlk, hcl, zev])
  | (refine zcR ?_)
  | (refine hk _ ?_; clear hk k; simp only [zan])
  | (refine zb5 rfl (by kernel_rfl) (by kernel_rfl) fun k hk => ?_; simp [hlk, hcl, zev])
  | (refine zaq ?_; simp [hlk, hcl, zev])
  | ((first | refine zar ?_ | refine zap ?_ | fail); simp only [zan])
  | (refine ⟨?_, by omega⟩)
  | (refine ⟨fun hc => ?_, fun hc => ?_⟩ <;> (try (exfalso; omega)))
  | (intro hc <;> (try (exfalso; omega)))
  | (refine CallV.fun_ (e1) (by first | rfl | fail) (by first | simp [hlk, hcl, zev] <;> rfl | fail) ?_ <;> (try simp [hlk, hcl, zev]))
  | fail)
   all_goals first
    | (have g1 : er = 0 := (by first | assumption | fail); have g2 : u = 3 := (by first | assumption | fail); rw [cp, if_pos g1, if_neg (by simp [g2])] at st; refine LoopW.next ⟨1 + 1, by omega, st⟩ (by simp) ?_; exact (Wk.cut rfl (by simp [hn, St.lp]) (by simp [wkO, St.lp, zaa, getK, Ob.under, D.under, zad, zae]) (by simp [wkU, St.lp, zal, zaa, getK, D.under]) (by simp [wkE, St.lp, zal, zaa, getK] <;> (try (intros; simp_all; done)) <;> (try (intros; omega)) <;> (try grind))))
    | (have g1 : er = 0 := (by first | assumption | fail); have g2 : ¬ u = 3 := (by first | assumption | fail); rw [cp, if_pos g1, if_pos g2] at st; (refine EndOK.val (.inr rfl) ?_; simp [zaK, zaf, zas, Tryz.results53]); rw [hfn, st]; simp; done)
    | (have g1 : ¬ er = 0 := (by first | assumption | fail); rw [cp, if_neg g1] at st; (refine EndOK.val (.inr rfl) ?_; simp [zaK, zaf, zas, Tryz.results53]); rw [hfn, st]; simp; done)
  ·have st := step (k := 2) (c := [112, 97, 121]) rfl hd;have e1 := zeb b.lets (zbI [112, 97, 121]) b.pay;have hlk := zeh [112, 97, 121];rw [if_pos (by simp [clausesL])] at hlk;have cp : zfF b [112, 97, 121] = if (zdx b.lets (zbI [112, 97, 121]) b.pay).2 = 0 then (if (zdx b.lets (zbI [112, 97, 121]) b.pay).1 ≠ 3 then some ([112, 97, 121], 14) else none) else some ([112, 97, 121], (zdx b.lets (zbI [112, 97, 121]) b.pay).2) := rfl;generalize zdx b.lets (zbI [112, 97, 121]) b.pay = r at e1 cp;obtain ⟨u, er⟩ := r;simp only [zeD, ze0] at e1;simp only at cp;have hcl : clausesL[2]? = some [112, 97, 121] := rfl
   repeat' (first
  | ((first | refine zag ?_ | refine zb6 ?_ | refine zaj ?_ | fail); simp [hlk, hcl, zev])
  | (refine ⟨by omega, ?_⟩)
  | ((first | refine zah ?_ | refine zai ?_ | fail); simp [hlk, hcl, zev])
  | (refine zcR ?_)
  | (refine hk _ ?_; clear hk k; simp only [zan])
  | (refine zb5 rfl (by kernel_rfl) (by kernel_rfl) fun k hk => ?_; simp [hlk, hcl, zev])
  | (refine zaq ?_; simp [hlk, hcl, zev])
  | ((first | refine zar ?_ | refine zap ?_ | fail); simp only [zan])
  | (refine ⟨?_, by omega⟩)
  | (refine ⟨fun hc => ?_, fun hc => ?_⟩ <;> (try (exfalso; omega)))
  | (intro hc <;> (try (exfalso; omega)))
  | (refine CallV.fun_ (e1) (by first | rfl | fail) (by first | simp [hlk, hcl, zev] <;> rfl | fail) ?_ <;> (try simp [hlk, hcl, zev]))
  | fail)
   all_goals first
    | (have g1 : er = 0 := (by first | assumption | fail); have g2 : u = 3 := (by first | assumption | fail); rw [cp, if_pos g1, if_neg (by simp [g2])] at st; refine LoopW.next ⟨2 + 1, by omega, st⟩ (by simp) ?_; exact (Wk.cut rfl (by simp [hn, St.lp]) (by simp [wkO, St.lp, zaa, getK, Ob.under, D.under, zad, zae]) (by simp [wkU, St.lp, zal, zaa, getK, D.under]) (by simp [wkE, St.lp, zal, zaa, getK] <;> (try (intros; simp_all; done)) <;> (try (intros; omega)) <;> (try grind))))
    | (have g1 : er = 0 := (by first | assumption | fail); have g2 : ¬ u = 3 := (by first | assumption | fail); rw [cp, if_pos g1, if_pos g2] at st; (refine EndOK.val (.inr rfl) ?_; simp [zaK, zaf, zas, Tryz.results53]); rw [hfn, st]; simp; done)
    | (have g1 : ¬ er = 0 := (by first | assumption | fail); rw [cp, if_neg g1] at st; (refine EndOK.val (.inr rfl) ?_; simp [zaK, zaf, zas, Tryz.results53]); rw [hfn, st]; simp; done)
  ·have st := step (k := 3) (c := [99, 111, 118, 101, 114]) rfl hd;have e1 := zeb b.lets (zbI [99, 111, 118, 101, 114]) b.cover;have hlk := zeh [99, 111, 118, 101, 114];rw [if_pos (by simp [clausesL])] at hlk;have cp : zfF b [99, 111, 118, 101, 114] = if (zdx b.lets (zbI [99, 111, 118, 101, 114]) b.cover).2 = 0 then (if (zdx b.lets (zbI [99, 111, 118, 101, 114]) b.cover).1 ≠ 3 then some ([99, 111, 118, 101, 114], 14) else none) else some ([99, 111, 118, 101, 114], (zdx b.lets (zbI [99, 111, 118, 101, 114]) b.cover).2) := rfl;generalize zdx b.lets (zbI [99, 111, 118, 101, 114]) b.cover = r at e1 cp;obtain ⟨u, er⟩ := r;simp only [zeD, ze0] at e1;simp only at cp;have hcl : clausesL[3]? = some [99, 111, 118, 101, 114] := rfl
   repeat' (first
  | ((first | refine zag ?_ | refine zb6 ?_ | refine zaj ?_ | fail); simp [hlk, hcl, zev])
  | (refine ⟨by omega, ?_⟩)
  | ((first | refine zah ?_ | refine zai ?_ | fail); simp [hlk, hcl, zev])
  | (refine zcR ?_)
  | (refine hk _ ?_; clear hk k; simp only [zan])
  | (refine zb5 rfl (by kernel_rfl) (by kernel_rfl) fun k hk => ?_; simp [hlk, hcl, zev])
  | (refine zaq ?_; simp [hlk, hcl, zev])
  | ((first | refine zar ?_ | refine zap ?_ | fail); simp only [zan])
  | (refine ⟨?_, by omega⟩)
  | (refine ⟨fun hc => ?_, fun hc => ?_⟩ <;> (try (exfalso; omega)))
  | (intro hc <;> (try (exfalso; omega)))
  | (refine CallV.fun_ (e1) (by first | rfl | fail) (by first | simp [hlk, hcl, zev] <;> rfl | fail) ?_ <;> (try simp [hlk, hcl, zev]))
  | fail)
   all_goals first
    | (have g1 : er = 0 := (by first | assumption | fail); have g2 : u = 3 := (by first | assumption | fail); rw [cp, if_pos g1, if_neg (by simp [g2])] at st; refine LoopW.next ⟨3 + 1, by omega, st⟩ (by simp) ?_; exact (Wk.cut rfl (by simp [hn, St.lp]) (by simp [wkO, St.lp, zaa, getK, Ob.under, D.under, zad, zae]) (by simp [wkU, St.lp, zal, zaa, getK, D.under]) (by simp [wkE, St.lp, zal, zaa, getK] <;> (try (intros; simp_all; done)) <;> (try (intros; omega)) <;> (try grind))))
    | (have g1 : er = 0 := (by first | assumption | fail); have g2 : ¬ u = 3 := (by first | assumption | fail); rw [cp, if_pos g1, if_pos g2] at st; (refine EndOK.val (.inr rfl) ?_; simp [zaK, zaf, zas, Tryz.results53]); rw [hfn, st]; simp; done)
    | (have g1 : ¬ er = 0 := (by first | assumption | fail); rw [cp, if_neg g1] at st; (refine EndOK.val (.inr rfl) ?_; simp [zaK, zaf, zas, Tryz.results53]); rw [hfn, st]; simp; done)
  ·have st := step (k := 4) (c := [104, 111, 108, 100]) rfl hd;have e1 := zeb b.lets (zbI [104, 111, 108, 100]) b.hold;have hlk := zeh [104, 111, 108, 100];rw [if_pos (by simp [clausesL])] at hlk;have cp : zfF b [104, 111, 108, 100] = if (zdx b.lets (zbI [104, 111, 108, 100]) b.hold).2 = 0 then (if (zdx b.lets (zbI [104, 111, 108, 100]) b.hold).1 ≠ 3 then some ([104, 111, 108, 100], 14) else none) else some ([104, 111, 108, 100], (zdx b.lets (zbI [104, 111, 108, 100]) b.hold).2) := rfl;generalize zdx b.lets (zbI [104, 111, 108, 100]) b.hold = r at e1 cp;obtain ⟨u, er⟩ := r;simp only [zeD, ze0] at e1;simp only at cp;have hcl : clausesL[4]? = some [104, 111, 108, 100] := rfl
   repeat' (first
  | ((first | refine zag ?_ | refine zb6 ?_ | refine zaj ?_ | fail); simp [hlk, hcl, zev])
  | (refine ⟨by omega, ?_⟩)
  | ((first | refine zah ?_ | refine zai ?_ | fail); simp [hlk, hcl, zev])
  | (refine zcR ?_)
  | (refine hk _ ?_; clear hk k; simp only [zan])
  | (refine zb5 rfl (by kernel_rfl) (by kernel_rfl) fun k hk => ?_; simp [hlk, hcl, zev])
  | (refine zaq ?_; simp [hlk, hcl, zev])
  | ((first | refine zar ?_ | refine zap ?_ | fail); simp only [zan])
  | (refine ⟨?_, by omega⟩)
  | (refine ⟨fun hc => ?_, fun hc => ?_⟩ <;> (try (exfalso; omega)))
  | (intro hc <;> (try (exfalso; omega)))
  | (refine CallV.fun_ (e1) (by first | rfl | fail) (by first | simp [hlk, hcl, zev] <;> rfl | fail) ?_ <;> (try simp [hlk, hcl, zev]))
  | fail)
   all_goals first
    | (have g1 : er = 0 := (by first | assumption | fail); have g2 : u = 3 := (by first | assumption | fail); rw [cp, if_pos g1, if_neg (by simp [g2])] at st; refine LoopW.next ⟨4 + 1, by omega, st⟩ (by simp) ?_; exact (Wk.cut rfl (by simp [hn, St.lp]) (by simp [wkO, St.lp, zaa, getK, Ob.under, D.under, zad, zae]) (by simp [wkU, St.lp, zal, zaa, getK, D.under]) (by simp [wkE, St.lp, zal, zaa, getK] <;> (try (intros; simp_all; done)) <;> (try (intros; omega)) <;> (try grind))))
    | (have g1 : er = 0 := (by first | assumption | fail); have g2 : ¬ u = 3 := (by first | assumption | fail); rw [cp, if_pos g1, if_pos g2] at st; (refine EndOK.val (.inr rfl) ?_; simp [zaK, zaf, zas, Tryz.results53]); rw [hfn, st]; simp; done)
    | (have g1 : ¬ er = 0 := (by first | assumption | fail); rw [cp, if_neg g1] at st; (refine EndOK.val (.inr rfl) ?_; simp [zaK, zaf, zas, Tryz.results53]); rw [hfn, st]; simp; done)
  ·have hend : zea b clausesL = ([], 0) := by rw [hd]; rfl
   repeat' (first
  | ((first | refine zag ?_ | refine zaj ?_ | refine zah ?_ | fail); simp)
  | (refine zar ?_; simp only [zan])
  | (refine zaZ ?_; simp [zan])
  | fail)
   (refine EndOK.val (.inr rfl) ?_; simp [zaK, zaf, zas, Tryz.results53])
   rw [hfn, hend];simp
 ·have hlt : i < b.lets.length := (lGE.1 hx).1;have hfa := fun h => zrB (p := fun l : Let => zgH l.name) hb hx h
  repeat' (first
  | ((first | refine zag ?_ | refine zaj ?_ | refine zah ?_ | refine zaA ?_ | fail); simp [hx])
  | (refine zap ?_; simp only [zan])
  | (refine ⟨?_, by omega⟩)
  | (intro hc <;> (try (exfalso; omega)))
  | fail)
  refine zb4 (α := { q : List (Key × List U) × Option (Key × List U) // (∀ p ∈ q.1, ∃ c ∈ clausesL, p = znf c) /\ ∀ c ∈ clausesL, znf c ∈ q.1 \/ ((zbI c).any fun v => decide (v.name = l.name)) = false }) [1, 4, 5, 22, 23, 24, 7, 29] (fun q => [])
   (fun q => [(2, .it .s false ziE q.1.1 q.1.2), (1, .box [.u (.str l.name), .u (.int .i64 l.body.op), .u (.int .i64 l.body.n), .u (.int .i64 l.body.unit), .u (.str l.body.s), .u (.sl (l.body.args.map Exp.row))]), (0, .box ((zbu b).map .u))]) 3
   (fun q => q.1.1.length) ⟨(ziE, none), ?_, ?_⟩ ?_ ?_
  ·intro p hp;obtain ⟨c, hc, rfl⟩ := List.mem_map.1 hp;exact ⟨c, hc, rfl⟩
  ·intro c hc;exact .inl (List.mem_map.2 ⟨c, hc, rfl⟩)
  ·exact (Wk.cut rfl (by simp [hn, St.lp]) (by simp [wkO, St.lp, zaa, getK, Ob.under, D.under, zad, zae, zbu]) (by simp [wkU, St.lp, zal, zaa, getK, D.under, zbu]) (by simp [wkE, St.lp, zal, zaa, getK, zbu] <;> (try (intros; simp_all; done)) <;> (try (intros; omega)) <;> (try grind)))
  rintro ⟨⟨left, cur⟩, hq1, hq2⟩;simp only at hq1 hq2;simp [St.lp, St.only, zal, zaa, getK];simp only [zbu, List.map_cons, List.map_nil]
  repeat' (first
  | ((first | refine zag ?_ | refine zaj ?_ | fail); simp [hx])
  | (refine ⟨by omega, ?_⟩)
  | ((first | refine zah ?_ | refine zaA ?_ | refine zaq ?_ | fail); simp [hx])
  | (refine zap ?_; simp only [zan])
  | (refine zaZ ?_; simp [zan])
  | (refine ⟨fun hc => ?_, fun hc => ?_⟩ <;> (try (exfalso; omega)))
  | (intro hc <;> (try (exfalso; omega)))
  | fail)
  ·have hno : zgH l.name = false := by
    unfold zgH;rw [List.any_eq_false];intro c hc1;rcases hq2 c hc1 with h | h
    ·(rw [hc] at h; cases h)
    ·simp only [h]; simp
   refine LoopW.next ⟨i + 1, by omega, za7 hx hb hno⟩ (by simp; omega) ?_
   exact (Wk.cut rfl (by simp [hn, St.lp]) (by simp [wkO, St.lp, zaa, getK, Ob.under, D.under, zad, zae]) (by simp [wkU, St.lp, zal, zaa, getK, D.under]) (by simp [wkE, St.lp, zal, zaa, getK] <;> (try (intros; simp_all; done)) <;> (try (intros; omega)) <;> (try grind)))
  ·rename_i l1 pk pv l2;have hl : left = l1 ++ (pk, pv) :: l2 := hc;obtain ⟨c, hc1, hpc⟩ := hq1 (pk, pv) (by rw [hl]; simp);simp only [znf, Prod.mk.injEq] at hpc;obtain ⟨rfl, rfl⟩ := hpc;have hvn := zjp (zbI c) 109 [U.row (zgG l) 0] _ (fun v _ => ziK v l) (by simp) (fun _ => rfl) (fun _ => rfl);simp only [zgG, List.map_cons, List.map_nil] at hvn;cases hany : ((zbI c).any fun v => decide (v.name = l.name))
   all_goals
    rw [hany] at hvn
    try simp only [znf]
    try simp
    repeat' (first
  | ((first | refine zag ?_ | refine zaj ?_ | refine zah ?_ | refine zai ?_ | fail); simp [hx])
  | ((first | refine zar ?_ | refine zap ?_ | fail); simp only [zan])
  | (refine CallP.fE (hvn) (by first | rfl | fail) (by first | simp [hx] <;> rfl | fail) ?_; (try simp [hx]))
  | fail)
   ·refine LoopW.next ⟨(l1 ++ l2, some (znf c)), ?_, ?_⟩ ?_ ?_
    ·intro p hp;exact hq1 p (by rw [hl]; simp at hp ⊢; rcases hp with h | h <;> simp [h])
    ·intro c' hc';rcases hq2 c' hc' with h | h
     ·rw [hl] at h;simp only [List.mem_append, List.mem_cons] at h;rcases h with h | h | h
      ·exact .inl (List.mem_append.2 (.inl h))
      ·have : c' = c := by simp [znf] at h; exact h.1
       subst this;exact .inr hany
      ·exact .inl (List.mem_append.2 (.inr h))
     ·exact .inr h
    ·first | (simp [hl]; done) | (simp [hl]; omega)
    ·exact (Wk.cut rfl (by simp [hn, St.lp]) (by simp [wkO, St.lp, zaa, getK, Ob.under, D.under, zad, zae, znf]) (by simp [wkU, St.lp, zal, zaa, getK, D.under, znf]) (by simp [wkE, St.lp, zal, zaa, getK, znf] <;> (try (intros; simp_all; done)) <;> (try (intros; omega)) <;> (try grind)))
   ·(refine EndOK.val (.inr rfl) ?_; simp [zaK, zaf, zas, Tryz.results53])
    have hyes : zgH l.name = true := by
      unfold zgH;rw [List.any_eq_true];exact ⟨c, hc1, hany⟩
    rw [hfa hyes];simp
theorem zoZ (c : UInt8) : Fun Tryz.prog 198 [.u (.int .u8 c.toNat)] (· = .u (.bool (zcr c))) := by
 unfold zcr
 (refine Fun.of_body Tryz.func198 rfl (by simp) fun Γ hn => ?_); simp only [entry, ziC, ziN, maC, maN, oA, Tryz.ntmps198]
 repeat' (first
  | ((first | refine zag ?_ | refine zaj ?_ | refine zah ?_ | fail); simp)
  | (refine zar ?_; simp only [zan])
  | (refine ⟨fun hc => ?_, fun hc => ?_⟩ <;> (try (exfalso; omega)))
  | fail)
 all_goals
  (refine EndOK.val (.inr rfl) ?_; simp [zaK, zaf, zas, Tryz.results198])
 all_goals first | omega | (rw [Bool.eq_iff_iff]; simp; omega) | (simp; omega)
theorem znZ (c : UInt8) : Fun Tryz.prog 244 [.u (.int .u8 c.toNat)] (· = .u (.bool (zdp c))) := by
 unfold zdp
 (refine Fun.of_body Tryz.func244 rfl (by simp) fun Γ hn => ?_); simp only [entry, ziC, ziN, maC, maN, oA, Tryz.ntmps244]
 repeat' (first
  | ((first | refine zag ?_ | refine zaj ?_ | refine zah ?_ | fail); simp)
  | (refine zar ?_; simp only [zan])
  | (refine ⟨fun hc => ?_, fun hc => ?_⟩ <;> (try (exfalso; omega)))
  | (refine CallP.fE (zei c) (by first | rfl | fail) (by first | (simp; done) | (simp; rfl) | fail) ?_; (try simp))
  | (refine CallP.fE (zfa c) (by first | rfl | fail) (by first | (simp; done) | (simp; rfl) | fail) ?_; (try simp))
  | fail)
 all_goals
  (refine EndOK.val (.inr rfl) ?_; simp [zaK, zaf, zas, Tryz.results244])
 all_goals simp_all
theorem zdY (p : UInt8 -> Bool) (l : List UInt8) : zcT p l <= l.length := by
 unfold zcT;exact (List.takeWhile_sublist p).length_le
theorem zny {p : UInt8 -> Bool} {l : List UInt8} (h : zcT p l = l.length) : ∀ c ∈ l, p c = true := by
 have : l.takeWhile p = l := (List.takeWhile_sublist p).eq_of_length h;intro c hc;rw [<- this] at hc;exact List.all_eq_true.1 (List.all_takeWhile (l := l) (p := p)) c hc
theorem zmB (s : List UInt8) (hl : s.length <= 1000000) : Fun Tryz.prog 245 [.u (.str s)] (· = .tup [.u (.int .i64 ((zgl s).getD 0)), .u (.bool (zgl s).isSome)]) := by
 have hsp := zfS s hl 222 zbC (fun c _ => zfa c) (by simp);unfold zgl;cases s with
 | nil =>
  (refine Fun.of_body Tryz.func245 rfl (by simp) fun Γ hn => ?_); simp only [entry, ziC, ziN, maC, maN, oA, Tryz.ntmps245]
  repeat' (first
  | ((first | refine zag ?_ | refine zaj ?_ | refine zah ?_ | refine zai ?_ | fail); simp)
  | (refine zar ?_; simp only [zan])
  | fail)
  all_goals
   (refine EndOK.val (.inr rfl) ?_; simp [zaK, zaf, zas, Tryz.results245])
 | cons c s =>
  by_cases h1 : zcT zbC (c :: s) = (c :: s).length
  case neg =>
   rw [if_pos (.inr (.inl h1))];have h1' : ¬ (zcT zbC (c :: s) : Int) = s.length + 1 := by simp at h1; omega
   (refine Fun.of_body Tryz.func245 rfl (by simp) fun Γ hn => ?_); simp only [entry, ziC, ziN, maC, maN, oA, Tryz.ntmps245]
   repeat' (first
  | ((first | refine zag ?_ | refine zaj ?_ | refine zah ?_ | refine zai ?_ | fail); simp [h1'])
  | (refine zar ?_; simp only [zan])
  | (refine CallP.fE (hsp) (by first | rfl | fail) (by first | simp [h1'] <;> rfl | fail) ?_; (try simp [h1']))
  | fail)
   all_goals
    (refine EndOK.val (.inr rfl) ?_; simp [zaK, zaf, zas, Tryz.results245])
  have h1' : (zcT zbC (c :: s) : Int) = s.length + 1 := by simp at h1; omega
  by_cases h2 : c.toNat = 48 /\ s ≠ []
  ·rw [if_pos (.inr (.inr (.inl ⟨by have := h2.1; simp; exact UInt8.toNat_inj.1 this, by simp; intro _; exact h2.2⟩)))];have h2b := h2.1;have h2a := h2.2
   (refine Fun.of_body Tryz.func245 rfl (by simp) fun Γ hn => ?_); simp only [entry, ziC, ziN, maC, maN, oA, Tryz.ntmps245]
   repeat' (first
  | ((first | refine zag ?_ | refine zaj ?_ | refine zah ?_ | refine zai ?_ | fail); simp [h1', h2a, h2b])
  | (refine zar ?_; simp only [zan])
  | (refine CallP.fE (hsp) (by first | rfl | fail) (by first | simp [h1', h2a, h2b] <;> rfl | fail) ?_; (try simp [h1', h2a, h2b]))
  | fail)
   all_goals
    (refine EndOK.val (.inr rfl) ?_; simp [zaK, zaf, zas, Tryz.results245])
  have h2' : c.toNat = 48 -> s = [] := fun h => by
   by_cases hs : s = []
   ·exact hs
   ·exact absurd ⟨h, hs⟩ h2
  by_cases h3 : 13 < (c :: s).length
  ·rw [if_pos (.inr (.inr (.inr h3)))];have h3' : 13 < (s.length : Int) + 1 := by simp at h3; omega
   have hne : s ≠ [] := fun e => by rw [e] at h3; simp at h3
   have h2'' : ¬ c.toNat = 48 := fun h => hne (h2' h)
   (refine Fun.of_body Tryz.func245 rfl (by simp) fun Γ hn => ?_); simp only [entry, ziC, ziN, maC, maN, oA, Tryz.ntmps245]
   repeat' (first
  | ((first | refine zag ?_ | refine zaj ?_ | fail); simp [h1', h2'', h3'])
  | (refine ⟨by omega, ?_⟩)
  | ((first | refine zah ?_ | refine zai ?_ | fail); simp [h1', h2'', h3'])
  | (refine zar ?_; simp only [zan])
  | (intro hc <;> (try (exfalso; omega)))
  | (refine CallP.fE (hsp) (by first | rfl | fail) (by first | simp [h1', h2'', h3'] <;> rfl | fail) ?_; (try simp [h1', h2'', h3']))
  | fail)
   all_goals
    (refine EndOK.val (.inr rfl) ?_; simp [zaK, zaf, zas, Tryz.results245])
  have hall := zny h1;rw [if_neg (by
   simp only [not_or];refine ⟨by simp, fun h => h h1, fun h => ?_, h3⟩;have hc48 : c = 48 := by have := h.1; simpa using this
   have := h2' (by rw [hc48]; rfl);rw [this, hc48] at h;exact h.2 rfl)]
  have h3' : ¬ 13 < (s.length : Int) + 1 := by simp at h3; omega
  have hval : ∀ k, k <= (c :: s).length -> 0 <= zbz ((c :: s).take k) /\ zbz ((c :: s).take k) < 10 ^ 13 := fun k hk => by
   have h4 := zf5 k ((c :: s).take k) (by simp; simp at hk; omega) (fun x hx => hall x (List.mem_of_mem_take hx));have : (10 : Int) ^ k <= 10 ^ 13 := by
    have := Nat.pow_le_pow_right (n := 10) (by omega) (show k <= 13 by simp at h3 hk; omega)
    exact_mod_cast this
   omega
  have hloop : ∀ (hw : c.toNat = 48 -> s = []), Fun Tryz.prog 245 [.u (.str (c :: s))] (· = .tup [.u (.int .i64 ((if 1099511627776 < zbz (c :: s) then none else some (zbz (c :: s)) : Option Int).getD 0)), .u (.bool (if 1099511627776 < zbz (c :: s) then none else some (zbz (c :: s)) : Option Int).isSome)]) := fun hw => by
   by_cases h48 : c.toNat = 48
   ·have h48' : (c.toNat : Int) = 48 := by omega
    have hc48 : (c = 48) = True := eq_true (UInt8.toNat_inj.1 h48);have hs0 : (s = []) = True := eq_true (hw h48)
    (refine Fun.of_body Tryz.func245 rfl (by simp) fun Γ hn => ?_); simp only [entry, ziC, ziN, maC, maN, oA, Tryz.ntmps245]
    repeat' (first
  | ((first | refine zag ?_ | refine zaj ?_ | refine zah ?_ | refine zai ?_ | refine zaA ?_ | fail); simp [h1', h3', h48', hc48, hs0])
  | (refine zap ?_; simp only [zan])
  | (refine CallP.fE (hsp) (by first | rfl | fail) (by first | simp [h1', h3', h48', hc48, hs0] <;> rfl | fail) ?_; (try simp [h1', h3', h48', hc48, hs0]))
  | fail)
    refine zb2 (α := { i : Nat // i <= (c :: s).length }) [0, 30] (fun i => [(4, .u (.int .i64 (zbz ((c :: s).take i.1)))), (31, .u (.int .i64 i.1))]) (fun i => (c :: s).length - i.1) ⟨0, by omega⟩ ?_ ?_
    ·exact (Wk.cut rfl (by simp [hn, St.lp]) (by simp [wkO, St.lp, zaa, getK, Ob.under, D.under, zad, zae, zbz]) (by simp [wkU, St.lp, zal, zaa, getK, D.under, zbz]) (by simp [wkE, St.lp, zal, zaa, getK, zbz] <;> (try (intros; simp_all; done)) <;> (try (intros; omega)) <;> (try grind)))
    rintro ⟨i, hi⟩;simp [St.lp, St.only, zal, zaa, getK];rcases hx : (c :: s)[i]? with _ | a
    ·have hge : (c :: s).length <= i := by simpa using hx
     obtain rfl : i = (c :: s).length := by omega
     rw [List.take_length];have hge2 : ¬ ((c :: s).length : Int) < s.length + 1 := by simp
     by_cases hb : 1099511627776 < zbz (c :: s)
     ·repeat' (first
  | ((first | refine zag ?_ | refine zaj ?_ | refine zah ?_ | refine zai ?_ | fail); simp [hb, hge2])
  | (refine zar ?_; simp only [zan])
  | (refine zaZ ?_; simp [zan])
  | fail)
      (refine EndOK.val (.inr rfl) ?_; simp [zaK, zaf, zas, Tryz.results245])
      try simp [hb]
     ·repeat' (first
  | ((first | refine zag ?_ | refine zaj ?_ | refine zah ?_ | refine zai ?_ | fail); simp [hb, hge2])
  | ((first | refine zar ?_ | refine zap ?_ | fail); simp only [zan])
  | (refine zaZ ?_; simp [zan])
  | fail)
      (refine EndOK.val (.inr rfl) ?_; simp [zaK, zaf, zas, Tryz.results245])
      try simp [hb]
    ·have hlt : i < (c :: s).length := (lGE.1 hx).1;have hlt2 : (i : Int) < s.length + 1 := by simp at hlt; omega
     have hd := hall a (List.mem_of_getElem? hx);simp only [zbC, Bool.and_eq_true, decide_eq_true_eq] at hd;have hv := hval i hi;have hv2 := hval (i + 1) hlt;have hsn : zbz ((c :: s).take (i + 1)) = 10 * zbz ((c :: s).take i) + ((a.toNat : Int) - 48) := by
      rw [List.take_succ, hx]; exact ze9 _ _
     generalize zbz ((c :: s).take i) = dv at hv hsn;have hsn2 := hsn.symm
     repeat' (first
  | ((first | refine zag ?_ | refine zaj ?_ | fail); simp [hx, hlt2, hsn2])
  | (refine ⟨by omega, ?_⟩)
  | ((first | refine zah ?_ | refine zaq ?_ | fail); simp [hx, hlt2, hsn2])
  | (refine zap ?_; simp only [zan])
  | fail)
     refine LoopW.next ⟨i + 1, hlt⟩ (by simp at hlt; simp; omega) ?_
     exact (Wk.cut rfl (by simp [hn, St.lp]) (by simp [wkO, St.lp, zaa, getK, Ob.under, D.under, zad, zae, hsn]) (by simp [wkU, St.lp, zal, zaa, getK, D.under, hsn]) (by simp [wkE, St.lp, zal, zaa, getK, hsn] <;> (try (intros; simp_all; done)) <;> (try (intros; omega)) <;> (try grind)))
   ·(refine Fun.of_body Tryz.func245 rfl (by simp) fun Γ hn => ?_); simp only [entry, ziC, ziN, maC, maN, oA, Tryz.ntmps245]
    repeat' (first
  | ((first | refine zag ?_ | refine zaj ?_ | fail); simp [h1', h3', h48])
  | (refine ⟨by omega, ?_⟩)
  | ((first | refine zah ?_ | refine zai ?_ | refine zaA ?_ | fail); simp [h1', h3', h48])
  | (refine zap ?_; simp only [zan])
  | (intro hc <;> (try (exfalso; omega)))
  | (refine CallP.fE (hsp) (by first | rfl | fail) (by first | simp [h1', h3', h48] <;> rfl | fail) ?_; (try simp [h1', h3', h48]))
  | fail)
    refine zb2 (α := { i : Nat // i <= (c :: s).length }) [0, 30] (fun i => [(4, .u (.int .i64 (zbz ((c :: s).take i.1)))), (31, .u (.int .i64 i.1))]) (fun i => (c :: s).length - i.1) ⟨0, by omega⟩ ?_ ?_
    ·exact (Wk.cut rfl (by simp [hn, St.lp]) (by simp [wkO, St.lp, zaa, getK, Ob.under, D.under, zad, zae, zbz]) (by simp [wkU, St.lp, zal, zaa, getK, D.under, zbz]) (by simp [wkE, St.lp, zal, zaa, getK, zbz] <;> (try (intros; simp_all; done)) <;> (try (intros; omega)) <;> (try grind)))
    rintro ⟨i, hi⟩;simp [St.lp, St.only, zal, zaa, getK];rcases hx : (c :: s)[i]? with _ | a
    ·have hge : (c :: s).length <= i := by simpa using hx
     obtain rfl : i = (c :: s).length := by omega
     rw [List.take_length];have hge2 : ¬ ((c :: s).length : Int) < s.length + 1 := by simp
     by_cases hb : 1099511627776 < zbz (c :: s)
     ·repeat' (first
  | ((first | refine zag ?_ | refine zaj ?_ | refine zah ?_ | refine zai ?_ | fail); simp [hb, hge2])
  | (refine zar ?_; simp only [zan])
  | (refine zaZ ?_; simp [zan])
  | fail)
      (refine EndOK.val (.inr rfl) ?_; simp [zaK, zaf, zas, Tryz.results245])
      try simp [hb]
     ·repeat' (first
  | ((first | refine zag ?_ | refine zaj ?_ | refine zah ?_ | refine zai ?_ | fail); simp [hb, hge2])
  | ((first | refine zar ?_ | refine zap ?_ | fail); simp only [zan])
  | (refine zaZ ?_; simp [zan])
  | fail)
      (refine EndOK.val (.inr rfl) ?_; simp [zaK, zaf, zas, Tryz.results245])
      try simp [hb]
    ·have hlt : i < (c :: s).length := (lGE.1 hx).1;have hlt2 : (i : Int) < s.length + 1 := by simp at hlt; omega
     have hd := hall a (List.mem_of_getElem? hx);simp only [zbC, Bool.and_eq_true, decide_eq_true_eq] at hd;have hv := hval i hi;have hv2 := hval (i + 1) hlt;have hsn : zbz ((c :: s).take (i + 1)) = 10 * zbz ((c :: s).take i) + ((a.toNat : Int) - 48) := by
      rw [List.take_succ, hx]; exact ze9 _ _
     generalize zbz ((c :: s).take i) = dv at hv hsn;have hsn2 := hsn.symm
     repeat' (first
  | ((first | refine zag ?_ | refine zaj ?_ | fail); simp [hx, hlt2, hsn2])
  | (refine ⟨by omega, ?_⟩)
  | ((first | refine zah ?_ | refine zaq ?_ | fail); simp [hx, hlt2, hsn2])
  | (refine zap ?_; simp only [zan])
  | fail)
     refine LoopW.next ⟨i + 1, hlt⟩ (by simp at hlt; simp; omega) ?_
     exact (Wk.cut rfl (by simp [hn, St.lp]) (by simp [wkO, St.lp, zaa, getK, Ob.under, D.under, zad, zae, hsn]) (by simp [wkU, St.lp, zal, zaa, getK, D.under, hsn]) (by simp [wkE, St.lp, zal, zaa, getK, hsn] <;> (try (intros; simp_all; done)) <;> (try (intros; omega)) <;> (try grind)))
  exact hloop h2'
theorem zk4 (s p : List UInt8) : Fun Tryz.prog 282 [.u (.str s), .u (.str p)] (· = .u (.bool (p.isPrefixOf s))) := by
 by_cases hl : p.length <= s.length
 ·have hl2 : (p.length : Int) <= s.length := by omega
  by_cases he : s.take p.length = p
  ·have hp : p.isPrefixOf s = true := List.isPrefixOf_iff_prefix.2 (List.prefix_iff_eq_take.2 he.symm)
   (refine Fun.of_body Tryz.func282 rfl (by simp) fun Γ hn => ?_); simp only [entry, ziC, ziN, maC, maN, oA, Tryz.ntmps282]
   repeat' (first
  | ((first | refine zag ?_ | refine zaj ?_ | refine zah ?_ | fail); simp [hl, hl2, he])
  | (refine zar ?_; simp only [zan])
  | fail)
   all_goals
    (refine EndOK.val (.inr rfl) ?_; simp [zaK, zaf, zas, Tryz.results282])
   all_goals first | (rw [hp]; done) | exact List.isPrefixOf_iff_prefix.1 hp | (simp [hp]; done) | rfl
  ·have hp : p.isPrefixOf s = false := by
    cases h : p.isPrefixOf s with
    | false => rfl
    | true => exact absurd (List.prefix_iff_eq_take.1 (List.isPrefixOf_iff_prefix.1 h)).symm he
   (refine Fun.of_body Tryz.func282 rfl (by simp) fun Γ hn => ?_); simp only [entry, ziC, ziN, maC, maN, oA, Tryz.ntmps282]
   repeat' (first
  | ((first | refine zag ?_ | refine zaj ?_ | refine zah ?_ | fail); simp [hl, hl2, he])
  | (refine zar ?_; simp only [zan])
  | fail)
   all_goals
    (refine EndOK.val (.inr rfl) ?_; simp [zaK, zaf, zas, Tryz.results282])
   all_goals first | (rw [hp]; done) | exact List.isPrefixOf_iff_prefix.1 hp | (simp [hp]; done) | rfl
 ·have hl2 : ¬ (p.length : Int) <= s.length := by omega
  have hp : p.isPrefixOf s = false := by
   cases h : p.isPrefixOf s with
   | false => rfl
   | true => exact absurd (List.isPrefixOf_iff_prefix.1 h).length_le hl
  (refine Fun.of_body Tryz.func282 rfl (by simp) fun Γ hn => ?_); simp only [entry, ziC, ziN, maC, maN, oA, Tryz.ntmps282]
  repeat' (first
  | ((first | refine zag ?_ | refine zaj ?_ | refine zah ?_ | fail); simp [hl, hl2])
  | (refine zar ?_; simp only [zan])
  | fail)
  all_goals
   (refine EndOK.val (.inr rfl) ?_; simp [zaK, zaf, zas, Tryz.results282])
  all_goals first | (rw [hp]; done) | exact List.isPrefixOf_iff_prefix.1 hp | (simp [hp]; done) | rfl
theorem zmu (s p : List UInt8) : Fun Tryz.prog 246 [.u (.str s), .u (.str p)] (· = .u (.bool (p.isPrefixOf s))) := by
 have h := zk4 s p
 (refine Fun.of_body Tryz.func246 rfl (by simp) fun Γ hn => ?_); simp only [entry, ziC, ziN, maC, maN, oA, Tryz.ntmps246]
 repeat' (first
  | ((first | refine zag ?_ | refine zaj ?_ | refine zah ?_ | fail); simp)
  | (refine zar ?_; simp only [zan])
  | (refine CallP.fE (h) (by first | rfl | fail) (by first | (simp; done) | (simp; rfl) | fail) ?_; (try simp))
  | fail)
 (refine EndOK.val (.inr rfl) ?_; simp [zaK, zaf, zas, Tryz.results246])
@[local simp] theorem zsh : zoF 1 = .u (.row (signsL.map .str) 0) := by
 simp [zoF, globs, signsL, uOf]
theorem hsl : signsL.length = 11 := rfl
theorem zpE (s : List UInt8) (hs : s ≠ []) (hl : s.length <= 1000000) : Fun Tryz.prog 199 [.u (.str s)] (· = nextD s) := by
 obtain ⟨c, r, rfl⟩ : ∃ c r, s = c :: r := by cases s with | nil => exact absurd rfl hs | cons c r => exact ⟨c, r, rfl⟩
 have h1 := zei c;have h2 := zfa c;have h3 := zfS (c :: r) hl 244 zdp (fun c _ => znZ c) (by simp);have h4 := zfS (c :: r) hl 222 zbC (fun c _ => zfa c) (by simp);have h5 := zlz ((c :: r).take (zcT zdp (c :: r)));have h6 := zmB ((c :: r).take (zcT zbC (c :: r))) (by have := zdY zbC (c :: r); rw [List.length_take]; omega);have l1 : (zcT zdp (c :: r) : Int) <= r.length + 1 := by have := zdY zdp (c :: r); simp at this; omega
 have l2 : (zcT zbC (c :: r) : Int) <= r.length + 1 := by have := zdY zbC (c :: r); simp at this; omega
 have l1' : zcT zdp (c :: r) <= r.length + 1 := by omega
 have l2' : zcT zbC (c :: r) <= r.length + 1 := by omega
 unfold nextD zh0;cases c1 : zdv c with
 | true =>
  rw [c1] at h1;cases c3 : zjy ((c :: r).take (zcT zdp (c :: r))) with
  | true =>
   rw [c3] at h5
   (refine Fun.of_body Tryz.func199 rfl (by simp) fun Γ hn => ?_); simp only [entry, ziC, ziN, maC, maN, oA, Tryz.ntmps199]
   repeat' (first
  | ((first | refine zag ?_ | refine zaj ?_ | refine zah ?_ | refine zai ?_ | fail); simp [l1, l1'])
  | ((first | refine zar ?_ | refine zap ?_ | fail); simp only [zan])
  | (refine CallP.fE (h1) (by first | rfl | fail) (by first | simp [l1, l1'] <;> rfl | fail) ?_; (try simp [l1, l1']))
  | (refine CallP.fE (h3) (by first | rfl | fail) (by first | simp [l1, l1'] <;> rfl | fail) ?_; (try simp [l1, l1']))
  | (refine CallP.fE (h5) (by first | rfl | fail) (by first | simp [l1, l1'] <;> rfl | fail) ?_; (try simp [l1, l1']))
  | fail)
   (refine EndOK.val (.inr rfl) ?_; simp [zaK, zaf, zas, Tryz.results199])
   simp [c1, c3]
  | false =>
   rw [c3] at h5
   (refine Fun.of_body Tryz.func199 rfl (by simp) fun Γ hn => ?_); simp only [entry, ziC, ziN, maC, maN, oA, Tryz.ntmps199]
   repeat' (first
  | ((first | refine zag ?_ | refine zaj ?_ | refine zah ?_ | refine zai ?_ | fail); simp [l1, l1'])
  | (refine zar ?_; simp only [zan])
  | (refine CallP.fE (h1) (by first | rfl | fail) (by first | simp [l1, l1'] <;> rfl | fail) ?_; (try simp [l1, l1']))
  | (refine CallP.fE (h3) (by first | rfl | fail) (by first | simp [l1, l1'] <;> rfl | fail) ?_; (try simp [l1, l1']))
  | (refine CallP.fE (h5) (by first | rfl | fail) (by first | simp [l1, l1'] <;> rfl | fail) ?_; (try simp [l1, l1']))
  | fail)
   (refine EndOK.val (.inr rfl) ?_; simp [zaK, zaf, zas, Tryz.results199])
   simp [c1, c3]
 | false =>
  rw [c1] at h1;cases c2 : zbC c with
  | true =>
   rw [c2] at h2;cases c3 : zgl ((c :: r).take (zcT zbC (c :: r))) with
   | none =>
    rw [c3] at h6
    (refine Fun.of_body Tryz.func199 rfl (by simp) fun Γ hn => ?_); simp only [entry, ziC, ziN, maC, maN, oA, Tryz.ntmps199]
    repeat' (first
  | ((first | refine zag ?_ | refine zaj ?_ | refine zah ?_ | refine zai ?_ | fail); simp [l2, l2'])
  | (refine zar ?_; simp only [zan])
  | (refine CallP.fE (h1) (by first | rfl | fail) (by first | simp [l2, l2'] <;> rfl | fail) ?_; (try simp [l2, l2']))
  | (refine CallP.fE (h2) (by first | rfl | fail) (by first | simp [l2, l2'] <;> rfl | fail) ?_; (try simp [l2, l2']))
  | (refine CallP.fE (h4) (by first | rfl | fail) (by first | simp [l2, l2'] <;> rfl | fail) ?_; (try simp [l2, l2']))
  | (refine CallP.fE (h6) (by first | rfl | fail) (by first | simp [l2, l2'] <;> rfl | fail) ?_; (try simp [l2, l2']))
  | fail)
    (refine EndOK.val (.inr rfl) ?_; simp [zaK, zaf, zas, Tryz.results199])
    simp [c1, c2, c3]
   | some n =>
    rw [c3] at h6
    (refine Fun.of_body Tryz.func199 rfl (by simp) fun Γ hn => ?_); simp only [entry, ziC, ziN, maC, maN, oA, Tryz.ntmps199]
    repeat' (first
  | ((first | refine zag ?_ | refine zaj ?_ | refine zah ?_ | refine zai ?_ | fail); simp [l2, l2'])
  | ((first | refine zar ?_ | refine zap ?_ | fail); simp only [zan])
  | (refine CallP.fE (h1) (by first | rfl | fail) (by first | simp [l2, l2'] <;> rfl | fail) ?_; (try simp [l2, l2']))
  | (refine CallP.fE (h2) (by first | rfl | fail) (by first | simp [l2, l2'] <;> rfl | fail) ?_; (try simp [l2, l2']))
  | (refine CallP.fE (h4) (by first | rfl | fail) (by first | simp [l2, l2'] <;> rfl | fail) ?_; (try simp [l2, l2']))
  | (refine CallP.fE (h6) (by first | rfl | fail) (by first | simp [l2, l2'] <;> rfl | fail) ?_; (try simp [l2, l2']))
  | fail)
    (refine EndOK.val (.inr rfl) ?_; simp [zaK, zaf, zas, Tryz.results199])
    simp [c1, c2, c3]
  | false =>
   rw [c2] at h2
   (refine Fun.of_body Tryz.func199 rfl (by simp) fun Γ hn => ?_); simp only [entry, ziC, ziN, maC, maN, oA, Tryz.ntmps199]
   repeat' (first
  | ((first | refine zag ?_ | refine zaj ?_ | refine zah ?_ | refine zai ?_ | refine zaA ?_ | fail); simp [hsl, List.take_of_length_le])
  | (refine zap ?_; simp only [zan])
  | (refine CallP.fE (h1) (by first | rfl | fail) (by first | simp [hsl, List.take_of_length_le] <;> rfl | fail) ?_; (try simp [hsl, List.take_of_length_le]))
  | (refine CallP.fE (h2) (by first | rfl | fail) (by first | simp [hsl, List.take_of_length_le] <;> rfl | fail) ?_; (try simp [hsl, List.take_of_length_le]))
  | fail)
   refine zb2 (α := { i : Nat // i <= 11 /\ ∀ x ∈ signsL.take i, x.isPrefixOf (c :: r) = false }) [0, 2, 3, 43] (fun i => [(44, .u (.int .i64 i.1))]) (fun i => 11 - i.1) ⟨0, by omega, by simp⟩ ?_ ?_
   ·exact (Wk.cut rfl (by simp [hn, St.lp]) (by simp [wkO, St.lp, zaa, getK, Ob.under, D.under, zad, zae]) (by simp [wkU, St.lp, zal, zaa, getK, D.under]) (by simp [wkE, St.lp, zal, zaa, getK] <;> (try (intros; simp_all; done)) <;> (try (intros; omega)) <;> (try grind)))
   rintro ⟨i, hi, hb⟩;simp [St.lp, St.only, zal, zaa, getK];rcases hx : signsL[i]? with _ | x
   ·have hge : signsL.length <= i := by simpa using hx
    obtain rfl : i = 11 := by rw [hsl] at hge; omega
    have hnone : signsL.find? (fun x => x.isPrefixOf (c :: r)) = none := List.find?_eq_none.2 fun x hx => by
     rw [hb x (by rw [List.take_of_length_le (by rw [hsl]; omega)]; exact hx)]; simp
    repeat' (first
  | ((first | refine zag ?_ | refine zaj ?_ | refine zah ?_ | fail); simp)
  | (refine zar ?_; simp only [zan])
  | (refine zaZ ?_; simp [zan])
  | fail)
    (refine EndOK.val (.inr rfl) ?_; simp [zaK, zaf, zas, Tryz.results199])
    simp [c1, c2, hnone]
   ·have hlt : i < 11 := by have := (lGE.1 hx).1; rw [hsl] at this; exact this
    have hlt2 : (i : Int) < 11 := by omega
    have hp := zmu (c :: r) x;by_cases hpx : x.isPrefixOf (c :: r) = true
    ·have hfind : signsL.find? (fun x => x.isPrefixOf (c :: r)) = some x := by
      have e : signsL = signsL.take i ++ x :: signsL.drop (i + 1) := by
       obtain ⟨h5, h6⟩ := lGE.1 hx;rw [<- h6, List.getElem_cons_drop, List.take_append_drop]
      rw [e, List.find?_append, List.find?_eq_none.2 (fun y hy => by rw [hb y hy]; simp), List.find?_cons, hpx];rfl
     rw [hpx] at hp
     repeat' (first
  | ((first | refine zag ?_ | refine zaj ?_ | refine zah ?_ | refine zai ?_ | fail); simp [hx, hsl, hlt2])
  | ((first | refine zar ?_ | refine zap ?_ | fail); simp only [zan])
  | (refine CallP.fE (hp) (by first | rfl | fail) (by first | simp [hx, hsl, hlt2] <;> rfl | fail) ?_; (try simp [hx, hsl, hlt2]))
  | fail)
     (refine EndOK.val (.inr rfl) ?_; simp [zaK, zaf, zas, Tryz.results199])
     simp [c1, c2, hfind]
    ·rw [Bool.eq_false_iff.2 hpx] at hp
     repeat' (first
  | ((first | refine zag ?_ | refine zaj ?_ | fail); simp [hx, hsl, hlt2])
  | (refine ⟨by omega, ?_⟩)
  | ((first | refine zah ?_ | refine zai ?_ | refine zaq ?_ | fail); simp [hx, hsl, hlt2])
  | (refine zap ?_; simp only [zan])
  | (refine CallP.fE (hp) (by first | rfl | fail) (by first | simp [hx, hsl, hlt2] <;> rfl | fail) ?_; (try simp [hx, hsl, hlt2]))
  | fail)
     refine LoopW.next ⟨i + 1, by omega, fun y hy => ?_⟩ (by simp; omega) ?_
     ·rw [List.take_succ, hx] at hy;rcases List.mem_append.1 hy with h | h
      ·exact hb y h
      ·simp at h; subst h; exact Bool.eq_false_iff.2 hpx
     ·exact (Wk.cut rfl (by simp [hn, St.lp]) (by simp [wkO, St.lp, zaa, getK, Ob.under, D.under, zad, zae]) (by simp [wkU, St.lp, zal, zaa, getK, D.under]) (by simp [wkE, St.lp, zal, zaa, getK] <;> (try (intros; simp_all; done)) <;> (try (intros; omega)) <;> (try grind)))
theorem zmT (l : List Int) (v : Int) (hl : l.length <= 1000000) : Fun Tryz.prog 196 [.u (ints l), .u (.int .i64 v)] (· = .u (.int .i64 (zsA l v))) := by
 obtain ⟨R, hR⟩ : ∃ R, R = zsA l v := ⟨_, rfl⟩;rw [<- hR];unfold ints
 (refine Fun.of_body Tryz.func196 rfl (by simp) fun Γ hn => ?_); simp only [entry, ziC, ziN, maC, maN, oA, Tryz.ntmps196]
 repeat' (first
  | ((first | refine zag ?_ | refine zaj ?_ | refine zah ?_ | refine zaA ?_ | fail); simp)
  | fail)
 refine zb2 (α := { i : Nat // i <= l.length /\ v ∉ l.take i }) [0, 1, 7] (fun i => [(8, .u (.int .i64 i.1))]) (fun i => l.length - i.1) ⟨0, by omega, by simp⟩ ?_ ?_
 ·exact (Wk.env rfl rfl rfl (by simp [wkE, St.lp, zal, zaa, getK] <;> (try (intros; simp_all; done)) <;> (try (intros; omega)) <;> (try grind)))
 rintro ⟨i, hi, hb⟩;simp [St.lp, St.only, zal, zaa, getK];rcases hx : l[i]? with _ | x
 ·have hge : l.length <= i := by simpa using hx
  obtain rfl : i = l.length := by omega
  rw [List.take_length] at hb;have e : R = -1 := by rw [hR, zsA, zkn hb]
  rw [e]
  repeat' (first
  | ((first | refine zag ?_ | refine zaj ?_ | refine zah ?_ | fail); simp [hx])
  | (refine zar ?_; simp only [zan])
  | (refine zaZ ?_; simp [zan])
  | fail)
  (refine EndOK.val (.inr rfl) ?_; simp [zaK, zaf, zas, Tryz.results196])
 ·have hlt : i < l.length := (lGE.1 hx).1;by_cases he : v = x
  ·have e : R = i := by rw [hR, zsA, zp8 (he ▸ hx) hb]
   rw [e]
   repeat' (first
  | ((first | refine zag ?_ | refine zaj ?_ | refine zah ?_ | refine zai ?_ | fail); simp [hx, he])
  | ((first | refine zar ?_ | refine zap ?_ | fail); simp only [zan])
  | (refine ⟨?_, by omega⟩)
  | (intro hc <;> (try (exfalso; omega)))
  | fail)
   (refine EndOK.val (.inr rfl) ?_; simp [zaK, zaf, zas, Tryz.results196])
  ·have he' : ¬ x = v := fun h => he h.symm
   repeat' (first
  | ((first | refine zag ?_ | refine zaj ?_ | fail); simp [hx, he, he'])
  | (refine ⟨by omega, ?_⟩)
  | ((first | refine zah ?_ | refine zai ?_ | refine zaq ?_ | fail); simp [hx, he, he'])
  | (refine zap ?_; simp only [zan])
  | (refine ⟨?_, by omega⟩)
  | (intro hc <;> (try (exfalso; omega)))
  | fail)
   refine LoopW.next ⟨i + 1, by omega, fun hm => ?_⟩ (by simp; omega) ?_
   ·rw [List.take_succ, hx] at hm;rcases List.mem_append.1 hm with h | h
    ·exact hb h
    ·simp at h; exact he h
   exact (Wk.env rfl rfl rfl (by simp [wkE, St.lp, zal, zaa, getK] <;> (try (intros; simp_all; done)) <;> (try (intros; omega)) <;> (try grind)))
theorem zkv (l : List Int) (v : Int) (hl : l.length <= 1000000) : Fun Tryz.prog 120 [.u (ints l), .u (.int .i64 v)] (· = .u (.bool (decide (v ∈ l)))) := by
 have h := zmT l v hl;unfold zsA at h;by_cases hm : v ∈ l
 ·obtain ⟨i, hi⟩ : ∃ i, l.findIdx? (· = v) = some i := by
   cases hf : l.findIdx? (· = v) with
   | none => rw [List.findIdx?_eq_none_iff] at hf; have := hf v hm; simp at this
   | some i => exact ⟨i, rfl⟩
  rw [hi] at h;rw [decide_eq_true hm]
  (refine Fun.of_body Tryz.func120 rfl (by simp) fun Γ hn => ?_); simp only [entry, ziC, ziN, maC, maN, oA, Tryz.ntmps120]
  repeat' (first
  | ((first | refine zag ?_ | refine zaj ?_ | refine zah ?_ | fail); simp)
  | (refine zar ?_; simp only [zan])
  | (refine CallP.fE (h) (by first | rfl | fail) (by first | (simp; done) | (simp; rfl) | fail) ?_; (try simp))
  | fail)
  (refine EndOK.val (.inr rfl) ?_; simp [zaK, zaf, zas, Tryz.results120])
 ·rw [zkn hm] at h;rw [decide_eq_false hm]
  (refine Fun.of_body Tryz.func120 rfl (by simp) fun Γ hn => ?_); simp only [entry, ziC, ziN, maC, maN, oA, Tryz.ntmps120]
  repeat' (first
  | ((first | refine zag ?_ | refine zaj ?_ | refine zah ?_ | fail); simp)
  | (refine zar ?_; simp only [zan])
  | (refine CallP.fE (h) (by first | rfl | fail) (by first | (simp; done) | (simp; rfl) | fail) ?_; (try simp))
  | fail)
  (refine EndOK.val (.inr rfl) ?_; simp [zaK, zaf, zas, Tryz.results120])
theorem zie (l : List Int) (hl : l.length <= 1000000) : Fun Tryz.prog 58 [.u (ints l)] (· = .u (.bool (zdw l))) := by
 obtain ⟨R, hR⟩ : ∃ R, R = zdw l := ⟨_, rfl⟩;rw [<- hR];by_cases h0 : l.length = 0
 ·have e : l = [] := List.eq_nil_of_length_eq_zero h0;subst e;have e2 : R = false := by rw [hR]; rfl
  rw [e2];simp only [ints, List.map_nil]
  (refine Fun.of_body Tryz.func58 rfl (by simp) fun Γ hn => ?_); simp only [entry, ziC, ziN, maC, maN, oA, Tryz.ntmps58]
  repeat' (first
  | ((first | refine zag ?_ | refine zaj ?_ | refine zah ?_ | refine zai ?_ | fail); simp)
  | (refine zar ?_; simp only [zan])
  | fail)
  (refine EndOK.val (.inr rfl) ?_; simp [zaK, zaf, zas, Tryz.results58])
 have h0' : ¬ (l.length : Int) = 0 := by omega
 have hne0 : l ≠ [] := fun e => h0 (by rw [e]; rfl);unfold ints;by_cases h60 : 60 < l.length
 ·have h60' : (60 : Int) < l.length := by omega
  have e2 : R = false := by rw [hR, zdw]; simp; omega
  rw [e2]
  (refine Fun.of_body Tryz.func58 rfl (by simp) fun Γ hn => ?_); simp only [entry, ziC, ziN, maC, maN, oA, Tryz.ntmps58]
  repeat' (first
  | ((first | refine zag ?_ | refine zaj ?_ | refine zah ?_ | refine zai ?_ | fail); simp [h0, h0', h60', hne0])
  | (refine zar ?_; simp only [zan])
  | fail)
  (refine EndOK.val (.inr rfl) ?_; simp [zaK, zaf, zas, Tryz.results58])
 have h60' : ¬ (60 : Int) < l.length := by omega
 (refine Fun.of_body Tryz.func58 rfl (by simp) fun Γ hn => ?_); simp only [entry, ziC, ziN, maC, maN, oA, Tryz.ntmps58]
 repeat' (first
  | ((first | refine zag ?_ | refine zaj ?_ | refine zah ?_ | refine zai ?_ | refine zaA ?_ | fail); simp [h0, h0', h60', hne0])
  | (refine zap ?_; simp only [zan])
  | fail)
 refine zb2 (α := { i : Nat // i <= l.length /\ (l.take i).Nodup /\ ∀ y ∈ l.take i, 0 <= y /\ y < 200 }) [0, 13, 14] (fun i => [(15, .u (.int .i64 i.1))]) (fun i => l.length - i.1) ⟨0, by omega, by simp, by simp⟩ ?_ ?_
 ·exact (Wk.env rfl rfl rfl (by simp [wkE, St.lp, zal, zaa, getK] <;> (try (intros; simp_all; done)) <;> (try (intros; omega)) <;> (try grind)))
 rintro ⟨i, hi, hd, hb⟩;simp [St.lp, St.only, zal, zaa, getK];rcases hx : l[i]? with _ | x
 ·have hge : l.length <= i := by simpa using hx
  obtain rfl : i = l.length := by omega
  rw [List.take_length] at hd hb;have e2 : R = true := by rw [hR]; exact zkQ hne0 (by omega) hd hb
  rw [e2]
  repeat' (first
  | ((first | refine zag ?_ | refine zaj ?_ | refine zah ?_ | fail); simp [hx])
  | (refine zar ?_; simp only [zan])
  | (refine zaZ ?_; simp [zan])
  | fail)
  (refine EndOK.val (.inr rfl) ?_; simp [zaK, zaf, zas, Tryz.results58])
 ·have hlt : i < l.length := (lGE.1 hx).1;have hle : (i : Int) <= l.length := by omega
  have hct := zkv (l.take i) x (by rw [List.length_take]; omega);simp only [ints, List.map_take] at hct;by_cases hr : x < 0 \/ 200 <= x
  ·have e2 : R = false := by rw [hR]; exact zig hx (.inl hr)
   rw [e2];rcases hr with hr | hr
   ·repeat' (first
  | ((first | refine zag ?_ | refine zaj ?_ | refine zah ?_ | refine zai ?_ | fail); simp [hx, hr])
  | ((first | refine zar ?_ | refine zap ?_ | fail); simp only [zan])
  | (refine ⟨?_, by omega⟩)
  | (intro hc <;> (try (exfalso; omega)))
  | fail)
    (refine EndOK.val (.inr rfl) ?_; simp [zaK, zaf, zas, Tryz.results58])
   ·have hr2 : ¬ x < 0 := by omega
    repeat' (first
  | ((first | refine zag ?_ | refine zaj ?_ | refine zah ?_ | refine zai ?_ | fail); simp [hx, hr, hr2])
  | ((first | refine zar ?_ | refine zap ?_ | fail); simp only [zan])
  | (refine ⟨?_, by omega⟩)
  | (intro hc <;> (try (exfalso; omega)))
  | fail)
    (refine EndOK.val (.inr rfl) ?_; simp [zaK, zaf, zas, Tryz.results58])
  ·have hr1 : ¬ x < 0 := by omega
   have hr2 : ¬ 200 <= x := by omega
   by_cases hm : x ∈ l.take i
   ·rw [decide_eq_true hm] at hct;have e2 : R = false := by rw [hR]; exact zig hx (.inr hm)
    rw [e2]
    repeat' (first
  | ((first | refine zag ?_ | refine zaj ?_ | refine zah ?_ | refine zai ?_ | fail); simp [hx, hr1, hr2, hle])
  | ((first | refine zar ?_ | refine zap ?_ | fail); simp only [zan])
  | (refine ⟨?_, by omega⟩)
  | (intro hc <;> (try (exfalso; omega)))
  | (refine CallP.fE (hct) (by first | rfl | fail) (by first | simp [hx, hr1, hr2, hle] <;> rfl | fail) ?_; (try simp [hx, hr1, hr2, hle]))
  | fail)
    (refine EndOK.val (.inr rfl) ?_; simp [zaK, zaf, zas, Tryz.results58])
   ·rw [decide_eq_false hm] at hct
    repeat' (first
  | ((first | refine zag ?_ | refine zaj ?_ | fail); simp [hx, hr1, hr2, hle])
  | (refine ⟨by omega, ?_⟩)
  | ((first | refine zah ?_ | refine zai ?_ | refine zaq ?_ | fail); simp [hx, hr1, hr2, hle])
  | (refine zap ?_; simp only [zan])
  | (refine ⟨?_, by omega⟩)
  | (intro hc <;> (try (exfalso; omega)))
  | (refine CallP.fE (hct) (by first | rfl | fail) (by first | simp [hx, hr1, hr2, hle] <;> rfl | fail) ?_; (try simp [hx, hr1, hr2, hle]))
  | fail)
    refine LoopW.next ⟨i + 1, by omega, ?_, fun y hy => ?_⟩ (by simp; omega) ?_
    ·rw [List.take_succ, hx, List.nodup_append];exact ⟨hd, by simp, fun a h1 b h2 => by simp at h2; subst h2; intro e; exact hm (e ▸ h1)⟩
    ·rw [List.take_succ, hx] at hy;rcases List.mem_append.1 hy with h | h
     ·exact hb y h
     ·simp at h; subst h; omega
    exact (Wk.env rfl rfl rfl (by simp [wkE, St.lp, zal, zaa, getK] <;> (try (intros; simp_all; done)) <;> (try (intros; omega)) <;> (try grind)))
theorem zlj (members : List Int) (l : List Vo) (u : Int) (hm : members.length <= 1000000) (hl : l.length <= 1000000) : Fun Tryz.prog 60 [.u (ints members), .u (voU l), .u (.int .i64 u)] (· = .u (voU (zf6 members u l))) := by
 have hv := zie members hm;unfold zf6;cases hvm : zdw members with
 | false =>
  rw [hvm] at hv;rw [if_neg (by simp)];simp only [ints, voU, List.map_nil] at hv ⊢
  (refine Fun.of_bodyW Tryz.func60 rfl (by simp) fun Γ hn => ?_); simp only [entry, ziC, ziN, maC, maN, oA, Tryz.ntmps60]
  repeat' (first
  | ((first | refine zag ?_ | refine zaj ?_ | refine zah ?_ | refine zai ?_ | fail); simp)
  | (refine zar ?_; simp only [zan])
  | (refine CallP.fE (hv) (by first | rfl | fail) (by first | (simp; done) | (simp; rfl) | fail) ?_; (try simp))
  | fail)
  refine EndW.norm (EndW.here ?_)
  (refine EndOK.val (.inr rfl) ?_; simp [zaK, zaf, zas, Tryz.results60, zaC, zaD, zch, zci, frz, zbc, frzS, fv, zaV, za8, za9, frzObS, zay, zat, zbZ, zcd, zce, zbg])
 | true =>
  rw [hvm] at hv;rw [if_pos rfl];have hct := fun x => zkv members x hm;simp only [ints, voU] at hv hct ⊢
  (refine Fun.of_bodyW Tryz.func60 rfl (by simp) fun Γ hn => ?_); simp only [entry, ziC, ziN, maC, maN, oA, Tryz.ntmps60]
  repeat' (first
  | ((first | refine zag ?_ | refine zaj ?_ | refine zah ?_ | refine zai ?_ | refine zaA ?_ | fail); simp)
  | (refine zap ?_; simp only [zan])
  | (refine CallP.fE (hv) (by first | rfl | fail) (by first | (simp; done) | (simp; rfl) | fail) ?_; (try simp))
  | fail)
  refine zlt _ (Wk.own 8 49 4 (by decide) rfl) ?_;simp [St.own];refine zb4 (α := { i : Nat // i <= l.length }) [0, 2, 7, 15, 16] (fun i => [(8, .vec 1 (cnt members u [] (l.take i.1)).length), (17, .u (.int .i64 i.1))])
   (fun i => [(0, .map (.i .i64) false (zg1 (zhX ((cnt members u [] (l.take i.1)).map (·.who))))), (1, .vec 49 4 (voR (cnt members u [] (l.take i.1))))]) 2 (fun i => l.length - i.1) ⟨0, by omega⟩ ?_ ?_
  ·exact (Wk.cut rfl (by simp [hn, St.lp]) (by simp [wkO, St.lp, zaa, getK, Ob.under, D.under, zad, zae, cnt, voR, zhX, zg1]) (by simp [wkU, St.lp, zal, zaa, getK, D.under, cnt, voR, zhX, zg1]) (by simp [wkE, St.lp, zal, zaa, getK, cnt, voR, zhX, zg1] <;> (try (intros; simp_all; done)) <;> (try (intros; omega)) <;> (try grind)))
  rintro ⟨i, hi⟩;simp [St.lp, St.only, zal, zaa, getK];rcases hx : l[i]? with _ | v
  ·have hge : l.length <= i := by simpa using hx
   obtain rfl : i = l.length := by omega
   simp only [List.take_length]
   repeat' (first
  | ((first | refine zag ?_ | refine zaj ?_ | refine zah ?_ | fail); simp [hx])
  | (refine zar ?_; simp only [zan])
  | (refine zaZ ?_; simp [zan])
  | fail)
   (refine EndW.frzN 2 ?_; simp [frzN, frz1, zaD, zaC, St.frz, St.frzS, frzS, fv, zaV, za8, za9, frzObS, zay, zat, del, frz, zbc, zrd, zaQ, zaL])
   refine EndW.norm (EndW.here ?_)
   (refine EndOK.val (.inr rfl) ?_; simp [zaK, zaf, zas, Tryz.results60, zaC, zaD, zch, zci, frz, zbc, frzS, fv, zaV, za8, za9, frzObS, zay, zat, zbZ, zcd, zce, zbg, zaQ, zaL])
  ·have hlt : i < l.length := (lGE.1 hx).1;have hst := zqg (members := members) (u := u) hx;have hcl := zjt members u (l.take i) [];have hcv := hct v.who;have hlook := ziw v.who ((cnt members u [] (l.take i)).map (·.who));rw [List.length_take] at hcl;have hcl2 : (cnt members u [] (l.take i)).length <= 1000000 := by omega
   generalize cnt members u [] (l.take i) = O at *;have hlr := zlC O;have hsn := zlA O v;by_cases c1 : u < v.day
   ·rw [if_pos (.inl c1), List.append_nil] at hst
    repeat' (first
  | ((first | refine zag ?_ | refine zaj ?_ | fail); simp [hx, c1])
  | (refine ⟨by omega, ?_⟩)
  | ((first | refine zah ?_ | refine zai ?_ | refine zaq ?_ | fail); simp [hx, c1])
  | (refine zap ?_; simp only [zan])
  | (refine zaZ ?_; simp [zan])
  | (refine ⟨?_, by omega⟩)
  | (intro hc <;> (try (exfalso; omega)))
  | fail)
    refine LoopW.next ⟨i + 1, by omega⟩ (by simp; omega) ?_
    exact (Wk.cut rfl (by simp [hn, St.lp]) (by simp [wkO, St.lp, zaa, getK, Ob.under, D.under, zad, zae, hst, zcq, zbX, zae]) (by simp [wkU, St.lp, zal, zaa, getK, D.under, hst, zcq, zbX, zae]) (by simp [wkE, St.lp, zal, zaa, getK, hst, zcq, zbX, zae] <;> (try (intros; simp_all; done)) <;> (try (intros; omega)) <;> (try grind)))
   ·by_cases c2 : v.who ∈ O.map (·.who)
    ·rw [if_pos (.inr (.inl c2)), List.append_nil] at hst;rw [if_pos c2] at hlook
     repeat' (first
  | ((first | refine zag ?_ | refine zaj ?_ | fail); simp [hx, c1, hlook])
  | (refine ⟨by omega, ?_⟩)
  | ((first | refine zah ?_ | refine zai ?_ | refine zaq ?_ | fail); simp [hx, c1, hlook])
  | (refine zap ?_; simp only [zan])
  | (refine zaZ ?_; simp [zan])
  | (refine ⟨?_, by omega⟩)
  | (intro hc <;> (try (exfalso; omega)))
  | fail)
     refine LoopW.next ⟨i + 1, by omega⟩ (by simp; omega) ?_
     exact (Wk.cut rfl (by simp [hn, St.lp]) (by simp [wkO, St.lp, zaa, getK, Ob.under, D.under, zad, zae, hst, zcq, zbX, zae]) (by simp [wkU, St.lp, zal, zaa, getK, D.under, hst, zcq, zbX, zae]) (by simp [wkE, St.lp, zal, zaa, getK, hst, zcq, zbX, zae] <;> (try (intros; simp_all; done)) <;> (try (intros; omega)) <;> (try grind)))
    ·rw [if_neg c2] at hlook;have hupd := znr (g := v.who) c2;by_cases c3 : v.who ∈ members
     ·rw [if_neg (fun h => by rcases h with h | h | h; exact c1 h; exact c2 h; exact h c3)] at hst;rw [decide_eq_true c3] at hcv
      repeat' (first
  | ((first | refine zag ?_ | refine zaj ?_ | fail); simp [hx, c1, hlook, hupd, zaL, hlr, hsn])
  | (refine ⟨by omega, ?_⟩)
  | ((first | refine zah ?_ | refine zai ?_ | refine zaq ?_ | fail); simp [hx, c1, hlook, hupd, zaL, hlr, hsn])
  | (refine zap ?_; simp only [zan])
  | (refine ⟨?_, by omega⟩)
  | (intro hc <;> (try (exfalso; omega)))
  | (refine CallP.fE (hcv) (by first | rfl | fail) (by first | simp [hx, c1, hlook, hupd, zaL, hlr, hsn] <;> rfl | fail) ?_; (try simp [hx, c1, hlook, hupd, zaL, hlr, hsn]))
  | fail)
      refine LoopW.next ⟨i + 1, by omega⟩ (by simp; omega) ?_
      exact (Wk.ren ((fun i => if i = 1 then 4 else i)) rfl (by first | (simp [hn]; done) | (intro i hi; rw [hn] at hi; constructor <;> (try simp) <;> (try (intro _)) <;> omega)) (by simp [zhW, St.lp, zal, zaa, getK, zac, zam, D.under, D.le, D.ren, hst, zcq, zbX, zae] <;> (try (intros; simp_all; done)) <;> (try omega)) (by simp [wkR, St.lp, zaa, getK, zac, zam, obR, leU, zbR, zaX, Ob.under, D.under, D.le, D.ren, hst, zcq, zbX, zae] <;> (try (intros; simp_all; done)) <;> (try omega)) (by simp [hst, zcq, zbX, zae]))
     ·rw [if_pos (.inr (.inr c3)), List.append_nil] at hst;rw [decide_eq_false c3] at hcv
      repeat' (first
  | ((first | refine zag ?_ | refine zaj ?_ | fail); simp [hx, c1, hlook])
  | (refine ⟨by omega, ?_⟩)
  | ((first | refine zah ?_ | refine zai ?_ | refine zaq ?_ | fail); simp [hx, c1, hlook])
  | (refine zap ?_; simp only [zan])
  | (refine zaZ ?_; simp [zan])
  | (refine ⟨?_, by omega⟩)
  | (intro hc <;> (try (exfalso; omega)))
  | (refine CallP.fE (hcv) (by first | rfl | fail) (by first | simp [hx, c1, hlook] <;> rfl | fail) ?_; (try simp [hx, c1, hlook]))
  | fail)
      refine LoopW.next ⟨i + 1, by omega⟩ (by simp; omega) ?_
      exact (Wk.cut rfl (by simp [hn, St.lp]) (by simp [wkO, St.lp, zaa, getK, Ob.under, D.under, zad, zae, hst, zcq, zbX, zae]) (by simp [wkU, St.lp, zal, zaa, getK, D.under, hst, zcq, zbX, zae]) (by simp [wkE, St.lp, zal, zaa, getK, hst, zcq, zbX, zae] <;> (try (intros; simp_all; done)) <;> (try (intros; omega)) <;> (try grind)))
def zcU (m share : Int) : Int × Int := if m < 1 \/ 60 < m \/ share < 0 \/ 1000 < share then (0, 1) else (max 1 ((m * share + 999) / 1000), 0)
theorem zip (m share : Int) : Fun Tryz.prog 24 [.u (.int .i64 m), .u (.int .i64 share)] (· = .tup [.u (.int .i64 (zcU m share).1), .u (.int .i64 (zcU m share).2)]) := by
 unfold zcU;by_cases c1 : m < 1
 ·rw [if_pos (.inl c1)]
  (refine Fun.of_body Tryz.func24 rfl (by simp) fun Γ hn => ?_); simp only [entry, ziC, ziN, maC, maN, oA, Tryz.ntmps24]
  repeat' (first
  | ((first | refine zag ?_ | refine zaj ?_ | refine zah ?_ | refine zai ?_ | fail); simp [c1])
  | (refine zar ?_; simp only [zan])
  | fail)
  (refine EndOK.val (.inr rfl) ?_; simp [zaK, zaf, zas, Tryz.results24])
 by_cases c2 : 60 < m
 ·rw [if_pos (.inr (.inl c2))]
  (refine Fun.of_body Tryz.func24 rfl (by simp) fun Γ hn => ?_); simp only [entry, ziC, ziN, maC, maN, oA, Tryz.ntmps24]
  repeat' (first
  | ((first | refine zag ?_ | refine zaj ?_ | refine zah ?_ | refine zai ?_ | fail); simp [c1, c2])
  | (refine zar ?_; simp only [zan])
  | fail)
  (refine EndOK.val (.inr rfl) ?_; simp [zaK, zaf, zas, Tryz.results24])
 by_cases c3 : share < 0
 ·rw [if_pos (.inr (.inr (.inl c3)))]
  (refine Fun.of_body Tryz.func24 rfl (by simp) fun Γ hn => ?_); simp only [entry, ziC, ziN, maC, maN, oA, Tryz.ntmps24]
  repeat' (first
  | ((first | refine zag ?_ | refine zaj ?_ | refine zah ?_ | refine zai ?_ | fail); simp [c1, c2, c3])
  | (refine zar ?_; simp only [zan])
  | fail)
  (refine EndOK.val (.inr rfl) ?_; simp [zaK, zaf, zas, Tryz.results24])
 by_cases c4 : 1000 < share
 ·rw [if_pos (.inr (.inr (.inr c4)))]
  (refine Fun.of_body Tryz.func24 rfl (by simp) fun Γ hn => ?_); simp only [entry, ziC, ziN, maC, maN, oA, Tryz.ntmps24]
  repeat' (first
  | ((first | refine zag ?_ | refine zaj ?_ | refine zah ?_ | refine zai ?_ | fail); simp [c1, c2, c3, c4])
  | (refine zar ?_; simp only [zan])
  | fail)
  (refine EndOK.val (.inr rfl) ?_; simp [zaK, zaf, zas, Tryz.results24])
 rw [if_neg (by omega)];have b0 : 0 <= m * share := Int.mul_nonneg (by omega) (by omega);have b1 : m * share <= 60 * 1000 := Int.mul_le_mul (by omega) (by omega) (by omega) (by omega);have ht : Int.tdiv (m * share + 999) 1000 = (m * share + 999) / 1000 := Int.tdiv_eq_ediv_of_nonneg (by omega)
 (refine Fun.of_body Tryz.func24 rfl (by simp) fun Γ hn => ?_); simp only [entry, ziC, ziN, maC, maN, oA, Tryz.ntmps24]
 repeat' (first
  | ((first | refine zag ?_ | refine zaj ?_ | fail); simp [c1, c2, c3, c4, ht])
  | (refine ⟨by omega, ?_⟩)
  | ((first | refine zah ?_ | refine zai ?_ | fail); simp [c1, c2, c3, c4, ht])
  | ((first | refine zar ?_ | refine zap ?_ | fail); simp only [zan])
  | fail)
 (refine EndOK.val (.inr rfl) ?_; simp [zaK, zaf, zas, Tryz.results24])
theorem zpx (m need : Int) (l : List Vo) (hl : l.length <= 1000000) (hm0 : 0 <= m) (hm1 : m <= 1000000) (hn0 : 0 <= need) (hn1 : need <= 1000000) : Fun Tryz.prog 59 [.u (.int .i64 m), .u (.int .i64 need), .u (voU l)] (· = .u (.int .i64 (znE m need l))) := by
 have hy := zqS l;unfold voU
 (refine Fun.of_body Tryz.func59 rfl (by simp) fun Γ hn => ?_); simp only [entry, ziC, ziN, maC, maN, oA, Tryz.ntmps59]
 repeat' (first
  | ((first | refine zag ?_ | refine zaj ?_ | refine zah ?_ | refine zaA ?_ | fail); simp)
  | fail)
 refine zb4 (α := { i : Nat // i <= l.length }) [0, 1, 2, 10, 11] (fun i => [(7, .u (.int .i64 (zic (l.take i.1)))), (12, .u (.int .i64 i.1))]) (fun _ => []) 0 (fun i => l.length - i.1) ⟨0, by omega⟩ ?_ ?_
 ·exact (Wk.cut rfl (by simp [hn, St.lp]) (by simp [wkO, St.lp, zaa, getK, Ob.under, D.under, zad, zae, zic]) (by simp [wkU, St.lp, zal, zaa, getK, D.under, zic]) (by simp [wkE, St.lp, zal, zaa, getK, zic] <;> (try (intros; simp_all; done)) <;> (try (intros; omega)) <;> (try grind)))
 rintro ⟨i, hi⟩;simp [St.lp, St.only, zal, zaa, getK];rcases hx : l[i]? with _ | v
 ·have hge : l.length <= i := by simpa using hx
  obtain rfl : i = l.length := by omega
  simp only [List.take_length];unfold znE;by_cases c1 : need <= zic l
  ·rw [if_pos c1]
   repeat' (first
  | ((first | refine zag ?_ | refine zaj ?_ | refine zah ?_ | refine zai ?_ | fail); simp [hx, c1])
  | (refine zar ?_; simp only [zan])
  | (refine zaZ ?_; simp [zan])
  | fail)
   (refine EndOK.val (.inr rfl) ?_; simp [zaK, zaf, zas, Tryz.results59])
  ·rw [if_neg c1];by_cases c2 : m - need < (l.length : Int) - zic l
   ·rw [if_pos c2]
    repeat' (first
  | ((first | refine zag ?_ | refine zaj ?_ | fail); simp [hx, c1, c2])
  | (refine ⟨by omega, ?_⟩)
  | ((first | refine zah ?_ | refine zai ?_ | fail); simp [hx, c1, c2])
  | (refine zar ?_; simp only [zan])
  | (refine zaZ ?_; simp [zan])
  | fail)
    (refine EndOK.val (.inr rfl) ?_; simp [zaK, zaf, zas, Tryz.results59])
   ·rw [if_neg c2]
    repeat' (first
  | ((first | refine zag ?_ | refine zaj ?_ | fail); simp [hx, c1, c2])
  | (refine ⟨by omega, ?_⟩)
  | ((first | refine zah ?_ | refine zai ?_ | fail); simp [hx, c1, c2])
  | ((first | refine zar ?_ | refine zap ?_ | fail); simp only [zan])
  | (refine zaZ ?_; simp [zan])
  | fail)
    (refine EndOK.val (.inr rfl) ?_; simp [zaK, zaf, zas, Tryz.results59])
 ·have hlt : i < l.length := (lGE.1 hx).1;have hst := zpn hx;have hyl := zqS (l.take i);rw [List.length_take] at hyl;have hyl2 : zic (l.take i) <= 1000000 := by omega
  cases hvy : v.yes with
  | true =>
   rw [if_pos hvy] at hst;generalize zic (l.take i) = Y at *
   repeat' (first
  | ((first | refine zag ?_ | refine zaj ?_ | fail); simp [hx, hvy])
  | (refine ⟨by omega, ?_⟩)
  | ((first | refine zah ?_ | refine zai ?_ | refine zaq ?_ | fail); simp [hx, hvy])
  | (refine zap ?_; simp only [zan])
  | (refine ⟨?_, by omega⟩)
  | (intro hc <;> (try (exfalso; omega)))
  | fail)
   refine LoopW.next ⟨i + 1, by omega⟩ (by simp; omega) ?_
   exact (Wk.cut rfl (by simp [hn, St.lp]) (by simp [wkO, St.lp, zaa, getK, Ob.under, D.under, zad, zae, hst]) (by simp [wkU, St.lp, zal, zaa, getK, D.under, hst]) (by simp [wkE, St.lp, zal, zaa, getK, hst] <;> (try (intros; simp_all; done)) <;> (try (intros; omega)) <;> (try grind)))
  | false =>
   rw [if_neg (by simp [hvy])] at hst;generalize zic (l.take i) = Y at *
   repeat' (first
  | ((first | refine zag ?_ | refine zaj ?_ | fail); simp [hx, hvy])
  | (refine ⟨by omega, ?_⟩)
  | ((first | refine zah ?_ | refine zai ?_ | refine zaq ?_ | fail); simp [hx, hvy])
  | (refine zap ?_; simp only [zan])
  | (refine ⟨?_, by omega⟩)
  | (intro hc <;> (try (exfalso; omega)))
  | fail)
   refine LoopW.next ⟨i + 1, by omega⟩ (by simp; omega) ?_
   exact (Wk.cut rfl (by simp [hn, St.lp]) (by simp [wkO, St.lp, zaa, getK, Ob.under, D.under, zad, zae, hst]) (by simp [wkU, St.lp, zal, zaa, getK, D.under, hst]) (by simp [wkE, St.lp, zal, zaa, getK, hst] <;> (try (intros; simp_all; done)) <;> (try (intros; omega)) <;> (try grind)))
def zfR (members : List Int) (l : List Vo) (share u day : Int) : Int × Int :=
 if (zcU members.length share).2 ≠ 0 \/ zdw members = false then (0, 1) else
  let out := znE members.length (zcU members.length share).1 (zf6 members u l)
  if out = 0 /\ u < day then (2, 0) else (out, 0)
theorem zj7 (m share : Int) : 0 <= (zcU m share).1 /\ (zcU m share).1 <= 1000 := by
 unfold zcU;split
 ·simp
 ·rename_i h;have b1 : m * share <= 60 * 1000 := Int.mul_le_mul (by omega) (by omega) (by omega) (by omega);simp only;omega
theorem zjH (members : List Int) (l : List Vo) (share u day : Int) (hm : members.length <= 1000000) (hl : l.length <= 1000000) : Fun Tryz.prog 22 [.u (ints members), .u (voU l), .u (.int .i64 share), .u (.int .i64 u), .u (.int .i64 day)] (· = .tup [.u (.int .i64 (zfR members l share u day).1), .u (.int .i64 (zfR members l share u day).2)]) := by
 have h1 := zip members.length share;have h2 := zie members hm;have h3 := zlj members l u hm hl;obtain ⟨r0, r1⟩ := zj7 members.length share;have h4 := zpx members.length (zcU members.length share).1 (zf6 members u l) (by have := zoO members u l; omega) (by omega) (by omega) r0 (by omega);unfold zfR;generalize zcU members.length share = ND at *;generalize zf6 members u l = CM at *;generalize znE members.length ND.1 CM = SM at *;generalize zdw members = VM at *;obtain ⟨nd, ne⟩ := ND;simp only at *;simp only [ints, voU] at *;by_cases c1 : ne = 0
 ·cases VM with
  | false =>
   rw [if_pos (by simp)]
   (refine Fun.of_body Tryz.func22 rfl (by simp) fun Γ hn => ?_); simp only [entry, ziC, ziN, maC, maN, oA, Tryz.ntmps22]
   repeat' (first
  | ((first | refine zag ?_ | refine zaj ?_ | refine zah ?_ | refine zai ?_ | fail); simp [c1])
  | (refine zar ?_; simp only [zan])
  | (refine CallP.fE (h1) (by first | rfl | fail) (by first | simp [c1] <;> rfl | fail) ?_; (try simp [c1]))
  | (refine CallP.fE (h2) (by first | rfl | fail) (by first | simp [c1] <;> rfl | fail) ?_; (try simp [c1]))
  | fail)
   (refine EndOK.val (.inr rfl) ?_; simp [zaK, zaf, zas, Tryz.results22])
  | true =>
   rw [if_neg (by simp [c1])];by_cases c2 : SM = 0
   ·by_cases c3 : u < day
    ·rw [if_pos ⟨c2, c3⟩]
     (refine Fun.of_body Tryz.func22 rfl (by simp) fun Γ hn => ?_); simp only [entry, ziC, ziN, maC, maN, oA, Tryz.ntmps22]
     repeat' (first
  | ((first | refine zag ?_ | refine zaj ?_ | refine zah ?_ | refine zai ?_ | fail); simp [c1, c2, c3])
  | ((first | refine zar ?_ | refine zap ?_ | fail); simp only [zan])
  | (refine CallP.fE (h1) (by first | rfl | fail) (by first | simp [c1, c2, c3] <;> rfl | fail) ?_; (try simp [c1, c2, c3]))
  | (refine CallP.fE (h2) (by first | rfl | fail) (by first | simp [c1, c2, c3] <;> rfl | fail) ?_; (try simp [c1, c2, c3]))
  | (refine CallP.fE (h3) (by first | rfl | fail) (by first | simp [c1, c2, c3] <;> rfl | fail) ?_; (try simp [c1, c2, c3]))
  | (refine CallP.fE (h4) (by first | rfl | fail) (by first | simp [c1, c2, c3] <;> rfl | fail) ?_; (try simp [c1, c2, c3]))
  | fail)
     (refine EndOK.val (.inr rfl) ?_; simp [zaK, zaf, zas, Tryz.results22])
    ·rw [if_neg (fun h => c3 h.2)]
     (refine Fun.of_body Tryz.func22 rfl (by simp) fun Γ hn => ?_); simp only [entry, ziC, ziN, maC, maN, oA, Tryz.ntmps22]
     repeat' (first
  | ((first | refine zag ?_ | refine zaj ?_ | refine zah ?_ | refine zai ?_ | fail); simp [c1, c2, c3])
  | ((first | refine zar ?_ | refine zap ?_ | fail); simp only [zan])
  | (refine CallP.fE (h1) (by first | rfl | fail) (by first | simp [c1, c2, c3] <;> rfl | fail) ?_; (try simp [c1, c2, c3]))
  | (refine CallP.fE (h2) (by first | rfl | fail) (by first | simp [c1, c2, c3] <;> rfl | fail) ?_; (try simp [c1, c2, c3]))
  | (refine CallP.fE (h3) (by first | rfl | fail) (by first | simp [c1, c2, c3] <;> rfl | fail) ?_; (try simp [c1, c2, c3]))
  | (refine CallP.fE (h4) (by first | rfl | fail) (by first | simp [c1, c2, c3] <;> rfl | fail) ?_; (try simp [c1, c2, c3]))
  | fail)
     (refine EndOK.val (.inr rfl) ?_; simp [zaK, zaf, zas, Tryz.results22])
   ·rw [if_neg (fun h => c2 h.1)]
    (refine Fun.of_body Tryz.func22 rfl (by simp) fun Γ hn => ?_); simp only [entry, ziC, ziN, maC, maN, oA, Tryz.ntmps22]
    repeat' (first
  | ((first | refine zag ?_ | refine zaj ?_ | refine zah ?_ | refine zai ?_ | fail); simp [c1, c2])
  | ((first | refine zar ?_ | refine zap ?_ | fail); simp only [zan])
  | (refine CallP.fE (h1) (by first | rfl | fail) (by first | simp [c1, c2] <;> rfl | fail) ?_; (try simp [c1, c2]))
  | (refine CallP.fE (h2) (by first | rfl | fail) (by first | simp [c1, c2] <;> rfl | fail) ?_; (try simp [c1, c2]))
  | (refine CallP.fE (h3) (by first | rfl | fail) (by first | simp [c1, c2] <;> rfl | fail) ?_; (try simp [c1, c2]))
  | (refine CallP.fE (h4) (by first | rfl | fail) (by first | simp [c1, c2] <;> rfl | fail) ?_; (try simp [c1, c2]))
  | fail)
    (refine EndOK.val (.inr rfl) ?_; simp [zaK, zaf, zas, Tryz.results22])
 ·rw [if_pos (.inl c1)]
  (refine Fun.of_body Tryz.func22 rfl (by simp) fun Γ hn => ?_); simp only [entry, ziC, ziN, maC, maN, oA, Tryz.ntmps22]
  repeat' (first
  | ((first | refine zag ?_ | refine zaj ?_ | refine zah ?_ | refine zai ?_ | fail); simp [c1])
  | (refine zar ?_; simp only [zan])
  | (refine CallP.fE (h1) (by first | rfl | fail) (by first | simp [c1] <;> rfl | fail) ?_; (try simp [c1]))
  | fail)
  (refine EndOK.val (.inr rfl) ?_; simp [zaK, zaf, zas, Tryz.results22])
end Go.Proofs.YtepiegcjnaohjaaGreatDoor
namespace Go.Proofs.YtepiegcjnaohjaaGreatDoor
open Go Go.VL
def zoc : Nat -> List UInt8 -> Nat -> Except (Nat × Int) (List Tok)
 | 0, _, _ => .ok []
 | f + 1, s, p =>
  match (s.drop (p + zcT zcr (s.drop p))) with
  | [] => .ok [⟨0, [], 0, ((p + zcT zcr (s.drop p) : Nat) : Int)⟩]
  | c :: r => match zh0 (c :: r) with
   | .error e => .error (p + zcT zcr (s.drop p), e)
   | .ok t => match zoc f s (p + zcT zcr (s.drop p) + t.text.length) with
    | .error x => .error x
    | .ok l => .ok ({ t with pos := ((p + zcT zcr (s.drop p) : Nat) : Int) } :: l)
def zmF (s : List UInt8) : Except (Nat × Int) (List Tok) := if 2000 < s.length then .error (0, 6) else zoc (s.length + 1) s 0
def ziy : Except (Nat × Int) (List Tok) -> D
 | .ok l => .tup [.u (.sl (l.map fun t => [.int .i64 t.kind, .str t.text, .int .i64 t.n, .int .i64 t.pos])), .u (.int .i64 0), .u (.int .i64 0)]
 | .error (p, e) => .tup [.u (.sl []), .u (.int .i64 p), .u (.int .i64 e)]
def zmt (acc : List Tok) : Except (Nat × Int) (List Tok) -> Except (Nat × Int) (List Tok)
 | .ok l => .ok (acc ++ l)
 | .error x => .error x
theorem znJ (x) : zmt [] x = x := by cases x <;> simp [zmt]
theorem zjK {p : UInt8 -> Bool} {c : UInt8} {r : List UInt8} (h : p c = true) : 0 < zcT p (c :: r) := by
 unfold zcT; rw [List.takeWhile_cons, if_pos h]; simp
theorem zgn {s : List UInt8} {t : Tok} (h : zh0 s = .ok t) : 0 < t.text.length /\ t.text.length <= s.length := by
 unfold zh0 at h;split at h
 ·cases h
 ·rename_i c r;by_cases c1 : zdv c = true
  ·rw [if_pos c1] at h;split at h
   ·cases h;have h1 := zjK (p := zdp) (c := c) (r := r) (by simp [zdp, c1]);have h2 := zdY zdp (c :: r);simp only [List.length_take];omega
   ·cases h
  ·rw [if_neg c1] at h;by_cases c2 : zbC c = true
   ·rw [if_pos c2] at h;split at h
    ·cases h;have h1 := zjK (p := zbC) (c := c) (r := r) c2;have h2 := zdY zbC (c :: r);simp only [List.length_take];omega
    ·cases h
   ·rw [if_neg c2] at h;split at h
    ·rename_i x hx;cases h;have h1 := List.find?_some hx;have h2 := List.mem_of_find?_eq_some hx;refine ⟨?_, (List.isPrefixOf_iff_prefix.1 h1).length_le⟩;simp only [signsL, List.mem_cons, List.not_mem_nil, or_false] at h2;rcases h2 with h | h | h | h | h | h | h | h | h | h | h <;> subst h <;> simp
    ·cases h
def zi1 (l : List Tok) : List (List D) := l.map fun t => [.u (.int .i64 t.kind), .u (.str t.text), .u (.int .i64 t.n), .u (.int .i64 t.pos)]
theorem zcZ (l : List Tok) : (zi1 l).length = l.length := by simp [zi1]
theorem zjG (l : List Tok) : rowsD (l.map fun t => [U.int .i64 t.kind, .str t.text, .int .i64 t.n, .int .i64 t.pos]) = zi1 l := by simp [rowsD, zi1, Function.comp_def]
theorem zlF (l : List Tok) : zcg (zi1 l) = some (l.map fun t => [U.int .i64 t.kind, .str t.text, .int .i64 t.n, .int .i64 t.pos]) := by rw [<- zjG]; simp
theorem zhj (l) : zaX (zi1 l) = True := by rw [<- zjG]; simp
theorem zge (n : Nat) (l) : (∀ x ∈ zi1 l, ∀ y ∈ x, D.under n y = true) ↔ True := by
 refine ⟨fun _ => trivial, fun _ x hx y hy => ?_⟩;obtain ⟨b, _, rfl⟩ := List.mem_map.1 hx;simp at hy;rcases hy with rfl | rfl | rfl | rfl <;> simp [D.under]
end Go.Proofs.YtepiegcjnaohjaaGreatDoor
namespace Go.Proofs.YtepiegcjnaohjaaGreatDoor
open Go Go.VL
abbrev znw (l : List Tok) : U := .sl (l.map fun t => [.int .i64 t.kind, .str t.text, .int .i64 t.n, .int .i64 t.pos])
abbrev pOb (l : List Tok) (p : Nat) : Ob := .box [.u (znw l), .u (.int .i64 p)]
abbrev zqW (l : List Tok) (p : Nat) : U := .row [znw l, .int .i64 p] 0
structure TokOK (l : List Tok) : Prop where
 fin : ∀ (i : Nat) (t : Tok), l[i]? = some t -> t.kind ≠ 0 -> i + 1 < l.length
 len : l.length <= 1000000
def isB (l : List Tok) (p : Nat) (w : List UInt8) : Bool := match l[p]? with | some t => decide (t.kind ≠ 0) && decide (t.text = w) | none => false
theorem zbr {l : List Tok} {p : Nat} {w : List UInt8} (hl : TokOK l) (h : isB l p w = true) : p + 1 < l.length := by
 unfold isB at h;split at h
 ·rename_i t ht;simp only [Bool.and_eq_true, decide_eq_true_eq] at h;exact hl.fin p t ht h.1
 ·cases h
end Go.Proofs.YtepiegcjnaohjaaGreatDoor
namespace Go.Proofs.YtepiegcjnaohjaaGreatDoor
open Go Go.VL
open Df (Con)
def zlq (b : By) : List Con := if zdb b = true then [⟨2, 0, b.period - 1⟩, ⟨0, 2, 1 - b.period⟩, ⟨1, 2, 1 - b.wait⟩, ⟨2, 1, b.wait - 1⟩, ⟨0, 1, 0⟩, ⟨3, 2, b.grace⟩, ⟨2, 3, -b.grace⟩, ⟨4, 2, b.period⟩, ⟨2, 4, -b.period⟩, ⟨3, 4, 0⟩] else []
def zpG (n : Int) (c : Con) : Int := max (max n (c.A + 1)) (c.B + 1)
def zh1 (l : List Con) : Int := l.foldl zpG 0
theorem ziv {l : List Con} {i : Nat} {c : Con} (h : l[i]? = some c) : zh1 (l.take (i + 1)) = zpG (zh1 (l.take i)) c := by
 obtain ⟨hi, rfl⟩ := lGE.1 h;rw [List.take_succ_eq_append_getElem hi, zh1, List.foldl_append]; rfl
theorem zhp {l : List Con} (h : ∀ c ∈ l, 0 <= c.A /\ c.A <= 4 /\ 0 <= c.B /\ c.B <= 4) : ∀ i, i <= l.length -> 0 <= zh1 (l.take i) /\ zh1 (l.take i) <= 5
 | 0, _ => by simp [zh1]
 | i + 1, hi => by
  have ih := zhp h i (by omega);have hx : l[i]? = some l[i] := List.getElem?_eq_getElem (by omega);have hc := h _ (List.getElem_mem (show i < l.length by omega));rw [ziv hx, zpG];omega
theorem zqp (b : By) : ∀ c ∈ zlq b, 0 <= c.A /\ c.A <= 4 /\ 0 <= c.B /\ c.B <= 4 := by
 intro c hc;unfold zlq at hc;split at hc
 ·simp only [List.mem_cons, List.mem_nil_iff, or_false] at hc;rcases hc with rfl | rfl | rfl | rfl | rfl | rfl | rfl | rfl | rfl | rfl <;> simp
 ·cases hc
theorem zrJ (b : By) : (zlq b).length <= 10 := by unfold zlq; split <;> simp
theorem zqq {b : By} (h : zdb b = true) : zh1 (zlq b) = 5 := by unfold zlq; rw [if_pos h]; rfl
end Go.Proofs.YtepiegcjnaohjaaGreatDoor
