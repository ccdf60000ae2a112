/- slices.Repeat of one number: the library's loop with copy, walked in the kit's way, and told in the calculus. -/
import Derived.WalkKit
import Derived.Deep.RegionLaw
import Derived.Laws.CopyOwn
import Derived.Test.YtdkadmchdocjbaaDr
import Derived.Test.YtdkadmchdocjbaaVLY
import Derived.Test.YtdkadmchdocjbaaTy
set_option linter.all false
set_option maxRecDepth 100000
set_option maxHeartbeats 8000000
set_option linter.all false
namespace Go.Pm
open Go Go.VL
theorem ofInt_nat' (a : Int) (h : 0 ≤ a) (h' : a < 18446744073709551616) : (BitVec.ofInt 64 a).toNat = a.toNat := by
  rw [BitVec.toNat_ofInt]
  have : a % (2 ^ 64 : Nat) = a := Int.emod_eq_of_lt h (by omega)
  rw [this]
theorem and_mask32' (a : Int) (h : 0 ≤ a) (h' : a < 18446744073709551616) : bitAnd .u64 a 4294967295 = a % 4294967296 := by
  unfold bitAnd
  have e : (BitVec.ofInt IntKind.u64.bits a &&& BitVec.ofInt IntKind.u64.bits 4294967295).toNat = a.toNat % 4294967296 := by
    show (BitVec.ofInt 64 a &&& BitVec.ofInt 64 4294967295).toNat = _
    rw [BitVec.toNat_and, ofInt_nat' a h h', ofInt_nat' _ (by omega) (by omega)]
    have := Nat.and_two_pow_sub_one_eq_mod a.toNat 32
    simpa using this
  rw [e, IntKind.wrap_u64]
  omega
end Go.Pm
namespace Go
open Go.RowKit
/-- A new row of zeros, told by its cells. -/
theorem wpList_make_z {P : Program} (w : World) {ops : Array Oper} {rest : List Oper} {o : Oper} {a : Act} {Q : Exit → Act → World → Prop}
    (hg : o.guard = none) (l c : Operand) (t : TypeId) (hop : o.op = Op.makeSlice t l c)
    (e : TypeId) (i : TypeInfo) (z : Value) (h1 : P.underlying t = some (.slice e)) (h2 : P.info? e = some i) (h3 : i.zero = some z) (h4 : i.size = 1) (hz : z.cells = #[z])
    (kl kc : IntKind) (L C : Int) (n : Nat) (hl : a.eval l = .int kl L) (hc : a.eval c = .int kc C) (hL : L = (n : Int)) (hC : C = (n : Int)) (b2 : i.bytes * n ≤ 281474976710656) (b3 : n ≤ maxLen)
    (hK : ∀ w', Hid (w'.heap[w.heap.size]? = some (.cells (List.replicate n z).toArray e (0, 0))) → Below w.heap.size w w' → wpList P ops Q rest (a.put o.dst (.slice (some ⟨w.heap.size, 0, none⟩) n n)) w') :
    wpList P ops Q (o :: rest) a w := by
  refine wpList_plain hg fun K hK' => ?_
  have hrun := run_make (P := P) w t e i z h1 h2 h3 kl kc L C (by omega) (by omega) (by rw [hC]; have h := Int.ofNat_le.2 b2; rw [Int.natCast_mul] at h; exact h) (by unfold maxLen at b3; omega)
  subst hL
  subst hC
  unfold Oper.wp
  simp [execOp, hop, hl, hc, hrun, Result.andThen]
  refine hK' _ _ (by
    have := hK (w.alloc (.cells (madeCells z.cells (n * i.size)) e)) ?_ ((Below.refl _ w).alloc (Nat.le_refl _) _)
    · simpa using this
    · show _ = _
      rw [heap_alloc_new]
      have : madeCells z.cells (n * i.size) = (List.replicate n z).toArray := by
        rw [h4, Nat.mul_one, hz]
        apply Array.ext_getElem?
        intro q
        by_cases hq : q < n <;> simp [madeCells, hq, Nat.mod_one]
      rw [this])
end Go
namespace Go.Proofs.Ytdkadmchdocjbaa
open Go Go.VL Go.Proofs Go.RowKit
attribute [local simp] hcons hstep evPure opd uOf putOK St.put St.at getK binD binI binS binB nilD aggD eqUs cmpK lookD lookR rangeD Go.VL.nextD entryD keyD valU keyU lookK mkV entD_nil lookK_entD updK_entD1 updK_entD2 updK_entD3 allUE allUE_entD makeMapD mapUpdD mapEff updK valM Key.kk shiftI arith unD convD pickD loadD cellsAt fieldAddrD fieldD indexAddrD indexD sliceD cutD lenD minmaxD nilCheckD buildD fillD cellsD isOne ones setAll mkAgg allU allocD boxD storeD St.add buildSliceD appendD rowsOf makeD setOb getK_setOb getK_del getK_cons stripL strip guardTmp entry chunks zcells valD argsV argsW argW argU1 argU0 argsU0 argsU1 calleeOf scalarD scalarU delAll effD St.effS RK_seq RK_seq_ret RK_seq_exit RK_blk RK_blk_ret RK_blk_exit RK_loop RK_loop_ret RK_loop_exit RK_done vs_seq vs_block vs_skip vs_label vs_exit vs_ret vs_cond vs_region vs_loop vs_draw vs_range vs_scope applyW mkD rdIds lentIds callOf calleeOf freeOp D.ids Op.operands Call.operands isEffOp makeIfD typeAssertD conc concs conc1 uOfV panicD IntKind.bits allU2 allU2_append List.take_of_length_le List.range_succ
attribute [local irreducible] V G H HD HD2 RunK Eff CallP CallV EndOK Fun Ret FinOK LoopI LoopW EndW
theorem mul64_small (m : Nat) (hm : m ≤ 1000) : Fun Try.prog 44 [.u (.int .u64 1), .u (.int .u64 m)] (· = .tup [.u (.int .u64 0), .u (.int .u64 m)]) := by
  have h1 := Pm.and_mask32' (m : Int) (by omega) (by omega)
  have h2 : (m : Int) % 4294967296 = m := by omega
  rw [h2] at h1
  (refine Fun.of_body Try.func44 rfl (by simp) fun Γ hn => ?_); simp only [entry, List.zipIdx_cons, List.zipIdx_nil, List.map_cons, List.map_nil, Nat.zero_add, Try.ntmps44]
  repeat' (first
    | (refine H_cons ?_; simp [h1])
    | (refine H_nil ?_; simp [h1])
    | (refine V_sseq ?_; simp [h1])
    | (refine V_ret ?_; simp only [RK_seq, RK_seq_ret, RK_seq_exit, RK_blk, RK_blk_ret, RK_blk_exit, RK_loop, RK_loop_ret, RK_loop_exit, RK_done])
    | fail)
  all_goals
  (refine EndOK.val (.inr rfl) ?_; simp [resD, oneOrTup, pureD, Try.results44])
  have h3 := Pm.and_mask32' 1 (by omega) (by omega)
  have h4 : 1 * (m : Int) % 18446744073709551616 / 4294967296 % 18446744073709551616 = 0 := by omega
  have h5 := Pm.and_mask32' 0 (by omega) (by omega)
  have h6 : (m : Int) / 4294967296 = 0 := by omega
  rw [show (1 : Int) % 4294967296 = 1 by omega] at h3
  rw [show (0 : Int) % 4294967296 = 0 by omega] at h5
  rw [h3, h4, h5, h6]
  omega
theorem mul_small (m : Nat) (hm : m ≤ 1000) : Fun Try.prog 40 [.u (.int .u64 1), .u (.int .u64 m)] (· = .tup [.u (.int .u64 0), .u (.int .u64 m)]) := by
  have h1 := mul64_small m hm
  (refine Fun.of_body Try.func40 rfl (by simp) fun Γ hn => ?_); simp only [entry, List.zipIdx_cons, List.zipIdx_nil, List.map_cons, List.map_nil, Nat.zero_add, Try.ntmps40]
  repeat' (first
    | (refine H_cons ?_; simp)
    | (refine H_nil ?_; simp)
    | (refine V_sseq ?_; simp)
    | (refine V_ret ?_; simp only [RK_seq, RK_seq_ret, RK_seq_exit, RK_blk, RK_blk_ret, RK_blk_exit, RK_loop, RK_loop_ret, RK_loop_exit, RK_done])
    | (refine V_skip ?_; simp only [RK_seq, RK_seq_ret, RK_seq_exit, RK_blk, RK_blk_ret, RK_blk_exit, RK_loop, RK_loop_ret, RK_loop_exit, RK_done])
    | (refine CallP.fun_ (h1) (by first | rfl | fail) (by first | assumption | (simp; done) | fail) (by first | (simp; done) | (simp; rfl) | fail) (by first | (simp; done) | fail) (fun d hd => ?_); subst hd; (try simp))
    | fail)
  (refine EndOK.val (.inr rfl) ?_; simp [resD, oneOrTup, pureD, Try.results40])
end Go.Proofs.Ytdkadmchdocjbaa
namespace Go.Proofs.Ytdkadmchdocjbaa
open Go Go.VL Go.Proofs Go.RowKit
theorem mul_calls (m : Nat) (hm : m ≤ 1000) (w : World) : Calls Try.prog 40 #[.int .u64 1, .int .u64 m] w fun e w' => e = .returned (.tuple #[.int .u64 0, .int .u64 m]) ∧ Below w.heap.size w w' := by
  have h := mul_small m hm ⟨fun _ _ => none, fun _ => none, fun p hp => by cases hp⟩ (w.heap.size ≤ ·) w #[.int .u64 1, .int .u64 m] ⟨(fun b o v e => by simp at e), (fun i ob e => by simp [getK] at e), (fun i j x y h g b e => by simp [getK] at e)⟩ (fun _ _ => rfl) (fun b hb => hb)
    ⟨rfl, fun j d hj => by
      match j, hj with
      | 0, hj => cases hj; exact .u _ _ (.int _ _)
      | 1, hj => cases hj; exact .u _ _ (.int _ _)⟩
  refine h.mono ?_
  rintro e w' ⟨v, d, obs, nx, k, rfl, hin, hsat, hhdr, hnx, hrep, hpu, rfl⟩
  obtain ⟨vs, hl, rfl, hv⟩ := rep_tup hrep
  refine ⟨?_, hin.os, hin.tape, hin.output, hin.size, fun b hb => hin.block b (by show ¬ w.heap.size ≤ b; omega)⟩
  match vs, hl with
  | [a, b], _ =>
    have h0 := rep_int (hv 0 _ rfl)
    have h1 := rep_int (hv 1 _ rfl)
    simp at h0 h1
    rw [h0, h1]
def fillV (z : Value) (m k : Nat) : List Value := List.replicate k z ++ List.replicate (m - k) (.int .i64 0)
theorem fillV_len (z : Value) (m k : Nat) (h : k ≤ m) : (fillV z m k).length = m := by simp [fillV]; omega
theorem splice_first (z : Value) (m : Nat) : splice (List.replicate m (Value.int .i64 0)) 0 (List.replicate (min 1 m) z) = fillV z m (min 1 m) := by
  simp [splice, fillV, List.drop_replicate]
theorem splice_next (z : Value) (m k : Nat) (h : k ≤ m) : splice (fillV z m k) k (List.replicate (min k (m - k)) z) = fillV z m (k + min k (m - k)) := by
  simp only [splice, fillV, List.length_replicate]
  rw [List.take_left' (by simp), List.drop_append, List.drop_eq_nil_of_le (by simp), List.nil_append, List.length_replicate, List.drop_replicate, ← List.append_assoc, List.replicate_append_replicate]
  congr 2
  omega
theorem cell_fill {g m k : Nat} {z : Value} {w : World} {t : TypeId} (hg : w.heap[g]? = some (.cells (fillV z m k).toArray t (0, 0))) (hk : k ≤ m) {j : Nat} {v : Value} (hj : (List.replicate (min k (m - k)) z)[j]? = some v) : w.drew.cell? ((⟨g, 0, none⟩ : Addr).add j) = some v := by
  have hl := (List.getElem?_eq_some_iff.1 hj).1
  simp at hl
  rw [List.getElem?_replicate, if_pos (by omega)] at hj
  cases hj
  rw [Addr.add_lit, Nat.zero_add]
  show w.cell? _ = _
  rw [cell_of_row w g j _ t (0, 0) hg]
  simp [fillV, List.getElem?_append_left, show j < k by omega]
theorem cell_rep {b m : Nat} {z : Value} {w w2 : World} (hB : Below w.heap.size w w2) (hb : b < w.heap.size) (hc : w.cell? ⟨b, 0, none⟩ = some z) {j : Nat} {v : Value} (hj : (List.replicate (min 1 m) z)[j]? = some v) : w2.cell? ⟨b, j, none⟩ = some v := by
  have hl := (List.getElem?_eq_some_iff.1 hj).1
  simp at hl
  obtain rfl : j = 0 := by omega
  rw [List.getElem?_replicate] at hj
  split at hj
  · cases hj
    exact (hB.cell (p := ⟨b, 0, none⟩) hb).trans hc
  · omega
set_option maxHeartbeats 1600000 in
theorem repeat_calls (z : Int) (b cap m : Nat) (w : World) (hm : m ≤ 1000) (hb : b < w.heap.size) (hc : w.cell? ⟨b, 0, none⟩ = some (.int .i64 z)) (hcap : 1 ≤ cap) :
    Calls Try.prog 33 #[.slice (some ⟨b, 0, none⟩) 1 cap, .int .i64 m] w fun e w' => ∃ v, e = .returned v ∧ w'.ownsRow w.heap.size 3 1 v m (List.replicate m (.int .i64 z)) ∧ Below w.heap.size w w' := by
  have hm0 : ¬ (m : Int) < 0 := by omega
  have hw1 : IntKind.u64.wrap (m : Int) = m := by rw [IntKind.wrap_u64]; omega
  have hw2 : IntKind.i64.wrap (m : Int) = m := by rw [IntKind.wrap_i64]; omega
  have hw3 : ¬ (9223372036854775807 : Int) < m := by omega
  go_enter Try.func33, Try.ntmps33
  obtain ⟨i0, hi0, hz0, hz1, hz2⟩ := info_parts (show (Try.prog.info? 3).map (fun i => (i.zero, i.size, i.bytes)) = some (some (.int .i64 0), 1, 8) by kernel_rfl)
  have hsz : (Try.prog.info? 3).map (·.size) = some 1 := by rw [hi0]; simp [hz1]
  go_wp2_with (first
    | (go_at_call 40; refine (mul_calls m hm _).mono ?_; rintro e w1 ⟨rfl, hb1⟩)
    | (at_make; refine wpList_make_z _ rfl _ _ 23 rfl 3 i0 (.int .i64 0) Try.underlying23 hi0 hz0 hz1 rfl .i64 .i64 _ _ m rfl rfl rfl rfl (by rw [hz2]; omega) (by unfold maxLen; omega) ?_; intro w2 hg2 hb2)
    | ((with_reducible show wpList _ _ _ _ _ _); refine wpList_copy_splice (w := w2) rfl (.tmp 31) (.tmp 32) 23 23 rfl 3 Try.underlying23 hsz _ _ m m 1 cap rfl rfl w1.heap.size 0 (List.replicate m (.int .i64 0)) 3 ?a8 (List.replicate (min 1 m) (.int .i64 z)) ?a9 ?b1 ?b2 ?b3 w.heap.size w ?b4 ?b5 ?b6))
  case b1 => exact fun _ j v hj => cell_rep (hb1.trans (hb2.mono hb1.size)) hb hc hj
  case a8 => exact hg2
  case a9 => rw [List.length_replicate]
  case b2 => rw [List.length_replicate, List.length_replicate]; omega
  case b3 => exact fun v hv => by rw [List.eq_of_mem_replicate hv]; rfl
  case b4 => exact hb1.trans (hb2.mono hb1.size)
  case b5 => exact hb1.size
  intro w3 hg3 hb3
  rw [splice_first] at hg3
  go_wp2
  go_loopw [8] (fun i wr => ∃ k : Nat, i = .int .i64 k ∧ k ≤ m ∧ (m = 0 ∨ 1 ≤ k) ∧ Hid (wr.heap[w1.heap.size]? = some (.cells (fillV (.int .i64 z) m k).toArray 3 (0, 0))) ∧ Below w.heap.size w wr)
    (fun i _ => m - (intOf i).toNat)
  case atStart => exact ⟨min 1 m, rfl, by omega, by omega, hg3, hb3⟩
  case round =>
    obtain ⟨k, rfl, hk, hk1, hgk, hbk⟩ := hrel
    by_cases hlt : k < m
    · have hcs : (List.replicate (min k (m - k)) (Value.int .i64 z)).length = Nat.min k (m - k) := by rw [List.length_replicate]
      have hfit : k + (List.replicate (min k (m - k)) (Value.int .i64 z)).length ≤ (fillV (.int .i64 z) m k).length := by rw [List.length_replicate, fillV_len _ _ _ hk]; omega
      have hone : ∀ v ∈ List.replicate (min k (m - k)) (Value.int .i64 z), v.oneCell' = true := fun v hv => by rw [List.eq_of_mem_replicate hv]; rfl
      have hsrc : ∀ j v, (List.replicate (min k (m - k)) (Value.int .i64 z))[j]? = some v → wr.drew.cell? ((⟨w1.heap.size, 0, none⟩ : Addr).add j) = some v := fun j v hj => cell_fill hgk hk hj
      go_wp2
      go_region_law (refine step_copy_splice rfl (.tmp 41) (.tmp 44) 23 23 rfl 3 Try.underlying23 hsz (if m = k then some ⟨w1.heap.size, 0, none⟩ else some ⟨w1.heap.size, k, none⟩) (some ⟨w1.heap.size, 0, none⟩) (m - k) (m - k) k m (by kernel_rfl) (by kernel_rfl) w1.heap.size k (fillV (.int .i64 z) m k) 3 hgk (List.replicate (min k (m - k)) (.int .i64 z)) hcs (fun _ => ⟨if_neg (by omega), _, rfl, hsrc⟩) hfit hone w.heap.size w hbk.drew hb1.size ?_; intro w4 hg4 hb4)
      rw [splice_next _ _ _ hk] at hg4
      obtain ⟨q, hq⟩ : ∃ q, q = Nat.min k (m - k) := ⟨_, rfl⟩
      have hq2 : q = min k (m - k) := hq
      have hsum : IntKind.i64.wrap ((k : Int) + (Nat.min k (m - k) : Nat)) = ((k + q : Nat) : Int) := by rw [← hq, IntKind.wrap_i64]; omega
      rw [← hq2] at hg4
      have hlq : (List.replicate (min k (m - k)) (Value.int .i64 z)).length = q := by rw [List.length_replicate]; exact hq2.symm
      have hsum2 : IntKind.i64.wrap ((k : Int) + (q : Int)) = ((k + q : Nat) : Int) := by rw [IntKind.wrap_i64]; omega
      clear hsrc hone hfit hcs
      go_wp2
      have e1 : (k : Int) + (Nat.min k (m - k) : Nat) = ((k + q : Nat) : Int) := by rw [← hq]; omega
      go_roundw
      case rel => exact ⟨k + q, e1, by omega, by omega, hg4⟩
      case measure =>
        rw [e1]
        show m - (((k + q : Nat) : Int)).toNat < m - ((k : Nat) : Int).toNat
        omega
    · obtain rfl : k = m := by omega
      go_wp2
      go_ret
      refine ⟨_, rfl, ⟨by simp, .inr ⟨_, _, _, rfl, hb1.size, hgk, Nat.le_refl _, by unfold maxLen; omega, ?_, ?_⟩⟩, hbk⟩
      · simp [fillV_len]
      · simp [fillV]
theorem repeat_ret (j nx m : Nat) (z : Int) (hm : m ≤ 1000) : Ret Try.prog 33 [.vec j 1, .u (.int .i64 m)] [(j, .vec 3 1 (intR [z]))] nx
    fun d obs nx' => d = .vec nx (List.replicate m z).length ∧ obs = (nx, .vec 3 1 (intR (List.replicate m z))) :: [(j, .vec 3 1 (intR [z]))] ∧ nx' = nx + 1 := by
  refine Ret.ofNew _ fun k own w vs hsat hrep => ?_
  obtain ⟨h, xs, hh, hrow, _, _, hcell, _⟩ := (hsat.ob j (.vec 3 1 (intR [z])) (by simp [getK])).vec
  obtain ⟨h1, h2⟩ := hrep
  have h3 := h2 0 _ rfl
  have h4 := rep_int (h2 1 _ rfl)
  have h6 : ∀ v0, Rep k (.vec j 1) v0 → v0 = headVal h 1 := fun v0 h3 => by
    cases h3 with
    | vec i len g hg => rw [hh] at hg; cases hg; rfl
  have h5 : vs.getD 0 undef = headVal h 1 := h6 _ h3
  have hvs : vs = #[headVal h 1, .int .i64 m] := by
    have hs2 : vs.size = 2 := by simpa using h1
    apply Array.ext_getElem?
    intro i
    match i with
    | 0 => simp [hs2] at h5; simp [hs2, h5]
    | 1 => simp [hs2] at h4; simp [hs2, h4]
    | i + 2 => rw [Array.getElem?_eq_none (by omega), Array.getElem?_eq_none (by simp)]
  subst hvs
  have hl : (intR [z]).length = 1 := rfl
  rw [hl] at hrow
  obtain ⟨hxl, hrow⟩ := hrow
  rcases hrow with ⟨_, hx⟩ | ⟨g, cap, cur, hv, _, hg, hnc, hcm, hcs, htk⟩
  · omega
  · rw [hv]
    have hz := hcell 0 [.u (.int .i64 z)] rfl 0 _ rfl
    have hx0 : xs.getD 0 undef = .int .i64 z := rep_int hz.2
    have hpos : 0 < cur.size := by omega
    have hc : w.cell? ⟨g, 0, none⟩ = some (.int .i64 z) := by
      rw [cell_of_row w g 0 cur 3 (0, 0) hg]
      have : cur.toList.take 1 = xs := by simpa using htk
      rw [← this] at hx0
      cases hq : cur.toList with
      | nil => rw [← Array.length_toList, hq] at hpos; simp at hpos
      | cons a r =>
        rw [hq] at hx0
        simp at hx0
        have : cur[0]? = some a := by rw [← Array.getElem?_toList, hq]; rfl
        rw [this, hx0]
    refine (repeat_calls z g cap m w hm (Array.getElem?_eq_some_iff.1 hg).1 hc hnc).mono ?_
    rintro e w' ⟨v, rfl, hr, hb⟩
    exact ⟨v, rfl, by simpa using hr, hb⟩
theorem repeat_x (j nx m : Nat) (z : Int) (hm : m ≤ 1000) : RetX Try.prog 33 [.vec j 1, .u (.int .i64 m)] [(j, .vec 3 1 (intR [z]))] nx
    fun q o n => q = .val (mkD (How.vec m) nx) ∧ (∀ y, getK o y = getK ((nx, .vec 3 1 (intR (List.replicate m z))) :: [(j, .vec 3 1 (intR [z]))]) y) ∧ n = nx + 1 :=
  (repeat_ret j nx m z hm).x.mono fun r o n h => by
    cases r with
    | val d =>
      obtain ⟨rfl, rfl, rfl⟩ := h
      exact ⟨by simp [mkD], fun y => rfl, rfl⟩
    | pan c => exact h.elim
end Go.Proofs.Ytdkadmchdocjbaa
