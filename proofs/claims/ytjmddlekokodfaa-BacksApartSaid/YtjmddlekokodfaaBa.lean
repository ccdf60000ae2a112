/- Layer 26: lists: the walks. -/
import Derived.Test.YtjmddlekokodfaaSx
import Derived.Test.YtjmddlekokodfaaVLU
import Derived.Test.YtjmddlekokodfaaTy
import Derived.Test.YtjmddlekokodfaaBp
set_option linter.all false
set_option maxRecDepth 100000
set_option maxHeartbeats 8000000
set_option linter.all false
namespace Go.Proofs.Ytjmddlekokodfaa
open Go Go.VL
abbrev ints (l : List Int) : U := .sl (l.map fun n => [.int .i64 n])
abbrev lists (l : List (List Int)) : U := .sl (l.map fun r => [ints r])
theorem take_snoc {α : Type} {l : List α} {i : Nat} {a : α} (hx : l[i]? = some a) : l.take (i + 1) = l.take i ++ [a] := by
  obtain ⟨hi, rfl⟩ := List.getElem?_eq_some_iff.1 hx
  rw [List.take_succ_eq_append_getElem hi]
theorem all_snoc {α : Type} {l : List α} {i : Nat} {a : α} {p : α → Prop} (hx : l[i]? = some a) (hb : ∀ y ∈ l.take i, p y) (ha : p a) : ∀ y ∈ l.take (i + 1), p y := by
  rw [take_snoc hx]
  intro y hy
  rcases List.mem_append.1 hy with h | h
  · exact hb y h
  · simp at h; subst h; exact ha
attribute [local simp] hcons hstep evPure opd uOf putOK St.put St.at getK binD binI binS binB nilD aggD eqUs cmpK lookD lookR rangeD nextD entryD keyD valU keyU lookK mkV entD_nil lookK_entD updK_entD1 updK_entD2 updK_entD3 allUE allUE_entD makeMapD mapUpdD mapEff updK valM Key.kk shiftI arith unD convD pickD loadD cellsAt fieldAddrD fieldD indexAddrD indexD sliceD cutD lenD minmaxD nilCheckD buildD fillD cellsD isOne ones setAll mkAgg allU allocD boxD storeD St.add buildSliceD appendD rowsOf makeD setOb getK_setOb getK_del getK_cons stripL strip guardTmp entry chunks zcells valD argsV argsW argW argU1 argU0 argsU0 argsU1 calleeOf scalarD scalarU delAll effD St.effS RK_seq RK_seq_ret RK_seq_exit RK_blk RK_blk_ret RK_blk_exit RK_loop RK_loop_ret RK_loop_exit RK_done vs_seq vs_block vs_skip vs_label vs_exit vs_ret vs_cond vs_region vs_loop vs_draw vs_range vs_scope applyW mkD rdIds lentIds callOf calleeOf freeOp D.ids Op.operands Call.operands isEffOp IntKind.bits allU2 allU2_append List.take_of_length_le List.range_succ
attribute [local irreducible] V G H HD HD2 RunK Eff CallP CallV EndOK Fun Ret FinOK LoopI LoopW EndW
theorem amount_fun (n : Int) : Fun Try.prog 24 [.u (.int .i64 n)] (· = .u (.bool (decide (0 ≤ n ∧ n ≤ maxC)))) := by
  rw [show decide (0 ≤ n ∧ n ≤ maxC) = (decide (0 ≤ n) && decide (n ≤ 1099511627776)) from Bool.decide_and _ _]
  by_cases h0 : 0 ≤ n
  · (refine Fun.of_body Try.func24 rfl (by simp) fun Γ hn => ?_); simp only [entry, List.zipIdx_cons, List.zipIdx_nil, List.map_cons, List.map_nil, Nat.zero_add, Try.ntmps24]
    repeat' (first
    | (refine H_cons ?_; simp [h0])
    | (refine H_nil ?_; simp [h0])
    | (refine V_sseq ?_; simp [h0])
    | (refine V_ret ?_; simp only [RK_seq, RK_seq_ret, RK_seq_exit, RK_blk, RK_blk_ret, RK_blk_exit, RK_loop, RK_loop_ret, RK_loop_exit, RK_done])
    | fail)
    (refine EndOK.val (.inr rfl) ?_; simp [resD, oneOrTup, pureD, Try.results24])
    try simp [h0]
  · (refine Fun.of_body Try.func24 rfl (by simp) fun Γ hn => ?_); simp only [entry, List.zipIdx_cons, List.zipIdx_nil, List.map_cons, List.map_nil, Nat.zero_add, Try.ntmps24]
    repeat' (first
    | (refine H_cons ?_; simp [h0])
    | (refine H_nil ?_; simp [h0])
    | (refine V_sseq ?_; simp [h0])
    | (refine V_ret ?_; simp only [RK_seq, RK_seq_ret, RK_seq_exit, RK_blk, RK_blk_ret, RK_blk_exit, RK_loop, RK_loop_ret, RK_loop_exit, RK_done])
    | fail)
    (refine EndOK.val (.inr rfl) ?_; simp [resD, oneOrTup, pureD, Try.results24])
    try omega
theorem has_fun (l : List Int) (v : Int) (hl : l.length ≤ 1000000) : Fun Try.prog 25 [.u (ints l), .u (.int .i64 v)] (· = .u (.bool (decide (v ∈ l)))) := by
  (refine Fun.of_body Try.func25 rfl (by simp) fun Γ hn => ?_); simp only [entry, List.zipIdx_cons, List.zipIdx_nil, List.map_cons, List.map_nil, Nat.zero_add, Try.ntmps25]
  repeat' (first
    | (refine H_cons ?_; simp)
    | (refine H_nil ?_; simp)
    | (refine V_sseq ?_; simp)
    | (refine V_sblock ?_; simp)
    | fail)
  refine V_loopF (α := { i : Nat // i ≤ l.length ∧ ∀ y ∈ l.take i, y ≠ v }) [0, 1] (fun i => [(5, .u (.int .i64 i.1))]) (fun i => l.length - i.1) ⟨0, by omega, by simp⟩ ?_ ?_
  · exact (Wk.cut rfl (by simp [hn, St.lp]) (by simp [wkO, St.lp, getK_cons, getK, Ob.under, D.under, under_rowsD, under_entD]) (by simp [wkU, St.lp, keepE, getK_cons, getK, D.under]) (by simp [wkE, St.lp, keepE, getK_cons, getK] <;> (try (intros; simp_all; done)) <;> (try (intros; omega)) <;> (try grind)))
  rintro ⟨i, hi, hb⟩
  simp [St.lp, St.only, keepE, getK_cons, getK]
  rcases hx : l[i]? with _ | a
  · have hge : l.length ≤ i := by simpa using hx
    obtain rfl : i = l.length := by omega
    rw [List.take_length] at hb
    have hn : ¬ v ∈ l := fun h => hb v h rfl
    repeat' (first
    | (refine H_cons ?_; simp [hx])
    | (refine H_nil ?_; simp [hx])
    | (refine V_sseq ?_; simp [hx])
    | (refine V_scond ?_; simp [hx])
    | (refine V_ret ?_; simp only [RK_seq, RK_seq_ret, RK_seq_exit, RK_blk, RK_blk_ret, RK_blk_exit, RK_loop, RK_loop_ret, RK_loop_exit, RK_done])
    | (refine V_exit ?_; simp [RK_seq, RK_seq_ret, RK_seq_exit, RK_blk, RK_blk_ret, RK_blk_exit, RK_loop, RK_loop_ret, RK_loop_exit, RK_done])
    | fail)
    (refine EndOK.val (.inr rfl) ?_; simp [resD, oneOrTup, pureD, Try.results25])
    simp [hn]
  · have hlt : i < l.length := (List.getElem?_eq_some_iff.1 hx).1
    by_cases hav : a = v
    · subst hav
      have hm := List.mem_of_getElem? hx
      repeat' (first
    | (refine H_cons ?_; simp [hx])
    | (refine H_nil ?_; simp [hx])
    | (refine V_sseq ?_; simp [hx])
    | (refine V_scond ?_; simp [hx])
    | (refine V_ret ?_; simp only [RK_seq, RK_seq_ret, RK_seq_exit, RK_blk, RK_blk_ret, RK_blk_exit, RK_loop, RK_loop_ret, RK_loop_exit, RK_done])
    | (refine V_skip ?_; simp only [RK_seq, RK_seq_ret, RK_seq_exit, RK_blk, RK_blk_ret, RK_blk_exit, RK_loop, RK_loop_ret, RK_loop_exit, RK_done])
    | (refine ⟨?_, by omega⟩)
    | (intro hc <;> (try (exfalso; omega)))
    | fail)
      (refine EndOK.val (.inr rfl) ?_; simp [resD, oneOrTup, pureD, Try.results25])
      simp [hm]
    · repeat' (first
    | (refine H_cons ?_; simp [hx, hav])
    | (refine H_nil ?_; simp [hx, hav])
    | (refine ⟨by omega, ?_⟩)
    | (refine V_sseq ?_; simp [hx, hav])
    | (refine V_scond ?_; simp [hx, hav])
    | (refine V_sregion ?_; simp [hx, hav])
    | (refine V_skip ?_; simp only [RK_seq, RK_seq_ret, RK_seq_exit, RK_blk, RK_blk_ret, RK_blk_exit, RK_loop, RK_loop_ret, RK_loop_exit, RK_done])
    | (refine ⟨?_, by omega⟩)
    | (intro hc <;> (try (exfalso; omega)))
    | fail)
      refine LoopW.next ⟨i + 1, by omega, all_snoc hx hb hav⟩ (by simp; omega) ?_
      exact (Wk.cut rfl (by simp [hn, St.lp]) (by simp [wkO, St.lp, getK_cons, getK, Ob.under, D.under, under_rowsD, under_entD]) (by simp [wkU, St.lp, keepE, getK_cons, getK, D.under]) (by simp [wkE, St.lp, keepE, getK_cons, getK] <;> (try (intros; simp_all; done)) <;> (try (intros; omega)) <;> (try grind)))
theorem same_fun (a b : List Int) (hl : a.length ≤ 1000000) : Fun Try.prog 15 [.u (ints a), .u (ints b)] (· = .u (.bool (decide (a = b)))) := by
  by_cases hab : a.length = b.length
  · (refine Fun.of_body Try.func15 rfl (by simp) fun Γ hn => ?_); simp only [entry, List.zipIdx_cons, List.zipIdx_nil, List.map_cons, List.map_nil, Nat.zero_add, Try.ntmps15]
    repeat' (first
    | (refine H_cons ?_; simp [hab])
    | (refine H_nil ?_; simp [hab])
    | (refine V_sseq ?_; simp [hab])
    | (refine V_scond ?_; simp [hab])
    | (refine V_sblock ?_; simp [hab])
    | (refine V_skip ?_; simp only [RK_seq, RK_seq_ret, RK_seq_exit, RK_blk, RK_blk_ret, RK_blk_exit, RK_loop, RK_loop_ret, RK_loop_exit, RK_done])
    | fail)
    refine V_loopF (α := { i : Nat // i ≤ a.length ∧ a.take i = b.take i }) [0, 1] (fun i => [(5, .u (.int .i64 i.1))]) (fun i => a.length - i.1) ⟨0, by omega, by simp⟩ ?_ ?_
    · exact (Wk.cut rfl (by simp [hn, St.lp]) (by simp [wkO, St.lp, getK_cons, getK, Ob.under, D.under, under_rowsD, under_entD]) (by simp [wkU, St.lp, keepE, getK_cons, getK, D.under]) (by simp [wkE, St.lp, keepE, getK_cons, getK] <;> (try (intros; simp_all; done)) <;> (try (intros; omega)) <;> (try grind)))
    rintro ⟨i, hi, hb⟩
    simp [St.lp, St.only, keepE, getK_cons, getK]
    rcases hx : a[i]? with _ | x
    · have hge : a.length ≤ i := by simpa using hx
      obtain rfl : i = a.length := by omega
      have he : a = b := by rw [List.take_length, hab, List.take_length] at hb; exact hb
      have hge2 : b.length ≤ a.length := by omega
      repeat' (first
    | (refine H_cons ?_; simp [hx, hab])
    | (refine H_nil ?_; simp [hx, hab])
    | (refine V_sseq ?_; simp [hx, hab])
    | (refine V_scond ?_; simp [hx, hab])
    | (refine V_ret ?_; simp only [RK_seq, RK_seq_ret, RK_seq_exit, RK_blk, RK_blk_ret, RK_blk_exit, RK_loop, RK_loop_ret, RK_loop_exit, RK_done])
    | (refine V_exit ?_; simp [RK_seq, RK_seq_ret, RK_seq_exit, RK_blk, RK_blk_ret, RK_blk_exit, RK_loop, RK_loop_ret, RK_loop_exit, RK_done])
    | fail)
      (refine EndOK.val (.inr rfl) ?_; simp [resD, oneOrTup, pureD, Try.results15])
      simp [he]
    · have hlt : i < a.length := (List.getElem?_eq_some_iff.1 hx).1
      have hlt2 : i < b.length := by omega
      obtain ⟨y, hy⟩ : ∃ y, b[i]? = some y := ⟨_, List.getElem?_eq_getElem hlt2⟩
      by_cases hxy : x = y
      · subst hxy
        repeat' (first
    | (refine H_cons ?_; simp [hx, hy, hab])
    | (refine HD_cons ?_; simp [hx, hy, hab])
    | (refine H_nil ?_; simp [hx, hy, hab])
    | (refine ⟨by omega, ?_⟩)
    | (refine V_sseq ?_; simp [hx, hy, hab])
    | (refine V_scond ?_; simp [hx, hy, hab])
    | (refine HD_nil ?_)
    | (refine hk _ ?_; clear hk k; simp only [RK_seq, RK_seq_ret, RK_seq_exit, RK_blk, RK_blk_ret, RK_blk_exit, RK_loop, RK_loop_ret, RK_loop_exit, RK_done])
    | (refine V_drawV rfl (by kernel_rfl) (by kernel_rfl) fun k hk => ?_; simp [hx, hy, hab])
    | (refine V_sregion ?_; simp [hx, hy, hab])
    | (refine V_skip ?_; simp only [RK_seq, RK_seq_ret, RK_seq_exit, RK_blk, RK_blk_ret, RK_blk_exit, RK_loop, RK_loop_ret, RK_loop_exit, RK_done])
    | (refine ⟨?_, by omega⟩)
    | (intro hc <;> (try (exfalso; omega)))
    | fail)
        refine LoopW.next ⟨i + 1, by omega, by rw [take_snoc hx, take_snoc hy, hb]⟩ (by simp; omega) ?_
        exact (Wk.cut rfl (by simp [hn, St.lp]) (by simp [wkO, St.lp, getK_cons, getK, Ob.under, D.under, under_rowsD, under_entD]) (by simp [wkU, St.lp, keepE, getK_cons, getK, D.under]) (by simp [wkE, St.lp, keepE, getK_cons, getK] <;> (try (intros; simp_all; done)) <;> (try (intros; omega)) <;> (try grind)))
      · have he : ¬ a = b := fun h => by subst h; rw [hx] at hy; cases hy; exact hxy rfl
        repeat' (first
    | (refine H_cons ?_; simp [hx, hy, hab, hxy])
    | (refine HD_cons ?_; simp [hx, hy, hab, hxy])
    | (refine H_nil ?_; simp [hx, hy, hab, hxy])
    | (refine V_sseq ?_; simp [hx, hy, hab, hxy])
    | (refine V_scond ?_; simp [hx, hy, hab, hxy])
    | (refine HD_nil ?_)
    | (refine hk _ ?_; clear hk k; simp only [RK_seq, RK_seq_ret, RK_seq_exit, RK_blk, RK_blk_ret, RK_blk_exit, RK_loop, RK_loop_ret, RK_loop_exit, RK_done])
    | (refine V_drawV rfl (by kernel_rfl) (by kernel_rfl) fun k hk => ?_; simp [hx, hy, hab, hxy])
    | (refine V_ret ?_; simp only [RK_seq, RK_seq_ret, RK_seq_exit, RK_blk, RK_blk_ret, RK_blk_exit, RK_loop, RK_loop_ret, RK_loop_exit, RK_done])
    | (refine V_skip ?_; simp only [RK_seq, RK_seq_ret, RK_seq_exit, RK_blk, RK_blk_ret, RK_blk_exit, RK_loop, RK_loop_ret, RK_loop_exit, RK_done])
    | (refine ⟨?_, by omega⟩)
    | (intro hc <;> (try (exfalso; omega)))
    | fail)
        (refine EndOK.val (.inr rfl) ?_; simp [resD, oneOrTup, pureD, Try.results15])
        simp [he]
  · have he : ¬ a = b := fun h => hab (by rw [h])
    have hab2 : ¬ (a.length : Int) = b.length := by omega
    (refine Fun.of_body Try.func15 rfl (by simp) fun Γ hn => ?_); simp only [entry, List.zipIdx_cons, List.zipIdx_nil, List.map_cons, List.map_nil, Nat.zero_add, Try.ntmps15]
    repeat' (first
    | (refine H_cons ?_; simp [hab, hab2])
    | (refine H_nil ?_; simp [hab, hab2])
    | (refine V_sseq ?_; simp [hab, hab2])
    | (refine V_scond ?_; simp [hab, hab2])
    | (refine V_ret ?_; simp only [RK_seq, RK_seq_ret, RK_seq_exit, RK_blk, RK_blk_ret, RK_blk_exit, RK_loop, RK_loop_ret, RK_loop_exit, RK_done])
    | fail)
    all_goals
      (refine EndOK.val (.inr rfl) ?_; simp [resD, oneOrTup, pureD, Try.results15])
      simp [he]
theorem sameLists_fun (a b : List (List Int)) (hl : a.length ≤ 1000000) (hr : ∀ r ∈ a, r.length ≤ 1000000) : Fun Try.prog 14 [.u (lists a), .u (lists b)] (· = .u (.bool (decide (a = b)))) := by
  by_cases hab : a.length = b.length
  · (refine Fun.of_body Try.func14 rfl (by simp) fun Γ hn => ?_); simp only [entry, List.zipIdx_cons, List.zipIdx_nil, List.map_cons, List.map_nil, Nat.zero_add, Try.ntmps14]
    repeat' (first
    | (refine H_cons ?_; simp [hab])
    | (refine H_nil ?_; simp [hab])
    | (refine V_sseq ?_; simp [hab])
    | (refine V_scond ?_; simp [hab])
    | (refine V_sblock ?_; simp [hab])
    | (refine V_skip ?_; simp only [RK_seq, RK_seq_ret, RK_seq_exit, RK_blk, RK_blk_ret, RK_blk_exit, RK_loop, RK_loop_ret, RK_loop_exit, RK_done])
    | fail)
    refine V_loopF (α := { i : Nat // i ≤ a.length ∧ a.take i = b.take i }) [0, 1] (fun i => [(5, .u (.int .i64 i.1))]) (fun i => a.length - i.1) ⟨0, by omega, by simp⟩ ?_ ?_
    · exact (Wk.cut rfl (by simp [hn, St.lp]) (by simp [wkO, St.lp, getK_cons, getK, Ob.under, D.under, under_rowsD, under_entD]) (by simp [wkU, St.lp, keepE, getK_cons, getK, D.under]) (by simp [wkE, St.lp, keepE, getK_cons, getK] <;> (try (intros; simp_all; done)) <;> (try (intros; omega)) <;> (try grind)))
    rintro ⟨i, hi, hb⟩
    simp [St.lp, St.only, keepE, getK_cons, getK]
    rcases hx : a[i]? with _ | x
    · have hge : a.length ≤ i := by simpa using hx
      obtain rfl : i = a.length := by omega
      have he : a = b := by rw [List.take_length, hab, List.take_length] at hb; exact hb
      have hge2 : b.length ≤ a.length := by omega
      repeat' (first
    | (refine H_cons ?_; simp [hx, hab])
    | (refine H_nil ?_; simp [hx, hab])
    | (refine V_sseq ?_; simp [hx, hab])
    | (refine V_scond ?_; simp [hx, hab])
    | (refine V_ret ?_; simp only [RK_seq, RK_seq_ret, RK_seq_exit, RK_blk, RK_blk_ret, RK_blk_exit, RK_loop, RK_loop_ret, RK_loop_exit, RK_done])
    | (refine V_exit ?_; simp [RK_seq, RK_seq_ret, RK_seq_exit, RK_blk, RK_blk_ret, RK_blk_exit, RK_loop, RK_loop_ret, RK_loop_exit, RK_done])
    | fail)
      (refine EndOK.val (.inr rfl) ?_; simp [resD, oneOrTup, pureD, Try.results14])
      simp [he]
    · have hlt : i < a.length := (List.getElem?_eq_some_iff.1 hx).1
      have hlt2 : i < b.length := by omega
      obtain ⟨y, hy⟩ : ∃ y, b[i]? = some y := ⟨_, List.getElem?_eq_getElem hlt2⟩
      have hsf := same_fun x y (hr x (List.mem_of_getElem? hx))
      by_cases hxy : x = y
      · subst hxy
        simp only [decide_true] at hsf
        repeat' (first
    | (refine H_cons ?_; simp [hx, hy, hab])
    | (refine HD_cons ?_; simp [hx, hy, hab])
    | (refine H_nil ?_; simp [hx, hy, hab])
    | (refine ⟨by omega, ?_⟩)
    | (refine V_sseq ?_; simp [hx, hy, hab])
    | (refine V_scond ?_; simp [hx, hy, hab])
    | (refine HD_nil ?_)
    | (refine hk _ ?_; clear hk k; simp only [RK_seq, RK_seq_ret, RK_seq_exit, RK_blk, RK_blk_ret, RK_blk_exit, RK_loop, RK_loop_ret, RK_loop_exit, RK_done])
    | (refine V_drawV rfl (by kernel_rfl) (by kernel_rfl) fun k hk => ?_; simp [hx, hy, hab])
    | (refine V_sregion ?_; simp [hx, hy, hab])
    | (refine V_skip ?_; simp only [RK_seq, RK_seq_ret, RK_seq_exit, RK_blk, RK_blk_ret, RK_blk_exit, RK_loop, RK_loop_ret, RK_loop_exit, RK_done])
    | (refine ⟨?_, by omega⟩)
    | (intro hc <;> (try (exfalso; omega)))
    | (refine CallV.fun_ (hsf) (by first | rfl | fail) (by first | assumption | (simp; done) | fail) (by first | (simp [hx, hy, hab]; done) | (simp [hx, hy, hab]; rfl) | fail) (by first | (simp; done) | fail) ?_ <;> (try simp [hx, hy, hab]))
    | fail)
        refine LoopW.next ⟨i + 1, by omega, by rw [take_snoc hx, take_snoc hy, hb]⟩ (by simp; omega) ?_
        exact (Wk.cut rfl (by simp [hn, St.lp]) (by simp [wkO, St.lp, getK_cons, getK, Ob.under, D.under, under_rowsD, under_entD]) (by simp [wkU, St.lp, keepE, getK_cons, getK, D.under]) (by simp [wkE, St.lp, keepE, getK_cons, getK] <;> (try (intros; simp_all; done)) <;> (try (intros; omega)) <;> (try grind)))
      · have he : ¬ a = b := fun h => by subst h; rw [hx] at hy; cases hy; exact hxy rfl
        rw [show decide (x = y) = false by simp [hxy]] at hsf
        repeat' (first
    | (refine H_cons ?_; simp [hx, hy, hab])
    | (refine HD_cons ?_; simp [hx, hy, hab])
    | (refine H_nil ?_; simp [hx, hy, hab])
    | (refine V_sseq ?_; simp [hx, hy, hab])
    | (refine V_scond ?_; simp [hx, hy, hab])
    | (refine HD_nil ?_)
    | (refine hk _ ?_; clear hk k; simp only [RK_seq, RK_seq_ret, RK_seq_exit, RK_blk, RK_blk_ret, RK_blk_exit, RK_loop, RK_loop_ret, RK_loop_exit, RK_done])
    | (refine V_drawV rfl (by kernel_rfl) (by kernel_rfl) fun k hk => ?_; simp [hx, hy, hab])
    | (refine V_ret ?_; simp only [RK_seq, RK_seq_ret, RK_seq_exit, RK_blk, RK_blk_ret, RK_blk_exit, RK_loop, RK_loop_ret, RK_loop_exit, RK_done])
    | (refine V_skip ?_; simp only [RK_seq, RK_seq_ret, RK_seq_exit, RK_blk, RK_blk_ret, RK_blk_exit, RK_loop, RK_loop_ret, RK_loop_exit, RK_done])
    | (refine ⟨?_, by omega⟩)
    | (intro hc <;> (try (exfalso; omega)))
    | (refine CallV.fun_ (hsf) (by first | rfl | fail) (by first | assumption | (simp; done) | fail) (by first | (simp [hx, hy, hab]; done) | (simp [hx, hy, hab]; rfl) | fail) (by first | (simp; done) | fail) ?_ <;> (try simp [hx, hy, hab]))
    | fail)
        (refine EndOK.val (.inr rfl) ?_; simp [resD, oneOrTup, pureD, Try.results14])
        simp [he]
  · have he : ¬ a = b := fun h => hab (by rw [h])
    have hab2 : ¬ (a.length : Int) = b.length := by omega
    (refine Fun.of_body Try.func14 rfl (by simp) fun Γ hn => ?_); simp only [entry, List.zipIdx_cons, List.zipIdx_nil, List.map_cons, List.map_nil, Nat.zero_add, Try.ntmps14]
    repeat' (first
    | (refine H_cons ?_; simp [hab, hab2])
    | (refine H_nil ?_; simp [hab, hab2])
    | (refine V_sseq ?_; simp [hab, hab2])
    | (refine V_scond ?_; simp [hab, hab2])
    | (refine V_ret ?_; simp only [RK_seq, RK_seq_ret, RK_seq_exit, RK_blk, RK_blk_ret, RK_blk_exit, RK_loop, RK_loop_ret, RK_loop_exit, RK_done])
    | fail)
    all_goals
      (refine EndOK.val (.inr rfl) ?_; simp [resD, oneOrTup, pureD, Try.results14])
      simp [he]
/-- At most n of each, and no more than 70 guarantors. -/
def fewB (debts : List Int) (backs : List (List Int)) (means : List Int) (n : Nat) : Bool := decide (debts.length ≤ n) && decide (backs.length ≤ n) && decide (means.length ≤ n) && decide (∀ r ∈ backs, r.length ≤ 70)
theorem few_fun (debts : List Int) (backs : List (List Int)) (means : List Int) (n : Nat) (hn : n ≤ 100) : ∃ b, (b = true → fewB debts backs means n = true) ∧ Fun Try.prog 9 [.u (ints debts), .u (lists backs), .u (ints means), .u (.int .i64 n)] (· = .u (.bool b)) := by
  by_cases hw : ∃ i r, i ≤ n ∧ backs[i]? = some r ∧ 70 < r.length
  · refine ⟨false, by simp, ?_⟩
    (refine Fun.of_body Try.func9 rfl (by simp) fun Γ hn => ?_); simp only [entry, List.zipIdx_cons, List.zipIdx_nil, List.map_cons, List.map_nil, Nat.zero_add, Try.ntmps9]
    repeat' (first
    | (refine H_cons ?_; simp)
    | (refine H_nil ?_; simp)
    | (refine V_sseq ?_; simp)
    | (refine V_sblock ?_; simp)
    | fail)
    refine V_loopF (α := { i : Nat // i ≤ n ∧ ∀ y ∈ backs.take i, y.length ≤ 70 }) [0, 1, 2, 3] (fun i => [(9, .u (.int .i64 i.1))]) (fun i => n + 1 - i.1) ⟨0, by omega, by simp⟩ ?_ ?_
    · exact (Wk.cut rfl (by simp [hn, St.lp]) (by simp [wkO, St.lp, getK_cons, getK, Ob.under, D.under, under_rowsD, under_entD]) (by simp [wkU, St.lp, keepE, getK_cons, getK, D.under]) (by simp [wkE, St.lp, keepE, getK_cons, getK] <;> (try (intros; simp_all; done)) <;> (try (intros; omega)) <;> (try grind)))
    rintro ⟨i, hi, hb⟩
    simp [St.lp, St.only, keepE, getK_cons, getK]
    obtain ⟨k, rk, hk1, hk2, hk3⟩ := hw
    have hik : i ≤ k := by
      rcases Nat.lt_or_ge k i with h | h
      · have := hb rk (List.mem_of_getElem? (i := k) (by rw [List.getElem?_take, if_pos h]; exact hk2)); omega
      · exact h
    have hkl := (List.getElem?_eq_some_iff.1 hk2).1
    obtain ⟨r, hx⟩ : ∃ r, backs[i]? = some r := ⟨_, List.getElem?_eq_getElem (by omega)⟩
    have hlt : i < backs.length := by omega
    by_cases hr : 70 < r.length
    · repeat' (first
    | (refine H_cons ?_; simp [hx, hr])
    | (refine H_nil ?_; simp [hx, hr])
    | (refine V_sseq ?_; simp [hx, hr])
    | (refine V_scond ?_; simp [hx, hr])
    | (refine V_ret ?_; simp only [RK_seq, RK_seq_ret, RK_seq_exit, RK_blk, RK_blk_ret, RK_blk_exit, RK_loop, RK_loop_ret, RK_loop_exit, RK_done])
    | (refine V_skip ?_; simp only [RK_seq, RK_seq_ret, RK_seq_exit, RK_blk, RK_blk_ret, RK_blk_exit, RK_loop, RK_loop_ret, RK_loop_exit, RK_done])
    | (refine ⟨?_, by omega⟩)
    | (intro hc <;> (try (exfalso; omega)))
    | fail)
      (refine EndOK.val (.inr rfl) ?_; simp [resD, oneOrTup, pureD, Try.results9])
    · have hin : i + 1 ≤ n := by
        rcases Nat.lt_or_ge i k with h | h
        · omega
        · obtain rfl : i = k := by omega
          rw [hk2] at hx
          cases hx
          omega
      repeat' (first
    | (refine H_cons ?_; simp [hx, hr])
    | (refine H_nil ?_; simp [hx, hr])
    | (refine ⟨by omega, ?_⟩)
    | (refine V_sseq ?_; simp [hx, hr])
    | (refine V_scond ?_; simp [hx, hr])
    | (refine V_sregion ?_; simp [hx, hr])
    | (refine V_skip ?_; simp only [RK_seq, RK_seq_ret, RK_seq_exit, RK_blk, RK_blk_ret, RK_blk_exit, RK_loop, RK_loop_ret, RK_loop_exit, RK_done])
    | (refine ⟨?_, by omega⟩)
    | (intro hc <;> (try (exfalso; omega)))
    | fail)
      refine LoopW.next ⟨i + 1, hin, all_snoc (p := fun y : List Int => y.length ≤ 70) hx hb (by omega)⟩ (by simp; omega) ?_
      exact (Wk.cut rfl (by simp [hn, St.lp]) (by simp [wkO, St.lp, getK_cons, getK, Ob.under, D.under, under_rowsD, under_entD]) (by simp [wkU, St.lp, keepE, getK_cons, getK, D.under]) (by simp [wkE, St.lp, keepE, getK_cons, getK] <;> (try (intros; simp_all; done)) <;> (try (intros; omega)) <;> (try grind)))
  · have hw2 : ∀ i r, i ≤ n → backs[i]? = some r → r.length ≤ 70 := fun i r h1 h2 => by
      rcases Nat.lt_or_ge 70 r.length with h | h
      · exact absurd ⟨i, r, h1, h2, h⟩ hw
      · exact h
    refine ⟨decide (debts.length ≤ n) && decide (backs.length ≤ n) && decide (means.length ≤ n), fun h => ?_, ?_⟩
    · simp only [Bool.and_eq_true, decide_eq_true_eq] at h
      obtain ⟨⟨h1, h2⟩, h3⟩ := h
      simp only [fewB, Bool.and_eq_true, decide_eq_true_eq]
      refine ⟨⟨⟨h1, h2⟩, h3⟩, fun r hr => ?_⟩
      obtain ⟨i, hi, e⟩ := List.mem_iff_getElem.1 hr
      exact hw2 i r (by omega) (by rw [List.getElem?_eq_getElem hi, e])
    · (refine Fun.of_body Try.func9 rfl (by simp) fun Γ hn => ?_); simp only [entry, List.zipIdx_cons, List.zipIdx_nil, List.map_cons, List.map_nil, Nat.zero_add, Try.ntmps9]
      repeat' (first
    | (refine H_cons ?_; simp)
    | (refine H_nil ?_; simp)
    | (refine V_sseq ?_; simp)
    | (refine V_sblock ?_; simp)
    | fail)
      refine V_loopF (α := { i : Nat // i ≤ n + 1 ∧ i ≤ backs.length }) [0, 1, 2, 3] (fun i => [(9, .u (.int .i64 i.1))]) (fun i => n + 1 - i.1) ⟨0, by omega, by omega⟩ ?_ ?_
      · exact (Wk.cut rfl (by simp [hn, St.lp]) (by simp [wkO, St.lp, getK_cons, getK, Ob.under, D.under, under_rowsD, under_entD]) (by simp [wkU, St.lp, keepE, getK_cons, getK, D.under]) (by simp [wkE, St.lp, keepE, getK_cons, getK] <;> (try (intros; simp_all; done)) <;> (try (intros; omega)) <;> (try grind)))
      rintro ⟨i, hi, hi2⟩
      simp [St.lp, St.only, keepE, getK_cons, getK]
      rcases hx : backs[i]? with _ | r
      · have hge : backs.length ≤ i := by simpa using hx
        repeat' (first
    | (refine H_cons ?_; simp [hx])
    | (refine H_nil ?_; simp [hx])
    | (refine ⟨by omega, ?_⟩)
    | (refine V_sseq ?_; simp [hx])
    | (refine V_scond ?_; simp [hx])
    | (refine V_ret ?_; simp only [RK_seq, RK_seq_ret, RK_seq_exit, RK_blk, RK_blk_ret, RK_blk_exit, RK_loop, RK_loop_ret, RK_loop_exit, RK_done])
    | (refine V_exit ?_; simp [RK_seq, RK_seq_ret, RK_seq_exit, RK_blk, RK_blk_ret, RK_blk_exit, RK_loop, RK_loop_ret, RK_loop_exit, RK_done])
    | (refine ⟨fun hc => ?_, fun hc => ?_⟩ <;> (try (exfalso; omega)))
    | (intro hc <;> (try (exfalso; omega)))
    | fail)
        all_goals
          (refine EndOK.val (.inr rfl) ?_; simp [resD, oneOrTup, pureD, Try.results9])
          try simp
          try omega
      · have hlt : i < backs.length := (List.getElem?_eq_some_iff.1 hx).1
        by_cases hin : i ≤ n
        · have hr := hw2 i r hin hx
          have hr2 : ¬ 70 < r.length := by omega
          repeat' (first
    | (refine H_cons ?_; simp [hx, hr2, hin])
    | (refine H_nil ?_; simp [hx, hr2, hin])
    | (refine ⟨by omega, ?_⟩)
    | (refine V_sseq ?_; simp [hx, hr2, hin])
    | (refine V_scond ?_; simp [hx, hr2, hin])
    | (refine V_sregion ?_; simp [hx, hr2, hin])
    | (refine V_skip ?_; simp only [RK_seq, RK_seq_ret, RK_seq_exit, RK_blk, RK_blk_ret, RK_blk_exit, RK_loop, RK_loop_ret, RK_loop_exit, RK_done])
    | (refine ⟨?_, by omega⟩)
    | (intro hc <;> (try (exfalso; omega)))
    | fail)
          refine LoopW.next ⟨i + 1, by omega, by omega⟩ (by simp; omega) ?_
          exact (Wk.cut rfl (by simp [hn, St.lp]) (by simp [wkO, St.lp, getK_cons, getK, Ob.under, D.under, under_rowsD, under_entD]) (by simp [wkU, St.lp, keepE, getK_cons, getK, D.under]) (by simp [wkE, St.lp, keepE, getK_cons, getK] <;> (try (intros; simp_all; done)) <;> (try (intros; omega)) <;> (try grind)))
        · repeat' (first
    | (refine H_cons ?_; simp [hx, hin])
    | (refine H_nil ?_; simp [hx, hin])
    | (refine ⟨by omega, ?_⟩)
    | (refine V_sseq ?_; simp [hx, hin])
    | (refine V_scond ?_; simp [hx, hin])
    | (refine V_ret ?_; simp only [RK_seq, RK_seq_ret, RK_seq_exit, RK_blk, RK_blk_ret, RK_blk_exit, RK_loop, RK_loop_ret, RK_loop_exit, RK_done])
    | (refine V_exit ?_; simp [RK_seq, RK_seq_ret, RK_seq_exit, RK_blk, RK_blk_ret, RK_blk_exit, RK_loop, RK_loop_ret, RK_loop_exit, RK_done])
    | (refine ⟨?_, by omega⟩)
    | (refine ⟨fun hc => ?_, fun hc => ?_⟩ <;> (try (exfalso; omega)))
    | (intro hc <;> (try (exfalso; omega)))
    | fail)
          all_goals
            (refine EndOK.val (.inr rfl) ?_; simp [resD, oneOrTup, pureD, Try.results9])
            try simp
            try omega
/-- In which of some lists a member is. -/
def withinS : List (List Int) → Int → Int
  | [], _ => -1
  | l :: ls, v => if v ∈ l then 0 else if withinS ls v < 0 then -1 else withinS ls v + 1
theorem withinS_range : ∀ (ls : List (List Int)) (v : Int), -1 ≤ withinS ls v ∧ withinS ls v < ls.length
  | [], v => by simp [withinS]
  | l :: ls, v => by
    have := withinS_range ls v
    simp only [withinS, List.length_cons]
    split
    · omega
    · split <;> omega
theorem withinS_hit : ∀ (ls : List (List Int)) (v : Int) (i : Nat) (l : List Int), ls[i]? = some l → v ∈ l → (∀ y ∈ ls.take i, v ∉ y) → withinS ls v = i
  | [], v, i, l, h, _, _ => by simp at h
  | m :: ls, v, 0, l, h, h1, _ => by simp at h; subst h; simp [withinS, h1]
  | m :: ls, v, i + 1, l, h, h1, h2 => by
    have h3 := withinS_hit ls v i l (by simpa using h) h1 (fun y hy => h2 y (by simp [hy]))
    have h4 : v ∉ m := h2 m (by simp)
    rw [withinS, if_neg h4, h3, if_neg (by omega)]
    omega
theorem withinS_miss : ∀ (ls : List (List Int)) (v : Int), (∀ y ∈ ls, v ∉ y) → withinS ls v = -1
  | [], v, _ => rfl
  | m :: ls, v, h => by
    rw [withinS, if_neg (h m (by simp)), withinS_miss ls v (fun y hy => h y (by simp [hy])), if_pos (by omega)]
theorem within_fun (ls : List (List Int)) (v : Int) (hl : ls.length ≤ 1000000) (hr : ∀ r ∈ ls, r.length ≤ 1000000) : Fun Try.prog 19 [.u (lists ls), .u (.int .i64 v)] (· = .u (.int .i64 (withinS ls v))) := by
  (refine Fun.of_body Try.func19 rfl (by simp) fun Γ hn => ?_); simp only [entry, List.zipIdx_cons, List.zipIdx_nil, List.map_cons, List.map_nil, Nat.zero_add, Try.ntmps19]
  repeat' (first
    | (refine H_cons ?_; simp)
    | (refine H_nil ?_; simp)
    | (refine V_sseq ?_; simp)
    | (refine V_sblock ?_; simp)
    | fail)
  refine V_loopF (α := { i : Nat // i ≤ ls.length ∧ ∀ y ∈ ls.take i, v ∉ y }) [0, 1] (fun i => [(5, .u (.int .i64 i.1))]) (fun i => ls.length - i.1) ⟨0, by omega, by simp⟩ ?_ ?_
  · exact (Wk.cut rfl (by simp [hn, St.lp]) (by simp [wkO, St.lp, getK_cons, getK, Ob.under, D.under, under_rowsD, under_entD]) (by simp [wkU, St.lp, keepE, getK_cons, getK, D.under]) (by simp [wkE, St.lp, keepE, getK_cons, getK] <;> (try (intros; simp_all; done)) <;> (try (intros; omega)) <;> (try grind)))
  rintro ⟨i, hi, hb⟩
  simp [St.lp, St.only, keepE, getK_cons, getK]
  rcases hx : ls[i]? with _ | a
  · have hge : ls.length ≤ i := by simpa using hx
    obtain rfl : i = ls.length := by omega
    rw [List.take_length] at hb
    have hn := withinS_miss ls v hb
    repeat' (first
    | (refine H_cons ?_; simp [hx])
    | (refine H_nil ?_; simp [hx])
    | (refine V_sseq ?_; simp [hx])
    | (refine V_scond ?_; simp [hx])
    | (refine V_ret ?_; simp only [RK_seq, RK_seq_ret, RK_seq_exit, RK_blk, RK_blk_ret, RK_blk_exit, RK_loop, RK_loop_ret, RK_loop_exit, RK_done])
    | (refine V_exit ?_; simp [RK_seq, RK_seq_ret, RK_seq_exit, RK_blk, RK_blk_ret, RK_blk_exit, RK_loop, RK_loop_ret, RK_loop_exit, RK_done])
    | fail)
    (refine EndOK.val (.inr rfl) ?_; simp [resD, oneOrTup, pureD, Try.results19])
    rw [hn]
  · have hlt : i < ls.length := (List.getElem?_eq_some_iff.1 hx).1
    have hhf := has_fun a v (hr a (List.mem_of_getElem? hx))
    by_cases hav : v ∈ a
    · have hh := withinS_hit ls v i a hx hav hb
      simp only [hav, decide_true] at hhf
      repeat' (first
    | (refine H_cons ?_; simp [hx])
    | (refine H_nil ?_; simp [hx])
    | (refine V_sseq ?_; simp [hx])
    | (refine V_scond ?_; simp [hx])
    | (refine V_ret ?_; simp only [RK_seq, RK_seq_ret, RK_seq_exit, RK_blk, RK_blk_ret, RK_blk_exit, RK_loop, RK_loop_ret, RK_loop_exit, RK_done])
    | (refine V_skip ?_; simp only [RK_seq, RK_seq_ret, RK_seq_exit, RK_blk, RK_blk_ret, RK_blk_exit, RK_loop, RK_loop_ret, RK_loop_exit, RK_done])
    | (refine ⟨?_, by omega⟩)
    | (intro hc <;> (try (exfalso; omega)))
    | (refine CallP.fun_ (hhf) (by first | rfl | fail) (by first | assumption | (simp; done) | fail) (by first | (simp [hx]; done) | (simp [hx]; rfl) | fail) (by first | (simp; done) | fail) (fun d hd => ?_); subst hd; (try simp [hx]))
    | fail)
      (refine EndOK.val (.inr rfl) ?_; simp [resD, oneOrTup, pureD, Try.results19])
      rw [hh]
    · rw [show decide (v ∈ a) = false by simp [hav]] at hhf
      repeat' (first
    | (refine H_cons ?_; simp [hx])
    | (refine H_nil ?_; simp [hx])
    | (refine ⟨by omega, ?_⟩)
    | (refine V_sseq ?_; simp [hx])
    | (refine V_scond ?_; simp [hx])
    | (refine V_sregion ?_; simp [hx])
    | (refine V_skip ?_; simp only [RK_seq, RK_seq_ret, RK_seq_exit, RK_blk, RK_blk_ret, RK_blk_exit, RK_loop, RK_loop_ret, RK_loop_exit, RK_done])
    | (refine ⟨?_, by omega⟩)
    | (intro hc <;> (try (exfalso; omega)))
    | (refine CallP.fun_ (hhf) (by first | rfl | fail) (by first | assumption | (simp; done) | fail) (by first | (simp [hx]; done) | (simp [hx]; rfl) | fail) (by first | (simp; done) | fail) (fun d hd => ?_); subst hd; (try simp [hx]))
    | fail)
      refine LoopW.next ⟨i + 1, by omega, all_snoc (p := fun y : List Int => v ∉ y) hx hb hav⟩ (by simp; omega) ?_
      exact (Wk.cut rfl (by simp [hn, St.lp]) (by simp [wkO, St.lp, getK_cons, getK, Ob.under, D.under, under_rowsD, under_entD]) (by simp [wkU, St.lp, keepE, getK_cons, getK, D.under]) (by simp [wkE, St.lp, keepE, getK_cons, getK] <;> (try (intros; simp_all; done)) <;> (try (intros; omega)) <;> (try grind)))
theorem shaped_fun (paid : List (List Int)) (left : List Int) (n : Nat) (hn : n ≤ 1000000) (h1 : paid.length = n) (h2 : left.length = n) (h3 : ∀ r ∈ paid, r.length = n) : Fun Try.prog 16 [.u (lists paid), .u (ints left), .u (.int .i64 n)] (· = .u (.bool true)) := by
  (refine Fun.of_body Try.func16 rfl (by simp) fun Γ hn => ?_); simp only [entry, List.zipIdx_cons, List.zipIdx_nil, List.map_cons, List.map_nil, Nat.zero_add, Try.ntmps16]
  repeat' (first
    | (refine H_cons ?_; simp)
    | (refine H_nil ?_; simp)
    | (refine V_sseq ?_; simp)
    | (refine V_sblock ?_; simp)
    | fail)
  refine V_loopF (α := { i : Nat // i ≤ paid.length }) [0, 1, 2] (fun i => [(7, .u (.int .i64 i.1))]) (fun i => paid.length - i.1) ⟨0, by omega⟩ ?_ ?_
  · exact (Wk.cut rfl (by simp [hn, St.lp]) (by simp [wkO, St.lp, getK_cons, getK, Ob.under, D.under, under_rowsD, under_entD]) (by simp [wkU, St.lp, keepE, getK_cons, getK, D.under]) (by simp [wkE, St.lp, keepE, getK_cons, getK] <;> (try (intros; simp_all; done)) <;> (try (intros; omega)) <;> (try grind)))
  rintro ⟨i, hi⟩
  simp [St.lp, St.only, keepE, getK_cons, getK]
  rcases hx : paid[i]? with _ | a
  · have hge : paid.length ≤ i := by simpa using hx
    have hge2 : n ≤ i := by omega
    repeat' (first
    | (refine H_cons ?_; simp [hx, h1, h2])
    | (refine H_nil ?_; simp [hx, h1, h2])
    | (refine ⟨by omega, ?_⟩)
    | (refine V_sseq ?_; simp [hx, h1, h2])
    | (refine V_scond ?_; simp [hx, h1, h2])
    | (refine V_ret ?_; simp only [RK_seq, RK_seq_ret, RK_seq_exit, RK_blk, RK_blk_ret, RK_blk_exit, RK_loop, RK_loop_ret, RK_loop_exit, RK_done])
    | (refine V_exit ?_; simp [RK_seq, RK_seq_ret, RK_seq_exit, RK_blk, RK_blk_ret, RK_blk_exit, RK_loop, RK_loop_ret, RK_loop_exit, RK_done])
    | (intro hc <;> (try (exfalso; omega)))
    | fail)
    (refine EndOK.val (.inr rfl) ?_; simp [resD, oneOrTup, pureD, Try.results16])
  · have hlt : i < paid.length := (List.getElem?_eq_some_iff.1 hx).1
    have hlt2 : i < n := by omega
    have ha := h3 a (List.mem_of_getElem? hx)
    repeat' (first
    | (refine H_cons ?_; simp [hx, ha])
    | (refine H_nil ?_; simp [hx, ha])
    | (refine ⟨by omega, ?_⟩)
    | (refine V_sseq ?_; simp [hx, ha])
    | (refine V_scond ?_; simp [hx, ha])
    | (refine V_sregion ?_; simp [hx, ha])
    | (refine V_skip ?_; simp only [RK_seq, RK_seq_ret, RK_seq_exit, RK_blk, RK_blk_ret, RK_blk_exit, RK_loop, RK_loop_ret, RK_loop_exit, RK_done])
    | (refine ⟨?_, by omega⟩)
    | (intro hc <;> (try (exfalso; omega)))
    | fail)
    refine LoopW.next ⟨i + 1, by omega⟩ (by simp; omega) ?_
    exact (Wk.cut rfl (by simp [hn, St.lp]) (by simp [wkO, St.lp, getK_cons, getK, Ob.under, D.under, under_rowsD, under_entD]) (by simp [wkU, St.lp, keepE, getK_cons, getK, D.under]) (by simp [wkE, St.lp, keepE, getK_cons, getK] <;> (try (intros; simp_all; done)) <;> (try (intros; omega)) <;> (try grind)))
end Go.Proofs.Ytjmddlekokodfaa
