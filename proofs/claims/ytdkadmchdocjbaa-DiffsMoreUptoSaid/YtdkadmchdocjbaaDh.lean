/- Layer 13: the reference: what is valid, checked and refuted: the walks. -/
import Derived.Test.YtdkadmchdocjbaaDg
set_option linter.all false
set_option maxRecDepth 100000
set_option maxHeartbeats 8000000
set_option linter.all false
namespace Go.Proofs.Ytdkadmchdocjbaa
open Go Go.VL
theorem all_snoc {α : Type} {l : List α} {i : Nat} {a : α} {p : α → Prop} (hx : l[i]? = some a) (hb : ∀ y ∈ l.take i, p y) (ha : p a) : ∀ y ∈ l.take (i + 1), p y := by
  rw [take_snoc hx]
  intro y hy
  rcases List.mem_append.1 hy with h | h
  · exact hb y h
  · simp at h; subst h; exact ha
attribute [local simp] hcons hstep evPure opd uOf putOK St.put St.at getK binD binI binS binB nilD aggD eqUs cmpK lookD lookR rangeD Go.VL.nextD entryD keyD valU keyU lookK mkV entD_nil lookK_entD updK_entD1 updK_entD2 updK_entD3 allUE allUE_entD makeMapD mapUpdD mapEff updK valM Key.kk shiftI arith unD convD pickD loadD cellsAt fieldAddrD fieldD indexAddrD indexD sliceD cutD lenD minmaxD nilCheckD buildD fillD cellsD isOne ones setAll mkAgg allU allocD boxD storeD St.add buildSliceD appendD rowsOf makeD setOb getK_setOb getK_del getK_cons stripL strip guardTmp entry chunks zcells valD argsV argsW argW argU1 argU0 argsU0 argsU1 calleeOf scalarD scalarU delAll effD St.effS RK_seq RK_seq_ret RK_seq_exit RK_blk RK_blk_ret RK_blk_exit RK_loop RK_loop_ret RK_loop_exit RK_done vs_seq vs_block vs_skip vs_label vs_exit vs_ret vs_cond vs_region vs_loop vs_draw vs_range vs_scope applyW mkD rdIds lentIds callOf calleeOf freeOp D.ids Op.operands Call.operands isEffOp makeIfD typeAssertD conc concs conc1 uOfV panicD IntKind.bits allU2 allU2_append List.take_of_length_le List.range_succ
attribute [local irreducible] V G H HD HD2 RunK Eff CallP CallV EndOK Fun Ret FinOK LoopI LoopW EndW
theorem rsame_fun (a b : List Int) (hl : a.length ≤ 1000000) : Fun Try.prog 13 [.u (ints a), .u (ints b)] (· = .u (.bool (decide (a = b)))) := by
  simp only [ints]
  by_cases hab : a.length = b.length
  · (refine Fun.of_body Try.func13 rfl (by simp) fun Γ hn => ?_); simp only [entry, List.zipIdx_cons, List.zipIdx_nil, List.map_cons, List.map_nil, Nat.zero_add, Try.ntmps13]
    repeat' (first
    | (refine H_cons ?_; simp [hab])
    | (refine H_nil ?_; simp [hab])
    | (refine V_sseq ?_; simp [hab])
    | (refine V_scond ?_; simp [hab])
    | (refine V_sblock ?_; simp [hab])
    | (refine V_skip ?_; simp only [RK_seq, RK_seq_ret, RK_seq_exit, RK_blk, RK_blk_ret, RK_blk_exit, RK_loop, RK_loop_ret, RK_loop_exit, RK_done])
    | fail)
    refine V_loopF (α := { i : Nat // i ≤ a.length ∧ a.take i = b.take i }) [0, 1] (fun i => [(5, .u (.int .i64 i.1))]) (fun i => a.length - i.1) ⟨0, by omega, by simp⟩ ?_ ?_
    · exact (Wk.cut rfl (by simp [hn, St.lp]) (by simp [wkO, St.lp, getK_cons, getK, Ob.under, D.under, under_rowsD, under_entD]) (by simp [wkU, St.lp, keepE, getK_cons, getK, D.under]) (by simp [wkE, St.lp, keepE, getK_cons, getK] <;> (try (intros; simp_all; done)) <;> (try (intros; omega)) <;> (try grind)))
    rintro ⟨i, hi, hb⟩
    simp [St.lp, St.only, keepE, getK_cons, getK]
    rcases hx : a[i]? with _ | x
    · have hge : a.length ≤ i := by simpa using hx
      obtain rfl : i = a.length := by omega
      have he : a = b := by rw [List.take_length, hab, List.take_length] at hb; exact hb
      have hge2 : b.length ≤ a.length := by omega
      repeat' (first
    | (refine H_cons ?_; simp [hx, hab])
    | (refine H_nil ?_; simp [hx, hab])
    | (refine V_sseq ?_; simp [hx, hab])
    | (refine V_scond ?_; simp [hx, hab])
    | (refine V_ret ?_; simp only [RK_seq, RK_seq_ret, RK_seq_exit, RK_blk, RK_blk_ret, RK_blk_exit, RK_loop, RK_loop_ret, RK_loop_exit, RK_done])
    | (refine V_exit ?_; simp [RK_seq, RK_seq_ret, RK_seq_exit, RK_blk, RK_blk_ret, RK_blk_exit, RK_loop, RK_loop_ret, RK_loop_exit, RK_done])
    | fail)
      (refine EndOK.val (.inr rfl) ?_; simp [resD, oneOrTup, pureD, Try.results13])
      simp [he]
    · have hlt : i < a.length := (List.getElem?_eq_some_iff.1 hx).1
      have hlt2 : i < b.length := by omega
      obtain ⟨y, hy⟩ : ∃ y, b[i]? = some y := ⟨_, List.getElem?_eq_getElem hlt2⟩
      by_cases hxy : x = y
      · subst hxy
        repeat' (first
    | (refine H_cons ?_; simp [hx, hy, hab])
    | (refine HD_cons ?_; simp [hx, hy, hab])
    | (refine H_nil ?_; simp [hx, hy, hab])
    | (refine ⟨by omega, ?_⟩)
    | (refine V_sseq ?_; simp [hx, hy, hab])
    | (refine V_scond ?_; simp [hx, hy, hab])
    | (refine HD_nil ?_)
    | (refine hk _ ?_; clear hk k; simp only [RK_seq, RK_seq_ret, RK_seq_exit, RK_blk, RK_blk_ret, RK_blk_exit, RK_loop, RK_loop_ret, RK_loop_exit, RK_done])
    | (refine V_drawV rfl (by kernel_rfl) (by kernel_rfl) fun k hk => ?_; simp [hx, hy, hab])
    | (refine V_sregion ?_; simp [hx, hy, hab])
    | (refine V_skip ?_; simp only [RK_seq, RK_seq_ret, RK_seq_exit, RK_blk, RK_blk_ret, RK_blk_exit, RK_loop, RK_loop_ret, RK_loop_exit, RK_done])
    | (refine ⟨?_, by omega⟩)
    | (intro hc <;> (try (exfalso; omega)))
    | fail)
        refine LoopW.next ⟨i + 1, by omega, by rw [take_snoc hx, take_snoc hy, hb]⟩ (by simp; omega) ?_
        exact (Wk.cut rfl (by simp [hn, St.lp]) (by simp [wkO, St.lp, getK_cons, getK, Ob.under, D.under, under_rowsD, under_entD]) (by simp [wkU, St.lp, keepE, getK_cons, getK, D.under]) (by simp [wkE, St.lp, keepE, getK_cons, getK] <;> (try (intros; simp_all; done)) <;> (try (intros; omega)) <;> (try grind)))
      · have hne : a ≠ b := fun h => by subst h; rw [hx] at hy; cases hy; exact hxy rfl
        repeat' (first
    | (refine H_cons ?_; simp [hx, hy, hab, hxy])
    | (refine HD_cons ?_; simp [hx, hy, hab, hxy])
    | (refine H_nil ?_; simp [hx, hy, hab, hxy])
    | (refine V_sseq ?_; simp [hx, hy, hab, hxy])
    | (refine V_scond ?_; simp [hx, hy, hab, hxy])
    | (refine HD_nil ?_)
    | (refine hk _ ?_; clear hk k; simp only [RK_seq, RK_seq_ret, RK_seq_exit, RK_blk, RK_blk_ret, RK_blk_exit, RK_loop, RK_loop_ret, RK_loop_exit, RK_done])
    | (refine V_drawV rfl (by kernel_rfl) (by kernel_rfl) fun k hk => ?_; simp [hx, hy, hab, hxy])
    | (refine V_ret ?_; simp only [RK_seq, RK_seq_ret, RK_seq_exit, RK_blk, RK_blk_ret, RK_blk_exit, RK_loop, RK_loop_ret, RK_loop_exit, RK_done])
    | (refine V_skip ?_; simp only [RK_seq, RK_seq_ret, RK_seq_exit, RK_blk, RK_blk_ret, RK_blk_exit, RK_loop, RK_loop_ret, RK_loop_exit, RK_done])
    | (refine ⟨?_, by omega⟩)
    | (intro hc <;> (try (exfalso; omega)))
    | fail)
        (refine EndOK.val (.inr rfl) ?_; simp [resD, oneOrTup, pureD, Try.results13])
        simp [hne]
  · have hne : a ≠ b := fun h => hab (by rw [h])
    (refine Fun.of_body Try.func13 rfl (by simp) fun Γ hn => ?_); simp only [entry, List.zipIdx_cons, List.zipIdx_nil, List.map_cons, List.map_nil, Nat.zero_add, Try.ntmps13]
    repeat' (first
    | (refine H_cons ?_; simp [hab])
    | (refine H_nil ?_; simp [hab])
    | (refine V_sseq ?_; simp [hab])
    | (refine V_scond ?_; simp [hab])
    | (refine V_ret ?_; simp only [RK_seq, RK_seq_ret, RK_seq_exit, RK_blk, RK_blk_ret, RK_blk_exit, RK_loop, RK_loop_ret, RK_loop_exit, RK_done])
    | (refine ⟨?_, by omega⟩)
    | (intro hc <;> (try (exfalso; omega)))
    | fail)
    (refine EndOK.val (.inr rfl) ?_; simp [resD, oneOrTup, pureD, Try.results13])
    simp [hne]
theorem okB_take {l : List Con} {n : Int} (h : ∀ y ∈ l, okB n y = true) : l.all (okB n) = true := List.all_eq_true.2 h
theorem rright_fun (l : List Con) (n : Int) : Fun Try.prog 15 [.u (consU l), .u (.int .i64 n)] (· = .u (.bool (rightL l n))) := by
  simp only [consU]
  by_cases h : 0 ≤ n ∧ n ≤ 200 ∧ l.length ≤ 2000
  case neg =>
    have hr : rightL l n = false := by simp only [rightL]; grind
    rw [hr]
    by_cases h1 : 0 ≤ n
    · by_cases h2 : n ≤ 200
      · have h3 : ¬ l.length ≤ 2000 := fun h3 => h ⟨h1, h2, h3⟩
        (refine Fun.of_body Try.func15 rfl (by simp) fun Γ hn => ?_); simp only [entry, List.zipIdx_cons, List.zipIdx_nil, List.map_cons, List.map_nil, Nat.zero_add, Try.ntmps15]
        repeat' (first
    | (refine H_cons ?_; simp [h1, h2, h3])
    | (refine H_nil ?_; simp [h1, h2, h3])
    | (refine V_sseq ?_; simp [h1, h2, h3])
    | (refine V_scond ?_; simp [h1, h2, h3])
    | (refine V_ret ?_; simp only [RK_seq, RK_seq_ret, RK_seq_exit, RK_blk, RK_blk_ret, RK_blk_exit, RK_loop, RK_loop_ret, RK_loop_exit, RK_done])
    | (refine ⟨?_, by omega⟩)
    | (intro hc <;> (try (exfalso; omega)))
    | fail)
        all_goals
          (refine EndOK.val (.inr rfl) ?_; simp [resD, oneOrTup, pureD, Try.results15])
      · (refine Fun.of_body Try.func15 rfl (by simp) fun Γ hn => ?_); simp only [entry, List.zipIdx_cons, List.zipIdx_nil, List.map_cons, List.map_nil, Nat.zero_add, Try.ntmps15]
        repeat' (first
    | (refine H_cons ?_; simp [h1, h2])
    | (refine H_nil ?_; simp [h1, h2])
    | (refine V_sseq ?_; simp [h1, h2])
    | (refine V_scond ?_; simp [h1, h2])
    | (refine V_ret ?_; simp only [RK_seq, RK_seq_ret, RK_seq_exit, RK_blk, RK_blk_ret, RK_blk_exit, RK_loop, RK_loop_ret, RK_loop_exit, RK_done])
    | (refine ⟨?_, by omega⟩)
    | (intro hc <;> (try (exfalso; omega)))
    | fail)
        all_goals
          (refine EndOK.val (.inr rfl) ?_; simp [resD, oneOrTup, pureD, Try.results15])
    · (refine Fun.of_body Try.func15 rfl (by simp) fun Γ hn => ?_); simp only [entry, List.zipIdx_cons, List.zipIdx_nil, List.map_cons, List.map_nil, Nat.zero_add, Try.ntmps15]
      repeat' (first
    | (refine H_cons ?_; simp [h1])
    | (refine H_nil ?_; simp [h1])
    | (refine V_sseq ?_; simp [h1])
    | (refine V_scond ?_; simp [h1])
    | (refine V_ret ?_; simp only [RK_seq, RK_seq_ret, RK_seq_exit, RK_blk, RK_blk_ret, RK_blk_exit, RK_loop, RK_loop_ret, RK_loop_exit, RK_done])
    | (intro hc <;> (try (exfalso; omega)))
    | fail)
      all_goals
        (refine EndOK.val (.inr rfl) ?_; simp [resD, oneOrTup, pureD, Try.results15])
  obtain ⟨h1, h2, h3⟩ := h
  (refine Fun.of_body Try.func15 rfl (by simp) fun Γ hn => ?_); simp only [entry, List.zipIdx_cons, List.zipIdx_nil, List.map_cons, List.map_nil, Nat.zero_add, Try.ntmps15]
  repeat' (first
    | (refine H_cons ?_; simp [h1, h2, h3])
    | (refine H_nil ?_; simp [h1, h2, h3])
    | (refine ⟨by omega, ?_⟩)
    | (refine V_sseq ?_; simp [h1, h2, h3])
    | (refine V_scond ?_; simp [h1, h2, h3])
    | (refine V_sblock ?_; simp [h1, h2, h3])
    | (refine V_skip ?_; simp only [RK_seq, RK_seq_ret, RK_seq_exit, RK_blk, RK_blk_ret, RK_blk_exit, RK_loop, RK_loop_ret, RK_loop_exit, RK_done])
    | (refine ⟨?_, by omega⟩)
    | (intro hc <;> (try (exfalso; omega)))
    | fail)
  refine V_loopF (α := { i : Nat // i ≤ l.length ∧ ∀ y ∈ l.take i, okB n y = true }) [0, 1] (fun i => [(5, .u (.int .i64 i.1))]) (fun i => l.length - i.1) ⟨0, by omega, by simp⟩ ?_ ?_
  · exact (Wk.cut rfl (by simp [hn, St.lp]) (by simp [wkO, St.lp, getK_cons, getK, Ob.under, D.under, under_rowsD, under_entD]) (by simp [wkU, St.lp, keepE, getK_cons, getK, D.under]) (by simp [wkE, St.lp, keepE, getK_cons, getK] <;> (try (intros; simp_all; done)) <;> (try (intros; omega)) <;> (try grind)))
  rintro ⟨i, hi, hb⟩
  simp [St.lp, St.only, keepE, getK_cons, getK]
  rcases hx : l[i]? with _ | c
  · have hge : l.length ≤ i := by simpa using hx
    rw [List.take_of_length_le hge] at hb
    have hr : rightL l n = true := by simp only [rightL, okB_take hb]; grind
    repeat' (first
    | (refine H_cons ?_; simp [hx])
    | (refine H_nil ?_; simp [hx])
    | (refine ⟨by omega, ?_⟩)
    | (refine V_sseq ?_; simp [hx])
    | (refine V_scond ?_; simp [hx])
    | (refine V_ret ?_; simp only [RK_seq, RK_seq_ret, RK_seq_exit, RK_blk, RK_blk_ret, RK_blk_exit, RK_loop, RK_loop_ret, RK_loop_exit, RK_done])
    | (refine V_exit ?_; simp [RK_seq, RK_seq_ret, RK_seq_exit, RK_blk, RK_blk_ret, RK_blk_exit, RK_loop, RK_loop_ret, RK_loop_exit, RK_done])
    | (intro hc <;> (try (exfalso; omega)))
    | fail)
    (refine EndOK.val (.inr rfl) ?_; simp [resD, oneOrTup, pureD, Try.results15])
    simp [hr]
  · have hlt : i < l.length := (List.getElem?_eq_some_iff.1 hx).1
    have hcm := List.mem_of_getElem? hx
    by_cases hok : okB n c = true
    · have hok2 := hok
      simp only [okB, Bool.and_eq_true, decide_eq_true_eq, maxN] at hok2
      obtain ⟨⟨⟨⟨⟨q1, q2⟩, q3⟩, q4⟩, q5⟩, q6⟩ := hok2
      repeat' (first
    | (refine H_cons ?_; simp [hx, q1, q2, q3, q4, q5, q6])
    | (refine H_nil ?_; simp [hx, q1, q2, q3, q4, q5, q6])
    | (refine ⟨by omega, ?_⟩)
    | (refine V_sseq ?_; simp [hx, q1, q2, q3, q4, q5, q6])
    | (refine V_scond ?_; simp [hx, q1, q2, q3, q4, q5, q6])
    | (refine V_sregion ?_; simp [hx, q1, q2, q3, q4, q5, q6])
    | (refine V_skip ?_; simp only [RK_seq, RK_seq_ret, RK_seq_exit, RK_blk, RK_blk_ret, RK_blk_exit, RK_loop, RK_loop_ret, RK_loop_exit, RK_done])
    | (refine ⟨?_, by omega⟩)
    | (intro hc <;> (try (exfalso; omega)))
    | fail)
      refine LoopW.next ⟨i + 1, by omega, all_snoc hx hb hok⟩ (by simp; omega) ?_
      exact (Wk.cut rfl (by simp [hn, St.lp]) (by simp [wkO, St.lp, getK_cons, getK, Ob.under, D.under, under_rowsD, under_entD]) (by simp [wkU, St.lp, keepE, getK_cons, getK, D.under]) (by simp [wkE, St.lp, keepE, getK_cons, getK] <;> (try (intros; simp_all; done)) <;> (try (intros; omega)) <;> (try grind)))
    · have hr : rightL l n = false := by
        cases hq : rightL l n with
        | false => rfl
        | true =>
          simp only [rightL, Bool.and_eq_true, List.all_eq_true] at hq
          exact absurd (hq.2 c hcm) hok
      rw [hr]
      simp only [okB, Bool.and_eq_true, decide_eq_true_eq, maxN] at hok
      repeat' (first
    | (refine H_cons ?_; simp [hx])
    | (refine H_nil ?_; simp [hx])
    | (refine V_sseq ?_; simp [hx])
    | (refine V_scond ?_; simp [hx])
    | (refine V_ret ?_; simp only [RK_seq, RK_seq_ret, RK_seq_exit, RK_blk, RK_blk_ret, RK_blk_exit, RK_loop, RK_loop_ret, RK_loop_exit, RK_done])
    | (refine V_skip ?_; simp only [RK_seq, RK_seq_ret, RK_seq_exit, RK_blk, RK_blk_ret, RK_blk_exit, RK_loop, RK_loop_ret, RK_loop_exit, RK_done])
    | (refine ⟨?_, by omega⟩)
    | (refine ⟨fun hc => ?_, fun hc => ?_⟩ <;> (try (exfalso; omega)))
    | (intro hc <;> (try (exfalso; omega)))
    | fail)
      all_goals first
        | ((refine EndOK.val (.inr rfl) ?_; simp [resD, oneOrTup, pureD, Try.results15]); done)
        | (exfalso; omega)
end Go.Proofs.Ytdkadmchdocjbaa
