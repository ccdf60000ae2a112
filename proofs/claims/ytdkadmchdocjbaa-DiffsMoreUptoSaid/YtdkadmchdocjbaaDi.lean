/- Layer 13: sums of chains, and what refutes: the walks. -/
import Derived.Test.YtdkadmchdocjbaaDh
set_option linter.all false
set_option maxRecDepth 100000
set_option maxHeartbeats 8000000
set_option linter.all false
namespace Go.Proofs.Ytdkadmchdocjbaa
open Go Go.VL
def SmallN (l : List Con) : Prop := ∀ c ∈ l, -1099511627776 ≤ c.N ∧ c.N ≤ 1099511627776
theorem OkC.smallN {n : Nat} {l : List Con} (h : OkC n l) : SmallN l := fun c hcc => let ⟨_, _, _, _, a, b⟩ := h c hcc; ⟨a, b⟩
def sumD : Option (Int × Int) → D
  | some p => .tup [.u (.int .i64 p.1), .u (.int .i64 p.2), .u (.bool true)]
  | none => .tup [.u (.int .i64 0), .u (.int .i64 0), .u (.bool false)]
theorem sumS_cons {l : List Con} {u i : Int} {r : List Int} : sumS l u (i :: r) = if 0 ≤ i then match l[i.toNat]? with
    | some c => if c.B = u then (sumS l c.A r).map fun p => (p.1 + c.N, p.2) else none
    | none => none
    else none := rfl
attribute [local simp] hcons hstep evPure opd uOf putOK St.put St.at getK binD binI binS binB nilD aggD eqUs cmpK lookD lookR rangeD Go.VL.nextD entryD keyD valU keyU lookK mkV entD_nil lookK_entD updK_entD1 updK_entD2 updK_entD3 allUE allUE_entD makeMapD mapUpdD mapEff updK valM Key.kk shiftI arith unD convD pickD loadD cellsAt fieldAddrD fieldD indexAddrD indexD sliceD cutD lenD minmaxD nilCheckD buildD fillD cellsD isOne ones setAll mkAgg allU allocD boxD storeD St.add buildSliceD appendD rowsOf makeD setOb getK_setOb getK_del getK_cons stripL strip guardTmp entry chunks zcells valD argsV argsW argW argU1 argU0 argsU0 argsU1 calleeOf scalarD scalarU delAll effD St.effS RK_seq RK_seq_ret RK_seq_exit RK_blk RK_blk_ret RK_blk_exit RK_loop RK_loop_ret RK_loop_exit RK_done vs_seq vs_block vs_skip vs_label vs_exit vs_ret vs_cond vs_region vs_loop vs_draw vs_range vs_scope applyW mkD rdIds lentIds callOf calleeOf freeOp D.ids Op.operands Call.operands isEffOp makeIfD typeAssertD conc concs conc1 uOfV panicD IntKind.bits allU2 allU2_append List.take_of_length_le List.range_succ
attribute [local irreducible] V G H HD HD2 RunK Eff CallP CallV EndOK Fun Ret FinOK LoopI LoopW EndW
theorem sum_fun (l : List Con) (u : Int) (chain : List Int) (hl : SmallN l) (hll : l.length ≤ 1000000) (hcl : chain.length ≤ 1000000) : Fun Try.prog 20 [.u (consU l), .u (.int .i64 u), .u (ints chain)] (· = sumD (sumS l u chain)) := by
  simp only [consU, ints]
  (refine Fun.of_body Try.func20 rfl (by simp) fun Γ hn => ?_); simp only [entry, List.zipIdx_cons, List.zipIdx_nil, List.map_cons, List.map_nil, Nat.zero_add, Try.ntmps20]
  repeat' (first
    | (refine H_cons ?_; simp)
    | (refine H_nil ?_; simp)
    | (refine V_sseq ?_; simp)
    | (refine V_sblock ?_; simp)
    | fail)
  refine V_loopF (α := { s : Nat × Int × Int // s.1 ≤ chain.length ∧ sumS l u chain = ((sumS l s.2.2 (chain.drop s.1)).map fun p => (p.1 + s.2.1, p.2)) ∧ -(1099511627776 * (s.1 : Int)) ≤ s.2.1 ∧ s.2.1 ≤ 1099511627776 * (s.1 : Int) }) [0, 2]
    (fun s => [(1, .u (.int .i64 s.1.2.2)), (9, .u (.int .i64 s.1.2.1)), (10, .u (.int .i64 s.1.1))]) (fun s => chain.length - s.1.1) ⟨(0, 0, u), by omega, by simp, by simp, by simp⟩ ?_ ?_
  · exact (Wk.cut rfl (by simp [hn, St.lp]) (by simp [wkO, St.lp, getK_cons, getK, Ob.under, D.under, under_rowsD, under_entD]) (by simp [wkU, St.lp, keepE, getK_cons, getK, D.under]) (by simp [wkE, St.lp, keepE, getK_cons, getK] <;> (try (intros; simp_all; done)) <;> (try (intros; omega)) <;> (try grind)))
  rintro ⟨⟨i, acc, at'⟩, hi, hS, hb1, hb2⟩
  simp only at hi hS hb1 hb2
  simp [St.lp, St.only, keepE, getK_cons, getK]
  rcases hx : chain[i]? with _ | x
  · have hge : chain.length ≤ i := by simpa using hx
    rw [List.drop_of_length_le hge] at hS
    simp only [sumS, Option.map_some, Int.zero_add] at hS
    repeat' (first
    | (refine H_cons ?_; simp [hx])
    | (refine H_nil ?_; simp [hx])
    | (refine ⟨by omega, ?_⟩)
    | (refine V_sseq ?_; simp [hx])
    | (refine V_scond ?_; simp [hx])
    | (refine V_ret ?_; simp only [RK_seq, RK_seq_ret, RK_seq_exit, RK_blk, RK_blk_ret, RK_blk_exit, RK_loop, RK_loop_ret, RK_loop_exit, RK_done])
    | (refine V_exit ?_; simp [RK_seq, RK_seq_ret, RK_seq_exit, RK_blk, RK_blk_ret, RK_blk_exit, RK_loop, RK_loop_ret, RK_loop_exit, RK_done])
    | (intro hc <;> (try (exfalso; omega)))
    | fail)
    (refine EndOK.val (.inr rfl) ?_; simp [resD, oneOrTup, pureD, Try.results20])
    simp [hS, sumD]
  · have hlt : i < chain.length := (List.getElem?_eq_some_iff.1 hx).1
    have hdr : chain.drop i = x :: chain.drop (i + 1) := by
      rw [List.drop_eq_getElem_cons hlt]
      congr 1
      exact (List.getElem?_eq_some_iff.1 hx).2
    rw [hdr, sumS_cons] at hS
    by_cases hx0 : 0 ≤ x
    case neg =>
      rw [if_neg hx0] at hS
      repeat' (first
    | (refine H_cons ?_; simp [hx, hx0])
    | (refine H_nil ?_; simp [hx, hx0])
    | (refine V_sseq ?_; simp [hx, hx0])
    | (refine V_scond ?_; simp [hx, hx0])
    | (refine V_ret ?_; simp only [RK_seq, RK_seq_ret, RK_seq_exit, RK_blk, RK_blk_ret, RK_blk_exit, RK_loop, RK_loop_ret, RK_loop_exit, RK_done])
    | (refine V_skip ?_; simp only [RK_seq, RK_seq_ret, RK_seq_exit, RK_blk, RK_blk_ret, RK_blk_exit, RK_loop, RK_loop_ret, RK_loop_exit, RK_done])
    | (refine ⟨?_, by omega⟩)
    | (intro hc <;> (try (exfalso; omega)))
    | fail)
      (refine EndOK.val (.inr rfl) ?_; simp [resD, oneOrTup, pureD, Try.results20])
      simp [hS, sumD]
    rw [if_pos hx0] at hS
    obtain ⟨X, rfl⟩ := Int.eq_ofNat_of_zero_le hx0
    rw [Int.toNat_natCast] at hS
    rcases hcc : l[X]? with _ | c
    · have hge : l.length ≤ X := by simpa using hcc
      rw [hcc] at hS
      repeat' (first
    | (refine H_cons ?_; simp [hx])
    | (refine H_nil ?_; simp [hx])
    | (refine ⟨by omega, ?_⟩)
    | (refine V_sseq ?_; simp [hx])
    | (refine V_scond ?_; simp [hx])
    | (refine V_ret ?_; simp only [RK_seq, RK_seq_ret, RK_seq_exit, RK_blk, RK_blk_ret, RK_blk_exit, RK_loop, RK_loop_ret, RK_loop_exit, RK_done])
    | (refine V_skip ?_; simp only [RK_seq, RK_seq_ret, RK_seq_exit, RK_blk, RK_blk_ret, RK_blk_exit, RK_loop, RK_loop_ret, RK_loop_exit, RK_done])
    | (refine ⟨?_, by omega⟩)
    | (intro hc <;> (try (exfalso; omega)))
    | fail)
      (refine EndOK.val (.inr rfl) ?_; simp [resD, oneOrTup, pureD, Try.results20])
      simp [hS, sumD]
    · have hXl : X < l.length := (List.getElem?_eq_some_iff.1 hcc).1
      rw [hcc] at hS
      simp only at hS
      obtain ⟨hN1, hN2⟩ := hl c (List.mem_of_getElem? hcc)
      by_cases hB : c.B = at'
      · rw [if_pos hB] at hS
        repeat' (first
    | (refine H_cons ?_; simp [hx, hcc, hB])
    | (refine H_nil ?_; simp [hx, hcc, hB])
    | (refine ⟨by omega, ?_⟩)
    | (refine V_sseq ?_; simp [hx, hcc, hB])
    | (refine V_scond ?_; simp [hx, hcc, hB])
    | (refine V_sregion ?_; simp [hx, hcc, hB])
    | (refine V_skip ?_; simp only [RK_seq, RK_seq_ret, RK_seq_exit, RK_blk, RK_blk_ret, RK_blk_exit, RK_loop, RK_loop_ret, RK_loop_exit, RK_done])
    | (refine ⟨?_, by omega⟩)
    | (intro hc <;> (try (exfalso; omega)))
    | fail)
        refine LoopW.next ⟨(i + 1, acc + c.N, c.A), by simp only; omega, ?_, by simp only; omega, by simp only; omega⟩ (by simp; omega) ?_
        · rw [hS]
          cases sumS l c.A (chain.drop (i + 1)) with
          | none => rfl
          | some p => simp only [Option.map_some, Option.some.injEq, Prod.mk.injEq, and_true]; omega
        · exact (Wk.cut rfl (by simp [hn, St.lp]) (by simp [wkO, St.lp, getK_cons, getK, Ob.under, D.under, under_rowsD, under_entD]) (by simp [wkU, St.lp, keepE, getK_cons, getK, D.under]) (by simp [wkE, St.lp, keepE, getK_cons, getK] <;> (try (intros; simp_all; done)) <;> (try (intros; omega)) <;> (try grind)))
      · rw [if_neg hB] at hS
        repeat' (first
    | (refine H_cons ?_; simp [hx, hcc, hB])
    | (refine H_nil ?_; simp [hx, hcc, hB])
    | (refine V_sseq ?_; simp [hx, hcc, hB])
    | (refine V_scond ?_; simp [hx, hcc, hB])
    | (refine V_ret ?_; simp only [RK_seq, RK_seq_ret, RK_seq_exit, RK_blk, RK_blk_ret, RK_blk_exit, RK_loop, RK_loop_ret, RK_loop_exit, RK_done])
    | (refine V_skip ?_; simp only [RK_seq, RK_seq_ret, RK_seq_exit, RK_blk, RK_blk_ret, RK_blk_exit, RK_loop, RK_loop_ret, RK_loop_exit, RK_done])
    | (refine ⟨?_, by omega⟩)
    | (intro hc <;> (try (exfalso; omega)))
    | fail)
        (refine EndOK.val (.inr rfl) ?_; simp [resD, oneOrTup, pureD, Try.results20])
        simp [hS, sumD]
def refuteB (l : List Con) (n : Int) (cyc : List Int) : Bool := rightL l n && decide ((cyc.length : Int) ≤ n) && match cyc with
  | [] => false
  | i :: _ => if 0 ≤ i then match l[i.toNat]? with
    | none => false
    | some c => match sumS l c.B cyc with
      | some p => decide (p.2 = c.B) && decide (p.1 < 0)
      | none => false
    else false
theorem rrefute_fun (l : List Con) (n : Int) (cyc : List Int) : Fun Try.prog 19 [.u (consU l), .u (.int .i64 n), .u (ints cyc)] (· = .u (.bool (refuteB l n cyc))) := by
  have h0 := rright_fun l n
  unfold refuteB
  by_cases hr : rightL l n = true
  case neg =>
    have hr2 : rightL l n = false := by simpa using hr
    rw [hr2] at h0 ⊢
    (refine Fun.of_body Try.func19 rfl (by simp) fun Γ hn => ?_); simp only [entry, List.zipIdx_cons, List.zipIdx_nil, List.map_cons, List.map_nil, Nat.zero_add, Try.ntmps19]
    simp only [consU, ints] at h0 ⊢
    repeat' (first
    | (refine H_cons ?_; simp)
    | (refine H_nil ?_; simp)
    | (refine V_sseq ?_; simp)
    | (refine V_scond ?_; simp)
    | (refine V_ret ?_; simp only [RK_seq, RK_seq_ret, RK_seq_exit, RK_blk, RK_blk_ret, RK_blk_exit, RK_loop, RK_loop_ret, RK_loop_exit, RK_done])
    | (refine CallP.fun_ (h0) (by first | rfl | fail) (by first | assumption | (simp; done) | fail) (by first | (simp; done) | (simp; rfl) | fail) (by first | (simp; done) | fail) (fun d hd => ?_); subst hd; (try simp))
    | fail)
    (refine EndOK.val (.inr rfl) ?_; simp [resD, oneOrTup, pureD, Try.results19])
  rw [hr] at h0 ⊢
  obtain ⟨e1, e2, e3, e4⟩ := rightL_out hr
  by_cases hl : (cyc.length : Int) ≤ n
  case neg =>
    (refine Fun.of_body Try.func19 rfl (by simp) fun Γ hn => ?_); simp only [entry, List.zipIdx_cons, List.zipIdx_nil, List.map_cons, List.map_nil, Nat.zero_add, Try.ntmps19]
    simp only [consU, ints] at h0 ⊢
    repeat' (first
    | (refine H_cons ?_; simp [hl])
    | (refine H_nil ?_; simp [hl])
    | (refine V_sseq ?_; simp [hl])
    | (refine V_scond ?_; simp [hl])
    | (refine V_ret ?_; simp only [RK_seq, RK_seq_ret, RK_seq_exit, RK_blk, RK_blk_ret, RK_blk_exit, RK_loop, RK_loop_ret, RK_loop_exit, RK_done])
    | (refine ⟨?_, by omega⟩)
    | (intro hc <;> (try (exfalso; omega)))
    | (refine CallP.fun_ (h0) (by first | rfl | fail) (by first | assumption | (simp; done) | fail) (by first | (simp [hl]; done) | (simp [hl]; rfl) | fail) (by first | (simp; done) | fail) (fun d hd => ?_); subst hd; (try simp [hl]))
    | fail)
    all_goals
      (refine EndOK.val (.inr rfl) ?_; simp [resD, oneOrTup, pureD, Try.results19])
    all_goals simp [hl]
  cases cyc with
  | nil =>
    (refine Fun.of_body Try.func19 rfl (by simp) fun Γ hn => ?_); simp only [entry, List.zipIdx_cons, List.zipIdx_nil, List.map_cons, List.map_nil, Nat.zero_add, Try.ntmps19]
    simp only [consU, ints] at h0 ⊢
    repeat' (first
    | (refine H_cons ?_; simp [hl])
    | (refine H_nil ?_; simp [hl])
    | (refine V_sseq ?_; simp [hl])
    | (refine V_scond ?_; simp [hl])
    | (refine V_ret ?_; simp only [RK_seq, RK_seq_ret, RK_seq_exit, RK_blk, RK_blk_ret, RK_blk_exit, RK_loop, RK_loop_ret, RK_loop_exit, RK_done])
    | (refine CallP.fun_ (h0) (by first | rfl | fail) (by first | assumption | (simp; done) | fail) (by first | (simp [hl]; done) | (simp [hl]; rfl) | fail) (by first | (simp; done) | fail) (fun d hd => ?_); subst hd; (try simp [hl]))
    | fail)
    (refine EndOK.val (.inr rfl) ?_; simp [resD, oneOrTup, pureD, Try.results19])
    try simp
  | cons i r =>
    have hl' := hl
    simp only [List.length_cons] at hl'
    by_cases hi0 : 0 ≤ i
    case neg =>
      (refine Fun.of_body Try.func19 rfl (by simp) fun Γ hn => ?_); simp only [entry, List.zipIdx_cons, List.zipIdx_nil, List.map_cons, List.map_nil, Nat.zero_add, Try.ntmps19]
      simp only [consU, ints] at h0 ⊢
      repeat' (first
    | (refine H_cons ?_; simp [hl, hi0])
    | (refine H_nil ?_; simp [hl, hi0])
    | (refine V_sseq ?_; simp [hl, hi0])
    | (refine V_scond ?_; simp [hl, hi0])
    | (refine V_ret ?_; simp only [RK_seq, RK_seq_ret, RK_seq_exit, RK_blk, RK_blk_ret, RK_blk_exit, RK_loop, RK_loop_ret, RK_loop_exit, RK_done])
    | (refine ⟨?_, by omega⟩)
    | (intro hc <;> (try (exfalso; omega)))
    | (refine CallP.fun_ (h0) (by first | rfl | fail) (by first | assumption | (simp; done) | fail) (by first | (simp [hl, hi0]; done) | (simp [hl, hi0]; rfl) | fail) (by first | (simp; done) | fail) (fun d hd => ?_); subst hd; (try simp [hl, hi0]))
    | fail)
      (refine EndOK.val (.inr rfl) ?_; simp [resD, oneOrTup, pureD, Try.results19])
      try simp [hi0]
    obtain ⟨I, rfl⟩ := Int.eq_ofNat_of_zero_le hi0
    rcases hcc : l[I]? with _ | c
    · have hge : l.length ≤ I := by simpa using hcc
      (refine Fun.of_body Try.func19 rfl (by simp) fun Γ hn => ?_); simp only [entry, List.zipIdx_cons, List.zipIdx_nil, List.map_cons, List.map_nil, Nat.zero_add, Try.ntmps19]
      simp only [consU, ints] at h0 ⊢
      repeat' (first
    | (refine H_cons ?_; simp [hl])
    | (refine H_nil ?_; simp [hl])
    | (refine V_sseq ?_; simp [hl])
    | (refine V_scond ?_; simp [hl])
    | (refine V_ret ?_; simp only [RK_seq, RK_seq_ret, RK_seq_exit, RK_blk, RK_blk_ret, RK_blk_exit, RK_loop, RK_loop_ret, RK_loop_exit, RK_done])
    | (refine ⟨?_, by omega⟩)
    | (intro hc <;> (try (exfalso; omega)))
    | (refine CallP.fun_ (h0) (by first | rfl | fail) (by first | assumption | (simp; done) | fail) (by first | (simp [hl]; done) | (simp [hl]; rfl) | fail) (by first | (simp; done) | fail) (fun d hd => ?_); subst hd; (try simp [hl]))
    | fail)
      (refine EndOK.val (.inr rfl) ?_; simp [resD, oneOrTup, pureD, Try.results19])
      try simp [hcc]
    · have hIl : I < l.length := (List.getElem?_eq_some_iff.1 hcc).1
      have h1 := sum_fun l c.B ((I : Int) :: r) e4.smallN (by omega) (by simp; omega)
      rcases hs : sumS l c.B ((I : Int) :: r) with _ | ⟨sm, en⟩
      · rw [hs] at h1
        simp only [sumD] at h1
        (refine Fun.of_body Try.func19 rfl (by simp) fun Γ hn => ?_); simp only [entry, List.zipIdx_cons, List.zipIdx_nil, List.map_cons, List.map_nil, Nat.zero_add, Try.ntmps19]
        simp only [consU, ints] at h0 h1 ⊢
        repeat' (first
    | (refine H_cons ?_; simp [hl, hcc])
    | (refine H_nil ?_; simp [hl, hcc])
    | (refine ⟨by omega, ?_⟩)
    | (refine V_sseq ?_; simp [hl, hcc])
    | (refine V_scond ?_; simp [hl, hcc])
    | (refine V_ret ?_; simp only [RK_seq, RK_seq_ret, RK_seq_exit, RK_blk, RK_blk_ret, RK_blk_exit, RK_loop, RK_loop_ret, RK_loop_exit, RK_done])
    | (refine V_skip ?_; simp only [RK_seq, RK_seq_ret, RK_seq_exit, RK_blk, RK_blk_ret, RK_blk_exit, RK_loop, RK_loop_ret, RK_loop_exit, RK_done])
    | (refine ⟨?_, by omega⟩)
    | (intro hc <;> (try (exfalso; omega)))
    | (refine CallP.fun_ (h0) (by first | rfl | fail) (by first | assumption | (simp; done) | fail) (by first | (simp [hl, hcc]; done) | (simp [hl, hcc]; rfl) | fail) (by first | (simp; done) | fail) (fun d hd => ?_); subst hd; (try simp [hl, hcc]))
    | (refine CallP.fun_ (h1) (by first | rfl | fail) (by first | assumption | (simp; done) | fail) (by first | (simp [hl, hcc]; done) | (simp [hl, hcc]; rfl) | fail) (by first | (simp; done) | fail) (fun d hd => ?_); subst hd; (try simp [hl, hcc]))
    | fail)
        (refine EndOK.val (.inr rfl) ?_; simp [resD, oneOrTup, pureD, Try.results19])
        try simp [hcc, hs]
      · rw [hs] at h1
        simp only [sumD] at h1
        (refine Fun.of_body Try.func19 rfl (by simp) fun Γ hn => ?_); simp only [entry, List.zipIdx_cons, List.zipIdx_nil, List.map_cons, List.map_nil, Nat.zero_add, Try.ntmps19]
        simp only [consU, ints] at h0 h1 ⊢
        repeat' (first
    | (refine H_cons ?_; simp [hl, hcc])
    | (refine H_nil ?_; simp [hl, hcc])
    | (refine ⟨by omega, ?_⟩)
    | (refine V_sseq ?_; simp [hl, hcc])
    | (refine V_scond ?_; simp [hl, hcc])
    | (refine V_ret ?_; simp only [RK_seq, RK_seq_ret, RK_seq_exit, RK_blk, RK_blk_ret, RK_blk_exit, RK_loop, RK_loop_ret, RK_loop_exit, RK_done])
    | (refine V_skip ?_; simp only [RK_seq, RK_seq_ret, RK_seq_exit, RK_blk, RK_blk_ret, RK_blk_exit, RK_loop, RK_loop_ret, RK_loop_exit, RK_done])
    | (refine ⟨?_, by omega⟩)
    | (refine ⟨fun hc => ?_, fun hc => ?_⟩ <;> (try (exfalso; omega)))
    | (intro hc <;> (try (exfalso; omega)))
    | (refine CallP.fun_ (h0) (by first | rfl | fail) (by first | assumption | (simp; done) | fail) (by first | (simp [hl, hcc]; done) | (simp [hl, hcc]; rfl) | fail) (by first | (simp; done) | fail) (fun d hd => ?_); subst hd; (try simp [hl, hcc]))
    | (refine CallP.fun_ (h1) (by first | rfl | fail) (by first | assumption | (simp; done) | fail) (by first | (simp [hl, hcc]; done) | (simp [hl, hcc]; rfl) | fail) (by first | (simp; done) | fail) (fun d hd => ?_); subst hd; (try simp [hl, hcc]))
    | fail)
        all_goals
          (refine EndOK.val (.inr rfl) ?_; simp [resD, oneOrTup, pureD, Try.results19])
        all_goals
          have hrl : (r.length : Int) + 1 ≤ n := by simpa using hl
          simp [hs, hc, hrl]
end Go.Proofs.Ytdkadmchdocjbaa
