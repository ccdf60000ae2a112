/- Layer 13: more constraints, another order: the law walked (the examples are given). -/
import Derived.Test.YtdkadmchdocjbaaDx
import Derived.Test.YtdkadmchdocjbaaVLC
set_option linter.all false
set_option maxRecDepth 100000
set_option maxHeartbeats 8000000
set_option linter.all false
namespace Go.Proofs.Ytdkadmchdocjbaa
open Go Go.VL
theorem right_snoc' {l : List Con} {m : Nat} {c : Con} (h2 : m ≤ 200) (h3 : l.length ≤ 1999) (h4 : OkC m l) (hc : 0 ≤ c.A ∧ c.A < m ∧ 0 ≤ c.B ∧ c.B < m ∧ -maxN ≤ c.N ∧ c.N ≤ maxN) : rightL (l ++ [c]) (m : Int) = true :=
  rightL_of h2 (by simp; omega) (h4.snoc hc)
theorem right_sub {l l' : List Con} {n : Int} (h : rightL l' n = true) (hs : ∀ c ∈ l, c ∈ l') (hl : l.length ≤ 2000) : rightL l n = true := by
  obtain ⟨e1, e2, e3, e4⟩ := rightL_out h
  rw [e1]
  exact rightL_of e2 hl fun c hc => e4 c (hs c hc)
theorem Great.eqv {n : Nat} {l l' : List Con} {f f' : Nat → Int} (h : Great n l f) (h' : Great n l' f') (hl : ∀ y, Sol l y ↔ Sol l' y) : lst n f = lst n f' := by
  refine lst_ext fun x hx => ?_
  have h1 := h.most f' ((hl _).2 h'.sol) h'.neg x hx
  have h2 := h'.most f ((hl _).1 h.sol) h.neg x hx
  omega
def turned (l : List Con) (b : Nat) : List Con := l.drop b ++ (l.take b ++ l)
theorem turned_mem (l : List Con) (b : Nat) (c : Con) : c ∈ l ↔ c ∈ turned l b := by
  unfold turned
  simp only [List.mem_append]
  exact ⟨fun h => .inr (.inr h), fun h => h.elim List.mem_of_mem_drop fun h => h.elim List.mem_of_mem_take id⟩
theorem turned_len (l : List Con) (b : Nat) : (turned l b).length ≤ 3 * l.length := by
  unfold turned
  simp only [List.length_append, List.length_drop, List.length_take]
  omega
theorem hK_more {m k : Nat} (hn : m ≤ 40) (hk : k ≤ 200) : (m + 1) * (m * k) ≤ 3000000 := by
  have h2 : m * k ≤ 40 * 200 := Nat.mul_le_mul hn hk
  have h3 : (m + 1) * (m * k) ≤ 41 * (40 * 200) := Nat.mul_le_mul (by omega) h2
  omega
attribute [local simp] hcons hstep evPure opd uOf putOK St.put St.at getK binD binI binS binB nilD aggD eqUs cmpK lookD lookR rangeD Go.VL.nextD entryD keyD valU keyU lookK mkV entD_nil lookK_entD updK_entD1 updK_entD2 updK_entD3 allUE allUE_entD makeMapD mapUpdD mapEff updK valM Key.kk shiftI arith unD convD pickD loadD cellsAt fieldAddrD fieldD indexAddrD indexD sliceD cutD lenD minmaxD nilCheckD buildD fillD cellsD isOne ones setAll mkAgg allU allocD boxD storeD St.add buildSliceD appendD rowsOf makeD setOb getK_setOb getK_del getK_cons stripL strip guardTmp entry chunks zcells valD argsV argsW argW argU1 argU0 argsU0 argsU1 calleeOf scalarD scalarU delAll effD St.effS RK_seq RK_seq_ret RK_seq_exit RK_blk RK_blk_ret RK_blk_exit RK_loop RK_loop_ret RK_loop_exit RK_done vs_seq vs_block vs_skip vs_label vs_exit vs_ret vs_cond vs_region vs_loop vs_draw vs_range vs_scope applyW mkD rdIds lentIds callOf calleeOf freeOp D.ids Op.operands Call.operands isEffOp makeIfD typeAssertD conc concs conc1 uOfV panicD IntKind.bits allU2 allU2_append List.take_of_length_le List.range_succ
attribute [local irreducible] V G H HD HD2 RunK Eff CallP CallV EndOK Fun Ret FinOK LoopI LoopW EndW
set_option maxHeartbeats 16000000 in
theorem mores_neg (h0 : Fun Try.prog 7 [] (· = .u (.bool true))) (l more : List Con) (n b : Int) (hl : l.length ≤ 1048576) (hm : more.length ≤ 1048576) (hcc : ¬ ((l.length ≤ 50 ∧ more.length ≤ 5 ∧ n ≤ 40 ∧ 0 ≤ b ∧ b ≤ l.length) ∧ rightL (l ++ more) n = true)) : Fun Try.prog 6 [.u (consU l), .u (consU more), .u (.int .i64 n), .u (.int .i64 b)] (· = .u (.bool true)) := by
  have h1 := few_fun l 50
  have h2 := few_fun more 5
  have h3 := right_fun (l ++ more) n
  simp only [consU, ints, List.map_append] at h1 h2 h3 ⊢
  cases c4 : rightL (l ++ more) n with
  | false =>
    rw [c4] at h3
    clear hcc c4
    by_cases c1 : l.length ≤ 50
    · have c1' : (l.length : Int) ≤ 50 := by omega
      simp only [c1', decide_true] at h1
      by_cases c2 : more.length ≤ 5
      · have c2' : (more.length : Int) ≤ 5 := by omega
        simp only [c2', decide_true] at h2
        (refine Fun.of_body Try.func6 rfl (by simp) fun Γ hn => ?_); simp only [entry, List.zipIdx_cons, List.zipIdx_nil, List.map_cons, List.map_nil, Nat.zero_add, Try.ntmps6]
        repeat' (first
    | (refine H_cons ?_; simp)
    | (refine H_nil ?_; simp)
    | (refine ⟨by omega, ?_⟩)
    | (refine V_sseq ?_; simp)
    | (refine V_scond ?_; simp)
    | (refine V_ret ?_; simp only [RK_seq, RK_seq_ret, RK_seq_exit, RK_blk, RK_blk_ret, RK_blk_exit, RK_loop, RK_loop_ret, RK_loop_exit, RK_done])
    | (refine ⟨fun hc => ?_, fun hc => ?_⟩ <;> (try (exfalso; omega)))
    | (refine CallP.fun_ (h0) (by first | rfl | fail) (by first | assumption | (simp; done) | fail) (by first | (simp; done) | (simp; rfl) | fail) (by first | (simp; done) | fail) (fun d hd => ?_); subst hd; (try simp))
    | (refine CallP.fun_ (h1) (by first | rfl | fail) (by first | assumption | (simp; done) | fail) (by first | (simp; done) | (simp; rfl) | fail) (by first | (simp; done) | fail) (fun d hd => ?_); subst hd; (try simp))
    | (refine CallP.fun_ (h2) (by first | rfl | fail) (by first | assumption | (simp; done) | fail) (by first | (simp; done) | (simp; rfl) | fail) (by first | (simp; done) | fail) (fun d hd => ?_); subst hd; (try simp))
    | (refine CallP.fun_ (h3) (by first | rfl | fail) (by first | assumption | (simp; done) | fail) (by first | (simp; done) | (simp; rfl) | fail) (by first | (simp; done) | fail) (fun d hd => ?_); subst hd; (try simp))
    | fail)
        all_goals
          (refine EndOK.val (.inr rfl) ?_; simp [resD, oneOrTup, pureD, Try.results6])
      · have c2' : ¬ (more.length : Int) ≤ 5 := by omega
        simp only [c2', decide_false] at h2
        (refine Fun.of_body Try.func6 rfl (by simp) fun Γ hn => ?_); simp only [entry, List.zipIdx_cons, List.zipIdx_nil, List.map_cons, List.map_nil, Nat.zero_add, Try.ntmps6]
        repeat' (first
    | (refine H_cons ?_; simp)
    | (refine H_nil ?_; simp)
    | (refine ⟨by omega, ?_⟩)
    | (refine V_sseq ?_; simp)
    | (refine V_scond ?_; simp)
    | (refine V_ret ?_; simp only [RK_seq, RK_seq_ret, RK_seq_exit, RK_blk, RK_blk_ret, RK_blk_exit, RK_loop, RK_loop_ret, RK_loop_exit, RK_done])
    | (refine CallP.fun_ (h0) (by first | rfl | fail) (by first | assumption | (simp; done) | fail) (by first | (simp; done) | (simp; rfl) | fail) (by first | (simp; done) | fail) (fun d hd => ?_); subst hd; (try simp))
    | (refine CallP.fun_ (h1) (by first | rfl | fail) (by first | assumption | (simp; done) | fail) (by first | (simp; done) | (simp; rfl) | fail) (by first | (simp; done) | fail) (fun d hd => ?_); subst hd; (try simp))
    | (refine CallP.fun_ (h2) (by first | rfl | fail) (by first | assumption | (simp; done) | fail) (by first | (simp; done) | (simp; rfl) | fail) (by first | (simp; done) | fail) (fun d hd => ?_); subst hd; (try simp))
    | fail)
        all_goals
          (refine EndOK.val (.inr rfl) ?_; simp [resD, oneOrTup, pureD, Try.results6])
    · have c1' : ¬ (l.length : Int) ≤ 50 := by omega
      simp only [c1', decide_false] at h1
      (refine Fun.of_body Try.func6 rfl (by simp) fun Γ hn => ?_); simp only [entry, List.zipIdx_cons, List.zipIdx_nil, List.map_cons, List.map_nil, Nat.zero_add, Try.ntmps6]
      repeat' (first
    | (refine H_cons ?_; simp)
    | (refine H_nil ?_; simp)
    | (refine ⟨by omega, ?_⟩)
    | (refine V_sseq ?_; simp)
    | (refine V_scond ?_; simp)
    | (refine V_ret ?_; simp only [RK_seq, RK_seq_ret, RK_seq_exit, RK_blk, RK_blk_ret, RK_blk_exit, RK_loop, RK_loop_ret, RK_loop_exit, RK_done])
    | (refine CallP.fun_ (h0) (by first | rfl | fail) (by first | assumption | (simp; done) | fail) (by first | (simp; done) | (simp; rfl) | fail) (by first | (simp; done) | fail) (fun d hd => ?_); subst hd; (try simp))
    | (refine CallP.fun_ (h1) (by first | rfl | fail) (by first | assumption | (simp; done) | fail) (by first | (simp; done) | (simp; rfl) | fail) (by first | (simp; done) | fail) (fun d hd => ?_); subst hd; (try simp))
    | fail)
      all_goals
        (refine EndOK.val (.inr rfl) ?_; simp [resD, oneOrTup, pureD, Try.results6])
  | true =>
    rw [c4] at h3
    have c5 : ¬ (l.length ≤ 50 ∧ more.length ≤ 5 ∧ n ≤ 40 ∧ 0 ≤ b ∧ b ≤ l.length) := fun h => hcc ⟨h, c4⟩
    clear hcc c4
    by_cases c1 : l.length ≤ 50
    · have c1' : (l.length : Int) ≤ 50 := by omega
      simp only [c1', decide_true] at h1
      by_cases c2 : more.length ≤ 5
      · have c2' : (more.length : Int) ≤ 5 := by omega
        simp only [c2', decide_true] at h2
        by_cases d1 : n ≤ 40
        · by_cases d2 : 0 ≤ b
          · have d3 : ¬ b ≤ l.length := fun h => c5 ⟨c1, c2, d1, d2, h⟩
            clear c5
            (refine Fun.of_body Try.func6 rfl (by simp) fun Γ hn => ?_); simp only [entry, List.zipIdx_cons, List.zipIdx_nil, List.map_cons, List.map_nil, Nat.zero_add, Try.ntmps6]
            repeat' (first
    | (refine H_cons ?_; simp [d1, d2, d3])
    | (refine H_nil ?_; simp [d1, d2, d3])
    | (refine ⟨by omega, ?_⟩)
    | (refine V_sseq ?_; simp [d1, d2, d3])
    | (refine V_scond ?_; simp [d1, d2, d3])
    | (refine V_ret ?_; simp only [RK_seq, RK_seq_ret, RK_seq_exit, RK_blk, RK_blk_ret, RK_blk_exit, RK_loop, RK_loop_ret, RK_loop_exit, RK_done])
    | (refine ⟨?_, by omega⟩)
    | (intro hc <;> (try (exfalso; omega)))
    | (refine CallP.fun_ (h0) (by first | rfl | fail) (by first | assumption | (simp; done) | fail) (by first | (simp [d1, d2, d3]; done) | (simp [d1, d2, d3]; rfl) | fail) (by first | (simp; done) | fail) (fun d hd => ?_); subst hd; (try simp [d1, d2, d3]))
    | (refine CallP.fun_ (h1) (by first | rfl | fail) (by first | assumption | (simp; done) | fail) (by first | (simp [d1, d2, d3]; done) | (simp [d1, d2, d3]; rfl) | fail) (by first | (simp; done) | fail) (fun d hd => ?_); subst hd; (try simp [d1, d2, d3]))
    | (refine CallP.fun_ (h2) (by first | rfl | fail) (by first | assumption | (simp; done) | fail) (by first | (simp [d1, d2, d3]; done) | (simp [d1, d2, d3]; rfl) | fail) (by first | (simp; done) | fail) (fun d hd => ?_); subst hd; (try simp [d1, d2, d3]))
    | fail)
            all_goals
              (refine EndOK.val (.inr rfl) ?_; simp [resD, oneOrTup, pureD, Try.results6])
          · clear c5
            (refine Fun.of_body Try.func6 rfl (by simp) fun Γ hn => ?_); simp only [entry, List.zipIdx_cons, List.zipIdx_nil, List.map_cons, List.map_nil, Nat.zero_add, Try.ntmps6]
            repeat' (first
    | (refine H_cons ?_; simp [d1, d2])
    | (refine H_nil ?_; simp [d1, d2])
    | (refine ⟨by omega, ?_⟩)
    | (refine V_sseq ?_; simp [d1, d2])
    | (refine V_scond ?_; simp [d1, d2])
    | (refine V_ret ?_; simp only [RK_seq, RK_seq_ret, RK_seq_exit, RK_blk, RK_blk_ret, RK_blk_exit, RK_loop, RK_loop_ret, RK_loop_exit, RK_done])
    | (refine ⟨?_, by omega⟩)
    | (intro hc <;> (try (exfalso; omega)))
    | (refine CallP.fun_ (h0) (by first | rfl | fail) (by first | assumption | (simp; done) | fail) (by first | (simp [d1, d2]; done) | (simp [d1, d2]; rfl) | fail) (by first | (simp; done) | fail) (fun d hd => ?_); subst hd; (try simp [d1, d2]))
    | (refine CallP.fun_ (h1) (by first | rfl | fail) (by first | assumption | (simp; done) | fail) (by first | (simp [d1, d2]; done) | (simp [d1, d2]; rfl) | fail) (by first | (simp; done) | fail) (fun d hd => ?_); subst hd; (try simp [d1, d2]))
    | (refine CallP.fun_ (h2) (by first | rfl | fail) (by first | assumption | (simp; done) | fail) (by first | (simp [d1, d2]; done) | (simp [d1, d2]; rfl) | fail) (by first | (simp; done) | fail) (fun d hd => ?_); subst hd; (try simp [d1, d2]))
    | fail)
            all_goals
              (refine EndOK.val (.inr rfl) ?_; simp [resD, oneOrTup, pureD, Try.results6])
        · clear c5
          (refine Fun.of_body Try.func6 rfl (by simp) fun Γ hn => ?_); simp only [entry, List.zipIdx_cons, List.zipIdx_nil, List.map_cons, List.map_nil, Nat.zero_add, Try.ntmps6]
          repeat' (first
    | (refine H_cons ?_; simp [d1])
    | (refine H_nil ?_; simp [d1])
    | (refine ⟨by omega, ?_⟩)
    | (refine V_sseq ?_; simp [d1])
    | (refine V_scond ?_; simp [d1])
    | (refine V_ret ?_; simp only [RK_seq, RK_seq_ret, RK_seq_exit, RK_blk, RK_blk_ret, RK_blk_exit, RK_loop, RK_loop_ret, RK_loop_exit, RK_done])
    | (intro hc <;> (try (exfalso; omega)))
    | (refine CallP.fun_ (h0) (by first | rfl | fail) (by first | assumption | (simp; done) | fail) (by first | (simp [d1]; done) | (simp [d1]; rfl) | fail) (by first | (simp; done) | fail) (fun d hd => ?_); subst hd; (try simp [d1]))
    | (refine CallP.fun_ (h1) (by first | rfl | fail) (by first | assumption | (simp; done) | fail) (by first | (simp [d1]; done) | (simp [d1]; rfl) | fail) (by first | (simp; done) | fail) (fun d hd => ?_); subst hd; (try simp [d1]))
    | (refine CallP.fun_ (h2) (by first | rfl | fail) (by first | assumption | (simp; done) | fail) (by first | (simp [d1]; done) | (simp [d1]; rfl) | fail) (by first | (simp; done) | fail) (fun d hd => ?_); subst hd; (try simp [d1]))
    | fail)
          all_goals
            (refine EndOK.val (.inr rfl) ?_; simp [resD, oneOrTup, pureD, Try.results6])
      · have c2' : ¬ (more.length : Int) ≤ 5 := by omega
        simp only [c2', decide_false] at h2
        clear c5
        (refine Fun.of_body Try.func6 rfl (by simp) fun Γ hn => ?_); simp only [entry, List.zipIdx_cons, List.zipIdx_nil, List.map_cons, List.map_nil, Nat.zero_add, Try.ntmps6]
        repeat' (first
    | (refine H_cons ?_; simp)
    | (refine H_nil ?_; simp)
    | (refine ⟨by omega, ?_⟩)
    | (refine V_sseq ?_; simp)
    | (refine V_scond ?_; simp)
    | (refine V_ret ?_; simp only [RK_seq, RK_seq_ret, RK_seq_exit, RK_blk, RK_blk_ret, RK_blk_exit, RK_loop, RK_loop_ret, RK_loop_exit, RK_done])
    | (refine CallP.fun_ (h0) (by first | rfl | fail) (by first | assumption | (simp; done) | fail) (by first | (simp; done) | (simp; rfl) | fail) (by first | (simp; done) | fail) (fun d hd => ?_); subst hd; (try simp))
    | (refine CallP.fun_ (h1) (by first | rfl | fail) (by first | assumption | (simp; done) | fail) (by first | (simp; done) | (simp; rfl) | fail) (by first | (simp; done) | fail) (fun d hd => ?_); subst hd; (try simp))
    | (refine CallP.fun_ (h2) (by first | rfl | fail) (by first | assumption | (simp; done) | fail) (by first | (simp; done) | (simp; rfl) | fail) (by first | (simp; done) | fail) (fun d hd => ?_); subst hd; (try simp))
    | fail)
        all_goals
          (refine EndOK.val (.inr rfl) ?_; simp [resD, oneOrTup, pureD, Try.results6])
    · have c1' : ¬ (l.length : Int) ≤ 50 := by omega
      simp only [c1', decide_false] at h1
      clear c5
      (refine Fun.of_body Try.func6 rfl (by simp) fun Γ hn => ?_); simp only [entry, List.zipIdx_cons, List.zipIdx_nil, List.map_cons, List.map_nil, Nat.zero_add, Try.ntmps6]
      repeat' (first
    | (refine H_cons ?_; simp)
    | (refine H_nil ?_; simp)
    | (refine ⟨by omega, ?_⟩)
    | (refine V_sseq ?_; simp)
    | (refine V_scond ?_; simp)
    | (refine V_ret ?_; simp only [RK_seq, RK_seq_ret, RK_seq_exit, RK_blk, RK_blk_ret, RK_blk_exit, RK_loop, RK_loop_ret, RK_loop_exit, RK_done])
    | (refine CallP.fun_ (h0) (by first | rfl | fail) (by first | assumption | (simp; done) | fail) (by first | (simp; done) | (simp; rfl) | fail) (by first | (simp; done) | fail) (fun d hd => ?_); subst hd; (try simp))
    | (refine CallP.fun_ (h1) (by first | rfl | fail) (by first | assumption | (simp; done) | fail) (by first | (simp; done) | (simp; rfl) | fail) (by first | (simp; done) | fail) (fun d hd => ?_); subst hd; (try simp))
    | fail)
      all_goals
        (refine EndOK.val (.inr rfl) ?_; simp [resD, oneOrTup, pureD, Try.results6])
end Go.Proofs.Ytdkadmchdocjbaa
