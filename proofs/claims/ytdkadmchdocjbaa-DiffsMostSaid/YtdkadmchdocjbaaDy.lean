/- Layer 13: the greatest difference: the walk of the law (the examples are given). -/
import Derived.Test.YtdkadmchdocjbaaDx
import Derived.Test.YtdkadmchdocjbaaVLC
set_option linter.all false
set_option maxRecDepth 100000
set_option maxHeartbeats 8000000
set_option linter.all false
namespace Go.Proofs.Ytdkadmchdocjbaa
open Go Go.VL
theorem right_snoc {l : List Con} {m : Nat} {c : Con} (h2 : m ≤ 200) (h3 : l.length ≤ 1999) (h4 : OkC m l) (hc : 0 ≤ c.A ∧ c.A < m ∧ 0 ≤ c.B ∧ c.B < m ∧ -maxN ≤ c.N ∧ c.N ≤ maxN) : rightL (l ++ [c]) (m : Int) = true :=
  rightL_of h2 (by simp; omega) (h4.snoc hc)
theorem SolveSpec.yes {l : List Con} {m : Nat} {V C : List Int} {E : Int} (h : SolveSpec l (m : Int) V C E) (hr : rightL l (m : Int) = true) (hy : ∃ y, Sol l y) : E = 0 := (h.ok hr).1.2 hy
theorem SolveSpec.no {l : List Con} {m : Nat} {V C : List Int} {E : Int} (h : SolveSpec l (m : Int) V C E) (hr : rightL l (m : Int) = true) (hy : ¬ ∃ y, Sol l y) : E = 23 := by
  rcases (h.ok hr).2 with h1 | h1
  · exact absurd ((h.ok hr).1.1 h1) hy
  · exact h1
attribute [local simp] hcons hstep evPure opd uOf putOK St.put St.at getK binD binI binS binB nilD aggD eqUs cmpK lookD lookR rangeD Go.VL.nextD entryD keyD valU keyU lookK mkV entD_nil lookK_entD updK_entD1 updK_entD2 updK_entD3 allUE allUE_entD makeMapD mapUpdD mapEff updK valM Key.kk shiftI arith unD convD pickD loadD cellsAt fieldAddrD fieldD indexAddrD indexD sliceD cutD lenD minmaxD nilCheckD buildD fillD cellsD isOne ones setAll mkAgg allU allocD boxD storeD St.add buildSliceD appendD rowsOf makeD setOb getK_setOb getK_del getK_cons stripL strip guardTmp entry chunks zcells valD argsV argsW argW argU1 argU0 argsU0 argsU1 calleeOf scalarD scalarU delAll effD St.effS RK_seq RK_seq_ret RK_seq_exit RK_blk RK_blk_ret RK_blk_exit RK_loop RK_loop_ret RK_loop_exit RK_done vs_seq vs_block vs_skip vs_label vs_exit vs_ret vs_cond vs_region vs_loop vs_draw vs_range vs_scope applyW mkD rdIds lentIds callOf calleeOf freeOp D.ids Op.operands Call.operands isEffOp makeIfD typeAssertD conc concs conc1 uOfV panicD IntKind.bits allU2 allU2_append List.take_of_length_le List.range_succ
attribute [local irreducible] V G H HD HD2 RunK Eff CallP CallV EndOK Fun Ret FinOK LoopI LoopW EndW
set_option maxHeartbeats 4000000 in
theorem mosts_fun (h0 : Fun Try.prog 7 [] (· = .u (.bool true))) (l : List Con) (n a b : Int) (other : List Int) (d : Int) : Fun Try.prog 5 [.u (consU l), .u (.int .i64 n), .u (.int .i64 a), .u (.int .i64 b), .u (ints other), .u (.int .i64 d)] (· = .u (.bool true)) := by
  have h1 := few_fun l 60
  have h2 := right_fun l n
  by_cases hc : l.length ≤ 60 ∧ n ≤ 40 ∧ other.length ≤ 40 ∧ rightL l n = true ∧ (0 ≤ a ∧ a < n ∧ 0 ≤ b ∧ b < n ∧ 0 ≤ d ∧ d ≤ 1000)
  case neg =>
    simp only [consU, ints] at h1 h2 ⊢
    by_cases c1 : l.length ≤ 60
    · have c1' : (l.length : Int) ≤ 60 := by omega
      simp only [c1', decide_true] at h1
      by_cases c2 : n ≤ 40
      · by_cases c3 : other.length ≤ 40
        · cases c4 : rightL l n with
          | false =>
            rw [c4] at h2
            (refine Fun.of_body Try.func5 rfl (by simp) fun Γ hn => ?_); simp only [entry, List.zipIdx_cons, List.zipIdx_nil, List.map_cons, List.map_nil, Nat.zero_add, Try.ntmps5]
            repeat' (first
    | (refine H_cons ?_; simp [c2, c3])
    | (refine H_nil ?_; simp [c2, c3])
    | (refine V_sseq ?_; simp [c2, c3])
    | (refine V_scond ?_; simp [c2, c3])
    | (refine V_ret ?_; simp only [RK_seq, RK_seq_ret, RK_seq_exit, RK_blk, RK_blk_ret, RK_blk_exit, RK_loop, RK_loop_ret, RK_loop_exit, RK_done])
    | (refine ⟨?_, by omega⟩)
    | (intro hc <;> (try (exfalso; omega)))
    | (refine CallP.fun_ (h0) (by first | rfl | fail) (by first | assumption | (simp; done) | fail) (by first | (simp [c2, c3]; done) | (simp [c2, c3]; rfl) | fail) (by first | (simp; done) | fail) (fun d hd => ?_); subst hd; (try simp [c2, c3]))
    | (refine CallP.fun_ (h1) (by first | rfl | fail) (by first | assumption | (simp; done) | fail) (by first | (simp [c2, c3]; done) | (simp [c2, c3]; rfl) | fail) (by first | (simp; done) | fail) (fun d hd => ?_); subst hd; (try simp [c2, c3]))
    | (refine CallP.fun_ (h2) (by first | rfl | fail) (by first | assumption | (simp; done) | fail) (by first | (simp [c2, c3]; done) | (simp [c2, c3]; rfl) | fail) (by first | (simp; done) | fail) (fun d hd => ?_); subst hd; (try simp [c2, c3]))
    | fail)
            all_goals
              (refine EndOK.val (.inr rfl) ?_; simp [resD, oneOrTup, pureD, Try.results5])
          | true =>
            rw [c4] at h2
            have c5 : ¬ (0 ≤ a ∧ a < n ∧ 0 ≤ b ∧ b < n ∧ 0 ≤ d ∧ d ≤ 1000) := fun h => hc ⟨c1, c2, c3, c4, h⟩
            by_cases d1 : 0 ≤ a
            · by_cases d2 : a < n
              · by_cases d3 : 0 ≤ b
                · by_cases d4 : b < n
                  · by_cases d5 : 0 ≤ d
                    · have d6 : ¬ d ≤ 1000 := fun h => c5 ⟨d1, d2, d3, d4, d5, h⟩
                      clear c5
                      (refine Fun.of_body Try.func5 rfl (by simp) fun Γ hn => ?_); simp only [entry, List.zipIdx_cons, List.zipIdx_nil, List.map_cons, List.map_nil, Nat.zero_add, Try.ntmps5]
                      repeat' (first
    | (refine H_cons ?_; simp [c2, c3, d1, d2, d3, d4, d5, d6])
    | (refine H_nil ?_; simp [c2, c3, d1, d2, d3, d4, d5, d6])
    | (refine V_sseq ?_; simp [c2, c3, d1, d2, d3, d4, d5, d6])
    | (refine V_scond ?_; simp [c2, c3, d1, d2, d3, d4, d5, d6])
    | (refine V_ret ?_; simp only [RK_seq, RK_seq_ret, RK_seq_exit, RK_blk, RK_blk_ret, RK_blk_exit, RK_loop, RK_loop_ret, RK_loop_exit, RK_done])
    | (refine ⟨?_, by omega⟩)
    | (intro hc <;> (try (exfalso; omega)))
    | (refine CallP.fun_ (h0) (by first | rfl | fail) (by first | assumption | (simp; done) | fail) (by first | (simp [c2, c3, d1, d2, d3, d4, d5, d6]; done) | (simp [c2, c3, d1, d2, d3, d4, d5, d6]; rfl) | fail) (by first | (simp; done) | fail) (fun d hd => ?_); subst hd; (try simp [c2, c3, d1, d2, d3, d4, d5, d6]))
    | (refine CallP.fun_ (h1) (by first | rfl | fail) (by first | assumption | (simp; done) | fail) (by first | (simp [c2, c3, d1, d2, d3, d4, d5, d6]; done) | (simp [c2, c3, d1, d2, d3, d4, d5, d6]; rfl) | fail) (by first | (simp; done) | fail) (fun d hd => ?_); subst hd; (try simp [c2, c3, d1, d2, d3, d4, d5, d6]))
    | (refine CallP.fun_ (h2) (by first | rfl | fail) (by first | assumption | (simp; done) | fail) (by first | (simp [c2, c3, d1, d2, d3, d4, d5, d6]; done) | (simp [c2, c3, d1, d2, d3, d4, d5, d6]; rfl) | fail) (by first | (simp; done) | fail) (fun d hd => ?_); subst hd; (try simp [c2, c3, d1, d2, d3, d4, d5, d6]))
    | fail)
                      all_goals
                        (refine EndOK.val (.inr rfl) ?_; simp [resD, oneOrTup, pureD, Try.results5])
                    · clear c5
                      (refine Fun.of_body Try.func5 rfl (by simp) fun Γ hn => ?_); simp only [entry, List.zipIdx_cons, List.zipIdx_nil, List.map_cons, List.map_nil, Nat.zero_add, Try.ntmps5]
                      repeat' (first
    | (refine H_cons ?_; simp [c2, c3, d1, d2, d3, d4, d5])
    | (refine H_nil ?_; simp [c2, c3, d1, d2, d3, d4, d5])
    | (refine V_sseq ?_; simp [c2, c3, d1, d2, d3, d4, d5])
    | (refine V_scond ?_; simp [c2, c3, d1, d2, d3, d4, d5])
    | (refine V_ret ?_; simp only [RK_seq, RK_seq_ret, RK_seq_exit, RK_blk, RK_blk_ret, RK_blk_exit, RK_loop, RK_loop_ret, RK_loop_exit, RK_done])
    | (refine ⟨?_, by omega⟩)
    | (intro hc <;> (try (exfalso; omega)))
    | (refine CallP.fun_ (h0) (by first | rfl | fail) (by first | assumption | (simp; done) | fail) (by first | (simp [c2, c3, d1, d2, d3, d4, d5]; done) | (simp [c2, c3, d1, d2, d3, d4, d5]; rfl) | fail) (by first | (simp; done) | fail) (fun d hd => ?_); subst hd; (try simp [c2, c3, d1, d2, d3, d4, d5]))
    | (refine CallP.fun_ (h1) (by first | rfl | fail) (by first | assumption | (simp; done) | fail) (by first | (simp [c2, c3, d1, d2, d3, d4, d5]; done) | (simp [c2, c3, d1, d2, d3, d4, d5]; rfl) | fail) (by first | (simp; done) | fail) (fun d hd => ?_); subst hd; (try simp [c2, c3, d1, d2, d3, d4, d5]))
    | (refine CallP.fun_ (h2) (by first | rfl | fail) (by first | assumption | (simp; done) | fail) (by first | (simp [c2, c3, d1, d2, d3, d4, d5]; done) | (simp [c2, c3, d1, d2, d3, d4, d5]; rfl) | fail) (by first | (simp; done) | fail) (fun d hd => ?_); subst hd; (try simp [c2, c3, d1, d2, d3, d4, d5]))
    | fail)
                      all_goals
                        (refine EndOK.val (.inr rfl) ?_; simp [resD, oneOrTup, pureD, Try.results5])
                  · clear c5
                    (refine Fun.of_body Try.func5 rfl (by simp) fun Γ hn => ?_); simp only [entry, List.zipIdx_cons, List.zipIdx_nil, List.map_cons, List.map_nil, Nat.zero_add, Try.ntmps5]
                    repeat' (first
    | (refine H_cons ?_; simp [c2, c3, d1, d2, d3, d4])
    | (refine H_nil ?_; simp [c2, c3, d1, d2, d3, d4])
    | (refine V_sseq ?_; simp [c2, c3, d1, d2, d3, d4])
    | (refine V_scond ?_; simp [c2, c3, d1, d2, d3, d4])
    | (refine V_ret ?_; simp only [RK_seq, RK_seq_ret, RK_seq_exit, RK_blk, RK_blk_ret, RK_blk_exit, RK_loop, RK_loop_ret, RK_loop_exit, RK_done])
    | (refine ⟨?_, by omega⟩)
    | (intro hc <;> (try (exfalso; omega)))
    | (refine CallP.fun_ (h0) (by first | rfl | fail) (by first | assumption | (simp; done) | fail) (by first | (simp [c2, c3, d1, d2, d3, d4]; done) | (simp [c2, c3, d1, d2, d3, d4]; rfl) | fail) (by first | (simp; done) | fail) (fun d hd => ?_); subst hd; (try simp [c2, c3, d1, d2, d3, d4]))
    | (refine CallP.fun_ (h1) (by first | rfl | fail) (by first | assumption | (simp; done) | fail) (by first | (simp [c2, c3, d1, d2, d3, d4]; done) | (simp [c2, c3, d1, d2, d3, d4]; rfl) | fail) (by first | (simp; done) | fail) (fun d hd => ?_); subst hd; (try simp [c2, c3, d1, d2, d3, d4]))
    | (refine CallP.fun_ (h2) (by first | rfl | fail) (by first | assumption | (simp; done) | fail) (by first | (simp [c2, c3, d1, d2, d3, d4]; done) | (simp [c2, c3, d1, d2, d3, d4]; rfl) | fail) (by first | (simp; done) | fail) (fun d hd => ?_); subst hd; (try simp [c2, c3, d1, d2, d3, d4]))
    | fail)
                    all_goals
                      (refine EndOK.val (.inr rfl) ?_; simp [resD, oneOrTup, pureD, Try.results5])
                · clear c5
                  (refine Fun.of_body Try.func5 rfl (by simp) fun Γ hn => ?_); simp only [entry, List.zipIdx_cons, List.zipIdx_nil, List.map_cons, List.map_nil, Nat.zero_add, Try.ntmps5]
                  repeat' (first
    | (refine H_cons ?_; simp [c2, c3, d1, d2, d3])
    | (refine H_nil ?_; simp [c2, c3, d1, d2, d3])
    | (refine V_sseq ?_; simp [c2, c3, d1, d2, d3])
    | (refine V_scond ?_; simp [c2, c3, d1, d2, d3])
    | (refine V_ret ?_; simp only [RK_seq, RK_seq_ret, RK_seq_exit, RK_blk, RK_blk_ret, RK_blk_exit, RK_loop, RK_loop_ret, RK_loop_exit, RK_done])
    | (refine ⟨?_, by omega⟩)
    | (intro hc <;> (try (exfalso; omega)))
    | (refine CallP.fun_ (h0) (by first | rfl | fail) (by first | assumption | (simp; done) | fail) (by first | (simp [c2, c3, d1, d2, d3]; done) | (simp [c2, c3, d1, d2, d3]; rfl) | fail) (by first | (simp; done) | fail) (fun d hd => ?_); subst hd; (try simp [c2, c3, d1, d2, d3]))
    | (refine CallP.fun_ (h1) (by first | rfl | fail) (by first | assumption | (simp; done) | fail) (by first | (simp [c2, c3, d1, d2, d3]; done) | (simp [c2, c3, d1, d2, d3]; rfl) | fail) (by first | (simp; done) | fail) (fun d hd => ?_); subst hd; (try simp [c2, c3, d1, d2, d3]))
    | (refine CallP.fun_ (h2) (by first | rfl | fail) (by first | assumption | (simp; done) | fail) (by first | (simp [c2, c3, d1, d2, d3]; done) | (simp [c2, c3, d1, d2, d3]; rfl) | fail) (by first | (simp; done) | fail) (fun d hd => ?_); subst hd; (try simp [c2, c3, d1, d2, d3]))
    | fail)
                  all_goals
                    (refine EndOK.val (.inr rfl) ?_; simp [resD, oneOrTup, pureD, Try.results5])
              · clear c5
                (refine Fun.of_body Try.func5 rfl (by simp) fun Γ hn => ?_); simp only [entry, List.zipIdx_cons, List.zipIdx_nil, List.map_cons, List.map_nil, Nat.zero_add, Try.ntmps5]
                repeat' (first
    | (refine H_cons ?_; simp [c2, c3, d1, d2])
    | (refine H_nil ?_; simp [c2, c3, d1, d2])
    | (refine V_sseq ?_; simp [c2, c3, d1, d2])
    | (refine V_scond ?_; simp [c2, c3, d1, d2])
    | (refine V_ret ?_; simp only [RK_seq, RK_seq_ret, RK_seq_exit, RK_blk, RK_blk_ret, RK_blk_exit, RK_loop, RK_loop_ret, RK_loop_exit, RK_done])
    | (refine ⟨?_, by omega⟩)
    | (intro hc <;> (try (exfalso; omega)))
    | (refine CallP.fun_ (h0) (by first | rfl | fail) (by first | assumption | (simp; done) | fail) (by first | (simp [c2, c3, d1, d2]; done) | (simp [c2, c3, d1, d2]; rfl) | fail) (by first | (simp; done) | fail) (fun d hd => ?_); subst hd; (try simp [c2, c3, d1, d2]))
    | (refine CallP.fun_ (h1) (by first | rfl | fail) (by first | assumption | (simp; done) | fail) (by first | (simp [c2, c3, d1, d2]; done) | (simp [c2, c3, d1, d2]; rfl) | fail) (by first | (simp; done) | fail) (fun d hd => ?_); subst hd; (try simp [c2, c3, d1, d2]))
    | (refine CallP.fun_ (h2) (by first | rfl | fail) (by first | assumption | (simp; done) | fail) (by first | (simp [c2, c3, d1, d2]; done) | (simp [c2, c3, d1, d2]; rfl) | fail) (by first | (simp; done) | fail) (fun d hd => ?_); subst hd; (try simp [c2, c3, d1, d2]))
    | fail)
                all_goals
                  (refine EndOK.val (.inr rfl) ?_; simp [resD, oneOrTup, pureD, Try.results5])
            · clear c5
              (refine Fun.of_body Try.func5 rfl (by simp) fun Γ hn => ?_); simp only [entry, List.zipIdx_cons, List.zipIdx_nil, List.map_cons, List.map_nil, Nat.zero_add, Try.ntmps5]
              repeat' (first
    | (refine H_cons ?_; simp [c2, c3, d1])
    | (refine H_nil ?_; simp [c2, c3, d1])
    | (refine V_sseq ?_; simp [c2, c3, d1])
    | (refine V_scond ?_; simp [c2, c3, d1])
    | (refine V_ret ?_; simp only [RK_seq, RK_seq_ret, RK_seq_exit, RK_blk, RK_blk_ret, RK_blk_exit, RK_loop, RK_loop_ret, RK_loop_exit, RK_done])
    | (refine ⟨?_, by omega⟩)
    | (intro hc <;> (try (exfalso; omega)))
    | (refine CallP.fun_ (h0) (by first | rfl | fail) (by first | assumption | (simp; done) | fail) (by first | (simp [c2, c3, d1]; done) | (simp [c2, c3, d1]; rfl) | fail) (by first | (simp; done) | fail) (fun d hd => ?_); subst hd; (try simp [c2, c3, d1]))
    | (refine CallP.fun_ (h1) (by first | rfl | fail) (by first | assumption | (simp; done) | fail) (by first | (simp [c2, c3, d1]; done) | (simp [c2, c3, d1]; rfl) | fail) (by first | (simp; done) | fail) (fun d hd => ?_); subst hd; (try simp [c2, c3, d1]))
    | (refine CallP.fun_ (h2) (by first | rfl | fail) (by first | assumption | (simp; done) | fail) (by first | (simp [c2, c3, d1]; done) | (simp [c2, c3, d1]; rfl) | fail) (by first | (simp; done) | fail) (fun d hd => ?_); subst hd; (try simp [c2, c3, d1]))
    | fail)
              all_goals
                (refine EndOK.val (.inr rfl) ?_; simp [resD, oneOrTup, pureD, Try.results5])
        · (refine Fun.of_body Try.func5 rfl (by simp) fun Γ hn => ?_); simp only [entry, List.zipIdx_cons, List.zipIdx_nil, List.map_cons, List.map_nil, Nat.zero_add, Try.ntmps5]
          repeat' (first
    | (refine H_cons ?_; simp [c2, c3])
    | (refine H_nil ?_; simp [c2, c3])
    | (refine ⟨by omega, ?_⟩)
    | (refine V_sseq ?_; simp [c2, c3])
    | (refine V_scond ?_; simp [c2, c3])
    | (refine V_ret ?_; simp only [RK_seq, RK_seq_ret, RK_seq_exit, RK_blk, RK_blk_ret, RK_blk_exit, RK_loop, RK_loop_ret, RK_loop_exit, RK_done])
    | (refine ⟨?_, by omega⟩)
    | (intro hc <;> (try (exfalso; omega)))
    | (refine CallP.fun_ (h0) (by first | rfl | fail) (by first | assumption | (simp; done) | fail) (by first | (simp [c2, c3]; done) | (simp [c2, c3]; rfl) | fail) (by first | (simp; done) | fail) (fun d hd => ?_); subst hd; (try simp [c2, c3]))
    | (refine CallP.fun_ (h1) (by first | rfl | fail) (by first | assumption | (simp; done) | fail) (by first | (simp [c2, c3]; done) | (simp [c2, c3]; rfl) | fail) (by first | (simp; done) | fail) (fun d hd => ?_); subst hd; (try simp [c2, c3]))
    | fail)
          all_goals
            (refine EndOK.val (.inr rfl) ?_; simp [resD, oneOrTup, pureD, Try.results5])
      · (refine Fun.of_body Try.func5 rfl (by simp) fun Γ hn => ?_); simp only [entry, List.zipIdx_cons, List.zipIdx_nil, List.map_cons, List.map_nil, Nat.zero_add, Try.ntmps5]
        repeat' (first
    | (refine H_cons ?_; simp [c2])
    | (refine H_nil ?_; simp [c2])
    | (refine V_sseq ?_; simp [c2])
    | (refine V_scond ?_; simp [c2])
    | (refine V_ret ?_; simp only [RK_seq, RK_seq_ret, RK_seq_exit, RK_blk, RK_blk_ret, RK_blk_exit, RK_loop, RK_loop_ret, RK_loop_exit, RK_done])
    | (intro hc <;> (try (exfalso; omega)))
    | (refine CallP.fun_ (h0) (by first | rfl | fail) (by first | assumption | (simp; done) | fail) (by first | (simp [c2]; done) | (simp [c2]; rfl) | fail) (by first | (simp; done) | fail) (fun d hd => ?_); subst hd; (try simp [c2]))
    | (refine CallP.fun_ (h1) (by first | rfl | fail) (by first | assumption | (simp; done) | fail) (by first | (simp [c2]; done) | (simp [c2]; rfl) | fail) (by first | (simp; done) | fail) (fun d hd => ?_); subst hd; (try simp [c2]))
    | fail)
        all_goals
          (refine EndOK.val (.inr rfl) ?_; simp [resD, oneOrTup, pureD, Try.results5])
    · have c1' : ¬ (l.length : Int) ≤ 60 := by omega
      simp only [c1', decide_false] at h1
      (refine Fun.of_body Try.func5 rfl (by simp) fun Γ hn => ?_); simp only [entry, List.zipIdx_cons, List.zipIdx_nil, List.map_cons, List.map_nil, Nat.zero_add, Try.ntmps5]
      repeat' (first
    | (refine H_cons ?_; simp)
    | (refine H_nil ?_; simp)
    | (refine V_sseq ?_; simp)
    | (refine V_scond ?_; simp)
    | (refine V_ret ?_; simp only [RK_seq, RK_seq_ret, RK_seq_exit, RK_blk, RK_blk_ret, RK_blk_exit, RK_loop, RK_loop_ret, RK_loop_exit, RK_done])
    | (refine CallP.fun_ (h0) (by first | rfl | fail) (by first | assumption | (simp; done) | fail) (by first | (simp; done) | (simp; rfl) | fail) (by first | (simp; done) | fail) (fun d hd => ?_); subst hd; (try simp))
    | (refine CallP.fun_ (h1) (by first | rfl | fail) (by first | assumption | (simp; done) | fail) (by first | (simp; done) | (simp; rfl) | fail) (by first | (simp; done) | fail) (fun d hd => ?_); subst hd; (try simp))
    | fail)
      all_goals
        (refine EndOK.val (.inr rfl) ?_; simp [resD, oneOrTup, pureD, Try.results5])
  obtain ⟨c1, c2, c3, hr, d1, d2, d3, d4, d5, d6⟩ := hc
  have c1' : (l.length : Int) ≤ 60 := by omega
  simp only [c1', decide_true] at h1
  rw [hr] at h2
  obtain ⟨e1, e2, e3, e4⟩ := rightL_out hr
  generalize hN : n.toNat = m at e1 e2 e4
  subst e1
  have hm40 : m ≤ 40 := by omega
  obtain ⟨V, C, E, s3, h3⟩ := solve_ex l m (hK_of (by omega) (show l.length ≤ 66 by omega))
  obtain ⟨M, D, F, s4, h4⟩ := most_ex l m a b (hK_of (by omega) (show l.length ≤ 66 by omega))
  rcases s4 with ⟨hx, _⟩ | ⟨_, ⟨hun, rfl, rfl, rfl⟩ | ⟨hyy, g, hi, hf, hbd, s4⟩⟩
  · simp [hr, d1, d2, d3, d4] at hx
  · obtain rfl := s3.no hr (fun ⟨y, hy⟩ => hun y hy)
    simp only [consU, ints] at h1 h2 h3 h4 ⊢
    clear s3
    (refine Fun.of_body Try.func5 rfl (by simp) fun Γ hn => ?_); simp only [entry, List.zipIdx_cons, List.zipIdx_nil, List.map_cons, List.map_nil, Nat.zero_add, Try.ntmps5]
    repeat' (first
    | (refine H_cons ?_; simp [c2, c3, d1, d2, d3, d4, d5, d6])
    | (refine H_nil ?_; simp [c2, c3, d1, d2, d3, d4, d5, d6])
    | (refine ⟨by omega, ?_⟩)
    | (refine V_sseq ?_; simp [c2, c3, d1, d2, d3, d4, d5, d6])
    | (refine V_scond ?_; simp [c2, c3, d1, d2, d3, d4, d5, d6])
    | (refine V_ret ?_; simp only [RK_seq, RK_seq_ret, RK_seq_exit, RK_blk, RK_blk_ret, RK_blk_exit, RK_loop, RK_loop_ret, RK_loop_exit, RK_done])
    | (refine V_skip ?_; simp only [RK_seq, RK_seq_ret, RK_seq_exit, RK_blk, RK_blk_ret, RK_blk_exit, RK_loop, RK_loop_ret, RK_loop_exit, RK_done])
    | (refine ⟨?_, by omega⟩)
    | (intro hc <;> (try (exfalso; omega)))
    | (refine CallP.fun_ (h0) (by first | rfl | fail) (by first | assumption | (simp; done) | fail) (by first | (simp [c2, c3, d1, d2, d3, d4, d5, d6]; done) | (simp [c2, c3, d1, d2, d3, d4, d5, d6]; rfl) | fail) (by first | (simp; done) | fail) (fun d hd => ?_); subst hd; (try simp [c2, c3, d1, d2, d3, d4, d5, d6]))
    | (refine CallP.fun_ (h1) (by first | rfl | fail) (by first | assumption | (simp; done) | fail) (by first | (simp [c2, c3, d1, d2, d3, d4, d5, d6]; done) | (simp [c2, c3, d1, d2, d3, d4, d5, d6]; rfl) | fail) (by first | (simp; done) | fail) (fun d hd => ?_); subst hd; (try simp [c2, c3, d1, d2, d3, d4, d5, d6]))
    | (refine CallP.fun_ (h2) (by first | rfl | fail) (by first | assumption | (simp; done) | fail) (by first | (simp [c2, c3, d1, d2, d3, d4, d5, d6]; done) | (simp [c2, c3, d1, d2, d3, d4, d5, d6]; rfl) | fail) (by first | (simp; done) | fail) (fun d hd => ?_); subst hd; (try simp [c2, c3, d1, d2, d3, d4, d5, d6]))
    | (refine CallP.fun_ (h3) (by first | rfl | fail) (by first | assumption | (simp; done) | fail) (by first | (simp [c2, c3, d1, d2, d3, d4, d5, d6]; done) | (simp [c2, c3, d1, d2, d3, d4, d5, d6]; rfl) | fail) (by first | (simp; done) | fail) (fun d hd => ?_); subst hd; (try simp [c2, c3, d1, d2, d3, d4, d5, d6]))
    | (refine CallP.fun_ (h4) (by first | rfl | fail) (by first | assumption | (simp; done) | fail) (by first | (simp [c2, c3, d1, d2, d3, d4, d5, d6]; done) | (simp [c2, c3, d1, d2, d3, d4, d5, d6]; rfl) | fail) (by first | (simp; done) | fail) (fun d hd => ?_); subst hd; (try simp [c2, c3, d1, d2, d3, d4, d5, d6]))
    | fail)
    (refine EndOK.val (.inr rfl) ?_; simp [resD, oneOrTup, pureD, Try.results5])
  obtain rfl := s3.yes hr hyy
  obtain ⟨z, hz⟩ := hyy
  obtain ⟨A, rfl⟩ := Int.eq_ofNat_of_zero_le d1
  obtain ⟨B, rfl⟩ := Int.eq_ofNat_of_zero_le d3
  simp only [Int.toNat_natCast] at hi hf hbd s4
  have hAm : A < m := by omega
  have hBm : B < m := by omega
  rcases s4 with ⟨hk, rfl, rfl, rfl⟩ | ⟨hk, rfl, rfl, hDl, hS⟩
  · have hab : ¬ A = B := fun e => by
      subst e
      have := (hi.beg A (by simp [bgOne])).1
      rw [hk] at this; cases this
    have hab2 : ¬ (A : Int) = (B : Int) := by omega
    have hr5 := right_snoc (c := ⟨B, A, -d⟩) e2 (by omega) e4 (by simp only [maxN]; omega)
    obtain ⟨V5, C5, E5, s5, h5⟩ := solve_ex (l ++ [⟨B, A, -d⟩]) m (hK_of (by omega) (by simp; omega))
    obtain ⟨y, hy1, hy2⟩ := most_free hi hf hz hk d
    obtain rfl := s5.yes hr5 ⟨y, Sol.snoc.2 ⟨hy1, by simp [Con.a, Con.b]; omega⟩⟩
    simp only [consU, ints, List.map_append, List.map_cons, List.map_nil] at h1 h2 h3 h4 h5 ⊢
    clear s3 s5 hbd
    (refine Fun.of_body Try.func5 rfl (by simp) fun Γ hn => ?_); simp only [entry, List.zipIdx_cons, List.zipIdx_nil, List.map_cons, List.map_nil, Nat.zero_add, Try.ntmps5]
    repeat' (first
    | (refine H_cons ?_; simp [c2, c3, hAm, hBm, d5, d6, hab, hab2])
    | (refine H_nil ?_; simp [c2, c3, hAm, hBm, d5, d6, hab, hab2])
    | (refine ⟨by omega, ?_⟩)
    | (refine V_sseq ?_; simp [c2, c3, hAm, hBm, d5, d6, hab, hab2])
    | (refine V_scond ?_; simp [c2, c3, hAm, hBm, d5, d6, hab, hab2])
    | (refine V_ret ?_; simp only [RK_seq, RK_seq_ret, RK_seq_exit, RK_blk, RK_blk_ret, RK_blk_exit, RK_loop, RK_loop_ret, RK_loop_exit, RK_done])
    | (refine V_skip ?_; simp only [RK_seq, RK_seq_ret, RK_seq_exit, RK_blk, RK_blk_ret, RK_blk_exit, RK_loop, RK_loop_ret, RK_loop_exit, RK_done])
    | (refine ⟨?_, by omega⟩)
    | (intro hc <;> (try (exfalso; omega)))
    | (refine CallP.fun_ (h0) (by first | rfl | fail) (by first | assumption | (simp; done) | fail) (by first | (simp [c2, c3, hAm, hBm, d5, d6, hab, hab2]; done) | (simp [c2, c3, hAm, hBm, d5, d6, hab, hab2]; rfl) | fail) (by first | (simp; done) | fail) (fun d hd => ?_); subst hd; (try simp [c2, c3, hAm, hBm, d5, d6, hab, hab2]))
    | (refine CallP.fun_ (h1) (by first | rfl | fail) (by first | assumption | (simp; done) | fail) (by first | (simp [c2, c3, hAm, hBm, d5, d6, hab, hab2]; done) | (simp [c2, c3, hAm, hBm, d5, d6, hab, hab2]; rfl) | fail) (by first | (simp; done) | fail) (fun d hd => ?_); subst hd; (try simp [c2, c3, hAm, hBm, d5, d6, hab, hab2]))
    | (refine CallP.fun_ (h2) (by first | rfl | fail) (by first | assumption | (simp; done) | fail) (by first | (simp [c2, c3, hAm, hBm, d5, d6, hab, hab2]; done) | (simp [c2, c3, hAm, hBm, d5, d6, hab, hab2]; rfl) | fail) (by first | (simp; done) | fail) (fun d hd => ?_); subst hd; (try simp [c2, c3, hAm, hBm, d5, d6, hab, hab2]))
    | (refine CallP.fun_ (h3) (by first | rfl | fail) (by first | assumption | (simp; done) | fail) (by first | (simp [c2, c3, hAm, hBm, d5, d6, hab, hab2]; done) | (simp [c2, c3, hAm, hBm, d5, d6, hab, hab2]; rfl) | fail) (by first | (simp; done) | fail) (fun d hd => ?_); subst hd; (try simp [c2, c3, hAm, hBm, d5, d6, hab, hab2]))
    | (refine CallP.fun_ (h4) (by first | rfl | fail) (by first | assumption | (simp; done) | fail) (by first | (simp [c2, c3, hAm, hBm, d5, d6, hab, hab2]; done) | (simp [c2, c3, hAm, hBm, d5, d6, hab, hab2]; rfl) | fail) (by first | (simp; done) | fail) (fun d hd => ?_); subst hd; (try simp [c2, c3, hAm, hBm, d5, d6, hab, hab2]))
    | (refine CallP.funM (h5) (by first | rfl | fail) (by first | assumption | (simp; done) | fail) (by first | (simp [c2, c3, hAm, hBm, d5, d6, hab, hab2]; done) | (simp [c2, c3, hAm, hBm, d5, d6, hab, hab2]; rfl) | fail) (by first | (simp; done) | fail) (fun d hd => ?_); subst hd; (try simp [c2, c3, hAm, hBm, d5, d6, hab, hab2, maskD, scalarU]))
    | fail)
    (refine EndOK.val (.inr rfl) ?_; simp [resD, oneOrTup, pureD, Try.results5])
  have hbg := hbd A
  have hb60 := bnd_le hm40 (show l.length ≤ 66 by omega)
  have h5 := sum_fun l B D e4.smallN (by omega) (by omega)
  rw [hS] at h5
  have h6 := check_fun l m other
  have hdl : checkB l m other = true → other.length = m ∧ (valL other A - valL other B ≤ g.val A) ∧ (∀ x, -1152921504606846976 ≤ valL other x ∧ valL other x ≤ 1152921504606846976) := fun h => by
    obtain ⟨q1, q2, q3⟩ := checkB_sol h
    simp only [Int.toNat_natCast] at q2
    exact ⟨q2, diff_le hi q1 hk, q3⟩
  generalize hG : g.val A = G at *
  have hDm : D.length < m := hDl
  have hDm2 : ¬ (m : Int) ≤ (D.length : Int) := by omega
  have hDm3 : ¬ m ≤ D.length := by omega
  by_cases hrg : -1099511627776 ≤ G ∧ G < 1099511627776
  case neg =>
    simp only [consU, ints, sumD] at h1 h2 h3 h4 h5 h6 ⊢
    cases hck : checkB l m other with
    | false =>
      rw [hck] at h6
      clear s3 hbd hb60 hdl
      (refine Fun.of_body Try.func5 rfl (by simp) fun Γ hn => ?_); simp only [entry, List.zipIdx_cons, List.zipIdx_nil, List.map_cons, List.map_nil, Nat.zero_add, Try.ntmps5]
      repeat' (first
    | (refine H_cons ?_; simp [c2, c3, hAm, hBm, d5, d6, hDm2, hDm3])
    | (refine HD_cons ?_; simp [c2, c3, hAm, hBm, d5, d6, hDm2, hDm3])
    | (refine H_nil ?_; simp [c2, c3, hAm, hBm, d5, d6, hDm2, hDm3])
    | (refine ⟨by omega, ?_⟩)
    | (refine V_sseq ?_; simp [c2, c3, hAm, hBm, d5, d6, hDm2, hDm3])
    | (refine V_scond ?_; simp [c2, c3, hAm, hBm, d5, d6, hDm2, hDm3])
    | (refine HD_nil ?_)
    | (refine hk _ ?_; clear hk k; simp only [RK_seq, RK_seq_ret, RK_seq_exit, RK_blk, RK_blk_ret, RK_blk_exit, RK_loop, RK_loop_ret, RK_loop_exit, RK_done])
    | (refine V_drawV rfl (by kernel_rfl) (by kernel_rfl) fun k hk => ?_; simp [c2, c3, hAm, hBm, d5, d6, hDm2, hDm3])
    | (refine HD_guard rfl (by simp [c2, c3, hAm, hBm, d5, d6, hDm2, hDm3]) (fun hc => ?_) (fun hc => ?_) <;> (try simp [c2, c3, hAm, hBm, d5, d6, hDm2, hDm3] at hc) <;> (try (exfalso; omega)) <;> (try simp [c2, c3, hAm, hBm, d5, d6, hDm2, hDm3]))
    | (refine V_ret ?_; simp only [RK_seq, RK_seq_ret, RK_seq_exit, RK_blk, RK_blk_ret, RK_blk_exit, RK_loop, RK_loop_ret, RK_loop_exit, RK_done])
    | (refine V_skip ?_; simp only [RK_seq, RK_seq_ret, RK_seq_exit, RK_blk, RK_blk_ret, RK_blk_exit, RK_loop, RK_loop_ret, RK_loop_exit, RK_done])
    | (refine ⟨?_, by omega⟩)
    | (refine ⟨fun hc => ?_, fun hc => ?_⟩ <;> (try (exfalso; omega)))
    | (intro hc <;> (try (exfalso; omega)))
    | (refine CallP.fun_ (h0) (by first | rfl | fail) (by first | assumption | (simp; done) | fail) (by first | (simp [c2, c3, hAm, hBm, d5, d6, hDm2, hDm3]; done) | (simp [c2, c3, hAm, hBm, d5, d6, hDm2, hDm3]; rfl) | fail) (by first | (simp; done) | fail) (fun d hd => ?_); subst hd; (try simp [c2, c3, hAm, hBm, d5, d6, hDm2, hDm3]))
    | (refine CallP.fun_ (h1) (by first | rfl | fail) (by first | assumption | (simp; done) | fail) (by first | (simp [c2, c3, hAm, hBm, d5, d6, hDm2, hDm3]; done) | (simp [c2, c3, hAm, hBm, d5, d6, hDm2, hDm3]; rfl) | fail) (by first | (simp; done) | fail) (fun d hd => ?_); subst hd; (try simp [c2, c3, hAm, hBm, d5, d6, hDm2, hDm3]))
    | (refine CallP.fun_ (h2) (by first | rfl | fail) (by first | assumption | (simp; done) | fail) (by first | (simp [c2, c3, hAm, hBm, d5, d6, hDm2, hDm3]; done) | (simp [c2, c3, hAm, hBm, d5, d6, hDm2, hDm3]; rfl) | fail) (by first | (simp; done) | fail) (fun d hd => ?_); subst hd; (try simp [c2, c3, hAm, hBm, d5, d6, hDm2, hDm3]))
    | (refine CallP.fun_ (h3) (by first | rfl | fail) (by first | assumption | (simp; done) | fail) (by first | (simp [c2, c3, hAm, hBm, d5, d6, hDm2, hDm3]; done) | (simp [c2, c3, hAm, hBm, d5, d6, hDm2, hDm3]; rfl) | fail) (by first | (simp; done) | fail) (fun d hd => ?_); subst hd; (try simp [c2, c3, hAm, hBm, d5, d6, hDm2, hDm3]))
    | (refine CallP.fun_ (h4) (by first | rfl | fail) (by first | assumption | (simp; done) | fail) (by first | (simp [c2, c3, hAm, hBm, d5, d6, hDm2, hDm3]; done) | (simp [c2, c3, hAm, hBm, d5, d6, hDm2, hDm3]; rfl) | fail) (by first | (simp; done) | fail) (fun d hd => ?_); subst hd; (try simp [c2, c3, hAm, hBm, d5, d6, hDm2, hDm3]))
    | (refine CallP.fun_ (h5) (by first | rfl | fail) (by first | assumption | (simp; done) | fail) (by first | (simp [c2, c3, hAm, hBm, d5, d6, hDm2, hDm3]; done) | (simp [c2, c3, hAm, hBm, d5, d6, hDm2, hDm3]; rfl) | fail) (by first | (simp; done) | fail) (fun d hd => ?_); subst hd; (try simp [c2, c3, hAm, hBm, d5, d6, hDm2, hDm3]))
    | (refine CallV.fun_ (h6) (by first | rfl | fail) (by first | assumption | (simp; done) | fail) (by first | (simp [c2, c3, hAm, hBm, d5, d6, hDm2, hDm3]; done) | (simp [c2, c3, hAm, hBm, d5, d6, hDm2, hDm3]; rfl) | fail) (by first | (simp; done) | fail) ?_ <;> (try simp [c2, c3, hAm, hBm, d5, d6, hDm2, hDm3]))
    | fail)
      all_goals first
        | ((refine EndOK.val (.inr rfl) ?_; simp [resD, oneOrTup, pureD, Try.results5]); done)
        | (exfalso; omega)
    | true =>
      rw [hck] at h6
      obtain ⟨w1, w2, w3⟩ := hdl hck
      have w4 := valL_at (vs := other) (x := A) (by omega)
      have w5 := valL_at (vs := other) (x := B) (by omega)
      have w6 := w3 A
      have w7 := w3 B
      have w8 : ¬ G < valL other A - valL other B := by omega
      clear s3 hbd hb60 hdl
      (refine Fun.of_body Try.func5 rfl (by simp) fun Γ hn => ?_); simp only [entry, List.zipIdx_cons, List.zipIdx_nil, List.map_cons, List.map_nil, Nat.zero_add, Try.ntmps5]
      repeat' (first
    | (refine H_cons ?_; simp [c2, c3, hAm, hBm, d5, d6, hDm2, hDm3, w4, w5, w8])
    | (refine HD_cons ?_; simp [c2, c3, hAm, hBm, d5, d6, hDm2, hDm3, w4, w5, w8])
    | (refine H_nil ?_; simp [c2, c3, hAm, hBm, d5, d6, hDm2, hDm3, w4, w5, w8])
    | (refine ⟨by omega, ?_⟩)
    | (refine V_sseq ?_; simp [c2, c3, hAm, hBm, d5, d6, hDm2, hDm3, w4, w5, w8])
    | (refine V_scond ?_; simp [c2, c3, hAm, hBm, d5, d6, hDm2, hDm3, w4, w5, w8])
    | (refine HD_nil ?_)
    | (refine hk _ ?_; clear hk k; simp only [RK_seq, RK_seq_ret, RK_seq_exit, RK_blk, RK_blk_ret, RK_blk_exit, RK_loop, RK_loop_ret, RK_loop_exit, RK_done])
    | (refine V_drawV rfl (by kernel_rfl) (by kernel_rfl) fun k hk => ?_; simp [c2, c3, hAm, hBm, d5, d6, hDm2, hDm3, w4, w5, w8])
    | (refine HD_guard rfl (by simp [c2, c3, hAm, hBm, d5, d6, hDm2, hDm3, w4, w5, w8]) (fun hc => ?_) (fun hc => ?_) <;> (try simp [c2, c3, hAm, hBm, d5, d6, hDm2, hDm3, w4, w5, w8] at hc) <;> (try (exfalso; omega)) <;> (try simp [c2, c3, hAm, hBm, d5, d6, hDm2, hDm3, w4, w5, w8]))
    | (refine V_ret ?_; simp only [RK_seq, RK_seq_ret, RK_seq_exit, RK_blk, RK_blk_ret, RK_blk_exit, RK_loop, RK_loop_ret, RK_loop_exit, RK_done])
    | (refine V_skip ?_; simp only [RK_seq, RK_seq_ret, RK_seq_exit, RK_blk, RK_blk_ret, RK_blk_exit, RK_loop, RK_loop_ret, RK_loop_exit, RK_done])
    | (refine ⟨?_, by omega⟩)
    | (refine ⟨fun hc => ?_, fun hc => ?_⟩ <;> (try (exfalso; omega)))
    | (intro hc <;> (try (exfalso; omega)))
    | (refine CallP.fun_ (h0) (by first | rfl | fail) (by first | assumption | (simp; done) | fail) (by first | (simp [c2, c3, hAm, hBm, d5, d6, hDm2, hDm3, w4, w5, w8]; done) | (simp [c2, c3, hAm, hBm, d5, d6, hDm2, hDm3, w4, w5, w8]; rfl) | fail) (by first | (simp; done) | fail) (fun d hd => ?_); subst hd; (try simp [c2, c3, hAm, hBm, d5, d6, hDm2, hDm3, w4, w5, w8]))
    | (refine CallP.fun_ (h1) (by first | rfl | fail) (by first | assumption | (simp; done) | fail) (by first | (simp [c2, c3, hAm, hBm, d5, d6, hDm2, hDm3, w4, w5, w8]; done) | (simp [c2, c3, hAm, hBm, d5, d6, hDm2, hDm3, w4, w5, w8]; rfl) | fail) (by first | (simp; done) | fail) (fun d hd => ?_); subst hd; (try simp [c2, c3, hAm, hBm, d5, d6, hDm2, hDm3, w4, w5, w8]))
    | (refine CallP.fun_ (h2) (by first | rfl | fail) (by first | assumption | (simp; done) | fail) (by first | (simp [c2, c3, hAm, hBm, d5, d6, hDm2, hDm3, w4, w5, w8]; done) | (simp [c2, c3, hAm, hBm, d5, d6, hDm2, hDm3, w4, w5, w8]; rfl) | fail) (by first | (simp; done) | fail) (fun d hd => ?_); subst hd; (try simp [c2, c3, hAm, hBm, d5, d6, hDm2, hDm3, w4, w5, w8]))
    | (refine CallP.fun_ (h3) (by first | rfl | fail) (by first | assumption | (simp; done) | fail) (by first | (simp [c2, c3, hAm, hBm, d5, d6, hDm2, hDm3, w4, w5, w8]; done) | (simp [c2, c3, hAm, hBm, d5, d6, hDm2, hDm3, w4, w5, w8]; rfl) | fail) (by first | (simp; done) | fail) (fun d hd => ?_); subst hd; (try simp [c2, c3, hAm, hBm, d5, d6, hDm2, hDm3, w4, w5, w8]))
    | (refine CallP.fun_ (h4) (by first | rfl | fail) (by first | assumption | (simp; done) | fail) (by first | (simp [c2, c3, hAm, hBm, d5, d6, hDm2, hDm3, w4, w5, w8]; done) | (simp [c2, c3, hAm, hBm, d5, d6, hDm2, hDm3, w4, w5, w8]; rfl) | fail) (by first | (simp; done) | fail) (fun d hd => ?_); subst hd; (try simp [c2, c3, hAm, hBm, d5, d6, hDm2, hDm3, w4, w5, w8]))
    | (refine CallP.fun_ (h5) (by first | rfl | fail) (by first | assumption | (simp; done) | fail) (by first | (simp [c2, c3, hAm, hBm, d5, d6, hDm2, hDm3, w4, w5, w8]; done) | (simp [c2, c3, hAm, hBm, d5, d6, hDm2, hDm3, w4, w5, w8]; rfl) | fail) (by first | (simp; done) | fail) (fun d hd => ?_); subst hd; (try simp [c2, c3, hAm, hBm, d5, d6, hDm2, hDm3, w4, w5, w8]))
    | (refine CallV.fun_ (h6) (by first | rfl | fail) (by first | assumption | (simp; done) | fail) (by first | (simp [c2, c3, hAm, hBm, d5, d6, hDm2, hDm3, w4, w5, w8]; done) | (simp [c2, c3, hAm, hBm, d5, d6, hDm2, hDm3, w4, w5, w8]; rfl) | fail) (by first | (simp; done) | fail) ?_ <;> (try simp [c2, c3, hAm, hBm, d5, d6, hDm2, hDm3, w4, w5, w8]))
    | fail)
      all_goals first
        | ((refine EndOK.val (.inr rfl) ?_; simp [resD, oneOrTup, pureD, Try.results5]); done)
        | (exfalso; omega)
  obtain ⟨g1, g2⟩ := hrg
  have g3 : ¬ G < -1099511627776 := by omega
  have g4 : ¬ 1099511627776 ≤ G := by omega
  have hr7 := right_snoc (c := ⟨B, A, -G⟩) e2 (by omega) e4 (by simp only [maxN]; omega)
  obtain ⟨V7, C7, E7, s7, h7⟩ := solve_ex (l ++ [⟨B, A, -G⟩]) m (hK_of (by omega) (by simp; omega))
  obtain ⟨y, hy1, hy2⟩ := most_met hi hf hz hk
  rw [hG] at hy2
  obtain rfl := s7.yes hr7 ⟨y, Sol.snoc.2 ⟨hy1, by simp [Con.a, Con.b]; omega⟩⟩
  have hr8 := right_snoc (c := ⟨B, A, -G - 1⟩) e2 (by omega) e4 (by simp only [maxN]; omega)
  obtain ⟨V8, C8, E8, s8, h8⟩ := solve_ex (l ++ [⟨B, A, -G - 1⟩]) m (hK_of (by omega) (by simp; omega))
  obtain rfl := s8.no hr8 (fun ⟨y, hy⟩ => by
    have h9 := Sol.snoc.1 hy
    have h10 := diff_le hi h9.1 hk
    have h11 := h9.2
    simp only [Con.a, Con.b, Int.toNat_natCast] at h11
    omega)
  simp only [consU, ints, sumD, List.map_append, List.map_cons, List.map_nil] at h1 h2 h3 h4 h5 h6 h7 h8 ⊢
  cases hck : checkB l m other with
  | false =>
    rw [hck] at h6
    clear s3 s7 s8 hbd hb60 hdl hy1 hy2
    (refine Fun.of_body Try.func5 rfl (by simp) fun Γ hn => ?_); simp only [entry, List.zipIdx_cons, List.zipIdx_nil, List.map_cons, List.map_nil, Nat.zero_add, Try.ntmps5]
    repeat' (first
    | (refine H_cons ?_; simp [c2, c3, hAm, hBm, d5, d6, hDm2, hDm3, g3, g4])
    | (refine HD_cons ?_; simp [c2, c3, hAm, hBm, d5, d6, hDm2, hDm3, g3, g4])
    | (refine H_nil ?_; simp [c2, c3, hAm, hBm, d5, d6, hDm2, hDm3, g3, g4])
    | (refine ⟨by omega, ?_⟩)
    | (refine V_sseq ?_; simp [c2, c3, hAm, hBm, d5, d6, hDm2, hDm3, g3, g4])
    | (refine V_scond ?_; simp [c2, c3, hAm, hBm, d5, d6, hDm2, hDm3, g3, g4])
    | (refine HD_nil ?_)
    | (refine hk _ ?_; clear hk k; simp only [RK_seq, RK_seq_ret, RK_seq_exit, RK_blk, RK_blk_ret, RK_blk_exit, RK_loop, RK_loop_ret, RK_loop_exit, RK_done])
    | (refine V_drawV rfl (by kernel_rfl) (by kernel_rfl) fun k hk => ?_; simp [c2, c3, hAm, hBm, d5, d6, hDm2, hDm3, g3, g4])
    | (refine HD_guard rfl (by simp [c2, c3, hAm, hBm, d5, d6, hDm2, hDm3, g3, g4]) (fun hc => ?_) (fun hc => ?_) <;> (try simp [c2, c3, hAm, hBm, d5, d6, hDm2, hDm3, g3, g4] at hc) <;> (try (exfalso; omega)) <;> (try simp [c2, c3, hAm, hBm, d5, d6, hDm2, hDm3, g3, g4]))
    | (refine V_ret ?_; simp only [RK_seq, RK_seq_ret, RK_seq_exit, RK_blk, RK_blk_ret, RK_blk_exit, RK_loop, RK_loop_ret, RK_loop_exit, RK_done])
    | (refine V_skip ?_; simp only [RK_seq, RK_seq_ret, RK_seq_exit, RK_blk, RK_blk_ret, RK_blk_exit, RK_loop, RK_loop_ret, RK_loop_exit, RK_done])
    | (refine ⟨?_, by omega⟩)
    | (intro hc <;> (try (exfalso; omega)))
    | (refine CallP.fun_ (h0) (by first | rfl | fail) (by first | assumption | (simp; done) | fail) (by first | (simp [c2, c3, hAm, hBm, d5, d6, hDm2, hDm3, g3, g4]; done) | (simp [c2, c3, hAm, hBm, d5, d6, hDm2, hDm3, g3, g4]; rfl) | fail) (by first | (simp; done) | fail) (fun d hd => ?_); subst hd; (try simp [c2, c3, hAm, hBm, d5, d6, hDm2, hDm3, g3, g4]))
    | (refine CallP.fun_ (h1) (by first | rfl | fail) (by first | assumption | (simp; done) | fail) (by first | (simp [c2, c3, hAm, hBm, d5, d6, hDm2, hDm3, g3, g4]; done) | (simp [c2, c3, hAm, hBm, d5, d6, hDm2, hDm3, g3, g4]; rfl) | fail) (by first | (simp; done) | fail) (fun d hd => ?_); subst hd; (try simp [c2, c3, hAm, hBm, d5, d6, hDm2, hDm3, g3, g4]))
    | (refine CallP.fun_ (h2) (by first | rfl | fail) (by first | assumption | (simp; done) | fail) (by first | (simp [c2, c3, hAm, hBm, d5, d6, hDm2, hDm3, g3, g4]; done) | (simp [c2, c3, hAm, hBm, d5, d6, hDm2, hDm3, g3, g4]; rfl) | fail) (by first | (simp; done) | fail) (fun d hd => ?_); subst hd; (try simp [c2, c3, hAm, hBm, d5, d6, hDm2, hDm3, g3, g4]))
    | (refine CallP.fun_ (h3) (by first | rfl | fail) (by first | assumption | (simp; done) | fail) (by first | (simp [c2, c3, hAm, hBm, d5, d6, hDm2, hDm3, g3, g4]; done) | (simp [c2, c3, hAm, hBm, d5, d6, hDm2, hDm3, g3, g4]; rfl) | fail) (by first | (simp; done) | fail) (fun d hd => ?_); subst hd; (try simp [c2, c3, hAm, hBm, d5, d6, hDm2, hDm3, g3, g4]))
    | (refine CallP.fun_ (h4) (by first | rfl | fail) (by first | assumption | (simp; done) | fail) (by first | (simp [c2, c3, hAm, hBm, d5, d6, hDm2, hDm3, g3, g4]; done) | (simp [c2, c3, hAm, hBm, d5, d6, hDm2, hDm3, g3, g4]; rfl) | fail) (by first | (simp; done) | fail) (fun d hd => ?_); subst hd; (try simp [c2, c3, hAm, hBm, d5, d6, hDm2, hDm3, g3, g4]))
    | (refine CallP.fun_ (h5) (by first | rfl | fail) (by first | assumption | (simp; done) | fail) (by first | (simp [c2, c3, hAm, hBm, d5, d6, hDm2, hDm3, g3, g4]; done) | (simp [c2, c3, hAm, hBm, d5, d6, hDm2, hDm3, g3, g4]; rfl) | fail) (by first | (simp; done) | fail) (fun d hd => ?_); subst hd; (try simp [c2, c3, hAm, hBm, d5, d6, hDm2, hDm3, g3, g4]))
    | (refine CallV.fun_ (h6) (by first | rfl | fail) (by first | assumption | (simp; done) | fail) (by first | (simp [c2, c3, hAm, hBm, d5, d6, hDm2, hDm3, g3, g4]; done) | (simp [c2, c3, hAm, hBm, d5, d6, hDm2, hDm3, g3, g4]; rfl) | fail) (by first | (simp; done) | fail) ?_ <;> (try simp [c2, c3, hAm, hBm, d5, d6, hDm2, hDm3, g3, g4]))
    | (refine CallP.funM (h7) (by first | rfl | fail) (by first | assumption | (simp; done) | fail) (by first | (simp [c2, c3, hAm, hBm, d5, d6, hDm2, hDm3, g3, g4]; done) | (simp [c2, c3, hAm, hBm, d5, d6, hDm2, hDm3, g3, g4]; rfl) | fail) (by first | (simp; done) | fail) (fun d hd => ?_); subst hd; (try simp [c2, c3, hAm, hBm, d5, d6, hDm2, hDm3, g3, g4, maskD, scalarU]))
    | (refine CallP.funM (h8) (by first | rfl | fail) (by first | assumption | (simp; done) | fail) (by first | (simp [c2, c3, hAm, hBm, d5, d6, hDm2, hDm3, g3, g4]; done) | (simp [c2, c3, hAm, hBm, d5, d6, hDm2, hDm3, g3, g4]; rfl) | fail) (by first | (simp; done) | fail) (fun d hd => ?_); subst hd; (try simp [c2, c3, hAm, hBm, d5, d6, hDm2, hDm3, g3, g4, maskD, scalarU]))
    | fail)
    (refine EndOK.val (.inr rfl) ?_; simp [resD, oneOrTup, pureD, Try.results5])
  | true =>
    rw [hck] at h6
    obtain ⟨w1, w2, w3⟩ := hdl hck
    have w4 := valL_at (vs := other) (x := A) (by omega)
    have w5 := valL_at (vs := other) (x := B) (by omega)
    have w6 := w3 A
    have w7 := w3 B
    have w8 : ¬ G < valL other A - valL other B := by omega
    clear s3 s7 s8 hbd hb60 hdl hy1 hy2
    (refine Fun.of_body Try.func5 rfl (by simp) fun Γ hn => ?_); simp only [entry, List.zipIdx_cons, List.zipIdx_nil, List.map_cons, List.map_nil, Nat.zero_add, Try.ntmps5]
    repeat' (first
    | (refine H_cons ?_; simp [c2, c3, hAm, hBm, d5, d6, hDm2, hDm3, g3, g4, w4, w5, w8])
    | (refine HD_cons ?_; simp [c2, c3, hAm, hBm, d5, d6, hDm2, hDm3, g3, g4, w4, w5, w8])
    | (refine H_nil ?_; simp [c2, c3, hAm, hBm, d5, d6, hDm2, hDm3, g3, g4, w4, w5, w8])
    | (refine ⟨by omega, ?_⟩)
    | (refine V_sseq ?_; simp [c2, c3, hAm, hBm, d5, d6, hDm2, hDm3, g3, g4, w4, w5, w8])
    | (refine V_scond ?_; simp [c2, c3, hAm, hBm, d5, d6, hDm2, hDm3, g3, g4, w4, w5, w8])
    | (refine HD_nil ?_)
    | (refine hk _ ?_; clear hk k; simp only [RK_seq, RK_seq_ret, RK_seq_exit, RK_blk, RK_blk_ret, RK_blk_exit, RK_loop, RK_loop_ret, RK_loop_exit, RK_done])
    | (refine V_drawV rfl (by kernel_rfl) (by kernel_rfl) fun k hk => ?_; simp [c2, c3, hAm, hBm, d5, d6, hDm2, hDm3, g3, g4, w4, w5, w8])
    | (refine HD_guard rfl (by simp [c2, c3, hAm, hBm, d5, d6, hDm2, hDm3, g3, g4, w4, w5, w8]) (fun hc => ?_) (fun hc => ?_) <;> (try simp [c2, c3, hAm, hBm, d5, d6, hDm2, hDm3, g3, g4, w4, w5, w8] at hc) <;> (try (exfalso; omega)) <;> (try simp [c2, c3, hAm, hBm, d5, d6, hDm2, hDm3, g3, g4, w4, w5, w8]))
    | (refine V_ret ?_; simp only [RK_seq, RK_seq_ret, RK_seq_exit, RK_blk, RK_blk_ret, RK_blk_exit, RK_loop, RK_loop_ret, RK_loop_exit, RK_done])
    | (refine V_skip ?_; simp only [RK_seq, RK_seq_ret, RK_seq_exit, RK_blk, RK_blk_ret, RK_blk_exit, RK_loop, RK_loop_ret, RK_loop_exit, RK_done])
    | (refine ⟨?_, by omega⟩)
    | (intro hc <;> (try (exfalso; omega)))
    | (refine CallP.fun_ (h0) (by first | rfl | fail) (by first | assumption | (simp; done) | fail) (by first | (simp [c2, c3, hAm, hBm, d5, d6, hDm2, hDm3, g3, g4, w4, w5, w8]; done) | (simp [c2, c3, hAm, hBm, d5, d6, hDm2, hDm3, g3, g4, w4, w5, w8]; rfl) | fail) (by first | (simp; done) | fail) (fun d hd => ?_); subst hd; (try simp [c2, c3, hAm, hBm, d5, d6, hDm2, hDm3, g3, g4, w4, w5, w8]))
    | (refine CallP.fun_ (h1) (by first | rfl | fail) (by first | assumption | (simp; done) | fail) (by first | (simp [c2, c3, hAm, hBm, d5, d6, hDm2, hDm3, g3, g4, w4, w5, w8]; done) | (simp [c2, c3, hAm, hBm, d5, d6, hDm2, hDm3, g3, g4, w4, w5, w8]; rfl) | fail) (by first | (simp; done) | fail) (fun d hd => ?_); subst hd; (try simp [c2, c3, hAm, hBm, d5, d6, hDm2, hDm3, g3, g4, w4, w5, w8]))
    | (refine CallP.fun_ (h2) (by first | rfl | fail) (by first | assumption | (simp; done) | fail) (by first | (simp [c2, c3, hAm, hBm, d5, d6, hDm2, hDm3, g3, g4, w4, w5, w8]; done) | (simp [c2, c3, hAm, hBm, d5, d6, hDm2, hDm3, g3, g4, w4, w5, w8]; rfl) | fail) (by first | (simp; done) | fail) (fun d hd => ?_); subst hd; (try simp [c2, c3, hAm, hBm, d5, d6, hDm2, hDm3, g3, g4, w4, w5, w8]))
    | (refine CallP.fun_ (h3) (by first | rfl | fail) (by first | assumption | (simp; done) | fail) (by first | (simp [c2, c3, hAm, hBm, d5, d6, hDm2, hDm3, g3, g4, w4, w5, w8]; done) | (simp [c2, c3, hAm, hBm, d5, d6, hDm2, hDm3, g3, g4, w4, w5, w8]; rfl) | fail) (by first | (simp; done) | fail) (fun d hd => ?_); subst hd; (try simp [c2, c3, hAm, hBm, d5, d6, hDm2, hDm3, g3, g4, w4, w5, w8]))
    | (refine CallP.fun_ (h4) (by first | rfl | fail) (by first | assumption | (simp; done) | fail) (by first | (simp [c2, c3, hAm, hBm, d5, d6, hDm2, hDm3, g3, g4, w4, w5, w8]; done) | (simp [c2, c3, hAm, hBm, d5, d6, hDm2, hDm3, g3, g4, w4, w5, w8]; rfl) | fail) (by first | (simp; done) | fail) (fun d hd => ?_); subst hd; (try simp [c2, c3, hAm, hBm, d5, d6, hDm2, hDm3, g3, g4, w4, w5, w8]))
    | (refine CallP.fun_ (h5) (by first | rfl | fail) (by first | assumption | (simp; done) | fail) (by first | (simp [c2, c3, hAm, hBm, d5, d6, hDm2, hDm3, g3, g4, w4, w5, w8]; done) | (simp [c2, c3, hAm, hBm, d5, d6, hDm2, hDm3, g3, g4, w4, w5, w8]; rfl) | fail) (by first | (simp; done) | fail) (fun d hd => ?_); subst hd; (try simp [c2, c3, hAm, hBm, d5, d6, hDm2, hDm3, g3, g4, w4, w5, w8]))
    | (refine CallV.fun_ (h6) (by first | rfl | fail) (by first | assumption | (simp; done) | fail) (by first | (simp [c2, c3, hAm, hBm, d5, d6, hDm2, hDm3, g3, g4, w4, w5, w8]; done) | (simp [c2, c3, hAm, hBm, d5, d6, hDm2, hDm3, g3, g4, w4, w5, w8]; rfl) | fail) (by first | (simp; done) | fail) ?_ <;> (try simp [c2, c3, hAm, hBm, d5, d6, hDm2, hDm3, g3, g4, w4, w5, w8]))
    | (refine CallP.funM (h7) (by first | rfl | fail) (by first | assumption | (simp; done) | fail) (by first | (simp [c2, c3, hAm, hBm, d5, d6, hDm2, hDm3, g3, g4, w4, w5, w8]; done) | (simp [c2, c3, hAm, hBm, d5, d6, hDm2, hDm3, g3, g4, w4, w5, w8]; rfl) | fail) (by first | (simp; done) | fail) (fun d hd => ?_); subst hd; (try simp [c2, c3, hAm, hBm, d5, d6, hDm2, hDm3, g3, g4, w4, w5, w8, maskD, scalarU]))
    | (refine CallP.funM (h8) (by first | rfl | fail) (by first | assumption | (simp; done) | fail) (by first | (simp [c2, c3, hAm, hBm, d5, d6, hDm2, hDm3, g3, g4, w4, w5, w8]; done) | (simp [c2, c3, hAm, hBm, d5, d6, hDm2, hDm3, g3, g4, w4, w5, w8]; rfl) | fail) (by first | (simp; done) | fail) (fun d hd => ?_); subst hd; (try simp [c2, c3, hAm, hBm, d5, d6, hDm2, hDm3, g3, g4, w4, w5, w8, maskD, scalarU]))
    | fail)
    (refine EndOK.val (.inr rfl) ?_; simp [resD, oneOrTup, pureD, Try.results5])
end Go.Proofs.Ytdkadmchdocjbaa
