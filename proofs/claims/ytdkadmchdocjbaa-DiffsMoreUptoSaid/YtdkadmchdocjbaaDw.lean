/- Layer 13: what is told: the walk (the examples are given). -/
import Derived.Test.YtdkadmchdocjbaaDt
import Derived.Test.YtdkadmchdocjbaaDu
import Derived.Test.YtdkadmchdocjbaaDv
import Derived.Test.YtdkadmchdocjbaaDj
set_option linter.all false
set_option maxRecDepth 100000
set_option maxHeartbeats 8000000
set_option linter.all false
namespace Go.Proofs.Ytdkadmchdocjbaa
open Go Go.VL
theorem SolveSpec.len {l : List Con} {n : Int} {V C : List Int} {E : Int} (h : SolveSpec l n V C E) : V.length ≤ 200 := by
  rcases h with ⟨_, rfl, _, _⟩ | ⟨hr, ⟨_, _, _, rfl, _, _⟩ | ⟨_, rfl, _, _⟩⟩
  · simp
  · have := (rightL_out hr).2.1
    simp [lst_len, this]
  · simp
theorem hK_of {l : List Con} {n : Int} (hn : n ≤ 210) (hl : l.length ≤ 66) : (n.toNat + 1) * (n.toNat * l.length) ≤ 3000000 := by
  have h1 : n.toNat ≤ 210 := by omega
  have h2 : n.toNat * l.length ≤ 210 * 66 := Nat.mul_le_mul h1 hl
  have h3 : (n.toNat + 1) * (n.toNat * l.length) ≤ 211 * (210 * 66) := Nat.mul_le_mul (by omega) h2
  omega
attribute [local simp] hcons hstep evPure opd uOf putOK St.put St.at getK binD binI binS binB nilD aggD eqUs cmpK lookD lookR rangeD Go.VL.nextD entryD keyD valU keyU lookK mkV entD_nil lookK_entD updK_entD1 updK_entD2 updK_entD3 allUE allUE_entD makeMapD mapUpdD mapEff updK valM Key.kk shiftI arith unD convD pickD loadD cellsAt fieldAddrD fieldD indexAddrD indexD sliceD cutD lenD minmaxD nilCheckD buildD fillD cellsD isOne ones setAll mkAgg allU allocD boxD storeD St.add buildSliceD appendD rowsOf makeD setOb getK_setOb getK_del getK_cons stripL strip guardTmp entry chunks zcells valD argsV argsW argW argU1 argU0 argsU0 argsU1 calleeOf scalarD scalarU delAll effD St.effS RK_seq RK_seq_ret RK_seq_exit RK_blk RK_blk_ret RK_blk_exit RK_loop RK_loop_ret RK_loop_exit RK_done vs_seq vs_block vs_skip vs_label vs_exit vs_ret vs_cond vs_region vs_loop vs_draw vs_range vs_scope applyW mkD rdIds lentIds callOf calleeOf freeOp D.ids Op.operands Call.operands isEffOp makeIfD typeAssertD conc concs conc1 uOfV panicD IntKind.bits allU2 allU2_append List.take_of_length_le List.range_succ
attribute [local irreducible] V G H HD HD2 RunK Eff CallP CallV EndOK Fun Ret FinOK LoopI LoopW EndW
theorem tells_fun (h0 : Fun Try.prog 7 [] (· = .u (.bool true))) (l : List Con) (n : Int) (values cycle : List Int) (a b : Int) : Fun Try.prog 3 [.u (consU l), .u (.int .i64 n), .u (ints values), .u (ints cycle), .u (.int .i64 a), .u (.int .i64 b)] (· = .u (.bool true)) := by
  have h1 := few_fun l 60
  by_cases hc : l.length ≤ 60 ∧ n ≤ 210 ∧ values.length ≤ 210 ∧ cycle.length ≤ 60
  · obtain ⟨c1, c2, c3, c4⟩ := hc
    have hK := hK_of c2 (show l.length ≤ 66 by omega)
    obtain ⟨V, C, E, s2, h2⟩ := solve_ex l n hK
    obtain ⟨V', C', E', s3, h3⟩ := rsolve_ex l n
    obtain ⟨M, D, F, s4, h4⟩ := most_ex l n a b hK
    obtain ⟨M', D', F', s5, h5⟩ := rmost_ex l n a b
    obtain ⟨rfl, rfl⟩ := s2.one s3 (fun _ => Iff.rfl) rfl
    obtain ⟨rfl, rfl⟩ := s4.one s5
    have h6 := rsame_fun V V (by have := s2.len; omega)
    have h7 := right_fun l n
    have h8 := rright_fun l n
    have h9 := check_fun l n values
    have h10 := rcheck_fun l n values
    have h11 := refute_fun l n cycle
    have h12 := rrefute_fun l n cycle
    have c1' : (l.length : Int) ≤ 60 := by omega
    simp only [c1', decide_true] at h1 h6
    generalize rightL l n = x1 at h7 h8
    generalize checkB l n values = x2 at h9 h10
    generalize refuteB l n cycle = x3 at h11 h12
    simp only [consU, ints] at h1 h2 h3 h4 h5 h6 h7 h8 h9 h10 h11 h12
    simp only [consU, ints]
    clear s2 s3 s4 s5 hK
    (refine Fun.of_body Try.func3 rfl (by simp) fun Γ hn => ?_); simp only [entry, List.zipIdx_cons, List.zipIdx_nil, List.map_cons, List.map_nil, Nat.zero_add, Try.ntmps3]
    repeat' (first
    | (refine H_cons ?_; simp [c2, c3, c4])
    | (refine H_nil ?_; simp [c2, c3, c4])
    | (refine ⟨by omega, ?_⟩)
    | (refine V_sseq ?_; simp [c2, c3, c4])
    | (refine V_scond ?_; simp [c2, c3, c4])
    | (refine V_ret ?_; simp only [RK_seq, RK_seq_ret, RK_seq_exit, RK_blk, RK_blk_ret, RK_blk_exit, RK_loop, RK_loop_ret, RK_loop_exit, RK_done])
    | (refine V_skip ?_; simp only [RK_seq, RK_seq_ret, RK_seq_exit, RK_blk, RK_blk_ret, RK_blk_exit, RK_loop, RK_loop_ret, RK_loop_exit, RK_done])
    | (refine ⟨?_, by omega⟩)
    | (intro hc <;> (try (exfalso; omega)))
    | (refine CallP.fun_ (h0) (by first | rfl | fail) (by first | assumption | (simp; done) | fail) (by first | (simp [c2, c3, c4]; done) | (simp [c2, c3, c4]; rfl) | fail) (by first | (simp; done) | fail) (fun d hd => ?_); subst hd; (try simp [c2, c3, c4]))
    | (refine CallP.fun_ (h1) (by first | rfl | fail) (by first | assumption | (simp; done) | fail) (by first | (simp [c2, c3, c4]; done) | (simp [c2, c3, c4]; rfl) | fail) (by first | (simp; done) | fail) (fun d hd => ?_); subst hd; (try simp [c2, c3, c4]))
    | (refine CallP.fun_ (h2) (by first | rfl | fail) (by first | assumption | (simp; done) | fail) (by first | (simp [c2, c3, c4]; done) | (simp [c2, c3, c4]; rfl) | fail) (by first | (simp; done) | fail) (fun d hd => ?_); subst hd; (try simp [c2, c3, c4]))
    | (refine CallP.fun_ (h3) (by first | rfl | fail) (by first | assumption | (simp; done) | fail) (by first | (simp [c2, c3, c4]; done) | (simp [c2, c3, c4]; rfl) | fail) (by first | (simp; done) | fail) (fun d hd => ?_); subst hd; (try simp [c2, c3, c4]))
    | (refine CallP.fun_ (h4) (by first | rfl | fail) (by first | assumption | (simp; done) | fail) (by first | (simp [c2, c3, c4]; done) | (simp [c2, c3, c4]; rfl) | fail) (by first | (simp; done) | fail) (fun d hd => ?_); subst hd; (try simp [c2, c3, c4]))
    | (refine CallP.fun_ (h5) (by first | rfl | fail) (by first | assumption | (simp; done) | fail) (by first | (simp [c2, c3, c4]; done) | (simp [c2, c3, c4]; rfl) | fail) (by first | (simp; done) | fail) (fun d hd => ?_); subst hd; (try simp [c2, c3, c4]))
    | (refine CallP.fun_ (h6) (by first | rfl | fail) (by first | assumption | (simp; done) | fail) (by first | (simp [c2, c3, c4]; done) | (simp [c2, c3, c4]; rfl) | fail) (by first | (simp; done) | fail) (fun d hd => ?_); subst hd; (try simp [c2, c3, c4]))
    | (refine CallP.fun_ (h7) (by first | rfl | fail) (by first | assumption | (simp; done) | fail) (by first | (simp [c2, c3, c4]; done) | (simp [c2, c3, c4]; rfl) | fail) (by first | (simp; done) | fail) (fun d hd => ?_); subst hd; (try simp [c2, c3, c4]))
    | (refine CallP.fun_ (h8) (by first | rfl | fail) (by first | assumption | (simp; done) | fail) (by first | (simp [c2, c3, c4]; done) | (simp [c2, c3, c4]; rfl) | fail) (by first | (simp; done) | fail) (fun d hd => ?_); subst hd; (try simp [c2, c3, c4]))
    | (refine CallP.fun_ (h9) (by first | rfl | fail) (by first | assumption | (simp; done) | fail) (by first | (simp [c2, c3, c4]; done) | (simp [c2, c3, c4]; rfl) | fail) (by first | (simp; done) | fail) (fun d hd => ?_); subst hd; (try simp [c2, c3, c4]))
    | (refine CallP.fun_ (h10) (by first | rfl | fail) (by first | assumption | (simp; done) | fail) (by first | (simp [c2, c3, c4]; done) | (simp [c2, c3, c4]; rfl) | fail) (by first | (simp; done) | fail) (fun d hd => ?_); subst hd; (try simp [c2, c3, c4]))
    | (refine CallP.fun_ (h11) (by first | rfl | fail) (by first | assumption | (simp; done) | fail) (by first | (simp [c2, c3, c4]; done) | (simp [c2, c3, c4]; rfl) | fail) (by first | (simp; done) | fail) (fun d hd => ?_); subst hd; (try simp [c2, c3, c4]))
    | (refine CallP.fun_ (h12) (by first | rfl | fail) (by first | assumption | (simp; done) | fail) (by first | (simp [c2, c3, c4]; done) | (simp [c2, c3, c4]; rfl) | fail) (by first | (simp; done) | fail) (fun d hd => ?_); subst hd; (try simp [c2, c3, c4]))
    | fail)
    all_goals
      (refine EndOK.val (.inr rfl) ?_; simp [resD, oneOrTup, pureD, Try.results3])
  · have hb : ∀ x, (l.length : Int) ≤ 60 ↔ l.length ≤ 60 := fun _ => by omega
    simp only [consU, ints] at h1 ⊢
    by_cases c1 : l.length ≤ 60
    · have c1' : (l.length : Int) ≤ 60 := by omega
      simp only [c1', decide_true] at h1
      by_cases c2 : n ≤ 210
      · by_cases c3 : values.length ≤ 210
        · have c4 : ¬ cycle.length ≤ 60 := fun h => hc ⟨c1, c2, c3, h⟩
          (refine Fun.of_body Try.func3 rfl (by simp) fun Γ hn => ?_); simp only [entry, List.zipIdx_cons, List.zipIdx_nil, List.map_cons, List.map_nil, Nat.zero_add, Try.ntmps3]
          repeat' (first
    | (refine H_cons ?_; simp [c2, c3, c4])
    | (refine H_nil ?_; simp [c2, c3, c4])
    | (refine V_sseq ?_; simp [c2, c3, c4])
    | (refine V_scond ?_; simp [c2, c3, c4])
    | (refine V_ret ?_; simp only [RK_seq, RK_seq_ret, RK_seq_exit, RK_blk, RK_blk_ret, RK_blk_exit, RK_loop, RK_loop_ret, RK_loop_exit, RK_done])
    | (refine ⟨?_, by omega⟩)
    | (intro hc <;> (try (exfalso; omega)))
    | (refine CallP.fun_ (h0) (by first | rfl | fail) (by first | assumption | (simp; done) | fail) (by first | (simp [c2, c3, c4]; done) | (simp [c2, c3, c4]; rfl) | fail) (by first | (simp; done) | fail) (fun d hd => ?_); subst hd; (try simp [c2, c3, c4]))
    | (refine CallP.fun_ (h1) (by first | rfl | fail) (by first | assumption | (simp; done) | fail) (by first | (simp [c2, c3, c4]; done) | (simp [c2, c3, c4]; rfl) | fail) (by first | (simp; done) | fail) (fun d hd => ?_); subst hd; (try simp [c2, c3, c4]))
    | fail)
          all_goals
            (refine EndOK.val (.inr rfl) ?_; simp [resD, oneOrTup, pureD, Try.results3])
        · (refine Fun.of_body Try.func3 rfl (by simp) fun Γ hn => ?_); simp only [entry, List.zipIdx_cons, List.zipIdx_nil, List.map_cons, List.map_nil, Nat.zero_add, Try.ntmps3]
          repeat' (first
    | (refine H_cons ?_; simp [c2, c3])
    | (refine H_nil ?_; simp [c2, c3])
    | (refine ⟨by omega, ?_⟩)
    | (refine V_sseq ?_; simp [c2, c3])
    | (refine V_scond ?_; simp [c2, c3])
    | (refine V_ret ?_; simp only [RK_seq, RK_seq_ret, RK_seq_exit, RK_blk, RK_blk_ret, RK_blk_exit, RK_loop, RK_loop_ret, RK_loop_exit, RK_done])
    | (refine ⟨?_, by omega⟩)
    | (intro hc <;> (try (exfalso; omega)))
    | (refine CallP.fun_ (h0) (by first | rfl | fail) (by first | assumption | (simp; done) | fail) (by first | (simp [c2, c3]; done) | (simp [c2, c3]; rfl) | fail) (by first | (simp; done) | fail) (fun d hd => ?_); subst hd; (try simp [c2, c3]))
    | (refine CallP.fun_ (h1) (by first | rfl | fail) (by first | assumption | (simp; done) | fail) (by first | (simp [c2, c3]; done) | (simp [c2, c3]; rfl) | fail) (by first | (simp; done) | fail) (fun d hd => ?_); subst hd; (try simp [c2, c3]))
    | fail)
          all_goals
            (refine EndOK.val (.inr rfl) ?_; simp [resD, oneOrTup, pureD, Try.results3])
      · (refine Fun.of_body Try.func3 rfl (by simp) fun Γ hn => ?_); simp only [entry, List.zipIdx_cons, List.zipIdx_nil, List.map_cons, List.map_nil, Nat.zero_add, Try.ntmps3]
        repeat' (first
    | (refine H_cons ?_; simp [c2])
    | (refine H_nil ?_; simp [c2])
    | (refine V_sseq ?_; simp [c2])
    | (refine V_scond ?_; simp [c2])
    | (refine V_ret ?_; simp only [RK_seq, RK_seq_ret, RK_seq_exit, RK_blk, RK_blk_ret, RK_blk_exit, RK_loop, RK_loop_ret, RK_loop_exit, RK_done])
    | (intro hc <;> (try (exfalso; omega)))
    | (refine CallP.fun_ (h0) (by first | rfl | fail) (by first | assumption | (simp; done) | fail) (by first | (simp [c2]; done) | (simp [c2]; rfl) | fail) (by first | (simp; done) | fail) (fun d hd => ?_); subst hd; (try simp [c2]))
    | (refine CallP.fun_ (h1) (by first | rfl | fail) (by first | assumption | (simp; done) | fail) (by first | (simp [c2]; done) | (simp [c2]; rfl) | fail) (by first | (simp; done) | fail) (fun d hd => ?_); subst hd; (try simp [c2]))
    | fail)
        all_goals
          (refine EndOK.val (.inr rfl) ?_; simp [resD, oneOrTup, pureD, Try.results3])
    · have c1' : ¬ (l.length : Int) ≤ 60 := by omega
      simp only [c1', decide_false] at h1
      (refine Fun.of_body Try.func3 rfl (by simp) fun Γ hn => ?_); simp only [entry, List.zipIdx_cons, List.zipIdx_nil, List.map_cons, List.map_nil, Nat.zero_add, Try.ntmps3]
      repeat' (first
    | (refine H_cons ?_; simp)
    | (refine H_nil ?_; simp)
    | (refine V_sseq ?_; simp)
    | (refine V_scond ?_; simp)
    | (refine V_ret ?_; simp only [RK_seq, RK_seq_ret, RK_seq_exit, RK_blk, RK_blk_ret, RK_blk_exit, RK_loop, RK_loop_ret, RK_loop_exit, RK_done])
    | (refine CallP.fun_ (h0) (by first | rfl | fail) (by first | assumption | (simp; done) | fail) (by first | (simp; done) | (simp; rfl) | fail) (by first | (simp; done) | fail) (fun d hd => ?_); subst hd; (try simp))
    | (refine CallP.fun_ (h1) (by first | rfl | fail) (by first | assumption | (simp; done) | fail) (by first | (simp; done) | (simp; rfl) | fail) (by first | (simp; done) | fail) (fun d hd => ?_); subst hd; (try simp))
    | fail)
      all_goals
        (refine EndOK.val (.inr rfl) ?_; simp [resD, oneOrTup, pureD, Try.results3])
end Go.Proofs.Ytdkadmchdocjbaa
