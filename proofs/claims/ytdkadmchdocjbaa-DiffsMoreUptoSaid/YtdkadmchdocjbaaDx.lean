/- Layer 13: what solving gives: the walk of the law (the examples are given). -/
import Derived.Test.YtdkadmchdocjbaaDw
set_option linter.all false
set_option maxRecDepth 100000
set_option maxHeartbeats 8000000
set_option linter.all false
namespace Go.Proofs.Ytdkadmchdocjbaa
open Go Go.VL
theorem okC_of {l : List Con} {n : Nat} {c : Con} (h : OkC n l) (hc : c ∈ l) : ∃ a b : Nat, c.A = a ∧ c.B = b ∧ a < n ∧ b < n ∧ -1099511627776 ≤ c.N ∧ c.N ≤ 1099511627776 := by
  obtain ⟨h1, h2, h3, h4, h5, h6⟩ := h c hc
  exact ⟨c.A.toNat, c.B.toNat, by omega, by omega, by omega, by omega, h5, h6⟩
theorem checkB_sol {l : List Con} {n : Int} {vs : List Int} (h : checkB l n vs = true) : Sol l (valL vs) ∧ vs.length = n.toNat ∧ ∀ x, -1152921504606846976 ≤ valL vs x ∧ valL vs x ≤ 1152921504606846976 := by
  simp only [checkB, Bool.and_eq_true, decide_eq_true_eq] at h
  obtain ⟨⟨⟨_, h2⟩, h3⟩, h4⟩ := h
  refine ⟨fun c hc => ?_, by omega, valL_small h3⟩
  have := List.all_eq_true.1 h4 c hc
  simpa [metB] using this
theorem checkB_of {l : List Con} {n : Nat} {f : Nat → Int} (hr : rightL l (n : Int) = true) (hf : Sol l f) (hb : ∀ x, -1152921504606846976 ≤ f x ∧ f x ≤ 1152921504606846976) : checkB l n (lst n f) = true := by
  obtain ⟨_, _, _, e4⟩ := rightL_out hr
  simp only [Int.toNat_natCast] at e4
  have hv : ∀ x, x < n → valL (lst n f) x = f x := fun x hx => by
    rw [valL, List.getD_eq_getElem?_getD, lst_get f hx]; rfl
  simp only [checkB, Bool.and_eq_true, decide_eq_true_eq, hr, lst_len, true_and, List.all_eq_true]
  refine ⟨fun v hv => ?_, fun c hc => ?_⟩
  · simp only [lst, List.mem_map] at hv
    obtain ⟨x, _, rfl⟩ := hv
    have := hb x
    simp [small60, this]
  · have h1 := e4.ab hc
    simp only [metB, decide_eq_true_eq]
    rw [hv _ h1.1, hv _ h1.2]
    exact hf c hc
theorem bnd_le {n k : Nat} (hn : n ≤ 40) (hk : k ≤ 66) : bnd n k ≤ 1152921504606846976 := by
  have h2 : n * k ≤ 40 * 66 := Nat.mul_le_mul hn hk
  have h3 : (n + 1) * (n * k) ≤ 41 * (40 * 66) := Nat.mul_le_mul (by omega) h2
  have h4 : (((n + 1) * (n * k) : Nat) : Int) ≤ 108240 := by omega
  unfold bnd maxN
  omega
/-- A constraint that shows a value. -/
def tgt (f : Nat → Int) (i : Nat) (c : Con) : Bool := decide (c.A = (i : Int)) && decide (f c.b + c.N = f i)
theorem tgt_all {n : Nat} {l : List Con} {f : Nat → Int} (hl : OkC n l) (hg : Great n l f) {i : Nat} (hi : i < n) : (decide (f i = 0) || l.any (tgt f i)) = true := by
  rcases hg.tight i hi with h | ⟨c, hc, h1, h2⟩
  · simp [h]
  · have : l.any (tgt f i) = true := List.any_eq_true.2 ⟨c, hc, by
      obtain ⟨a, b, e1, e2, _⟩ := okC_of hl hc
      simp only [Con.a] at h1
      simp only [tgt, Bool.and_eq_true, decide_eq_true_eq]
      exact ⟨by omega, h2⟩⟩
    simp [this]
attribute [local simp] hcons hstep evPure opd uOf putOK St.put St.at getK binD binI binS binB nilD aggD eqUs cmpK lookD lookR rangeD Go.VL.nextD entryD keyD valU keyU lookK mkV entD_nil lookK_entD updK_entD1 updK_entD2 updK_entD3 allUE allUE_entD makeMapD mapUpdD mapEff updK valM Key.kk shiftI arith unD convD pickD loadD cellsAt fieldAddrD fieldD indexAddrD indexD sliceD cutD lenD minmaxD nilCheckD buildD fillD cellsD isOne ones setAll mkAgg allU allocD boxD storeD St.add buildSliceD appendD rowsOf makeD setOb getK_setOb getK_del getK_cons stripL strip guardTmp entry chunks zcells valD argsV argsW argW argU1 argU0 argsU0 argsU1 calleeOf scalarD scalarU delAll effD St.effS RK_seq RK_seq_ret RK_seq_exit RK_blk RK_blk_ret RK_blk_exit RK_loop RK_loop_ret RK_loop_exit RK_done vs_seq vs_block vs_skip vs_label vs_exit vs_ret vs_cond vs_region vs_loop vs_draw vs_range vs_scope applyW mkD rdIds lentIds callOf calleeOf freeOp D.ids Op.operands Call.operands isEffOp makeIfD typeAssertD conc concs conc1 uOfV panicD IntKind.bits allU2 allU2_append List.take_of_length_le List.range_succ
attribute [local irreducible] V G H HD HD2 RunK Eff CallP CallV EndOK Fun Ret FinOK LoopI LoopW EndW
set_option maxHeartbeats 4000000 in
theorem solves_fun (h0 : Fun Try.prog 7 [] (· = .u (.bool true))) (l : List Con) (n : Int) (other : List Int) : Fun Try.prog 4 [.u (consU l), .u (.int .i64 n), .u (ints other)] (· = .u (.bool true)) := by
  have h1 := few_fun l 60
  have h2 := right_fun l n
  by_cases hc : l.length ≤ 60 ∧ n ≤ 40 ∧ other.length ≤ 40 ∧ rightL l n = true
  case neg =>
    simp only [consU, ints] at h1 h2 ⊢
    by_cases c1 : l.length ≤ 60
    · have c1' : (l.length : Int) ≤ 60 := by omega
      simp only [c1', decide_true] at h1
      by_cases c2 : n ≤ 40
      · by_cases c3 : other.length ≤ 40
        · have c4 : rightL l n = false := by simpa using fun h => hc ⟨c1, c2, c3, h⟩
          rw [c4] at h2
          (refine Fun.of_body Try.func4 rfl (by simp) fun Γ hn => ?_); simp only [entry, List.zipIdx_cons, List.zipIdx_nil, List.map_cons, List.map_nil, Nat.zero_add, Try.ntmps4]
          repeat' (first
    | (refine H_cons ?_; simp [c2, c3])
    | (refine H_nil ?_; simp [c2, c3])
    | (refine V_sseq ?_; simp [c2, c3])
    | (refine V_scond ?_; simp [c2, c3])
    | (refine V_ret ?_; simp only [RK_seq, RK_seq_ret, RK_seq_exit, RK_blk, RK_blk_ret, RK_blk_exit, RK_loop, RK_loop_ret, RK_loop_exit, RK_done])
    | (refine ⟨?_, by omega⟩)
    | (intro hc <;> (try (exfalso; omega)))
    | (refine CallP.fun_ (h0) (by first | rfl | fail) (by first | assumption | (simp; done) | fail) (by first | (simp [c2, c3]; done) | (simp [c2, c3]; rfl) | fail) (by first | (simp; done) | fail) (fun d hd => ?_); subst hd; (try simp [c2, c3]))
    | (refine CallP.fun_ (h1) (by first | rfl | fail) (by first | assumption | (simp; done) | fail) (by first | (simp [c2, c3]; done) | (simp [c2, c3]; rfl) | fail) (by first | (simp; done) | fail) (fun d hd => ?_); subst hd; (try simp [c2, c3]))
    | (refine CallP.fun_ (h2) (by first | rfl | fail) (by first | assumption | (simp; done) | fail) (by first | (simp [c2, c3]; done) | (simp [c2, c3]; rfl) | fail) (by first | (simp; done) | fail) (fun d hd => ?_); subst hd; (try simp [c2, c3]))
    | fail)
          all_goals
            (refine EndOK.val (.inr rfl) ?_; simp [resD, oneOrTup, pureD, Try.results4])
        · (refine Fun.of_body Try.func4 rfl (by simp) fun Γ hn => ?_); simp only [entry, List.zipIdx_cons, List.zipIdx_nil, List.map_cons, List.map_nil, Nat.zero_add, Try.ntmps4]
          repeat' (first
    | (refine H_cons ?_; simp [c2, c3])
    | (refine H_nil ?_; simp [c2, c3])
    | (refine ⟨by omega, ?_⟩)
    | (refine V_sseq ?_; simp [c2, c3])
    | (refine V_scond ?_; simp [c2, c3])
    | (refine V_ret ?_; simp only [RK_seq, RK_seq_ret, RK_seq_exit, RK_blk, RK_blk_ret, RK_blk_exit, RK_loop, RK_loop_ret, RK_loop_exit, RK_done])
    | (refine ⟨?_, by omega⟩)
    | (intro hc <;> (try (exfalso; omega)))
    | (refine CallP.fun_ (h0) (by first | rfl | fail) (by first | assumption | (simp; done) | fail) (by first | (simp [c2, c3]; done) | (simp [c2, c3]; rfl) | fail) (by first | (simp; done) | fail) (fun d hd => ?_); subst hd; (try simp [c2, c3]))
    | (refine CallP.fun_ (h1) (by first | rfl | fail) (by first | assumption | (simp; done) | fail) (by first | (simp [c2, c3]; done) | (simp [c2, c3]; rfl) | fail) (by first | (simp; done) | fail) (fun d hd => ?_); subst hd; (try simp [c2, c3]))
    | fail)
          all_goals
            (refine EndOK.val (.inr rfl) ?_; simp [resD, oneOrTup, pureD, Try.results4])
      · (refine Fun.of_body Try.func4 rfl (by simp) fun Γ hn => ?_); simp only [entry, List.zipIdx_cons, List.zipIdx_nil, List.map_cons, List.map_nil, Nat.zero_add, Try.ntmps4]
        repeat' (first
    | (refine H_cons ?_; simp [c2])
    | (refine H_nil ?_; simp [c2])
    | (refine V_sseq ?_; simp [c2])
    | (refine V_scond ?_; simp [c2])
    | (refine V_ret ?_; simp only [RK_seq, RK_seq_ret, RK_seq_exit, RK_blk, RK_blk_ret, RK_blk_exit, RK_loop, RK_loop_ret, RK_loop_exit, RK_done])
    | (intro hc <;> (try (exfalso; omega)))
    | (refine CallP.fun_ (h0) (by first | rfl | fail) (by first | assumption | (simp; done) | fail) (by first | (simp [c2]; done) | (simp [c2]; rfl) | fail) (by first | (simp; done) | fail) (fun d hd => ?_); subst hd; (try simp [c2]))
    | (refine CallP.fun_ (h1) (by first | rfl | fail) (by first | assumption | (simp; done) | fail) (by first | (simp [c2]; done) | (simp [c2]; rfl) | fail) (by first | (simp; done) | fail) (fun d hd => ?_); subst hd; (try simp [c2]))
    | fail)
        all_goals
          (refine EndOK.val (.inr rfl) ?_; simp [resD, oneOrTup, pureD, Try.results4])
    · have c1' : ¬ (l.length : Int) ≤ 60 := by omega
      simp only [c1', decide_false] at h1
      (refine Fun.of_body Try.func4 rfl (by simp) fun Γ hn => ?_); simp only [entry, List.zipIdx_cons, List.zipIdx_nil, List.map_cons, List.map_nil, Nat.zero_add, Try.ntmps4]
      repeat' (first
    | (refine H_cons ?_; simp)
    | (refine H_nil ?_; simp)
    | (refine V_sseq ?_; simp)
    | (refine V_scond ?_; simp)
    | (refine V_ret ?_; simp only [RK_seq, RK_seq_ret, RK_seq_exit, RK_blk, RK_blk_ret, RK_blk_exit, RK_loop, RK_loop_ret, RK_loop_exit, RK_done])
    | (refine CallP.fun_ (h0) (by first | rfl | fail) (by first | assumption | (simp; done) | fail) (by first | (simp; done) | (simp; rfl) | fail) (by first | (simp; done) | fail) (fun d hd => ?_); subst hd; (try simp))
    | (refine CallP.fun_ (h1) (by first | rfl | fail) (by first | assumption | (simp; done) | fail) (by first | (simp; done) | (simp; rfl) | fail) (by first | (simp; done) | fail) (fun d hd => ?_); subst hd; (try simp))
    | fail)
      all_goals
        (refine EndOK.val (.inr rfl) ?_; simp [resD, oneOrTup, pureD, Try.results4])
  obtain ⟨c1, c2, c3, hr⟩ := hc
  have c1' : (l.length : Int) ≤ 60 := by omega
  simp only [c1', decide_true] at h1
  rw [hr] at h2
  obtain ⟨e1, e2, e3, e4⟩ := rightL_out hr
  generalize hN : n.toNat = m at e1 e2 e4
  subst e1
  have hm40 : m ≤ 40 := by omega
  obtain ⟨V, C, E, s3, h3⟩ := solve_ex l m (hK_of (by omega) (show l.length ≤ 66 by omega))
  rcases s3 with ⟨hx, _⟩ | ⟨_, ⟨f, hg, hbd, rfl, rfl, rfl⟩ | ⟨hun, rfl, rfl, hcy⟩⟩
  · rw [hr] at hx; cases hx
  · simp only [Int.toNat_natCast] at hg hbd h3
    have hb60 := bnd_le hm40 (show l.length ≤ 66 by omega)
    have hb : ∀ x, -1152921504606846976 ≤ f x ∧ f x ≤ 1152921504606846976 := fun x => by have := hbd x; omega
    have h4 := check_fun l m (lst m f)
    rw [checkB_of hr hg.sol hb] at h4
    have h5 := check_fun l m other
    have h6 := highest_fun other (by omega)
    have hot : checkB l m other = true → ∀ i, i < m → other.length = m ∧ (∀ (h : i < other.length), f i < other[i] → 0 < highL other other.length) := fun hck i hi => by
      obtain ⟨q1, q2, q3⟩ := checkB_sol hck
      simp only [Int.toNat_natCast] at q2
      refine ⟨q2, fun h hlt => ?_⟩
      apply Classical.byContradiction
      intro hno
      have := hg.most (valL other) q1 (fun x hx => by
        have := highL_le other other.length x (by omega)
        unfold valL
        omega) i hi
      have hv : valL other i = other[i] := by rw [valL, List.getD_eq_getElem?_getD, List.getElem?_eq_getElem h]; rfl
      omega
    clear hbd hb60
    simp only [consU, ints] at h1 h2 h3 h4 h5 h6 ⊢
    (refine Fun.of_body Try.func4 rfl (by simp) fun Γ hn => ?_); simp only [entry, List.zipIdx_cons, List.zipIdx_nil, List.map_cons, List.map_nil, Nat.zero_add, Try.ntmps4]
    repeat' (first
    | (refine H_cons ?_; simp [c2, c3, lst_len])
    | (refine H_nil ?_; simp [c2, c3, lst_len])
    | (refine V_sseq ?_; simp [c2, c3, lst_len])
    | (refine V_scond ?_; simp [c2, c3, lst_len])
    | (refine V_sblock ?_; simp [c2, c3, lst_len])
    | (refine V_skip ?_; simp only [RK_seq, RK_seq_ret, RK_seq_exit, RK_blk, RK_blk_ret, RK_blk_exit, RK_loop, RK_loop_ret, RK_loop_exit, RK_done])
    | (refine ⟨?_, by omega⟩)
    | (intro hc <;> (try (exfalso; omega)))
    | (refine CallP.fun_ (h0) (by first | rfl | fail) (by first | assumption | (simp; done) | fail) (by first | (simp [c2, c3, lst_len]; done) | (simp [c2, c3, lst_len]; rfl) | fail) (by first | (simp; done) | fail) (fun d hd => ?_); subst hd; (try simp [c2, c3, lst_len]))
    | (refine CallP.fun_ (h1) (by first | rfl | fail) (by first | assumption | (simp; done) | fail) (by first | (simp [c2, c3, lst_len]; done) | (simp [c2, c3, lst_len]; rfl) | fail) (by first | (simp; done) | fail) (fun d hd => ?_); subst hd; (try simp [c2, c3, lst_len]))
    | (refine CallP.fun_ (h2) (by first | rfl | fail) (by first | assumption | (simp; done) | fail) (by first | (simp [c2, c3, lst_len]; done) | (simp [c2, c3, lst_len]; rfl) | fail) (by first | (simp; done) | fail) (fun d hd => ?_); subst hd; (try simp [c2, c3, lst_len]))
    | (refine CallP.fun_ (h3) (by first | rfl | fail) (by first | assumption | (simp; done) | fail) (by first | (simp [c2, c3, lst_len]; done) | (simp [c2, c3, lst_len]; rfl) | fail) (by first | (simp; done) | fail) (fun d hd => ?_); subst hd; (try simp [c2, c3, lst_len]))
    | (refine CallP.fun_ (h4) (by first | rfl | fail) (by first | assumption | (simp; done) | fail) (by first | (simp [c2, c3, lst_len]; done) | (simp [c2, c3, lst_len]; rfl) | fail) (by first | (simp; done) | fail) (fun d hd => ?_); subst hd; (try simp [c2, c3, lst_len]))
    | fail)
    refine V_loopF (α := { i : Nat // i ≤ m }) [0, 1, 2, 7, 8] (fun i => [(15, .u (.int .i64 i.1))]) (fun i => m - i.1) ⟨0, by omega⟩ ?_ ?_
    · exact (Wk.cut rfl (by simp [hn, St.lp]) (by simp [wkO, St.lp, getK_cons, getK, Ob.under, D.under, under_rowsD, under_entD]) (by simp [wkU, St.lp, keepE, getK_cons, getK, D.under]) (by simp [wkE, St.lp, keepE, getK_cons, getK] <;> (try (intros; simp_all; done)) <;> (try (intros; omega)) <;> (try grind)))
    rintro ⟨i, hi⟩
    simp [St.lp, St.only, keepE, getK_cons, getK]
    by_cases him : i < m
    · have hgi := lst_get f him
      have hfi := hb i
      have hneg := hg.neg i him
      have hneg2 : ¬ 0 < f i := by omega
      have htg := tgt_all e4 hg him
      repeat' (first
    | (refine H_cons ?_; simp [him, hgi])
    | (refine H_nil ?_; simp [him, hgi])
    | (refine V_sseq ?_; simp [him, hgi])
    | (refine V_scond ?_; simp [him, hgi])
    | (refine V_sblock ?_; simp [him, hgi])
    | (refine V_skip ?_; simp only [RK_seq, RK_seq_ret, RK_seq_exit, RK_blk, RK_blk_ret, RK_blk_exit, RK_loop, RK_loop_ret, RK_loop_exit, RK_done])
    | fail)
      refine V_loopF (α := { k : Nat // k ≤ l.length }) [0, 1, 2, 7, 8, 15] (fun k => [(16, .u (.bool (decide (f i = 0) || (l.take k.1).any (tgt f i)))), (17, .u (.int .i64 k.1))]) (fun k => l.length - k.1) ⟨0, by omega⟩ ?_ ?_
      · exact (Wk.cut rfl (by simp [hn, St.lp]) (by simp [wkO, St.lp, getK_cons, getK, Ob.under, D.under, under_rowsD, under_entD]) (by simp [wkU, St.lp, keepE, getK_cons, getK, D.under]) (by simp [wkE, St.lp, keepE, getK_cons, getK] <;> (try (intros; simp_all; done)) <;> (try (intros; omega)) <;> (try grind)))
      rintro ⟨k, hk⟩
      simp [St.lp, St.only, keepE, getK_cons, getK]
      rcases hy : l[k]? with _ | c
      · have hge : l.length ≤ k := by simpa using hy
        rw [List.take_of_length_le hge, htg]
        repeat' (first
    | (refine H_cons ?_; simp [hy, him, hgi, hneg, hneg2])
    | (refine H_nil ?_; simp [hy, him, hgi, hneg, hneg2])
    | (refine ⟨by omega, ?_⟩)
    | (refine V_sseq ?_; simp [hy, him, hgi, hneg, hneg2])
    | (refine V_scond ?_; simp [hy, him, hgi, hneg, hneg2])
    | (refine V_sregion ?_; simp [hy, him, hgi, hneg, hneg2])
    | (refine V_skip ?_; simp only [RK_seq, RK_seq_ret, RK_seq_exit, RK_blk, RK_blk_ret, RK_blk_exit, RK_loop, RK_loop_ret, RK_loop_exit, RK_done])
    | (refine V_exit ?_; simp [RK_seq, RK_seq_ret, RK_seq_exit, RK_blk, RK_blk_ret, RK_blk_exit, RK_loop, RK_loop_ret, RK_loop_exit, RK_done])
    | (intro hc <;> (try (exfalso; omega)))
    | fail)
        refine LoopW.next ⟨i + 1, by omega⟩ (by simp; omega) ?_
        exact (Wk.cut rfl (by simp [hn, St.lp]) (by simp [wkO, St.lp, getK_cons, getK, Ob.under, D.under, under_rowsD, under_entD]) (by simp [wkU, St.lp, keepE, getK_cons, getK, D.under]) (by simp [wkE, St.lp, keepE, getK_cons, getK] <;> (try (intros; simp_all; done)) <;> (try (intros; omega)) <;> (try grind)))
      · have hlt : k < l.length := (List.getElem?_eq_some_iff.1 hy).1
        have hcm := List.mem_of_getElem? hy
        have hsn : (decide (f i = 0) || (l.take (k + 1)).any (tgt f i)) = ((decide (f i = 0) || (l.take k).any (tgt f i)) || tgt f i c) := by
          rw [take_snoc hy, List.any_append]
          simp [Bool.or_assoc]
        generalize hT : (decide (f i = 0) || (l.take k).any (tgt f i)) = T at hsn ⊢
        obtain ⟨a, b, q1, q2, q3, q4, q5, q6⟩ := okC_of e4 hcm
        have hgb := lst_get f q4
        have hfb := hb b
        cases T with
        | true =>
          rw [Bool.true_or] at hsn
          repeat' (first
    | (refine H_cons ?_; simp [hy, him, hgi])
    | (refine HD_cons ?_; simp [hy, him, hgi])
    | (refine H_nil ?_; simp [hy, him, hgi])
    | (refine ⟨by omega, ?_⟩)
    | (refine V_sseq ?_; simp [hy, him, hgi])
    | (refine V_scond ?_; simp [hy, him, hgi])
    | (refine HD_nil ?_)
    | (refine hk _ ?_; clear hk k; simp only [RK_seq, RK_seq_ret, RK_seq_exit, RK_blk, RK_blk_ret, RK_blk_exit, RK_loop, RK_loop_ret, RK_loop_exit, RK_done])
    | (refine V_drawV rfl (by kernel_rfl) (by kernel_rfl) fun k hk => ?_; simp [hy, him, hgi])
    | (refine HD_guardU rfl (by simp [hy, him, hgi]) ?_; simp [hy, him, hgi])
    | (refine HD_guard rfl (by simp [hy, him, hgi]) (fun hc => ?_) (fun hc => ?_) <;> (try simp [hy, him, hgi] at hc) <;> (try (exfalso; omega)) <;> (try simp [hy, him, hgi]))
    | (refine V_sregion ?_; simp [hy, him, hgi])
    | (refine V_skip ?_; simp only [RK_seq, RK_seq_ret, RK_seq_exit, RK_blk, RK_blk_ret, RK_blk_exit, RK_loop, RK_loop_ret, RK_loop_exit, RK_done])
    | (refine ⟨?_, by omega⟩)
    | (intro hc <;> (try (exfalso; omega)))
    | fail)
          refine LoopW.next ⟨k + 1, by omega⟩ (by simp; omega) ?_
          exact (Wk.cut rfl (by simp [hn, St.lp]) (by simp [wkO, St.lp, getK_cons, getK, Ob.under, D.under, under_rowsD, under_entD, hsn]) (by simp [wkU, St.lp, keepE, getK_cons, getK, D.under, hsn]) (by simp [wkE, St.lp, keepE, getK_cons, getK, hsn] <;> (try (intros; simp_all; done)) <;> (try (intros; omega)) <;> (try grind)))
        | false =>
          rw [Bool.false_or] at hsn
          have hcb : c.b = b := by simp only [Con.b]; omega
          by_cases hai : a = i
          · have hai2 : (a : Int) = (i : Int) := by omega
            have ht : tgt f i c = decide (f b + c.N = f i) := by simp [tgt, q1, hai2, hcb]
            rw [ht] at hsn
            repeat' (first
    | (refine H_cons ?_; simp [hy, him, hgi, hgb, q1, q2, hai2])
    | (refine HD_cons ?_; simp [hy, him, hgi, hgb, q1, q2, hai2])
    | (refine H_nil ?_; simp [hy, him, hgi, hgb, q1, q2, hai2])
    | (refine ⟨by omega, ?_⟩)
    | (refine V_sseq ?_; simp [hy, him, hgi, hgb, q1, q2, hai2])
    | (refine V_scond ?_; simp [hy, him, hgi, hgb, q1, q2, hai2])
    | (refine HD_nil ?_)
    | (refine hk _ ?_; clear hk k; simp only [RK_seq, RK_seq_ret, RK_seq_exit, RK_blk, RK_blk_ret, RK_blk_exit, RK_loop, RK_loop_ret, RK_loop_exit, RK_done])
    | (refine V_drawV rfl (by kernel_rfl) (by kernel_rfl) fun k hk => ?_; simp [hy, him, hgi, hgb, q1, q2, hai2])
    | (refine HD_guard rfl (by simp [hy, him, hgi, hgb, q1, q2, hai2]) (fun hc => ?_) (fun hc => ?_) <;> (try simp [hy, him, hgi, hgb, q1, q2, hai2] at hc) <;> (try (exfalso; omega)) <;> (try simp [hy, him, hgi, hgb, q1, q2, hai2]))
    | (refine V_sregion ?_; simp [hy, him, hgi, hgb, q1, q2, hai2])
    | (refine V_skip ?_; simp only [RK_seq, RK_seq_ret, RK_seq_exit, RK_blk, RK_blk_ret, RK_blk_exit, RK_loop, RK_loop_ret, RK_loop_exit, RK_done])
    | (refine ⟨?_, by omega⟩)
    | (intro hc <;> (try (exfalso; omega)))
    | fail)
            refine LoopW.next ⟨k + 1, by omega⟩ (by simp; omega) ?_
            exact (Wk.cut rfl (by simp [hn, St.lp]) (by simp [wkO, St.lp, getK_cons, getK, Ob.under, D.under, under_rowsD, under_entD, hsn]) (by simp [wkU, St.lp, keepE, getK_cons, getK, D.under, hsn]) (by simp [wkE, St.lp, keepE, getK_cons, getK, hsn] <;> (try (intros; simp_all; done)) <;> (try (intros; omega)) <;> (try grind)))
          · have hai2 : ¬ (a : Int) = (i : Int) := by omega
            have ht : tgt f i c = false := by simp [tgt, q1, hai2]
            rw [ht] at hsn
            repeat' (first
    | (refine H_cons ?_; simp [hy, him, hgi, hgb, q1, q2, hai2])
    | (refine HD_cons ?_; simp [hy, him, hgi, hgb, q1, q2, hai2])
    | (refine H_nil ?_; simp [hy, him, hgi, hgb, q1, q2, hai2])
    | (refine ⟨by omega, ?_⟩)
    | (refine V_sseq ?_; simp [hy, him, hgi, hgb, q1, q2, hai2])
    | (refine V_scond ?_; simp [hy, him, hgi, hgb, q1, q2, hai2])
    | (refine HD_nil ?_)
    | (refine hk _ ?_; clear hk k; simp only [RK_seq, RK_seq_ret, RK_seq_exit, RK_blk, RK_blk_ret, RK_blk_exit, RK_loop, RK_loop_ret, RK_loop_exit, RK_done])
    | (refine V_drawV rfl (by kernel_rfl) (by kernel_rfl) fun k hk => ?_; simp [hy, him, hgi, hgb, q1, q2, hai2])
    | (refine HD_guard rfl (by simp [hy, him, hgi, hgb, q1, q2, hai2]) (fun hc => ?_) (fun hc => ?_) <;> (try simp [hy, him, hgi, hgb, q1, q2, hai2] at hc) <;> (try (exfalso; omega)) <;> (try simp [hy, him, hgi, hgb, q1, q2, hai2]))
    | (refine V_sregion ?_; simp [hy, him, hgi, hgb, q1, q2, hai2])
    | (refine V_skip ?_; simp only [RK_seq, RK_seq_ret, RK_seq_exit, RK_blk, RK_blk_ret, RK_blk_exit, RK_loop, RK_loop_ret, RK_loop_exit, RK_done])
    | (refine ⟨?_, by omega⟩)
    | (intro hc <;> (try (exfalso; omega)))
    | fail)
            refine LoopW.next ⟨k + 1, by omega⟩ (by simp; omega) ?_
            exact (Wk.cut rfl (by simp [hn, St.lp]) (by simp [wkO, St.lp, getK_cons, getK, Ob.under, D.under, under_rowsD, under_entD, hsn]) (by simp [wkU, St.lp, keepE, getK_cons, getK, D.under, hsn]) (by simp [wkE, St.lp, keepE, getK_cons, getK, hsn] <;> (try (intros; simp_all; done)) <;> (try (intros; omega)) <;> (try grind)))
    obtain rfl : i = m := by omega
    cases hck : checkB l i other with
    | false =>
      rw [hck] at h5
      repeat' (first
    | (refine H_cons ?_; simp [him])
    | (refine H_nil ?_; simp [him])
    | (refine V_sseq ?_; simp [him])
    | (refine V_scond ?_; simp [him])
    | (refine V_ret ?_; simp only [RK_seq, RK_seq_ret, RK_seq_exit, RK_blk, RK_blk_ret, RK_blk_exit, RK_loop, RK_loop_ret, RK_loop_exit, RK_done])
    | (refine V_exit ?_; simp [RK_seq, RK_seq_ret, RK_seq_exit, RK_blk, RK_blk_ret, RK_blk_exit, RK_loop, RK_loop_ret, RK_loop_exit, RK_done])
    | (refine CallP.fun_ (h5) (by first | rfl | fail) (by first | assumption | (simp; done) | fail) (by first | (simp [him]; done) | (simp [him]; rfl) | fail) (by first | (simp; done) | fail) (fun d hd => ?_); subst hd; (try simp [him]))
    | fail)
      (refine EndOK.val (.inr rfl) ?_; simp [resD, oneOrTup, pureD, Try.results4])
    | true =>
      rw [hck] at h5
      repeat' (first
    | (refine H_cons ?_; simp [him])
    | (refine H_nil ?_; simp [him])
    | (refine V_sseq ?_; simp [him])
    | (refine V_scond ?_; simp [him])
    | (refine V_sblock ?_; simp [him])
    | (refine V_skip ?_; simp only [RK_seq, RK_seq_ret, RK_seq_exit, RK_blk, RK_blk_ret, RK_blk_exit, RK_loop, RK_loop_ret, RK_loop_exit, RK_done])
    | (refine V_exit ?_; simp [RK_seq, RK_seq_ret, RK_seq_exit, RK_blk, RK_blk_ret, RK_blk_exit, RK_loop, RK_loop_ret, RK_loop_exit, RK_done])
    | (refine CallP.fun_ (h5) (by first | rfl | fail) (by first | assumption | (simp; done) | fail) (by first | (simp [him]; done) | (simp [him]; rfl) | fail) (by first | (simp; done) | fail) (fun d hd => ?_); subst hd; (try simp [him]))
    | fail)
      refine V_loopF (α := { j : Nat // j ≤ i }) [1, 2, 7, 8] (fun j => [(18, .u (.int .i64 j.1))]) (fun j => i - j.1) ⟨0, by omega⟩ ?_ ?_
      · exact (Wk.cut rfl (by simp [hn, St.lp]) (by simp [wkO, St.lp, getK_cons, getK, Ob.under, D.under, under_rowsD, under_entD]) (by simp [wkU, St.lp, keepE, getK_cons, getK, D.under]) (by simp [wkE, St.lp, keepE, getK_cons, getK] <;> (try (intros; simp_all; done)) <;> (try (intros; omega)) <;> (try grind)))
      rintro ⟨j, hj⟩
      simp [St.lp, St.only, keepE, getK_cons, getK]
      by_cases hjm : j < i
      · obtain ⟨p1, p2⟩ := hot hck j hjm
        have hjo : j < other.length := by omega
        have hoj : other[j]? = some other[j] := List.getElem?_eq_getElem hjo
        have hgj := lst_get f hjm
        have p3 := p2 hjo
        generalize other[j] = o at hoj p3
        by_cases hlt : f j < o
        · have p4 := p3 hlt
          have p5 : ¬ highL other other.length ≤ 0 := by omega
          repeat' (first
    | (refine H_cons ?_; simp [hjm, hoj, hgj, hlt, p4, p5])
    | (refine HD_cons ?_; simp [hjm, hoj, hgj, hlt, p4, p5])
    | (refine H_nil ?_; simp [hjm, hoj, hgj, hlt, p4, p5])
    | (refine ⟨by omega, ?_⟩)
    | (refine V_sseq ?_; simp [hjm, hoj, hgj, hlt, p4, p5])
    | (refine V_scond ?_; simp [hjm, hoj, hgj, hlt, p4, p5])
    | (refine HD_nil ?_)
    | (refine hk _ ?_; clear hk k; simp only [RK_seq, RK_seq_ret, RK_seq_exit, RK_blk, RK_blk_ret, RK_blk_exit, RK_loop, RK_loop_ret, RK_loop_exit, RK_done])
    | (refine V_drawV rfl (by kernel_rfl) (by kernel_rfl) fun k hk => ?_; simp [hjm, hoj, hgj, hlt, p4, p5])
    | (refine HD_guard rfl (by simp [hjm, hoj, hgj, hlt, p4, p5]) (fun hc => ?_) (fun hc => ?_) <;> (try simp [hjm, hoj, hgj, hlt, p4, p5] at hc) <;> (try (exfalso; omega)) <;> (try simp [hjm, hoj, hgj, hlt, p4, p5]))
    | (refine V_sregion ?_; simp [hjm, hoj, hgj, hlt, p4, p5])
    | (refine V_skip ?_; simp only [RK_seq, RK_seq_ret, RK_seq_exit, RK_blk, RK_blk_ret, RK_blk_exit, RK_loop, RK_loop_ret, RK_loop_exit, RK_done])
    | (refine CallV.fun_ (h6) (by first | rfl | fail) (by first | assumption | (simp; done) | fail) (by first | (simp [hjm, hoj, hgj, hlt, p4, p5]; done) | (simp [hjm, hoj, hgj, hlt, p4, p5]; rfl) | fail) (by first | (simp; done) | fail) ?_ <;> (try simp [hjm, hoj, hgj, hlt, p4, p5]))
    | fail)
          refine LoopW.next ⟨j + 1, by omega⟩ (by simp; omega) ?_
          exact (Wk.cut rfl (by simp [hn, St.lp]) (by simp [wkO, St.lp, getK_cons, getK, Ob.under, D.under, under_rowsD, under_entD]) (by simp [wkU, St.lp, keepE, getK_cons, getK, D.under]) (by simp [wkE, St.lp, keepE, getK_cons, getK] <;> (try (intros; simp_all; done)) <;> (try (intros; omega)) <;> (try grind)))
        · repeat' (first
    | (refine H_cons ?_; simp [hjm, hoj, hgj, hlt])
    | (refine HD_cons ?_; simp [hjm, hoj, hgj, hlt])
    | (refine H_nil ?_; simp [hjm, hoj, hgj, hlt])
    | (refine ⟨by omega, ?_⟩)
    | (refine V_sseq ?_; simp [hjm, hoj, hgj, hlt])
    | (refine V_scond ?_; simp [hjm, hoj, hgj, hlt])
    | (refine HD_nil ?_)
    | (refine hk _ ?_; clear hk k; simp only [RK_seq, RK_seq_ret, RK_seq_exit, RK_blk, RK_blk_ret, RK_blk_exit, RK_loop, RK_loop_ret, RK_loop_exit, RK_done])
    | (refine V_drawV rfl (by kernel_rfl) (by kernel_rfl) fun k hk => ?_; simp [hjm, hoj, hgj, hlt])
    | (refine HD_guard rfl (by simp [hjm, hoj, hgj, hlt]) (fun hc => ?_) (fun hc => ?_) <;> (try simp [hjm, hoj, hgj, hlt] at hc) <;> (try (exfalso; omega)) <;> (try simp [hjm, hoj, hgj, hlt]))
    | (refine V_sregion ?_; simp [hjm, hoj, hgj, hlt])
    | (refine V_skip ?_; simp only [RK_seq, RK_seq_ret, RK_seq_exit, RK_blk, RK_blk_ret, RK_blk_exit, RK_loop, RK_loop_ret, RK_loop_exit, RK_done])
    | fail)
          refine LoopW.next ⟨j + 1, by omega⟩ (by simp; omega) ?_
          exact (Wk.cut rfl (by simp [hn, St.lp]) (by simp [wkO, St.lp, getK_cons, getK, Ob.under, D.under, under_rowsD, under_entD]) (by simp [wkU, St.lp, keepE, getK_cons, getK, D.under]) (by simp [wkE, St.lp, keepE, getK_cons, getK] <;> (try (intros; simp_all; done)) <;> (try (intros; omega)) <;> (try grind)))
      · obtain rfl : j = i := by omega
        repeat' (first
    | (refine H_cons ?_; simp [hjm])
    | (refine H_nil ?_; simp [hjm])
    | (refine V_sseq ?_; simp [hjm])
    | (refine V_scond ?_; simp [hjm])
    | (refine V_ret ?_; simp only [RK_seq, RK_seq_ret, RK_seq_exit, RK_blk, RK_blk_ret, RK_blk_exit, RK_loop, RK_loop_ret, RK_loop_exit, RK_done])
    | (refine V_exit ?_; simp [RK_seq, RK_seq_ret, RK_seq_exit, RK_blk, RK_blk_ret, RK_blk_exit, RK_loop, RK_loop_ret, RK_loop_exit, RK_done])
    | fail)
        (refine EndOK.val (.inr rfl) ?_; simp [resD, oneOrTup, pureD, Try.results4])
  · have hcyr := hcy.refute hr
    obtain ⟨k1, k2, k3, s, u, k4, k5⟩ := hcy
    simp only [Int.toNat_natCast] at k2
    match C, k1, k2, k3, k4, hcyr with
    | i :: r, k1, k2, k3, k4, hcyr =>
      have h4 := sum_fun l u (i :: r) e4.smallN (by omega) (by omega)
      rw [k4] at h4
      have h5 := refute_fun l m (i :: r)
      rw [hcyr] at h5
      have h6 := check_fun l m other
      have hck : checkB l m other = false := by
        cases hq : checkB l m other with
        | false => rfl
        | true => exact absurd (checkB_sol hq).1 (hun _)
      rw [hck] at h6
      obtain ⟨x, hx, rfl⟩ := idx_cases (k3 i (by simp))
      have hlx : l[x]? = some l[x] := List.getElem?_eq_getElem hx
      rw [sumS_cons, if_pos (by omega), Int.toNat_natCast, hlx] at k4
      simp only at k4
      have hB : l[x].B = u := by
        by_cases h : l[x].B = u
        · exact h
        · rw [if_neg h] at k4; cases k4
      have hk1 : ¬ ((r.length : Int) + 1 < 1) := by omega
      have hk2 : (r.length : Int) + 1 ≤ (m : Int) := by simp at k2; omega
      have hk3 : ¬ ((m : Int) < (r.length : Int) + 1) := by omega
      have hx1 : ¬ ((x : Int) < 0) := by omega
      have hx2 : (x : Int) < (l.length : Int) := by omega
      simp only [consU, ints, List.map_cons, sumD] at h1 h2 h3 h4 h5 h6 ⊢
      (refine Fun.of_body Try.func4 rfl (by simp) fun Γ hn => ?_); simp only [entry, List.zipIdx_cons, List.zipIdx_nil, List.map_cons, List.map_nil, Nat.zero_add, Try.ntmps4]
      repeat' (first
    | (refine H_cons ?_; simp [c2, c3, hk1, hk2, hk3, hx, hx1, hB, k5])
    | (refine H_nil ?_; simp [c2, c3, hk1, hk2, hk3, hx, hx1, hB, k5])
    | (refine ⟨by omega, ?_⟩)
    | (refine V_sseq ?_; simp [c2, c3, hk1, hk2, hk3, hx, hx1, hB, k5])
    | (refine V_scond ?_; simp [c2, c3, hk1, hk2, hk3, hx, hx1, hB, k5])
    | (refine V_ret ?_; simp only [RK_seq, RK_seq_ret, RK_seq_exit, RK_blk, RK_blk_ret, RK_blk_exit, RK_loop, RK_loop_ret, RK_loop_exit, RK_done])
    | (refine V_skip ?_; simp only [RK_seq, RK_seq_ret, RK_seq_exit, RK_blk, RK_blk_ret, RK_blk_exit, RK_loop, RK_loop_ret, RK_loop_exit, RK_done])
    | (refine ⟨?_, by omega⟩)
    | (intro hc <;> (try (exfalso; omega)))
    | (refine CallP.fun_ (h0) (by first | rfl | fail) (by first | assumption | (simp; done) | fail) (by first | (simp [c2, c3, hk1, hk2, hk3, hx, hx1, hB, k5]; done) | (simp [c2, c3, hk1, hk2, hk3, hx, hx1, hB, k5]; rfl) | fail) (by first | (simp; done) | fail) (fun d hd => ?_); subst hd; (try simp [c2, c3, hk1, hk2, hk3, hx, hx1, hB, k5]))
    | (refine CallP.fun_ (h1) (by first | rfl | fail) (by first | assumption | (simp; done) | fail) (by first | (simp [c2, c3, hk1, hk2, hk3, hx, hx1, hB, k5]; done) | (simp [c2, c3, hk1, hk2, hk3, hx, hx1, hB, k5]; rfl) | fail) (by first | (simp; done) | fail) (fun d hd => ?_); subst hd; (try simp [c2, c3, hk1, hk2, hk3, hx, hx1, hB, k5]))
    | (refine CallP.fun_ (h2) (by first | rfl | fail) (by first | assumption | (simp; done) | fail) (by first | (simp [c2, c3, hk1, hk2, hk3, hx, hx1, hB, k5]; done) | (simp [c2, c3, hk1, hk2, hk3, hx, hx1, hB, k5]; rfl) | fail) (by first | (simp; done) | fail) (fun d hd => ?_); subst hd; (try simp [c2, c3, hk1, hk2, hk3, hx, hx1, hB, k5]))
    | (refine CallP.fun_ (h3) (by first | rfl | fail) (by first | assumption | (simp; done) | fail) (by first | (simp [c2, c3, hk1, hk2, hk3, hx, hx1, hB, k5]; done) | (simp [c2, c3, hk1, hk2, hk3, hx, hx1, hB, k5]; rfl) | fail) (by first | (simp; done) | fail) (fun d hd => ?_); subst hd; (try simp [c2, c3, hk1, hk2, hk3, hx, hx1, hB, k5]))
    | (refine CallP.fun_ (h4) (by first | rfl | fail) (by first | assumption | (simp; done) | fail) (by first | (simp [c2, c3, hk1, hk2, hk3, hx, hx1, hB, k5]; done) | (simp [c2, c3, hk1, hk2, hk3, hx, hx1, hB, k5]; rfl) | fail) (by first | (simp; done) | fail) (fun d hd => ?_); subst hd; (try simp [c2, c3, hk1, hk2, hk3, hx, hx1, hB, k5]))
    | (refine CallP.fun_ (h5) (by first | rfl | fail) (by first | assumption | (simp; done) | fail) (by first | (simp [c2, c3, hk1, hk2, hk3, hx, hx1, hB, k5]; done) | (simp [c2, c3, hk1, hk2, hk3, hx, hx1, hB, k5]; rfl) | fail) (by first | (simp; done) | fail) (fun d hd => ?_); subst hd; (try simp [c2, c3, hk1, hk2, hk3, hx, hx1, hB, k5]))
    | (refine CallP.fun_ (h6) (by first | rfl | fail) (by first | assumption | (simp; done) | fail) (by first | (simp [c2, c3, hk1, hk2, hk3, hx, hx1, hB, k5]; done) | (simp [c2, c3, hk1, hk2, hk3, hx, hx1, hB, k5]; rfl) | fail) (by first | (simp; done) | fail) (fun d hd => ?_); subst hd; (try simp [c2, c3, hk1, hk2, hk3, hx, hx1, hB, k5]))
    | fail)
      (refine EndOK.val (.inr rfl) ?_; simp [resD, oneOrTup, pureD, Try.results4])
end Go.Proofs.Ytdkadmchdocjbaa
