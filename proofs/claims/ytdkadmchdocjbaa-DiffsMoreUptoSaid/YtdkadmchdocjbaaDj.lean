/- Layer 13: what refutes: the walk of the program. -/
import Derived.Test.YtdkadmchdocjbaaDi
set_option linter.all false
set_option maxRecDepth 100000
set_option maxHeartbeats 8000000
set_option linter.all false
namespace Go.Proofs.Ytdkadmchdocjbaa
open Go Go.VL
def inL (l : List Con) (i : Int) : Bool := decide (0 ≤ i) && decide (i < l.length)
def lastA (l : List Con) (cyc : List Int) : Int := match cyc.getLast? with
  | some i => match l[i.toNat]? with
    | some c => c.A
    | none => 0
  | none => 0
theorem sumS_end {l : List Con} : ∀ (cyc : List Int) (u s v : Int), cyc ≠ [] → sumS l u cyc = some (s, v) → v = lastA l cyc ∧ ∃ i c, cyc.head? = some i ∧ 0 ≤ i ∧ l[i.toNat]? = some c ∧ c.B = u
  | [], _, _, _, h, _ => absurd rfl h
  | i :: r, u, s, v, _, h => by
    rw [sumS_cons] at h
    split at h
    · rename_i h0
      split at h
      · rename_i c hcc
        split at h
        · rename_i hB
          refine ⟨?_, i, c, rfl, h0, hcc, hB⟩
          cases hq : sumS l c.A r with
          | none => rw [hq] at h; cases h
          | some p =>
            obtain ⟨s', v'⟩ := p
            rw [hq] at h
            simp only [Option.map_some, Option.some.injEq, Prod.mk.injEq] at h
            obtain ⟨_, rfl⟩ := h
            cases r with
            | nil =>
              simp only [sumS, Option.some.injEq, Prod.mk.injEq] at hq
              simp [lastA, hcc, hq.2]
            | cons j r =>
              have := (sumS_end (j :: r) c.A s' v' (by simp) hq).1
              rw [this]
              simp [lastA]
        · cases h
      · cases h
    · cases h
theorem refuteB_eq {l : List Con} {n : Int} {cyc : List Int} (hr : rightL l n = true) (hl : (cyc.length : Int) ≤ n) (hne : cyc ≠ []) : refuteB l n cyc = match sumS l (lastA l cyc) cyc with
    | some p => decide (p.1 < 0)
    | none => false := by
  unfold refuteB
  rw [hr, decide_eq_true hl]
  cases cyc with
  | nil => exact absurd rfl hne
  | cons i r =>
    simp only [Bool.true_and]
    cases hs : sumS l (lastA l (i :: r)) (i :: r) with
    | some p =>
      obtain ⟨s, v⟩ := p
      obtain ⟨h1, j, c, h2, h3, h4, h5⟩ := sumS_end _ _ _ _ (by simp) hs
      cases h2
      rw [if_pos h3, h4]
      simp only [h5, hs]
      simp [h1]
    | none =>
      split
      · rename_i h0
        split
        · rfl
        · rename_i c hcc
          cases hq : sumS l c.B (i :: r) with
          | none => rfl
          | some p =>
            obtain ⟨s, v⟩ := p
            have h1 := (sumS_end _ _ _ _ (by simp) hq).1
            simp only
            by_cases hv : v = c.B
            · rw [← h1, hv, hq] at hs; cases hs
            · simp [hv]
      · rfl
theorem sumS_out {l : List Con} : ∀ (cyc : List Int) (u : Int), ¬ (∀ i ∈ cyc, inL l i = true) → sumS l u cyc = none
  | [], _, h => absurd (by simp) h
  | i :: r, u, h => by
    rw [sumS_cons]
    split
    · rename_i h0
      split
      · rename_i c hcc
        split
        · have hlt := (List.getElem?_eq_some_iff.1 hcc).1
          rw [sumS_out r c.A fun h2 => h fun j hj => (List.mem_cons.1 hj).elim (fun e => by subst e; simp [inL, h0]; omega) (h2 j)]
          rfl
        · rfl
      · rfl
    · rfl
attribute [local simp] hcons hstep evPure opd uOf putOK St.put St.at getK binD binI binS binB nilD aggD eqUs cmpK lookD lookR rangeD Go.VL.nextD entryD keyD valU keyU lookK mkV entD_nil lookK_entD updK_entD1 updK_entD2 updK_entD3 allUE allUE_entD makeMapD mapUpdD mapEff updK valM Key.kk shiftI arith unD convD pickD loadD cellsAt fieldAddrD fieldD indexAddrD indexD sliceD cutD lenD minmaxD nilCheckD buildD fillD cellsD isOne ones setAll mkAgg allU allocD boxD storeD St.add buildSliceD appendD rowsOf makeD setOb getK_setOb getK_del getK_cons stripL strip guardTmp entry chunks zcells valD argsV argsW argW argU1 argU0 argsU0 argsU1 calleeOf scalarD scalarU delAll effD St.effS RK_seq RK_seq_ret RK_seq_exit RK_blk RK_blk_ret RK_blk_exit RK_loop RK_loop_ret RK_loop_exit RK_done vs_seq vs_block vs_skip vs_label vs_exit vs_ret vs_cond vs_region vs_loop vs_draw vs_range vs_scope applyW mkD rdIds lentIds callOf calleeOf freeOp D.ids Op.operands Call.operands isEffOp makeIfD typeAssertD conc concs conc1 uOfV panicD IntKind.bits allU2 allU2_append List.take_of_length_le List.range_succ
attribute [local irreducible] V G H HD HD2 RunK Eff CallP CallV EndOK Fun Ret FinOK LoopI LoopW EndW
theorem refute1_fun (l : List Con) (i : Int) : Fun Try.prog 32 (iarg i :: [U.row [consU l] 0].map .u) (· = .u (.bool (!inL l i))) := by
  simp only [iarg, consU, List.map_cons, List.map_nil]
  (refine Fun.of_body Try.func32 rfl (by simp) fun Γ hn => ?_); simp only [entry, List.zipIdx_cons, List.zipIdx_nil, List.map_cons, List.map_nil, Nat.zero_add, Try.ntmps32]
  repeat' (first
    | (refine H_cons ?_; simp)
    | (refine H_nil ?_; simp)
    | (refine V_sseq ?_; simp)
    | (refine V_ret ?_; simp only [RK_seq, RK_seq_ret, RK_seq_exit, RK_blk, RK_blk_ret, RK_blk_exit, RK_loop, RK_loop_ret, RK_loop_exit, RK_done])
    | (refine ⟨fun hc => ?_, fun hc => ?_⟩ <;> (try (exfalso; omega)))
    | fail)
  all_goals
    (refine EndOK.val (.inr rfl) ?_; simp [resD, oneOrTup, pureD, Try.results32])
  all_goals (simp only [inL]; grind)
theorem refute_fun (l : List Con) (n : Int) (cyc : List Int) : Fun Try.prog 18 [.u (consU l), .u (.int .i64 n), .u (ints cyc)] (· = .u (.bool (refuteB l n cyc))) := by
  have h0 := right_fun l n
  by_cases hr : rightL l n = true
  case neg =>
    have hr2 : rightL l n = false := by simpa using hr
    unfold refuteB
    rw [hr2] at h0 ⊢
    (refine Fun.of_body Try.func18 rfl (by simp) fun Γ hn => ?_); simp only [entry, List.zipIdx_cons, List.zipIdx_nil, List.map_cons, List.map_nil, Nat.zero_add, Try.ntmps18]
    simp only [consU, ints] at h0 ⊢
    repeat' (first
    | (refine H_cons ?_; simp)
    | (refine H_nil ?_; simp)
    | (refine V_sseq ?_; simp)
    | (refine V_scond ?_; simp)
    | (refine V_ret ?_; simp only [RK_seq, RK_seq_ret, RK_seq_exit, RK_blk, RK_blk_ret, RK_blk_exit, RK_loop, RK_loop_ret, RK_loop_exit, RK_done])
    | (refine CallP.fun_ (h0) (by first | rfl | fail) (by first | assumption | (simp; done) | fail) (by first | (simp; done) | (simp; rfl) | fail) (by first | (simp; done) | fail) (fun d hd => ?_); subst hd; (try simp))
    | fail)
    (refine EndOK.val (.inr rfl) ?_; simp [resD, oneOrTup, pureD, Try.results18])
  rw [hr] at h0
  obtain ⟨e1, e2, e3, e4⟩ := rightL_out hr
  by_cases hne : cyc = []
  · subst hne
    have hf : refuteB l n [] = false := by simp [refuteB]
    rw [hf]
    (refine Fun.of_body Try.func18 rfl (by simp) fun Γ hn => ?_); simp only [entry, List.zipIdx_cons, List.zipIdx_nil, List.map_cons, List.map_nil, Nat.zero_add, Try.ntmps18]
    simp only [consU, ints] at h0 ⊢
    repeat' (first
    | (refine H_cons ?_; simp)
    | (refine H_nil ?_; simp)
    | (refine V_sseq ?_; simp)
    | (refine V_scond ?_; simp)
    | (refine V_ret ?_; simp only [RK_seq, RK_seq_ret, RK_seq_exit, RK_blk, RK_blk_ret, RK_blk_exit, RK_loop, RK_loop_ret, RK_loop_exit, RK_done])
    | (refine CallP.fun_ (h0) (by first | rfl | fail) (by first | assumption | (simp; done) | fail) (by first | (simp; done) | (simp; rfl) | fail) (by first | (simp; done) | fail) (fun d hd => ?_); subst hd; (try simp))
    | fail)
    (refine EndOK.val (.inr rfl) ?_; simp [resD, oneOrTup, pureD, Try.results18])
  have hcp : 0 < cyc.length := List.length_pos_iff.2 hne
  by_cases hl : (cyc.length : Int) ≤ n
  case neg =>
    have hf : refuteB l n cyc = false := by simp [refuteB, hl]
    rw [hf]
    (refine Fun.of_body Try.func18 rfl (by simp) fun Γ hn => ?_); simp only [entry, List.zipIdx_cons, List.zipIdx_nil, List.map_cons, List.map_nil, Nat.zero_add, Try.ntmps18]
    simp only [consU, ints] at h0 ⊢
    repeat' (first
    | (refine H_cons ?_; simp [hl])
    | (refine H_nil ?_; simp [hl])
    | (refine V_sseq ?_; simp [hl])
    | (refine V_scond ?_; simp [hl])
    | (refine V_ret ?_; simp only [RK_seq, RK_seq_ret, RK_seq_exit, RK_blk, RK_blk_ret, RK_blk_exit, RK_loop, RK_loop_ret, RK_loop_exit, RK_done])
    | (refine ⟨fun hc => ?_, fun hc => ?_⟩ <;> (try (exfalso; omega)))
    | (intro hc <;> (try (exfalso; omega)))
    | (refine CallP.fun_ (h0) (by first | rfl | fail) (by first | assumption | (simp; done) | fail) (by first | (simp [hl]; done) | (simp [hl]; rfl) | fail) (by first | (simp; done) | fail) (fun d hd => ?_); subst hd; (try simp [hl]))
    | fail)
    all_goals
      (refine EndOK.val (.inr rfl) ?_; simp [resD, oneOrTup, pureD, Try.results18])
  have h1 := containsI_fun cyc 32 [U.row [consU l] 0] _ (fun i _ => refute1_fun l i) (by simp) (fun _ => rfl) (fun _ => rfl)
  simp only [List.map_cons, List.map_nil] at h1
  rw [refuteB_eq hr hl hne]
  by_cases hin : ∀ i ∈ cyc, inL l i = true
  case neg =>
    have ha : (cyc.any fun i => !inL l i) = true := by
      cases hq : cyc.any fun i => !inL l i with
      | true => rfl
      | false => exact absurd (fun i hi => by have := List.any_eq_false.1 hq i hi; simpa using this) hin
    rw [ha] at h1
    rw [sumS_out cyc _ hin]
    (refine Fun.of_body Try.func18 rfl (by simp) fun Γ hn => ?_); simp only [entry, List.zipIdx_cons, List.zipIdx_nil, List.map_cons, List.map_nil, Nat.zero_add, Try.ntmps18]
    simp only [consU, ints] at h0 h1 ⊢
    repeat' (first
    | (refine H_cons ?_; simp [hl, hne])
    | (refine H_nil ?_; simp [hl, hne])
    | (refine V_sseq ?_; simp [hl, hne])
    | (refine V_scond ?_; simp [hl, hne])
    | (refine V_ret ?_; simp only [RK_seq, RK_seq_ret, RK_seq_exit, RK_blk, RK_blk_ret, RK_blk_exit, RK_loop, RK_loop_ret, RK_loop_exit, RK_done])
    | (refine ⟨?_, by omega⟩)
    | (refine CallP.fun_ (h0) (by first | rfl | fail) (by first | assumption | (simp; done) | fail) (by first | (simp [hl, hne]; done) | (simp [hl, hne]; rfl) | fail) (by first | (simp; done) | fail) (fun d hd => ?_); subst hd; (try simp [hl, hne]))
    | (refine CallP.fun_ (h1) (by first | rfl | fail) (by first | assumption | (simp; done) | fail) (by first | (simp [hl, hne]; done) | (simp [hl, hne]; rfl) | fail) (by first | (simp; done) | fail) (fun d hd => ?_); subst hd; (try simp [hl, hne]))
    | fail)
    (refine EndOK.val (.inr rfl) ?_; simp [resD, oneOrTup, pureD, Try.results18])
  have ha : (cyc.any fun i => !inL l i) = false := by
    rw [List.any_eq_false]
    intro i hi
    rw [hin i hi]
    simp
  rw [ha] at h1
  have hat : ∀ i ∈ cyc, ∃ (I : Nat) (c : Con), i = (I : Int) ∧ l[I]? = some c := fun i hi => by
    have := hin i hi
    simp only [inL, Bool.and_eq_true, decide_eq_true_eq] at this
    obtain ⟨I, rfl⟩ := Int.eq_ofNat_of_zero_le this.1
    exact ⟨I, _, rfl, List.getElem?_eq_getElem (by omega)⟩
  obtain ⟨q, hq⟩ : ∃ q, cyc[cyc.length - 1]? = some q := ⟨_, List.getElem?_eq_getElem (by omega)⟩
  obtain ⟨Q, d, rfl, hd⟩ := hat q (List.mem_of_getElem? hq)
  have hla : lastA l cyc = d.A := by
    have : cyc.getLast? = some (Q : Int) := by rw [List.getLast?_eq_getElem?]; exact hq
    simp [lastA, this, hd]
  rw [hla]
  have hdl : Q < l.length := (List.getElem?_eq_some_iff.1 hd).1
  have hcl : cyc.length ≤ 200 := by omega
  have hci : ((cyc.length - 1 : Nat) : Int) = (cyc.length : Int) - 1 := by omega
  (refine Fun.of_body Try.func18 rfl (by simp) fun Γ hn => ?_); simp only [entry, List.zipIdx_cons, List.zipIdx_nil, List.map_cons, List.map_nil, Nat.zero_add, Try.ntmps18]
  simp only [consU, ints] at h0 h1 ⊢
  repeat' (first
    | (refine H_cons ?_; simp [hl, hne, hq, hd, hci])
    | (refine HD_cons ?_; simp [hl, hne, hq, hd, hci])
    | (refine H_nil ?_; simp [hl, hne, hq, hd, hci])
    | (refine ⟨by omega, ?_⟩)
    | (refine V_sseq ?_; simp [hl, hne, hq, hd, hci])
    | (refine V_scond ?_; simp [hl, hne, hq, hd, hci])
    | (refine HD_nil ?_)
    | (refine hk _ ?_; clear hk k; simp only [RK_seq, RK_seq_ret, RK_seq_exit, RK_blk, RK_blk_ret, RK_blk_exit, RK_loop, RK_loop_ret, RK_loop_exit, RK_done])
    | (refine V_drawV rfl (by kernel_rfl) (by kernel_rfl) fun k hk => ?_; simp [hl, hne, hq, hd, hci])
    | (refine V_sblock ?_; simp [hl, hne, hq, hd, hci])
    | (refine V_skip ?_; simp only [RK_seq, RK_seq_ret, RK_seq_exit, RK_blk, RK_blk_ret, RK_blk_exit, RK_loop, RK_loop_ret, RK_loop_exit, RK_done])
    | (refine ⟨?_, by omega⟩)
    | (refine CallP.fun_ (h0) (by first | rfl | fail) (by first | assumption | (simp; done) | fail) (by first | (simp [hl, hne, hq, hd, hci]; done) | (simp [hl, hne, hq, hd, hci]; rfl) | fail) (by first | (simp; done) | fail) (fun d hd => ?_); subst hd; (try simp [hl, hne, hq, hd, hci]))
    | (refine CallP.fun_ (h1) (by first | rfl | fail) (by first | assumption | (simp; done) | fail) (by first | (simp [hl, hne, hq, hd, hci]; done) | (simp [hl, hne, hq, hd, hci]; rfl) | fail) (by first | (simp; done) | fail) (fun d hd => ?_); subst hd; (try simp [hl, hne, hq, hd, hci]))
    | fail)
  have e4' := e4.smallN
  have hin' : ∀ (i : Nat) (x : Int), cyc[i]? = some x → ∃ (I : Nat) (c : Con), x = (I : Int) ∧ l[I]? = some c := fun i x hx => hat x (List.mem_of_getElem? hx)
  refine V_loopF (α := { s : Nat × Int × Int // s.1 ≤ cyc.length ∧ sumS l d.A cyc = ((sumS l s.2.2 (cyc.drop s.1)).map fun p => (p.1 + s.2.1, p.2)) ∧ -(1099511627776 * (s.1 : Int)) ≤ s.2.1 ∧ s.2.1 ≤ 1099511627776 * (s.1 : Int) }) [3, 41, 42]
    (fun s => [(8, .u (.int .i64 s.1.2.2)), (7, .u (.int .i64 s.1.2.1)), (43, .u (.int .i64 s.1.1))]) (fun s => cyc.length - s.1.1) ⟨(0, 0, d.A), by omega, by simp, by simp, by simp⟩ ?_ ?_
  · exact (Wk.cut rfl (by simp [hn, St.lp]) (by simp [wkO, St.lp, getK_cons, getK, Ob.under, D.under, under_rowsD, under_entD]) (by simp [wkU, St.lp, keepE, getK_cons, getK, D.under]) (by simp [wkE, St.lp, keepE, getK_cons, getK] <;> (try (intros; simp_all; done)) <;> (try (intros; omega)) <;> (try grind)))
  rintro ⟨⟨i, acc, at'⟩, hi, hS, hb1, hb2⟩
  simp only at hi hS hb1 hb2
  simp [St.lp, St.only, keepE, getK_cons, getK]
  rcases hx : cyc[i]? with _ | x
  · have hge : cyc.length ≤ i := by simpa using hx
    rw [List.drop_of_length_le hge] at hS
    simp only [sumS, Option.map_some, Int.zero_add] at hS
    repeat' (first
    | (refine H_cons ?_; simp [hx])
    | (refine H_nil ?_; simp [hx])
    | (refine ⟨by omega, ?_⟩)
    | (refine V_sseq ?_; simp [hx])
    | (refine V_ret ?_; simp only [RK_seq, RK_seq_ret, RK_seq_exit, RK_blk, RK_blk_ret, RK_blk_exit, RK_loop, RK_loop_ret, RK_loop_exit, RK_done])
    | (refine V_exit ?_; simp [RK_seq, RK_seq_ret, RK_seq_exit, RK_blk, RK_blk_ret, RK_blk_exit, RK_loop, RK_loop_ret, RK_loop_exit, RK_done])
    | (intro hc <;> (try (exfalso; omega)))
    | fail)
    (refine EndOK.val (.inr rfl) ?_; simp [resD, oneOrTup, pureD, Try.results18])
    simp [hS]
  · have hlt : i < cyc.length := (List.getElem?_eq_some_iff.1 hx).1
    have hdr : cyc.drop i = x :: cyc.drop (i + 1) := by
      rw [List.drop_eq_getElem_cons hlt]
      congr 1
      exact (List.getElem?_eq_some_iff.1 hx).2
    obtain ⟨X, c, rfl, hcc⟩ := hin' i x hx
    have hXl : X < l.length := (List.getElem?_eq_some_iff.1 hcc).1
    rw [hdr, sumS_cons, if_pos (by omega), Int.toNat_natCast, hcc] at hS
    simp only at hS
    obtain ⟨hN1, hN2⟩ := e4' c (List.mem_of_getElem? hcc)
    by_cases hB : c.B = at'
    · rw [if_pos hB] at hS
      repeat' (first
    | (refine H_cons ?_; simp [hx, hcc, hB])
    | (refine HD_cons ?_; simp [hx, hcc, hB])
    | (refine H_nil ?_; simp [hx, hcc, hB])
    | (refine ⟨by omega, ?_⟩)
    | (refine V_sseq ?_; simp [hx, hcc, hB])
    | (refine V_scond ?_; simp [hx, hcc, hB])
    | (refine HD_nil ?_)
    | (refine hk _ ?_; clear hk k; simp only [RK_seq, RK_seq_ret, RK_seq_exit, RK_blk, RK_blk_ret, RK_blk_exit, RK_loop, RK_loop_ret, RK_loop_exit, RK_done])
    | (refine V_drawV rfl (by kernel_rfl) (by kernel_rfl) fun k hk => ?_; simp [hx, hcc, hB])
    | (refine V_sregion ?_; simp [hx, hcc, hB])
    | (refine V_skip ?_; simp only [RK_seq, RK_seq_ret, RK_seq_exit, RK_blk, RK_blk_ret, RK_blk_exit, RK_loop, RK_loop_ret, RK_loop_exit, RK_done])
    | (refine ⟨?_, by omega⟩)
    | (intro hc <;> (try (exfalso; omega)))
    | fail)
      refine LoopW.next ⟨(i + 1, acc + c.N, c.A), by simp only; omega, ?_, by simp only; omega, by simp only; omega⟩ (by simp; omega) ?_
      · rw [hS]
        cases sumS l c.A (cyc.drop (i + 1)) with
        | none => rfl
        | some p => simp only [Option.map_some, Option.some.injEq, Prod.mk.injEq, and_true]; omega
      · exact (Wk.cut rfl (by simp [hn, St.lp]) (by simp [wkO, St.lp, getK_cons, getK, Ob.under, D.under, under_rowsD, under_entD]) (by simp [wkU, St.lp, keepE, getK_cons, getK, D.under]) (by simp [wkE, St.lp, keepE, getK_cons, getK] <;> (try (intros; simp_all; done)) <;> (try (intros; omega)) <;> (try grind)))
    · rw [if_neg hB] at hS
      repeat' (first
    | (refine H_cons ?_; simp [hx, hcc, hB])
    | (refine H_nil ?_; simp [hx, hcc, hB])
    | (refine V_sseq ?_; simp [hx, hcc, hB])
    | (refine V_scond ?_; simp [hx, hcc, hB])
    | (refine V_ret ?_; simp only [RK_seq, RK_seq_ret, RK_seq_exit, RK_blk, RK_blk_ret, RK_blk_exit, RK_loop, RK_loop_ret, RK_loop_exit, RK_done])
    | (refine V_skip ?_; simp only [RK_seq, RK_seq_ret, RK_seq_exit, RK_blk, RK_blk_ret, RK_blk_exit, RK_loop, RK_loop_ret, RK_loop_exit, RK_done])
    | (refine ⟨?_, by omega⟩)
    | (intro hc <;> (try (exfalso; omega)))
    | fail)
      (refine EndOK.val (.inr rfl) ?_; simp [resD, oneOrTup, pureD, Try.results18])
      simp [hS]
end Go.Proofs.Ytdkadmchdocjbaa
