/- The reference's table of units. -/
import Derived.Test.YtehlmagdlkcifaaUf
set_option linter.all false
set_option maxRecDepth 100000
set_option maxHeartbeats 8000000
namespace Go.Proofs.Ytehlmagdlkcifaa
open Go Go.VL
attribute [local simp] hcons hstep evPure opd uOf putOK St.put St.at getK binD binI binS binB nilD aggD eqUs cmpK lookD lookR rangeD nextD entryD keyD valU keyU lookK mkV entD_nil lookK_entD updK_entD1 updK_entD2 updK_entD3 allUE allUE_entD makeMapD mapUpdD mapEff updK valM Key.kk shiftI arith unD convD pickD loadD cellsAt fieldAddrD fieldD indexAddrD indexD sliceD cutD lenD minmaxD nilCheckD buildD fillD cellsD isOne ones setAll mkAgg allU allocD boxD storeD St.add buildSliceD appendD rowsOf makeD setOb getK_setOb getK_del getK_cons stripL strip guardTmp entry chunks zcells valD argsV argsW argW argU1 argU0 argsU0 argsU1 calleeOf scalarD scalarU delAll effD St.effS RK_seq RK_seq_ret RK_seq_exit RK_blk RK_blk_ret RK_blk_exit RK_loop RK_loop_ret RK_loop_exit RK_done vs_seq vs_block vs_skip vs_label vs_exit vs_ret vs_cond vs_region vs_loop vs_draw vs_range vs_scope applyW mkD rdIds lentIds callOf calleeOf freeOp D.ids Op.operands Call.operands isEffOp IntKind.bits allU2 allU2_append List.take_of_length_le List.range_succ
attribute [local irreducible] V G H HD HD2 RunK Eff CallP CallV EndOK Fun Ret FinOK LoopI LoopW EndW
def plainB (u : Int) : Bool := decide (u = 3) || decide (u = 2) || decide (u = 1)
theorem plain_fun (u : Int) : Fun Try.prog 82 [.u (.int .i64 u)] (· = .u (.bool (plainB u))) := by
  unfold plainB
  (refine Fun.of_body Try.func82 rfl (by simp) fun Γ hn => ?_); simp only [entry, List.zipIdx_cons, List.zipIdx_nil, List.map_cons, List.map_nil, Nat.zero_add, Try.ntmps82]
  repeat' (first
    | (refine H_cons ?_; simp)
    | (refine H_nil ?_; simp)
    | (refine V_sseq ?_; simp)
    | (refine V_ret ?_; simp only [RK_seq, RK_seq_ret, RK_seq_exit, RK_blk, RK_blk_ret, RK_blk_exit, RK_loop, RK_loop_ret, RK_loop_exit, RK_done])
    | (refine ⟨fun hc => ?_, fun hc => ?_⟩ <;> (try (exfalso; omega)))
    | fail)
  all_goals
    (refine EndOK.val (.inr rfl) ?_; simp [resD, oneOrTup, pureD, Try.results82])
  all_goals (simp_all; done)
def prodR (a b : Int) : Int × Int :=
  if (decide (a = 4) && (decide (b = 4) || plainB b)) = true then (b, 0)
  else if (decide (b = 4) && plainB a) = true then (a, 0)
  else if (decide (a = 1) && plainB b) = true then (b, 0)
  else if (decide (b = 1) && plainB a) = true then (a, 0)
  else (0, 14)
theorem prodR_fun (a b : Int) : Fun Try.prog 65 [.u (.int .i64 a), .u (.int .i64 b)] (· = .tup [.u (.int .i64 (prodR a b).1), .u (.int .i64 (prodR a b).2)]) := by
  have h1 := plain_fun a
  have h2 := plain_fun b
  unfold prodR
  generalize plainB a = pa at h1 ⊢
  generalize plainB b = pb at h2 ⊢
  (refine Fun.of_body Try.func65 rfl (by simp) fun Γ hn => ?_); simp only [entry, List.zipIdx_cons, List.zipIdx_nil, List.map_cons, List.map_nil, Nat.zero_add, Try.ntmps65]
  repeat' (first
    | (refine H_cons ?_; simp)
    | (refine H_nil ?_; simp)
    | (refine ⟨by omega, ?_⟩)
    | (refine V_sseq ?_; simp)
    | (refine V_scond ?_; simp)
    | (refine V_ret ?_; simp only [RK_seq, RK_seq_ret, RK_seq_exit, RK_blk, RK_blk_ret, RK_blk_exit, RK_loop, RK_loop_ret, RK_loop_exit, RK_done])
    | (refine V_skip ?_; simp only [RK_seq, RK_seq_ret, RK_seq_exit, RK_blk, RK_blk_ret, RK_blk_exit, RK_loop, RK_loop_ret, RK_loop_exit, RK_done])
    | (refine ⟨fun hc => ?_, fun hc => ?_⟩ <;> (try (exfalso; omega)))
    | (intro hc <;> (try (exfalso; omega)))
    | (refine CallP.fun_ (h1) (by first | rfl | fail) (by first | assumption | (simp; done) | fail) (by first | (simp; done) | (simp; rfl) | fail) (by first | (simp; done) | fail) (fun d hd => ?_); subst hd; (try simp))
    | (refine CallP.fun_ (h2) (by first | rfl | fail) (by first | assumption | (simp; done) | fail) (by first | (simp; done) | (simp; rfl) | fail) (by first | (simp; done) | fail) (fun d hd => ?_); subst hd; (try simp))
    | fail)
  all_goals
    (refine EndOK.val (.inr rfl) ?_; simp [resD, oneOrTup, pureD, Try.results65])
  all_goals (clear h1 h2; first | (simp_all; done) | grind)
def quotR (a b : Int) : Int × Int :=
  if (plainB a && decide (b = 1)) = true then (a, 0)
  else if (decide (a = b) && (decide (a = 3) || decide (a = 2))) = true then (1, 0)
  else (0, 14)
theorem quotR_fun (a b : Int) : Fun Try.prog 66 [.u (.int .i64 a), .u (.int .i64 b)] (· = .tup [.u (.int .i64 (quotR a b).1), .u (.int .i64 (quotR a b).2)]) := by
  have h1 := plain_fun a
  unfold quotR
  generalize plainB a = pa at h1 ⊢
  (refine Fun.of_body Try.func66 rfl (by simp) fun Γ hn => ?_); simp only [entry, List.zipIdx_cons, List.zipIdx_nil, List.map_cons, List.map_nil, Nat.zero_add, Try.ntmps66]
  repeat' (first
    | (refine H_cons ?_; simp)
    | (refine H_nil ?_; simp)
    | (refine V_sseq ?_; simp)
    | (refine V_scond ?_; simp)
    | (refine V_ret ?_; simp only [RK_seq, RK_seq_ret, RK_seq_exit, RK_blk, RK_blk_ret, RK_blk_exit, RK_loop, RK_loop_ret, RK_loop_exit, RK_done])
    | (refine V_skip ?_; simp only [RK_seq, RK_seq_ret, RK_seq_exit, RK_blk, RK_blk_ret, RK_blk_exit, RK_loop, RK_loop_ret, RK_loop_exit, RK_done])
    | (refine ⟨fun hc => ?_, fun hc => ?_⟩ <;> (try (exfalso; omega)))
    | (refine CallP.fun_ (h1) (by first | rfl | fail) (by first | assumption | (simp; done) | fail) (by first | (simp; done) | (simp; rfl) | fail) (by first | (simp; done) | fail) (fun d hd => ?_); subst hd; (try simp))
    | fail)
  all_goals
    (refine EndOK.val (.inr rfl) ?_; simp [resD, oneOrTup, pureD, Try.results66])
  all_goals (clear h1; first | (simp_all; done) | grind)
def okR (b : Bool) (u : Int) : Int × Int := if b = true then (u, 0) else (0, 14)
def ownR (op : Int) (l : List Int) : Int × Int :=
  if op = 2 ∨ op = 3 ∨ op = 6 ∨ op = 7 then okR (decide (l0 l 0 = l0 l 1) && decide (l0 l 0 ≠ 0)) (l0 l 0)
  else if op = 4 then prodR (l0 l 0) (l0 l 1)
  else if op = 5 then quotR (l0 l 0) (l0 l 1)
  else if op = 8 then okR (decide (l0 l 0 = l0 l 1) && decide (l0 l 0 ≠ 0)) 0
  else if op = 9 then okR (decide (l0 l 0 = l0 l 1)) 0
  else if op = 13 then okR (decide (l0 l 0 = 0) && decide (l0 l 1 = l0 l 2)) (l0 l 1)
  else okR (l.all fun n => decide (n = 0)) 0
theorem all_take_succ {α : Type} {p : α → Bool} {l : List α} {i : Nat} {x : α} (h : l[i]? = some x) : (l.take (i + 1)).all p = ((l.take i).all p && p x) := by
  obtain ⟨hi, rfl⟩ := List.getElem?_eq_some_iff.1 h
  rw [List.take_succ_eq_append_getElem hi, List.all_append]
  simp
theorem own_fun (op : Int) (l : List Int) (hop : 2 ≤ op ∧ op < 14) (hl : (l.length : Int) = operandsI op) : Fun Try.prog 49 [.u (.int .i64 op), .u (ints l)] (· = .tup [.u (.int .i64 (ownR op l).1), .u (.int .i64 (ownR op l).2)]) := by
  have h12 : (op = 10 ∨ op = 11 ∨ op = 12) ∨ op = 13 ∨ op = 2 ∨ op = 3 ∨ op = 4 ∨ op = 5 ∨ op = 6 ∨ op = 7 ∨ op = 8 ∨ op = 9 := by omega
  rcases h12 with h12 | rfl | h12
  · have hlen : l.length ≤ 2 := by rcases h12 with rfl | rfl | rfl <;> simp [operandsI] at hl <;> omega
    have e : ownR op l = okR (l.all fun n => decide (n = 0)) 0 := by rcases h12 with rfl | rfl | rfl <;> rfl
    rw [e]
    clear hl hop e
    unfold okR
    generalize hB : (l.all fun n => decide (n = 0)) = B
    rcases h12 with rfl | rfl | rfl
    all_goals
      (refine Fun.of_body Try.func49 rfl (by simp) fun Γ hn => ?_); simp only [entry, List.zipIdx_cons, List.zipIdx_nil, List.map_cons, List.map_nil, Nat.zero_add, Try.ntmps49]
      simp only [ints]
      repeat' (first
    | (refine H_cons ?_; simp)
    | (refine H_nil ?_; simp)
    | (refine V_sseq ?_; simp)
    | (refine V_scond ?_; simp)
    | (refine V_sblock ?_; simp)
    | (refine V_sregion ?_; simp)
    | fail)
      refine V_loopF (α := { i : Nat // i ≤ l.length }) [1, 7, 13] (fun i => [(6, .u (.bool ((l.take i.1).all fun n => decide (n = 0)))), (12, .u (.int .i64 i.1))]) (fun i => l.length - i.1) ⟨0, by omega⟩ ?_ ?_
      · exact (Wk.env rfl rfl rfl (by simp [wkE, St.lp, keepE, getK_cons, getK] <;> (try (intros; simp_all; done)) <;> (try (intros; omega)) <;> (try grind)))
      rintro ⟨i, hi⟩
      simp [St.lp, St.only, keepE, getK_cons, getK]
      rcases hx : l[i]? with _ | x
      · have hge : l.length ≤ i := by simpa using hx
        obtain rfl : i = l.length := by omega
        rw [List.take_length, hB]
        cases B
        all_goals
          repeat' (first
    | (refine H_cons ?_; simp [hx])
    | (refine H_nil ?_; simp [hx])
    | (refine V_sseq ?_; simp [hx])
    | (refine V_scond ?_; simp [hx])
    | (refine V_ret ?_; simp only [RK_seq, RK_seq_ret, RK_seq_exit, RK_blk, RK_blk_ret, RK_blk_exit, RK_loop, RK_loop_ret, RK_loop_exit, RK_done])
    | (refine V_skip ?_; simp only [RK_seq, RK_seq_ret, RK_seq_exit, RK_blk, RK_blk_ret, RK_blk_exit, RK_loop, RK_loop_ret, RK_loop_exit, RK_done])
    | (refine V_exit ?_; simp [RK_seq, RK_seq_ret, RK_seq_exit, RK_blk, RK_blk_ret, RK_blk_exit, RK_loop, RK_loop_ret, RK_loop_exit, RK_done])
    | fail)
          (refine EndOK.val (.inr rfl) ?_; simp [resD, oneOrTup, pureD, Try.results49])
      · have hlt : i < l.length := (List.getElem?_eq_some_iff.1 hx).1
        have hs := all_take_succ (p := fun n => decide (n = 0)) hx
        generalize ((l.take i).all fun n => decide (n = 0)) = b at hs ⊢
        repeat' (first
    | (refine H_cons ?_; simp [hx])
    | (refine H_nil ?_; simp [hx])
    | (refine ⟨by omega, ?_⟩)
    | (refine V_sseq ?_; simp [hx])
    | (refine V_scond ?_; simp [hx])
    | (refine V_sregion ?_; simp [hx])
    | (refine V_skip ?_; simp only [RK_seq, RK_seq_ret, RK_seq_exit, RK_blk, RK_blk_ret, RK_blk_exit, RK_loop, RK_loop_ret, RK_loop_exit, RK_done])
    | (refine ⟨?_, by omega⟩)
    | (refine ⟨fun hc => ?_, fun hc => ?_⟩ <;> (try (exfalso; omega)))
    | (intro hc <;> (try (exfalso; omega)))
    | fail)
        all_goals
          refine LoopW.next ⟨i + 1, by omega⟩ (by simp; omega) ?_
          exact (Wk.env rfl rfl rfl (by simp [wkE, St.lp, keepE, getK_cons, getK, hs] <;> (try (intros; simp_all; done)) <;> (try (intros; omega)) <;> (try grind)))
  · obtain ⟨a, b, c, rfl⟩ := len3 (hl.trans rfl)
    simp only [ownR, l0, okR]
    (refine Fun.of_body Try.func49 rfl (by simp) fun Γ hn => ?_); simp only [entry, List.zipIdx_cons, List.zipIdx_nil, List.map_cons, List.map_nil, Nat.zero_add, Try.ntmps49]
    simp only [ints, List.map_cons, List.map_nil]
    repeat' (first
    | (refine H_cons ?_; simp)
    | (refine HD_cons ?_; simp)
    | (refine H_nil ?_; simp)
    | (refine V_sseq ?_; simp)
    | (refine V_scond ?_; simp)
    | (refine HD_nil ?_)
    | (refine hk _ ?_; clear hk k; simp only [RK_seq, RK_seq_ret, RK_seq_exit, RK_blk, RK_blk_ret, RK_blk_exit, RK_loop, RK_loop_ret, RK_loop_exit, RK_done])
    | (refine V_drawV rfl (by kernel_rfl) (by kernel_rfl) fun k hk => ?_; simp)
    | (refine HD_guard rfl (by simp) (fun hc => ?_) (fun hc => ?_) <;> (try simp at hc) <;> (try (exfalso; omega)) <;> (try simp))
    | (refine V_sblock ?_; simp)
    | (refine V_sregion ?_; simp)
    | (refine V_ret ?_; simp only [RK_seq, RK_seq_ret, RK_seq_exit, RK_blk, RK_blk_ret, RK_blk_exit, RK_loop, RK_loop_ret, RK_loop_exit, RK_done])
    | (refine V_skip ?_; simp only [RK_seq, RK_seq_ret, RK_seq_exit, RK_blk, RK_blk_ret, RK_blk_exit, RK_loop, RK_loop_ret, RK_loop_exit, RK_done])
    | (refine ⟨fun hc => ?_, fun hc => ?_⟩ <;> (try (exfalso; omega)))
    | fail)
    all_goals
      (refine EndOK.val (.inr rfl) ?_; simp [resD, oneOrTup, pureD, Try.results49])
    all_goals (simp_all; done)
  · obtain ⟨a, b, rfl⟩ := len2 (l := l) (by rw [hl]; rcases h12 with rfl | rfl | rfl | rfl | rfl | rfl | rfl | rfl <;> rfl)
    clear hl hop
    have h1 := prodR_fun a b
    have h2 := quotR_fun a b
    have e0 : l0 [a, b] 0 = a := rfl
    have e1 : l0 [a, b] 1 = b := rfl
    unfold ownR okR
    rw [e0, e1]
    clear e0 e1
    generalize prodR a b = p at h1 ⊢
    generalize quotR a b = q at h2 ⊢
    simp only [ints, List.map_cons, List.map_nil] at ⊢
    rcases h12 with rfl | rfl | rfl | rfl | rfl | rfl | rfl | rfl
    all_goals
      (refine Fun.of_body Try.func49 rfl (by simp) fun Γ hn => ?_); simp only [entry, List.zipIdx_cons, List.zipIdx_nil, List.map_cons, List.map_nil, Nat.zero_add, Try.ntmps49]
      repeat' (first
    | (refine H_cons ?_; simp)
    | (refine HD_cons ?_; simp)
    | (refine H_nil ?_; simp)
    | (refine V_sseq ?_; simp)
    | (refine V_scond ?_; simp)
    | (refine HD_nil ?_)
    | (refine hk _ ?_; clear hk k; simp only [RK_seq, RK_seq_ret, RK_seq_exit, RK_blk, RK_blk_ret, RK_blk_exit, RK_loop, RK_loop_ret, RK_loop_exit, RK_done])
    | (refine V_drawV rfl (by kernel_rfl) (by kernel_rfl) fun k hk => ?_; simp)
    | (refine HD_guard rfl (by simp) (fun hc => ?_) (fun hc => ?_) <;> (try simp at hc) <;> (try (exfalso; omega)) <;> (try simp))
    | (refine V_sblock ?_; simp)
    | (refine V_sregion ?_; simp)
    | (refine V_ret ?_; simp only [RK_seq, RK_seq_ret, RK_seq_exit, RK_blk, RK_blk_ret, RK_blk_exit, RK_loop, RK_loop_ret, RK_loop_exit, RK_done])
    | (refine V_skip ?_; simp only [RK_seq, RK_seq_ret, RK_seq_exit, RK_blk, RK_blk_ret, RK_blk_exit, RK_loop, RK_loop_ret, RK_loop_exit, RK_done])
    | (refine ⟨fun hc => ?_, fun hc => ?_⟩ <;> (try (exfalso; omega)))
    | (refine CallV.fun_ (h1) (by first | rfl | fail) (by first | assumption | (simp; done) | fail) (by first | (simp; done) | (simp; rfl) | fail) (by first | (simp; done) | fail) ?_ <;> (try simp))
    | (refine CallV.fun_ (h2) (by first | rfl | fail) (by first | assumption | (simp; done) | fail) (by first | (simp; done) | (simp; rfl) | fail) (by first | (simp; done) | fail) ?_ <;> (try simp))
    | fail)
      all_goals
        (refine EndOK.val (.inr rfl) ?_; simp [resD, oneOrTup, pureD, Try.results49])
      all_goals (clear h1 h2; first | (simp_all; done) | (grind) | skip)
end Go.Proofs.Ytehlmagdlkcifaa
