/- Right expressions. -/
import Derived.Test.YtehlmagdlkcifaaUb
set_option linter.all false
set_option maxRecDepth 100000
set_option maxHeartbeats 8000000
namespace Go.Proofs.Ytehlmagdlkcifaa
open Go Go.VL
attribute [local simp] hcons hstep evPure opd uOf putOK St.put St.at getK binD binI binS binB nilD aggD eqUs cmpK lookD lookR rangeD nextD entryD keyD valU keyU lookK mkV entD_nil lookK_entD updK_entD1 updK_entD2 updK_entD3 allUE allUE_entD makeMapD mapUpdD mapEff updK valM Key.kk shiftI arith unD convD pickD loadD cellsAt fieldAddrD fieldD indexAddrD indexD sliceD cutD lenD minmaxD nilCheckD buildD fillD cellsD isOne ones setAll mkAgg allU allocD boxD storeD St.add buildSliceD appendD rowsOf makeD setOb getK_setOb getK_del getK_cons stripL strip guardTmp entry chunks zcells valD argsV argsW argW argU1 argU0 argsU0 argsU1 calleeOf scalarD scalarU delAll effD St.effS RK_seq RK_seq_ret RK_seq_exit RK_blk RK_blk_ret RK_blk_exit RK_loop RK_loop_ret RK_loop_exit RK_done vs_seq vs_block vs_skip vs_label vs_exit vs_ret vs_cond vs_region vs_loop vs_draw vs_range vs_scope applyW mkD rdIds lentIds callOf calleeOf freeOp D.ids Op.operands Call.operands isEffOp IntKind.bits allU2 allU2_append List.take_of_length_le List.range_succ
attribute [local irreducible] V G H HD HD2 RunK Eff CallP CallV EndOK Fun Ret FinOK LoopI LoopW EndW
def nameB (s : List UInt8) : Bool := wordB s && !words.contains s
set_option maxRecDepth 100000 in
theorem name_fun (s : List UInt8) : Fun Try.prog 46 [.u (.str s)] (· = .u (.bool (nameB s))) := by
  have h1 := containsS_fun words s
  have h2 := word_fun s
  have h3 := reserved_fun
  generalize hw : words.contains s = w at h1
  simp only [strs] at h1 h3
  generalize (words.map fun s => [U.str s]) = W at h1 h3
  unfold nameB
  rw [hw]
  clear hw
  generalize wordB s = b at h2 ⊢
  cases b
  all_goals
    (refine Fun.of_body Try.func46 rfl (by simp) fun Γ hn => ?_); simp only [entry, List.zipIdx_cons, List.zipIdx_nil, List.map_cons, List.map_nil, Nat.zero_add, Try.ntmps46]
    repeat' (first
    | (refine H_cons ?_; simp)
    | (refine H_nil ?_; simp)
    | (refine V_sseq ?_; simp)
    | (refine V_ret ?_; simp only [RK_seq, RK_seq_ret, RK_seq_exit, RK_blk, RK_blk_ret, RK_blk_exit, RK_loop, RK_loop_ret, RK_loop_exit, RK_done])
    | (refine CallP.fun_ (h1) (by first | rfl | fail) (by first | assumption | (simp; done) | fail) (by first | (simp; done) | (simp; rfl) | fail) (by first | (simp; done) | fail) (fun d hd => ?_); subst hd; (try simp))
    | (refine CallP.fun_ (h2) (by first | rfl | fail) (by first | assumption | (simp; done) | fail) (by first | (simp; done) | (simp; rfl) | fail) (by first | (simp; done) | fail) (fun d hd => ?_); subst hd; (try simp))
    | (refine CallP.fun_ (h3) (by first | rfl | fail) (by first | assumption | (simp; done) | fail) (by first | (simp; done) | (simp; rfl) | fail) (by first | (simp; done) | fail) (fun d hd => ?_); subst hd; (try simp))
    | fail)
    (refine EndOK.val (.inr rfl) ?_; simp [resD, oneOrTup, pureD, Try.results46])
def operandsI (op : Int) : Int := if op = 0 ∨ op = 1 then 0 else if op = 12 then 1 else if op = 13 then 3 else if op < 0 ∨ 14 ≤ op then -1 else 2
theorem operands_fun (op : Int) : Fun Try.prog 67 [.u (.int .i64 op)] (· = .u (.int .i64 (operandsI op))) := by
  unfold operandsI
  (refine Fun.of_body Try.func67 rfl (by simp) fun Γ hn => ?_); simp only [entry, List.zipIdx_cons, List.zipIdx_nil, List.map_cons, List.map_nil, Nat.zero_add, Try.ntmps67]
  repeat' (first
    | (refine H_cons ?_; simp)
    | (refine H_nil ?_; simp)
    | (refine V_sseq ?_; simp)
    | (refine V_scond ?_; simp)
    | (refine V_sblock ?_; simp)
    | (refine V_sregion ?_; simp)
    | (refine V_ret ?_; simp only [RK_seq, RK_seq_ret, RK_seq_exit, RK_blk, RK_blk_ret, RK_blk_exit, RK_loop, RK_loop_ret, RK_loop_exit, RK_done])
    | (refine V_skip ?_; simp only [RK_seq, RK_seq_ret, RK_seq_exit, RK_blk, RK_blk_ret, RK_blk_exit, RK_loop, RK_loop_ret, RK_loop_exit, RK_done])
    | (refine ⟨?_, by omega⟩)
    | (refine ⟨fun hc => ?_, fun hc => ?_⟩ <;> (try (exfalso; omega)))
    | (intro hc <;> (try (exfalso; omega)))
    | fail)
  all_goals
    (refine EndOK.val (.inr rfl) ?_; simp [resD, oneOrTup, pureD, Try.results67])
  all_goals (repeat' split) <;> first | rfl | omega | simp_all
theorem erow_eq : Exp.row = fun e => [.int .i64 e.op, .int .i64 e.n, .int .i64 e.unit, .str e.s, .sl (e.args.map Exp.row)] := funext fun e => e.row_eq
def eagg (e : Exp) : D := .u (.agg [.int .i64 e.op, .int .i64 e.n, .int .i64 e.unit, .str e.s, .sl (e.args.map Exp.row)])
def exps (l : List Exp) : U := .sl (l.map fun e => [.int .i64 e.op, .int .i64 e.n, .int .i64 e.unit, .str e.s, .sl (e.args.map Exp.row)])
theorem exps_eq (l : List Exp) : exps l = .sl (l.map Exp.row) := by rw [exps, ← erow_eq]
theorem indexE_fun (l : List (Exp)) (f : FuncId) (caps : List U) (p : Exp → Bool) (hf : ∀ n ∈ l, Fun Try.prog f (eagg n :: caps.map .u) (· = .u (.bool (p n)))) (hcl : callable Try.prog f = true)
    (hca : ∀ o, argsW o (caps.map .u) = some (caps.map .u, [])) : Fun Try.prog 83 [.u (exps l), .fnc (.func f) (caps.map .u)] (· = .u (.int .i64 (idxP p l 0))) := by
  (refine Fun.of_body Try.func83 rfl (by simp) fun Γ hn => ?_); simp only [entry, List.zipIdx_cons, List.zipIdx_nil, List.map_cons, List.map_nil, Nat.zero_add, Try.ntmps83]
  simp only [exps]
  refine V_len (x := 0) rfl fun hl => ?_
  simp at hl
  repeat' (first
    | (refine H_cons ?_; simp)
    | (refine H_nil ?_; simp)
    | (refine V_sseq ?_; simp)
    | (refine V_sblock ?_; simp)
    | fail)
  refine V_loopF (α := { i : Nat // i ≤ l.length ∧ ∀ c ∈ l.take i, p c = false }) [0, 1, 7] (fun i => [(8, .u (.int .i64 i.1))]) (fun i => l.length - i.1) ⟨0, by omega, by simp⟩ ?_ ?_
  · exact (Wk.env rfl rfl rfl (by simp [wkE, St.lp, keepE, getK_cons, getK] <;> (try (intros; simp_all; done)) <;> (try (intros; omega)) <;> (try grind)))
  rintro ⟨i, hi, hb⟩
  simp [St.lp, St.only, keepE, getK_cons, getK]
  rcases hx : l[i]? with _ | n
  · have hge : l.length ≤ i := by simpa using hx
    repeat' (first
    | (refine H_cons ?_; simp [hx])
    | (refine H_nil ?_; simp [hx])
    | (refine ⟨by omega, ?_⟩)
    | (refine V_sseq ?_; simp [hx])
    | (refine V_ret ?_; simp only [RK_seq, RK_seq_ret, RK_seq_exit, RK_blk, RK_blk_ret, RK_blk_exit, RK_loop, RK_loop_ret, RK_loop_exit, RK_done])
    | (refine V_exit ?_; simp [RK_seq, RK_seq_ret, RK_seq_exit, RK_blk, RK_blk_ret, RK_blk_exit, RK_loop, RK_loop_ret, RK_loop_exit, RK_done])
    | (intro hc <;> (try (exfalso; omega)))
    | fail)
    (refine EndOK.val (.inr rfl) ?_; simp [resD, oneOrTup, pureD, Try.results83])
    rw [List.take_of_length_le hge] at hb
    exact (idxP_none hb).symm
  · have hlt : i < l.length := (List.getElem?_eq_some_iff.1 hx).1
    have h1 := hf n (List.mem_of_getElem? hx)
    simp only [eagg] at h1
    cases hp : p n
    · rw [hp] at h1
      repeat' (first
    | (refine H_cons ?_; simp [hx, hca])
    | (refine H_nil ?_; simp [hx, hca])
    | (refine ⟨by omega, ?_⟩)
    | (refine V_sseq ?_; simp [hx, hca])
    | (refine V_scond ?_; simp [hx, hca])
    | (refine V_sregion ?_; simp [hx, hca])
    | (refine V_skip ?_; simp only [RK_seq, RK_seq_ret, RK_seq_exit, RK_blk, RK_blk_ret, RK_blk_exit, RK_loop, RK_loop_ret, RK_loop_exit, RK_done])
    | (refine ⟨?_, by omega⟩)
    | (intro hc <;> (try (exfalso; omega)))
    | (refine CallP.fun_ (h1) (by first | rfl | fail) (by first | assumption | (simp; done) | fail) (by first | (simp [hx, hca]; done) | (simp [hx, hca]; rfl) | fail) (by first | (simp; done) | fail) (fun d hd => ?_); subst hd; (try simp [hx, hca]))
    | fail)
      refine LoopW.next ⟨i + 1, by omega, take_succ_all hx hb hp⟩ (by simp; omega) ?_
      exact (Wk.env rfl rfl rfl (by simp [wkE, St.lp, keepE, getK_cons, getK] <;> (try (intros; simp_all; done)) <;> (try (intros; omega)) <;> (try grind)))
    · rw [hp] at h1
      repeat' (first
    | (refine H_cons ?_; simp [hx, hca])
    | (refine H_nil ?_; simp [hx, hca])
    | (refine V_sseq ?_; simp [hx, hca])
    | (refine V_scond ?_; simp [hx, hca])
    | (refine V_ret ?_; simp only [RK_seq, RK_seq_ret, RK_seq_exit, RK_blk, RK_blk_ret, RK_blk_exit, RK_loop, RK_loop_ret, RK_loop_exit, RK_done])
    | (refine V_skip ?_; simp only [RK_seq, RK_seq_ret, RK_seq_exit, RK_blk, RK_blk_ret, RK_blk_exit, RK_loop, RK_loop_ret, RK_loop_exit, RK_done])
    | (refine ⟨?_, by omega⟩)
    | (intro hc <;> (try (exfalso; omega)))
    | (refine CallP.fun_ (h1) (by first | rfl | fail) (by first | assumption | (simp; done) | fail) (by first | (simp [hx, hca]; done) | (simp [hx, hca]; rfl) | fail) (by first | (simp; done) | fail) (fun d hd => ?_); subst hd; (try simp [hx, hca]))
    | fail)
      (refine EndOK.val (.inr rfl) ?_; simp [resD, oneOrTup, pureD, Try.results83])
      rw [idxP_at hb hx hp]
      omega
theorem containsE_fun (l : List (Exp)) (f : FuncId) (caps : List U) (p : Exp → Bool) (hf : ∀ n ∈ l, Fun Try.prog f (eagg n :: caps.map .u) (· = .u (.bool (p n)))) (hcl : callable Try.prog f = true)
    (hca : ∀ o, argsW o (caps.map .u) = some (caps.map .u, [])) (hcb : ∀ o, argsU1 o (caps.map .u) = some (caps, [])) : Fun Try.prog 68 [.u (exps l), .fnc (.func f) (caps.map .u)] (· = .u (.bool (l.any p))) := by
  have h1 := indexE_fun l f caps p hf hcl hca
  (refine Fun.of_body Try.func68 rfl (by simp) fun Γ hn => ?_); simp only [entry, List.zipIdx_cons, List.zipIdx_nil, List.map_cons, List.map_nil, Nat.zero_add, Try.ntmps68]
  simp only [exps] at h1 ⊢
  repeat' (first
    | (refine H_cons ?_; simp [hcb])
    | (refine H_nil ?_; simp [hcb])
    | (refine V_sseq ?_; simp [hcb])
    | (refine V_ret ?_; simp only [RK_seq, RK_seq_ret, RK_seq_exit, RK_blk, RK_blk_ret, RK_blk_exit, RK_loop, RK_loop_ret, RK_loop_exit, RK_done])
    | (refine CallP.fun_ (h1) (by first | rfl | fail) (by first | assumption | (simp; done) | fail) (by first | (simp [hcb]; done) | (simp [hcb]; rfl) | fail) (by first | (simp; done) | fail) (fun d hd => ?_); subst hd; (try simp [hcb]))
    | fail)
  (refine EndOK.val (.inr rfl) ?_; simp [resD, oneOrTup, pureD, Try.results68])
  have h2 := idxP_any p l 0 (by omega)
  rw [Bool.eq_iff_iff]
  simpa using h2
def numB (e : Exp) : Bool := decide (e.s = []) && decide (0 ≤ e.unit) && decide (e.unit < 5) && decide (0 ≤ e.n) && decide (e.n ≤ if e.unit = 0 then 1 else 1099511627776)
def rightB : Nat → Exp → Bool
  | 0, _ => false
  | d + 1, e => decide ((e.args.length : Int) = operandsI e.op) && (if e.op = 0 then numB e else if e.n ≠ 0 ∨ e.unit ≠ 0 then false else if e.op = 1 then nameB e.s else decide (e.s = []) && !e.args.any (fun x => !rightB d x))
set_option maxRecDepth 100000 in
set_option maxHeartbeats 4000000 in
theorem right_fun : ∀ (d : Nat) (e : Exp), (d : Int) ≤ 100 → Fun Try.prog 51 [eagg e, .u (.int .i64 d)] (· = .u (.bool (rightB d e)))
  | 0, e, _ => by
    (refine Fun.of_body Try.func51 rfl (by simp) fun Γ hn => ?_); simp only [entry, List.zipIdx_cons, List.zipIdx_nil, List.map_cons, List.map_nil, Nat.zero_add, Try.ntmps51]
    simp only [eagg]
    repeat' (first
    | (refine H_cons ?_; simp)
    | (refine HD_cons ?_; simp)
    | (refine H_nil ?_; simp)
    | (refine V_sseq ?_; simp)
    | (refine V_scond ?_; simp)
    | (refine HD_nil ?_)
    | (refine hk _ ?_; clear hk k; simp only [RK_seq, RK_seq_ret, RK_seq_exit, RK_blk, RK_blk_ret, RK_blk_exit, RK_loop, RK_loop_ret, RK_loop_exit, RK_done])
    | (refine V_drawV rfl (by kernel_rfl) (by kernel_rfl) fun k hk => ?_; simp)
    | (refine HD_guard rfl (by simp) (fun hc => ?_) (fun hc => ?_) <;> (try simp at hc) <;> (try (exfalso; omega)) <;> (try simp))
    | (refine V_ret ?_; simp only [RK_seq, RK_seq_ret, RK_seq_exit, RK_blk, RK_blk_ret, RK_blk_exit, RK_loop, RK_loop_ret, RK_loop_exit, RK_done])
    | fail)
    (refine EndOK.val (.inr rfl) ?_; simp [resD, oneOrTup, pureD, Try.results51])
    rfl
  | d + 1, e, hd => by
    have hr : ∀ x : Exp, Fun Try.prog 69 (eagg x :: [U.row [.int .i64 ((d + 1 : Nat) : Int)] 0].map .u) (· = .u (.bool (!rightB d x))) := fun x => by
      have h1 := right_fun d x (by omega)
      (refine Fun.of_body Try.func69 rfl (by simp) fun Γ hn => ?_); simp only [entry, List.zipIdx_cons, List.zipIdx_nil, List.map_cons, List.map_nil, Nat.zero_add, Try.ntmps69]
      simp only [eagg] at h1 ⊢
      repeat' (first
    | (refine H_cons ?_; simp)
    | (refine H_nil ?_; simp)
    | (refine ⟨by omega, ?_⟩)
    | (refine V_sseq ?_; simp)
    | (refine V_ret ?_; simp only [RK_seq, RK_seq_ret, RK_seq_exit, RK_blk, RK_blk_ret, RK_blk_exit, RK_loop, RK_loop_ret, RK_loop_exit, RK_done])
    | (refine CallP.fun_ (h1) (by first | rfl | fail) (by first | assumption | (simp; done) | fail) (by first | (simp; done) | (simp; rfl) | fail) (by first | (simp; done) | fail) (fun d hd => ?_); subst hd; (try simp))
    | fail)
      (refine EndOK.val (.inr rfl) ?_; simp [resD, oneOrTup, pureD, Try.results69])
    have hcon := containsE_fun e.args 69 [U.row [.int .i64 ((d + 1 : Nat) : Int)] 0] (fun x => !rightB d x) (fun x _ => hr x) (by simp) (fun _ => rfl) (fun _ => rfl)
    have hnam := name_fun e.s
    have hopr := operands_fun e.op
    simp only [List.map_cons, List.map_nil] at hcon
    rw [rightB]
    unfold numB
    generalize (e.args.any fun x => !rightB d x) = z at hcon ⊢
    generalize nameB e.s = nm at hnam ⊢
    generalize hop : operandsI e.op = oi at hopr ⊢
    (refine Fun.of_body Try.func51 rfl (by simp) fun Γ hn => ?_); simp only [entry, List.zipIdx_cons, List.zipIdx_nil, List.map_cons, List.map_nil, Nat.zero_add, Try.ntmps51]
    rw [exps_eq] at hcon
    simp only [eagg]
    by_cases hlen : (e.args.length : Int) = oi
    case neg =>
      repeat' (first
    | (refine H_cons ?_; simp [hlen])
    | (refine HD_cons ?_; simp [hlen])
    | (refine H_nil ?_; simp [hlen])
    | (refine V_sseq ?_; simp [hlen])
    | (refine V_scond ?_; simp [hlen])
    | (refine HD_nil ?_)
    | (refine hk _ ?_; clear hk k; simp only [RK_seq, RK_seq_ret, RK_seq_exit, RK_blk, RK_blk_ret, RK_blk_exit, RK_loop, RK_loop_ret, RK_loop_exit, RK_done])
    | (refine V_drawV rfl (by kernel_rfl) (by kernel_rfl) fun k hk => ?_; simp [hlen])
    | (refine HD_guard rfl (by simp [hlen]) (fun hc => ?_) (fun hc => ?_) <;> (try simp [hlen] at hc) <;> (try (exfalso; omega)) <;> (try simp [hlen]))
    | (refine V_ret ?_; simp only [RK_seq, RK_seq_ret, RK_seq_exit, RK_blk, RK_blk_ret, RK_blk_exit, RK_loop, RK_loop_ret, RK_loop_exit, RK_done])
    | (refine CallV.fun_ (hopr) (by first | rfl | fail) (by first | assumption | (simp; done) | fail) (by first | (simp [hlen]; done) | (simp [hlen]; rfl) | fail) (by first | (simp; done) | fail) ?_ <;> (try simp [hlen]))
    | fail)
      (refine EndOK.val (.inr rfl) ?_; simp [resD, oneOrTup, pureD, Try.results51])
      try (simp_all; done)
    by_cases h0 : e.op = 0
    case pos =>
      by_cases hu : e.unit = 0
      all_goals
        repeat' (first
    | (refine H_cons ?_; simp [hlen, h0, hu])
    | (refine HD_cons ?_; simp [hlen, h0, hu])
    | (refine H_nil ?_; simp [hlen, h0, hu])
    | (refine V_sseq ?_; simp [hlen, h0, hu])
    | (refine V_scond ?_; simp [hlen, h0, hu])
    | (refine HD_nil ?_)
    | (refine hk _ ?_; clear hk k; simp only [RK_seq, RK_seq_ret, RK_seq_exit, RK_blk, RK_blk_ret, RK_blk_exit, RK_loop, RK_loop_ret, RK_loop_exit, RK_done])
    | (refine V_drawV rfl (by kernel_rfl) (by kernel_rfl) fun k hk => ?_; simp [hlen, h0, hu])
    | (refine HD_guard rfl (by simp [hlen, h0, hu]) (fun hc => ?_) (fun hc => ?_) <;> (try simp [hlen, h0, hu] at hc) <;> (try (exfalso; omega)) <;> (try simp [hlen, h0, hu]))
    | (refine V_sregion ?_; simp [hlen, h0, hu])
    | (refine V_ret ?_; simp only [RK_seq, RK_seq_ret, RK_seq_exit, RK_blk, RK_blk_ret, RK_blk_exit, RK_loop, RK_loop_ret, RK_loop_exit, RK_done])
    | (refine V_skip ?_; simp only [RK_seq, RK_seq_ret, RK_seq_exit, RK_blk, RK_blk_ret, RK_blk_exit, RK_loop, RK_loop_ret, RK_loop_exit, RK_done])
    | (refine ⟨fun hc => ?_, fun hc => ?_⟩ <;> (try (exfalso; omega)))
    | (refine CallV.fun_ (hopr) (by first | rfl | fail) (by first | assumption | (simp; done) | fail) (by first | (simp [hlen, h0, hu]; done) | (simp [hlen, h0, hu]; rfl) | fail) (by first | (simp; done) | fail) ?_ <;> (try simp [hlen, h0, hu]))
    | fail)
        all_goals
          (refine EndOK.val (.inr rfl) ?_; simp [resD, oneOrTup, pureD, Try.results51])
      all_goals clear hr hopr hcon hnam
      all_goals grind
    by_cases hnu : e.n ≠ 0 ∨ e.unit ≠ 0
    case pos =>
      repeat' (first
    | (refine H_cons ?_; simp [hlen, h0])
    | (refine HD_cons ?_; simp [hlen, h0])
    | (refine H_nil ?_; simp [hlen, h0])
    | (refine V_sseq ?_; simp [hlen, h0])
    | (refine V_scond ?_; simp [hlen, h0])
    | (refine HD_nil ?_)
    | (refine hk _ ?_; clear hk k; simp only [RK_seq, RK_seq_ret, RK_seq_exit, RK_blk, RK_blk_ret, RK_blk_exit, RK_loop, RK_loop_ret, RK_loop_exit, RK_done])
    | (refine V_drawV rfl (by kernel_rfl) (by kernel_rfl) fun k hk => ?_; simp [hlen, h0])
    | (refine HD_guard rfl (by simp [hlen, h0]) (fun hc => ?_) (fun hc => ?_) <;> (try simp [hlen, h0] at hc) <;> (try (exfalso; omega)) <;> (try simp [hlen, h0]))
    | (refine V_ret ?_; simp only [RK_seq, RK_seq_ret, RK_seq_exit, RK_blk, RK_blk_ret, RK_blk_exit, RK_loop, RK_loop_ret, RK_loop_exit, RK_done])
    | (refine V_skip ?_; simp only [RK_seq, RK_seq_ret, RK_seq_exit, RK_blk, RK_blk_ret, RK_blk_exit, RK_loop, RK_loop_ret, RK_loop_exit, RK_done])
    | (refine ⟨?_, by omega⟩)
    | (refine ⟨fun hc => ?_, fun hc => ?_⟩ <;> (try (exfalso; omega)))
    | (intro hc <;> (try (exfalso; omega)))
    | (refine CallV.fun_ (hopr) (by first | rfl | fail) (by first | assumption | (simp; done) | fail) (by first | (simp [hlen, h0]; done) | (simp [hlen, h0]; rfl) | fail) (by first | (simp; done) | fail) ?_ <;> (try simp [hlen, h0]))
    | fail)
      all_goals
        (refine EndOK.val (.inr rfl) ?_; simp [resD, oneOrTup, pureD, Try.results51])
      all_goals clear hr hopr hcon hnam
      all_goals grind
    by_cases h1 : e.op = 1
    case pos =>
      repeat' (first
    | (refine H_cons ?_; simp [hlen, h0, h1])
    | (refine HD_cons ?_; simp [hlen, h0, h1])
    | (refine H_nil ?_; simp [hlen, h0, h1])
    | (refine ⟨by omega, ?_⟩)
    | (refine V_sseq ?_; simp [hlen, h0, h1])
    | (refine V_scond ?_; simp [hlen, h0, h1])
    | (refine HD_nil ?_)
    | (refine hk _ ?_; clear hk k; simp only [RK_seq, RK_seq_ret, RK_seq_exit, RK_blk, RK_blk_ret, RK_blk_exit, RK_loop, RK_loop_ret, RK_loop_exit, RK_done])
    | (refine V_drawV rfl (by kernel_rfl) (by kernel_rfl) fun k hk => ?_; simp [hlen, h0, h1])
    | (refine HD_guard rfl (by simp [hlen, h0, h1]) (fun hc => ?_) (fun hc => ?_) <;> (try simp [hlen, h0, h1] at hc) <;> (try (exfalso; omega)) <;> (try simp [hlen, h0, h1]))
    | (refine V_ret ?_; simp only [RK_seq, RK_seq_ret, RK_seq_exit, RK_blk, RK_blk_ret, RK_blk_exit, RK_loop, RK_loop_ret, RK_loop_exit, RK_done])
    | (refine V_skip ?_; simp only [RK_seq, RK_seq_ret, RK_seq_exit, RK_blk, RK_blk_ret, RK_blk_exit, RK_loop, RK_loop_ret, RK_loop_exit, RK_done])
    | (refine ⟨?_, by omega⟩)
    | (intro hc <;> (try (exfalso; omega)))
    | (refine CallV.fun_ (hopr) (by first | rfl | fail) (by first | assumption | (simp; done) | fail) (by first | (simp [hlen, h0, h1]; done) | (simp [hlen, h0, h1]; rfl) | fail) (by first | (simp; done) | fail) ?_ <;> (try simp [hlen, h0, h1]))
    | (refine CallP.fun_ (hnam) (by first | rfl | fail) (by first | assumption | (simp; done) | fail) (by first | (simp [hlen, h0, h1]; done) | (simp [hlen, h0, h1]; rfl) | fail) (by first | (simp; done) | fail) (fun d hd => ?_); subst hd; (try simp [hlen, h0, h1]))
    | fail)
      all_goals
        (refine EndOK.val (.inr rfl) ?_; simp [resD, oneOrTup, pureD, Try.results51])
      all_goals clear hr hopr hcon hnam
      all_goals grind
    by_cases hs : e.s = []
    all_goals
      repeat' (first
    | (refine H_cons ?_; simp [hlen, h0, h1, hs])
    | (refine HD_cons ?_; simp [hlen, h0, h1, hs])
    | (refine H_nil ?_; simp [hlen, h0, h1, hs])
    | (refine ⟨by omega, ?_⟩)
    | (refine V_sseq ?_; simp [hlen, h0, h1, hs])
    | (refine V_scond ?_; simp [hlen, h0, h1, hs])
    | (refine HD_nil ?_)
    | (refine hk _ ?_; clear hk k; simp only [RK_seq, RK_seq_ret, RK_seq_exit, RK_blk, RK_blk_ret, RK_blk_exit, RK_loop, RK_loop_ret, RK_loop_exit, RK_done])
    | (refine V_drawV rfl (by kernel_rfl) (by kernel_rfl) fun k hk => ?_; simp [hlen, h0, h1, hs])
    | (refine HD_guard rfl (by simp [hlen, h0, h1, hs]) (fun hc => ?_) (fun hc => ?_) <;> (try simp [hlen, h0, h1, hs] at hc) <;> (try (exfalso; omega)) <;> (try simp [hlen, h0, h1, hs]))
    | (refine V_ret ?_; simp only [RK_seq, RK_seq_ret, RK_seq_exit, RK_blk, RK_blk_ret, RK_blk_exit, RK_loop, RK_loop_ret, RK_loop_exit, RK_done])
    | (refine V_skip ?_; simp only [RK_seq, RK_seq_ret, RK_seq_exit, RK_blk, RK_blk_ret, RK_blk_exit, RK_loop, RK_loop_ret, RK_loop_exit, RK_done])
    | (refine ⟨?_, by omega⟩)
    | (intro hc <;> (try (exfalso; omega)))
    | (refine CallV.fun_ (hopr) (by first | rfl | fail) (by first | assumption | (simp; done) | fail) (by first | (simp [hlen, h0, h1, hs]; done) | (simp [hlen, h0, h1, hs]; rfl) | fail) (by first | (simp; done) | fail) ?_ <;> (try simp [hlen, h0, h1, hs]))
    | (refine CallP.fun_ (hcon) (by first | rfl | fail) (by first | assumption | (simp; done) | fail) (by first | (simp [hlen, h0, h1, hs]; done) | (simp [hlen, h0, h1, hs]; rfl) | fail) (by first | (simp; done) | fail) (fun d hd => ?_); subst hd; (try simp [hlen, h0, h1, hs]))
    | fail)
      all_goals
        (refine EndOK.val (.inr rfl) ?_; simp [resD, oneOrTup, pureD, Try.results51])
    all_goals clear hr hopr hcon hnam
    all_goals grind
theorem rightExp_fun (e : Exp) : Fun Try.prog 26 [eagg e] (· = .u (.bool (rightB 12 e))) := by
  have h1 := right_fun 12 e (by omega)
  (refine Fun.of_body Try.func26 rfl (by simp) fun Γ hn => ?_); simp only [entry, List.zipIdx_cons, List.zipIdx_nil, List.map_cons, List.map_nil, Nat.zero_add, Try.ntmps26]
  simp only [eagg] at h1 ⊢
  repeat' (first
    | (refine H_cons ?_; simp)
    | (refine H_nil ?_; simp)
    | (refine V_sseq ?_; simp)
    | (refine V_ret ?_; simp only [RK_seq, RK_seq_ret, RK_seq_exit, RK_blk, RK_blk_ret, RK_blk_exit, RK_loop, RK_loop_ret, RK_loop_exit, RK_done])
    | (refine CallP.fun_ (h1) (by first | rfl | fail) (by first | assumption | (simp; done) | fail) (by first | (simp; done) | (simp; rfl) | fail) (by first | (simp; done) | fail) (fun d hd => ?_); subst hd; (try simp))
    | fail)
  (refine EndOK.val (.inr rfl) ?_; simp [resD, oneOrTup, pureD, Try.results26])
end Go.Proofs.Ytehlmagdlkcifaa
