/- Layer 13: what is checked and refuted: the walks of the program. -/
import Derived.Test.YtdkadmchdocjbaaDf
set_option linter.all false
set_option maxRecDepth 100000
set_option maxHeartbeats 8000000
set_option linter.all false
namespace Go.Proofs.Ytdkadmchdocjbaa
open Go Go.VL
def valL (vs : List Int) (x : Nat) : Int := vs.getD x 0
def small60 (v : Int) : Bool := decide (-1152921504606846976 ≤ v) && decide (v ≤ 1152921504606846976)
def metB (vs : List Int) (c : Con) : Bool := decide (valL vs c.a ≤ valL vs c.b + c.N)
def checkB (l : List Con) (n : Int) (vs : List Int) : Bool := rightL l n && decide ((vs.length : Int) = n) && vs.all small60 && l.all (metB vs)
theorem all_any {α : Type} (p : α → Bool) (l : List α) : l.all p = !l.any fun c => !p c := by
  induction l with
  | nil => rfl
  | cons a l ih => simp [ih]
attribute [local simp] hcons hstep evPure opd uOf putOK St.put St.at getK binD binI binS binB nilD aggD eqUs cmpK lookD lookR rangeD Go.VL.nextD entryD keyD valU keyU lookK mkV entD_nil lookK_entD updK_entD1 updK_entD2 updK_entD3 allUE allUE_entD makeMapD mapUpdD mapEff updK valM Key.kk shiftI arith unD convD pickD loadD cellsAt fieldAddrD fieldD indexAddrD indexD sliceD cutD lenD minmaxD nilCheckD buildD fillD cellsD isOne ones setAll mkAgg allU allocD boxD storeD St.add buildSliceD appendD rowsOf makeD setOb getK_setOb getK_del getK_cons stripL strip guardTmp entry chunks zcells valD argsV argsW argW argU1 argU0 argsU0 argsU1 calleeOf scalarD scalarU delAll effD St.effS RK_seq RK_seq_ret RK_seq_exit RK_blk RK_blk_ret RK_blk_exit RK_loop RK_loop_ret RK_loop_exit RK_done vs_seq vs_block vs_skip vs_label vs_exit vs_ret vs_cond vs_region vs_loop vs_draw vs_range vs_scope applyW mkD rdIds lentIds callOf calleeOf freeOp D.ids Op.operands Call.operands isEffOp makeIfD typeAssertD conc concs conc1 uOfV panicD IntKind.bits allU2 allU2_append List.take_of_length_le List.range_succ
attribute [local irreducible] V G H HD HD2 RunK Eff CallP CallV EndOK Fun Ret FinOK LoopI LoopW EndW
theorem check1_fun (v : Int) : Fun Try.prog 30 (iarg v :: [].map .u) (· = .u (.bool (!small60 v))) := by
  simp only [iarg, List.map_cons, List.map_nil]
  (refine Fun.of_body Try.func30 rfl (by simp) fun Γ hn => ?_); simp only [entry, List.zipIdx_cons, List.zipIdx_nil, List.map_cons, List.map_nil, Nat.zero_add, Try.ntmps30]
  repeat' (first
    | (refine H_cons ?_; simp)
    | (refine H_nil ?_; simp)
    | (refine V_sseq ?_; simp)
    | (refine V_ret ?_; simp only [RK_seq, RK_seq_ret, RK_seq_exit, RK_blk, RK_blk_ret, RK_blk_exit, RK_loop, RK_loop_ret, RK_loop_exit, RK_done])
    | (refine ⟨fun hc => ?_, fun hc => ?_⟩ <;> (try (exfalso; omega)))
    | fail)
  all_goals
    (refine EndOK.val (.inr rfl) ?_; simp [resD, oneOrTup, pureD, Try.results30])
  all_goals (simp only [small60]; grind)
theorem valL_at {vs : List Int} {x : Nat} (h : x < vs.length) : vs[x]? = some (valL vs x) := by
  rw [List.getElem?_eq_getElem h, valL, List.getD_eq_getElem?_getD, List.getElem?_eq_getElem h]
  rfl
theorem valL_small {vs : List Int} (h : vs.all small60 = true) (x : Nat) : -1152921504606846976 ≤ valL vs x ∧ valL vs x ≤ 1152921504606846976 := by
  by_cases hx : x < vs.length
  · have h1 := valL_at hx
    have := List.all_eq_true.1 h _ (List.mem_of_getElem? h1)
    simpa [small60] using this
  · have : valL vs x = 0 := by rw [valL, List.getD_eq_getElem?_getD, List.getElem?_eq_none (by omega)]; rfl
    omega
theorem check2_fun (vs : List Int) (c : Con) (n : Nat) (hc : 0 ≤ c.A ∧ c.A < n ∧ 0 ≤ c.B ∧ c.B < n ∧ -maxN ≤ c.N ∧ c.N ≤ maxN) (hn : vs.length = n) (hs : vs.all small60 = true) :
    Fun Try.prog 31 (cagg c :: [U.row [ints vs] 0].map .u) (· = .u (.bool (!metB vs c))) := by
  obtain ⟨A, B, N⟩ := c
  simp only at hc
  obtain ⟨a, rfl⟩ := Int.eq_ofNat_of_zero_le hc.1
  obtain ⟨b, rfl⟩ := Int.eq_ofNat_of_zero_le hc.2.2.1
  have ha := valL_at (vs := vs) (x := a) (by omega)
  have hb := valL_at (vs := vs) (x := b) (by omega)
  have ha2 := valL_small hs a
  have hb2 := valL_small hs b
  simp only [cagg, List.map_cons, List.map_nil, ints, metB, Con.a, Con.b, Int.toNat_natCast, maxN] at *
  (refine Fun.of_body Try.func31 rfl (by simp) fun Γ hn => ?_); simp only [entry, List.zipIdx_cons, List.zipIdx_nil, List.map_cons, List.map_nil, Nat.zero_add, Try.ntmps31]
  repeat' (first
    | (refine H_cons ?_; simp [ha, hb])
    | (refine HD_cons ?_; simp [ha, hb])
    | (refine H_nil ?_; simp [ha, hb])
    | (refine ⟨by omega, ?_⟩)
    | (refine V_sseq ?_; simp [ha, hb])
    | (refine HD_nil ?_)
    | (refine hk _ ?_; clear hk k; simp only [RK_seq, RK_seq_ret, RK_seq_exit, RK_blk, RK_blk_ret, RK_blk_exit, RK_loop, RK_loop_ret, RK_loop_exit, RK_done])
    | (refine V_drawV rfl (by kernel_rfl) (by kernel_rfl) fun k hk => ?_; simp [ha, hb])
    | (refine V_ret ?_; simp only [RK_seq, RK_seq_ret, RK_seq_exit, RK_blk, RK_blk_ret, RK_blk_exit, RK_loop, RK_loop_ret, RK_loop_exit, RK_done])
    | fail)
  (refine EndOK.val (.inr rfl) ?_; simp [resD, oneOrTup, pureD, Try.results31])
  try grind
theorem check_fun (l : List Con) (n : Int) (vs : List Int) : Fun Try.prog 16 [.u (consU l), .u (.int .i64 n), .u (ints vs)] (· = .u (.bool (checkB l n vs))) := by
  have h0 := right_fun l n
  unfold checkB
  by_cases hr : rightL l n = true
  case neg =>
    have hr2 : rightL l n = false := by simpa using hr
    rw [hr2] at h0 ⊢
    (refine Fun.of_body Try.func16 rfl (by simp) fun Γ hn => ?_); simp only [entry, List.zipIdx_cons, List.zipIdx_nil, List.map_cons, List.map_nil, Nat.zero_add, Try.ntmps16]
    simp only [consU, ints] at h0 ⊢
    repeat' (first
    | (refine H_cons ?_; simp)
    | (refine H_nil ?_; simp)
    | (refine V_sseq ?_; simp)
    | (refine V_scond ?_; simp)
    | (refine V_ret ?_; simp only [RK_seq, RK_seq_ret, RK_seq_exit, RK_blk, RK_blk_ret, RK_blk_exit, RK_loop, RK_loop_ret, RK_loop_exit, RK_done])
    | (refine CallP.fun_ (h0) (by first | rfl | fail) (by first | assumption | (simp; done) | fail) (by first | (simp; done) | (simp; rfl) | fail) (by first | (simp; done) | fail) (fun d hd => ?_); subst hd; (try simp))
    | fail)
    (refine EndOK.val (.inr rfl) ?_; simp [resD, oneOrTup, pureD, Try.results16])
  rw [hr] at h0 ⊢
  by_cases hl : (vs.length : Int) = n
  case neg =>
    (refine Fun.of_body Try.func16 rfl (by simp) fun Γ hn => ?_); simp only [entry, List.zipIdx_cons, List.zipIdx_nil, List.map_cons, List.map_nil, Nat.zero_add, Try.ntmps16]
    simp only [consU, ints] at h0 ⊢
    repeat' (first
    | (refine H_cons ?_; simp [hl])
    | (refine H_nil ?_; simp [hl])
    | (refine V_sseq ?_; simp [hl])
    | (refine V_scond ?_; simp [hl])
    | (refine V_ret ?_; simp only [RK_seq, RK_seq_ret, RK_seq_exit, RK_blk, RK_blk_ret, RK_blk_exit, RK_loop, RK_loop_ret, RK_loop_exit, RK_done])
    | (refine CallP.fun_ (h0) (by first | rfl | fail) (by first | assumption | (simp; done) | fail) (by first | (simp [hl]; done) | (simp [hl]; rfl) | fail) (by first | (simp; done) | fail) (fun d hd => ?_); subst hd; (try simp [hl]))
    | fail)
    (refine EndOK.val (.inr rfl) ?_; simp [resD, oneOrTup, pureD, Try.results16])
    try simp [hl]
  have h1 := containsI_fun vs 30 [] _ (fun v _ => check1_fun v) (by simp) (fun _ => rfl) (fun _ => rfl)
  simp only [List.map_nil] at h1
  rw [all_any]
  by_cases hs : vs.all small60 = true
  case neg =>
    have hs2 : (vs.any fun c => !small60 c) = true := by rw [all_any] at hs; simpa using hs
    rw [hs2] at h1 ⊢
    (refine Fun.of_body Try.func16 rfl (by simp) fun Γ hn => ?_); simp only [entry, List.zipIdx_cons, List.zipIdx_nil, List.map_cons, List.map_nil, Nat.zero_add, Try.ntmps16]
    simp only [consU, ints] at h0 h1 ⊢
    repeat' (first
    | (refine H_cons ?_; simp [hl])
    | (refine H_nil ?_; simp [hl])
    | (refine V_sseq ?_; simp [hl])
    | (refine V_scond ?_; simp [hl])
    | (refine V_ret ?_; simp only [RK_seq, RK_seq_ret, RK_seq_exit, RK_blk, RK_blk_ret, RK_blk_exit, RK_loop, RK_loop_ret, RK_loop_exit, RK_done])
    | (refine CallP.fun_ (h0) (by first | rfl | fail) (by first | assumption | (simp; done) | fail) (by first | (simp [hl]; done) | (simp [hl]; rfl) | fail) (by first | (simp; done) | fail) (fun d hd => ?_); subst hd; (try simp [hl]))
    | (refine CallP.fun_ (h1) (by first | rfl | fail) (by first | assumption | (simp; done) | fail) (by first | (simp [hl]; done) | (simp [hl]; rfl) | fail) (by first | (simp; done) | fail) (fun d hd => ?_); subst hd; (try simp [hl]))
    | fail)
    (refine EndOK.val (.inr rfl) ?_; simp [resD, oneOrTup, pureD, Try.results16])
    try simp
  have hs2 : (vs.any fun c => !small60 c) = false := by rw [all_any] at hs; simpa using hs
  rw [hs2] at h1 ⊢
  obtain ⟨e1, e2, e3, e4⟩ := rightL_out hr
  have h2 := containsC_fun l 31 [U.row [ints vs] 0] _ (fun c hc => check2_fun vs c n.toNat (e4 c hc) (by omega) hs) (by simp) (fun _ => rfl) (fun _ => rfl)
  simp only [List.map_cons, List.map_nil] at h2
  rw [all_any (metB vs)]
  generalize (l.any fun c => !metB vs c) = z at h2 ⊢
  (refine Fun.of_body Try.func16 rfl (by simp) fun Γ hn => ?_); simp only [entry, List.zipIdx_cons, List.zipIdx_nil, List.map_cons, List.map_nil, Nat.zero_add, Try.ntmps16]
  simp only [consU, ints] at h0 h1 h2 ⊢
  repeat' (first
    | (refine H_cons ?_; simp [hl])
    | (refine H_nil ?_; simp [hl])
    | (refine V_sseq ?_; simp [hl])
    | (refine V_scond ?_; simp [hl])
    | (refine V_ret ?_; simp only [RK_seq, RK_seq_ret, RK_seq_exit, RK_blk, RK_blk_ret, RK_blk_exit, RK_loop, RK_loop_ret, RK_loop_exit, RK_done])
    | (refine V_skip ?_; simp only [RK_seq, RK_seq_ret, RK_seq_exit, RK_blk, RK_blk_ret, RK_blk_exit, RK_loop, RK_loop_ret, RK_loop_exit, RK_done])
    | (refine CallP.fun_ (h0) (by first | rfl | fail) (by first | assumption | (simp; done) | fail) (by first | (simp [hl]; done) | (simp [hl]; rfl) | fail) (by first | (simp; done) | fail) (fun d hd => ?_); subst hd; (try simp [hl]))
    | (refine CallP.fun_ (h1) (by first | rfl | fail) (by first | assumption | (simp; done) | fail) (by first | (simp [hl]; done) | (simp [hl]; rfl) | fail) (by first | (simp; done) | fail) (fun d hd => ?_); subst hd; (try simp [hl]))
    | (refine CallP.fun_ (h2) (by first | rfl | fail) (by first | assumption | (simp; done) | fail) (by first | (simp [hl]; done) | (simp [hl]; rfl) | fail) (by first | (simp; done) | fail) (fun d hd => ?_); subst hd; (try simp [hl]))
    | fail)
  (refine EndOK.val (.inr rfl) ?_; simp [resD, oneOrTup, pureD, Try.results16])
  try simp [hl]
end Go.Proofs.Ytdkadmchdocjbaa
