/- Layer 13: valid constraints, what is checked: the walks of the program. -/
import Derived.Test.YtdkadmchdocjbaaSy
import Derived.Test.YtdkadmchdocjbaaVLB
import Derived.Test.YtdkadmchdocjbaaTy
import Derived.Test.YtdkadmchdocjbaaDe
set_option linter.all false
set_option maxRecDepth 100000
set_option maxHeartbeats 8000000
set_option linter.all false
namespace Go.Proofs.Ytdkadmchdocjbaa
open Go Go.VL
attribute [local simp] hcons hstep evPure opd uOf putOK St.put St.at getK binD binI binS binB nilD aggD eqUs cmpK lookD lookR rangeD Go.VL.nextD entryD keyD valU keyU lookK mkV entD_nil lookK_entD updK_entD1 updK_entD2 updK_entD3 allUE allUE_entD makeMapD mapUpdD mapEff updK valM Key.kk shiftI arith unD convD pickD loadD cellsAt fieldAddrD fieldD indexAddrD indexD sliceD cutD lenD minmaxD nilCheckD buildD fillD cellsD isOne ones setAll mkAgg allU allocD boxD storeD St.add buildSliceD appendD rowsOf makeD setOb getK_setOb getK_del getK_cons stripL strip guardTmp entry chunks zcells valD argsV argsW argW argU1 argU0 argsU0 argsU1 calleeOf scalarD scalarU delAll effD St.effS RK_seq RK_seq_ret RK_seq_exit RK_blk RK_blk_ret RK_blk_exit RK_loop RK_loop_ret RK_loop_exit RK_done vs_seq vs_block vs_skip vs_label vs_exit vs_ret vs_cond vs_region vs_loop vs_draw vs_range vs_scope applyW mkD rdIds lentIds callOf calleeOf freeOp D.ids Op.operands Call.operands isEffOp makeIfD typeAssertD conc concs conc1 uOfV panicD IntKind.bits allU2 allU2_append List.take_of_length_le List.range_succ
attribute [local irreducible] V G H HD HD2 RunK Eff CallP CallV EndOK Fun Ret FinOK LoopI LoopW EndW
theorem take_snoc {α : Type} {l : List α} {i : Nat} {a : α} (hx : l[i]? = some a) : l.take (i + 1) = l.take i ++ [a] := by
  obtain ⟨hi, rfl⟩ := List.getElem?_eq_some_iff.1 hx
  rw [List.take_succ_eq_append_getElem hi]
def iarg (n : Int) : D := .u (.int .i64 n)
def ints (l : List Int) : U := .sl (l.map fun n => [.int .i64 n])
def cagg (c : Con) : D := .u (.agg [.int .i64 c.A, .int .i64 c.B, .int .i64 c.N])
def consU (l : List Con) : U := .sl (l.map fun c => [.int .i64 c.A, .int .i64 c.B, .int .i64 c.N])
/-- The first place where something holds; -1 without one. -/
def idxP {α : Type} (p : α → Bool) : List α → Int → Int
  | [], _ => -1
  | x :: l, i => if p x = true then i else idxP p l (i + 1)
theorem idxP_at {α : Type} {p : α → Bool} {l : List α} {i : Nat} {x : α} {k : Int} (h : ∀ c ∈ l.take i, p c = false) (hx : l[i]? = some x) (hp : p x = true) : idxP p l k = k + i := by
  induction l generalizing i k with
  | nil => simp at hx
  | cons s l ih =>
    cases i with
    | zero => simp at hx; simp [idxP, hx, hp]
    | succ i =>
      rw [idxP, if_neg (by rw [h s (by simp)]; simp), ih (i := i) (fun c hc => h c (by simp [hc])) (by simpa using hx)]
      omega
theorem idxP_none {α : Type} {p : α → Bool} {l : List α} {k : Int} (h : ∀ c ∈ l, p c = false) : idxP p l k = -1 := by
  induction l generalizing k with
  | nil => rfl
  | cons s l ih => rw [idxP, if_neg (by rw [h s (by simp)]; simp), ih fun c hc => h c (by simp [hc])]
theorem idxP_any {α : Type} (p : α → Bool) (l : List α) : ∀ k : Int, 0 ≤ k → (0 ≤ idxP p l k ↔ l.any p = true) := by
  induction l with
  | nil => intro k hk; simp [idxP]
  | cons s l ih =>
    intro k hk
    by_cases h : p s = true
    · simp [idxP, h, hk]
    · rw [idxP, if_neg h, ih (k + 1) (by omega)]
      simp [h]
theorem take_succ_all {α : Type} {p : α → Prop} {l : List α} {i : Nat} {x : α} (hx : l[i]? = some x) (h : ∀ c ∈ l.take i, p c) (hp : p x) : ∀ c ∈ l.take (i + 1), p c := by
  obtain ⟨hi, rfl⟩ := List.getElem?_eq_some_iff.1 hx
  rw [List.take_succ_eq_append_getElem hi]
  intro c hc
  rcases List.mem_append.1 hc with hc | hc
  · exact h c hc
  · simp at hc; subst hc; exact hp
theorem indexI_fun (l : List (Int)) (f : FuncId) (caps : List U) (p : Int → Bool) (hf : ∀ n ∈ l, Fun Try.prog f (iarg n :: caps.map .u) (· = .u (.bool (p n)))) (hcl : callable Try.prog f = true)
    (hca : ∀ o, argsW o (caps.map .u) = some (caps.map .u, [])) : Fun Try.prog 39 [.u (ints l), .fnc (.func f) (caps.map .u)] (· = .u (.int .i64 (idxP p l 0))) := by
  (refine Fun.of_body Try.func39 rfl (by simp) fun Γ hn => ?_); simp only [entry, List.zipIdx_cons, List.zipIdx_nil, List.map_cons, List.map_nil, Nat.zero_add, Try.ntmps39]
  simp only [ints]
  refine V_len (x := 0) rfl fun hl => ?_
  simp at hl
  repeat' (first
    | (refine H_cons ?_; simp)
    | (refine H_nil ?_; simp)
    | (refine V_sseq ?_; simp)
    | (refine V_sblock ?_; simp)
    | fail)
  refine V_loopF (α := { i : Nat // i ≤ l.length ∧ ∀ c ∈ l.take i, p c = false }) [0, 1, 7] (fun i => [(8, .u (.int .i64 i.1))]) (fun i => l.length - i.1) ⟨0, by omega, by simp⟩ ?_ ?_
  · exact (Wk.env rfl rfl rfl (by simp [wkE, St.lp, keepE, getK_cons, getK] <;> (try (intros; simp_all; done)) <;> (try (intros; omega)) <;> (try grind)))
  rintro ⟨i, hi, hb⟩
  simp [St.lp, St.only, keepE, getK_cons, getK]
  rcases hx : l[i]? with _ | n
  · have hge : l.length ≤ i := by simpa using hx
    repeat' (first
    | (refine H_cons ?_; simp [hx])
    | (refine H_nil ?_; simp [hx])
    | (refine ⟨by omega, ?_⟩)
    | (refine V_sseq ?_; simp [hx])
    | (refine V_ret ?_; simp only [RK_seq, RK_seq_ret, RK_seq_exit, RK_blk, RK_blk_ret, RK_blk_exit, RK_loop, RK_loop_ret, RK_loop_exit, RK_done])
    | (refine V_exit ?_; simp [RK_seq, RK_seq_ret, RK_seq_exit, RK_blk, RK_blk_ret, RK_blk_exit, RK_loop, RK_loop_ret, RK_loop_exit, RK_done])
    | (intro hc <;> (try (exfalso; omega)))
    | fail)
    (refine EndOK.val (.inr rfl) ?_; simp [resD, oneOrTup, pureD, Try.results39])
    rw [List.take_of_length_le hge] at hb
    exact (idxP_none hb).symm
  · have hlt : i < l.length := (List.getElem?_eq_some_iff.1 hx).1
    have h1 := hf n (List.mem_of_getElem? hx)
    simp only [iarg] at h1
    cases hp : p n
    · rw [hp] at h1
      repeat' (first
    | (refine H_cons ?_; simp [hx, hca])
    | (refine H_nil ?_; simp [hx, hca])
    | (refine ⟨by omega, ?_⟩)
    | (refine V_sseq ?_; simp [hx, hca])
    | (refine V_scond ?_; simp [hx, hca])
    | (refine V_sregion ?_; simp [hx, hca])
    | (refine V_skip ?_; simp only [RK_seq, RK_seq_ret, RK_seq_exit, RK_blk, RK_blk_ret, RK_blk_exit, RK_loop, RK_loop_ret, RK_loop_exit, RK_done])
    | (refine ⟨?_, by omega⟩)
    | (intro hc <;> (try (exfalso; omega)))
    | (refine CallP.fun_ (h1) (by first | rfl | fail) (by first | assumption | (simp; done) | fail) (by first | (simp [hx, hca]; done) | (simp [hx, hca]; rfl) | fail) (by first | (simp; done) | fail) (fun d hd => ?_); subst hd; (try simp [hx, hca]))
    | fail)
      refine LoopW.next ⟨i + 1, by omega, take_succ_all hx hb hp⟩ (by simp; omega) ?_
      exact (Wk.env rfl rfl rfl (by simp [wkE, St.lp, keepE, getK_cons, getK] <;> (try (intros; simp_all; done)) <;> (try (intros; omega)) <;> (try grind)))
    · rw [hp] at h1
      repeat' (first
    | (refine H_cons ?_; simp [hx, hca])
    | (refine H_nil ?_; simp [hx, hca])
    | (refine V_sseq ?_; simp [hx, hca])
    | (refine V_scond ?_; simp [hx, hca])
    | (refine V_ret ?_; simp only [RK_seq, RK_seq_ret, RK_seq_exit, RK_blk, RK_blk_ret, RK_blk_exit, RK_loop, RK_loop_ret, RK_loop_exit, RK_done])
    | (refine V_skip ?_; simp only [RK_seq, RK_seq_ret, RK_seq_exit, RK_blk, RK_blk_ret, RK_blk_exit, RK_loop, RK_loop_ret, RK_loop_exit, RK_done])
    | (refine ⟨?_, by omega⟩)
    | (intro hc <;> (try (exfalso; omega)))
    | (refine CallP.fun_ (h1) (by first | rfl | fail) (by first | assumption | (simp; done) | fail) (by first | (simp [hx, hca]; done) | (simp [hx, hca]; rfl) | fail) (by first | (simp; done) | fail) (fun d hd => ?_); subst hd; (try simp [hx, hca]))
    | fail)
      (refine EndOK.val (.inr rfl) ?_; simp [resD, oneOrTup, pureD, Try.results39])
      rw [idxP_at hb hx hp]
      omega
theorem containsI_fun (l : List (Int)) (f : FuncId) (caps : List U) (p : Int → Bool) (hf : ∀ n ∈ l, Fun Try.prog f (iarg n :: caps.map .u) (· = .u (.bool (p n)))) (hcl : callable Try.prog f = true)
    (hca : ∀ o, argsW o (caps.map .u) = some (caps.map .u, [])) (hcb : ∀ o, argsU1 o (caps.map .u) = some (caps, [])) : Fun Try.prog 29 [.u (ints l), .fnc (.func f) (caps.map .u)] (· = .u (.bool (l.any p))) := by
  have h1 := indexI_fun l f caps p hf hcl hca
  (refine Fun.of_body Try.func29 rfl (by simp) fun Γ hn => ?_); simp only [entry, List.zipIdx_cons, List.zipIdx_nil, List.map_cons, List.map_nil, Nat.zero_add, Try.ntmps29]
  simp only [ints] at h1 ⊢
  repeat' (first
    | (refine H_cons ?_; simp [hcb])
    | (refine H_nil ?_; simp [hcb])
    | (refine V_sseq ?_; simp [hcb])
    | (refine V_ret ?_; simp only [RK_seq, RK_seq_ret, RK_seq_exit, RK_blk, RK_blk_ret, RK_blk_exit, RK_loop, RK_loop_ret, RK_loop_exit, RK_done])
    | (refine CallP.fun_ (h1) (by first | rfl | fail) (by first | assumption | (simp; done) | fail) (by first | (simp [hcb]; done) | (simp [hcb]; rfl) | fail) (by first | (simp; done) | fail) (fun d hd => ?_); subst hd; (try simp [hcb]))
    | fail)
  (refine EndOK.val (.inr rfl) ?_; simp [resD, oneOrTup, pureD, Try.results29])
  have h2 := idxP_any p l 0 (by omega)
  rw [Bool.eq_iff_iff]
  simpa using h2
theorem indexC_fun (l : List (Con)) (f : FuncId) (caps : List U) (p : Con → Bool) (hf : ∀ n ∈ l, Fun Try.prog f (cagg n :: caps.map .u) (· = .u (.bool (p n)))) (hcl : callable Try.prog f = true)
    (hca : ∀ o, argsW o (caps.map .u) = some (caps.map .u, [])) : Fun Try.prog 38 [.u (consU l), .fnc (.func f) (caps.map .u)] (· = .u (.int .i64 (idxP p l 0))) := by
  (refine Fun.of_body Try.func38 rfl (by simp) fun Γ hn => ?_); simp only [entry, List.zipIdx_cons, List.zipIdx_nil, List.map_cons, List.map_nil, Nat.zero_add, Try.ntmps38]
  simp only [consU]
  refine V_len (x := 0) rfl fun hl => ?_
  simp at hl
  repeat' (first
    | (refine H_cons ?_; simp)
    | (refine H_nil ?_; simp)
    | (refine V_sseq ?_; simp)
    | (refine V_sblock ?_; simp)
    | fail)
  refine V_loopF (α := { i : Nat // i ≤ l.length ∧ ∀ c ∈ l.take i, p c = false }) [0, 1, 7] (fun i => [(8, .u (.int .i64 i.1))]) (fun i => l.length - i.1) ⟨0, by omega, by simp⟩ ?_ ?_
  · exact (Wk.env rfl rfl rfl (by simp [wkE, St.lp, keepE, getK_cons, getK] <;> (try (intros; simp_all; done)) <;> (try (intros; omega)) <;> (try grind)))
  rintro ⟨i, hi, hb⟩
  simp [St.lp, St.only, keepE, getK_cons, getK]
  rcases hx : l[i]? with _ | n
  · have hge : l.length ≤ i := by simpa using hx
    repeat' (first
    | (refine H_cons ?_; simp [hx])
    | (refine H_nil ?_; simp [hx])
    | (refine ⟨by omega, ?_⟩)
    | (refine V_sseq ?_; simp [hx])
    | (refine V_ret ?_; simp only [RK_seq, RK_seq_ret, RK_seq_exit, RK_blk, RK_blk_ret, RK_blk_exit, RK_loop, RK_loop_ret, RK_loop_exit, RK_done])
    | (refine V_exit ?_; simp [RK_seq, RK_seq_ret, RK_seq_exit, RK_blk, RK_blk_ret, RK_blk_exit, RK_loop, RK_loop_ret, RK_loop_exit, RK_done])
    | (intro hc <;> (try (exfalso; omega)))
    | fail)
    (refine EndOK.val (.inr rfl) ?_; simp [resD, oneOrTup, pureD, Try.results38])
    rw [List.take_of_length_le hge] at hb
    exact (idxP_none hb).symm
  · have hlt : i < l.length := (List.getElem?_eq_some_iff.1 hx).1
    have h1 := hf n (List.mem_of_getElem? hx)
    simp only [cagg] at h1
    cases hp : p n
    · rw [hp] at h1
      repeat' (first
    | (refine H_cons ?_; simp [hx, hca])
    | (refine H_nil ?_; simp [hx, hca])
    | (refine ⟨by omega, ?_⟩)
    | (refine V_sseq ?_; simp [hx, hca])
    | (refine V_scond ?_; simp [hx, hca])
    | (refine V_sregion ?_; simp [hx, hca])
    | (refine V_skip ?_; simp only [RK_seq, RK_seq_ret, RK_seq_exit, RK_blk, RK_blk_ret, RK_blk_exit, RK_loop, RK_loop_ret, RK_loop_exit, RK_done])
    | (refine ⟨?_, by omega⟩)
    | (intro hc <;> (try (exfalso; omega)))
    | (refine CallP.fun_ (h1) (by first | rfl | fail) (by first | assumption | (simp; done) | fail) (by first | (simp [hx, hca]; done) | (simp [hx, hca]; rfl) | fail) (by first | (simp; done) | fail) (fun d hd => ?_); subst hd; (try simp [hx, hca]))
    | fail)
      refine LoopW.next ⟨i + 1, by omega, take_succ_all hx hb hp⟩ (by simp; omega) ?_
      exact (Wk.env rfl rfl rfl (by simp [wkE, St.lp, keepE, getK_cons, getK] <;> (try (intros; simp_all; done)) <;> (try (intros; omega)) <;> (try grind)))
    · rw [hp] at h1
      repeat' (first
    | (refine H_cons ?_; simp [hx, hca])
    | (refine H_nil ?_; simp [hx, hca])
    | (refine V_sseq ?_; simp [hx, hca])
    | (refine V_scond ?_; simp [hx, hca])
    | (refine V_ret ?_; simp only [RK_seq, RK_seq_ret, RK_seq_exit, RK_blk, RK_blk_ret, RK_blk_exit, RK_loop, RK_loop_ret, RK_loop_exit, RK_done])
    | (refine V_skip ?_; simp only [RK_seq, RK_seq_ret, RK_seq_exit, RK_blk, RK_blk_ret, RK_blk_exit, RK_loop, RK_loop_ret, RK_loop_exit, RK_done])
    | (refine ⟨?_, by omega⟩)
    | (intro hc <;> (try (exfalso; omega)))
    | (refine CallP.fun_ (h1) (by first | rfl | fail) (by first | assumption | (simp; done) | fail) (by first | (simp [hx, hca]; done) | (simp [hx, hca]; rfl) | fail) (by first | (simp; done) | fail) (fun d hd => ?_); subst hd; (try simp [hx, hca]))
    | fail)
      (refine EndOK.val (.inr rfl) ?_; simp [resD, oneOrTup, pureD, Try.results38])
      rw [idxP_at hb hx hp]
      omega
theorem containsC_fun (l : List (Con)) (f : FuncId) (caps : List U) (p : Con → Bool) (hf : ∀ n ∈ l, Fun Try.prog f (cagg n :: caps.map .u) (· = .u (.bool (p n)))) (hcl : callable Try.prog f = true)
    (hca : ∀ o, argsW o (caps.map .u) = some (caps.map .u, [])) (hcb : ∀ o, argsU1 o (caps.map .u) = some (caps, [])) : Fun Try.prog 27 [.u (consU l), .fnc (.func f) (caps.map .u)] (· = .u (.bool (l.any p))) := by
  have h1 := indexC_fun l f caps p hf hcl hca
  (refine Fun.of_body Try.func27 rfl (by simp) fun Γ hn => ?_); simp only [entry, List.zipIdx_cons, List.zipIdx_nil, List.map_cons, List.map_nil, Nat.zero_add, Try.ntmps27]
  simp only [consU] at h1 ⊢
  repeat' (first
    | (refine H_cons ?_; simp [hcb])
    | (refine H_nil ?_; simp [hcb])
    | (refine V_sseq ?_; simp [hcb])
    | (refine V_ret ?_; simp only [RK_seq, RK_seq_ret, RK_seq_exit, RK_blk, RK_blk_ret, RK_blk_exit, RK_loop, RK_loop_ret, RK_loop_exit, RK_done])
    | (refine CallP.fun_ (h1) (by first | rfl | fail) (by first | assumption | (simp; done) | fail) (by first | (simp [hcb]; done) | (simp [hcb]; rfl) | fail) (by first | (simp; done) | fail) (fun d hd => ?_); subst hd; (try simp [hcb]))
    | fail)
  (refine EndOK.val (.inr rfl) ?_; simp [resD, oneOrTup, pureD, Try.results27])
  have h2 := idxP_any p l 0 (by omega)
  rw [Bool.eq_iff_iff]
  simpa using h2
theorem right1_fun (n : Int) (c : Con) : Fun Try.prog 28 (cagg c :: [U.row [.int .i64 n] 0].map .u) (· = .u (.bool (!okB n c))) := by
  simp only [cagg, List.map_cons, List.map_nil]
  (refine Fun.of_body Try.func28 rfl (by simp) fun Γ hn => ?_); simp only [entry, List.zipIdx_cons, List.zipIdx_nil, List.map_cons, List.map_nil, Nat.zero_add, Try.ntmps28]
  repeat' (first
    | (refine H_cons ?_; simp)
    | (refine H_nil ?_; simp)
    | (refine V_sseq ?_; simp)
    | (refine V_ret ?_; simp only [RK_seq, RK_seq_ret, RK_seq_exit, RK_blk, RK_blk_ret, RK_blk_exit, RK_loop, RK_loop_ret, RK_loop_exit, RK_done])
    | (refine ⟨fun hc => ?_, fun hc => ?_⟩ <;> (try (exfalso; omega)))
    | fail)
  all_goals
    (refine EndOK.val (.inr rfl) ?_; simp [resD, oneOrTup, pureD, Try.results28])
  all_goals (simp only [okB, maxN]; grind)
theorem any_okB (l : List Con) (n : Int) : l.all (okB n) = !l.any fun c => !okB n c := by
  induction l with
  | nil => rfl
  | cons a l ih => simp [ih]
theorem right_fun (l : List Con) (n : Int) : Fun Try.prog 14 [.u (consU l), .u (.int .i64 n)] (· = .u (.bool (rightL l n))) := by
  have h1 := containsC_fun l 28 [U.row [.int .i64 n] 0] _ (fun c _ => right1_fun n c) (by simp) (fun _ => rfl) (fun _ => rfl)
  simp only [List.map_cons, List.map_nil] at h1
  unfold rightL
  rw [any_okB]
  generalize (l.any fun c => !okB n c) = z at h1 ⊢
  (refine Fun.of_body Try.func14 rfl (by simp) fun Γ hn => ?_); simp only [entry, List.zipIdx_cons, List.zipIdx_nil, List.map_cons, List.map_nil, Nat.zero_add, Try.ntmps14]
  simp only [consU] at h1 ⊢
  repeat' (first
    | (refine H_cons ?_; simp)
    | (refine H_nil ?_; simp)
    | (refine V_sseq ?_; simp)
    | (refine V_scond ?_; simp)
    | (refine V_ret ?_; simp only [RK_seq, RK_seq_ret, RK_seq_exit, RK_blk, RK_blk_ret, RK_blk_exit, RK_loop, RK_loop_ret, RK_loop_exit, RK_done])
    | (refine V_skip ?_; simp only [RK_seq, RK_seq_ret, RK_seq_exit, RK_blk, RK_blk_ret, RK_blk_exit, RK_loop, RK_loop_ret, RK_loop_exit, RK_done])
    | (refine ⟨fun hc => ?_, fun hc => ?_⟩ <;> (try (exfalso; omega)))
    | (refine CallP.fun_ (h1) (by first | rfl | fail) (by first | assumption | (simp; done) | fail) (by first | (simp; done) | (simp; rfl) | fail) (by first | (simp; done) | fail) (fun d hd => ?_); subst hd; (try simp))
    | fail)
  all_goals
    (refine EndOK.val (.inr rfl) ?_; simp [resD, oneOrTup, pureD, Try.results14])
  all_goals grind
end Go.Proofs.Ytdkadmchdocjbaa
