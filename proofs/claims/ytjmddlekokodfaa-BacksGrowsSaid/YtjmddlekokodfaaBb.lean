/- Layer 26: what is right: the walks. -/
import Derived.Test.YtjmddlekokodfaaBa
set_option linter.all false
set_option maxRecDepth 100000
set_option maxHeartbeats 8000000
set_option linter.all false
namespace Go.Proofs.Ytjmddlekokodfaa
open Go Go.VL
def amB (x : Int) : Bool := decide (0 ≤ x ∧ x ≤ maxC)
theorem amB_iff (x : Int) : amB x = true ↔ 0 ≤ x ∧ x ≤ 1099511627776 := decide_eq_true_iff
def guB (n i : Int) (l : List Int) : Bool := decide (∀ g ∈ l, 0 ≤ g ∧ g < n ∧ g ≠ i) && decide l.Nodup
def memB (debts : List Int) (backs : List (List Int)) (means : List Int) (i : Nat) : Bool := guB debts.length i (backs.getD i []) && amB (debts.getD i 0) && amB (means.getD i 0)
def rightB (debts : List Int) (backs : List (List Int)) (means : List Int) : Bool :=
  decide (debts.length ≤ 60) && decide (backs.length = debts.length) && decide (means.length = debts.length) && decide (∀ i < debts.length, memB debts backs means i = true)
theorem guB_len {n : Nat} {i : Int} {l : List Int} (h : guB n i l = true) : l.length ≤ n := by
  simp only [guB, Bool.and_eq_true, decide_eq_true_eq] at h
  have := List.Nodup.length_le_of_subset h.2 (l₂ := (List.range n).map Int.ofNat) fun g hg => by
    obtain ⟨h1, h2, _⟩ := h.1 g hg
    obtain ⟨G, rfl⟩ := Int.eq_ofNat_of_zero_le h1
    exact List.mem_map.2 ⟨G, List.mem_range.2 (by omega), rfl⟩
  simpa using this
theorem guB_bad {n i : Int} {l : List Int} {j : Nat} {g : Int} (hx : l[j]? = some g) (h : g < 0 ∨ n ≤ g ∨ g = i ∨ g ∈ l.take j) : guB n i l = false := by
  rcases (show guB n i l = false ∨ guB n i l = true by cases guB n i l <;> simp) with h1 | h1
  · exact h1
  · exfalso
    simp only [guB, Bool.and_eq_true, decide_eq_true_eq] at h1
    have := h1.1 g (List.mem_of_getElem? hx)
    rcases h with h | h | h | h
    · omega
    · omega
    · omega
    · obtain ⟨k, hk, e⟩ := List.mem_iff_getElem.1 h
      rw [List.length_take] at hk
      rw [List.getElem_take] at e
      obtain ⟨hj, e2⟩ := List.getElem?_eq_some_iff.1 hx
      exact (List.pairwise_iff_getElem.1 h1.2 k j (by omega) hj (by omega)) (by rw [e, e2])
theorem guB_good {n i : Int} {l : List Int} (h1 : ∀ y ∈ l, 0 ≤ y ∧ y < n ∧ y ≠ i) (h2 : l.Nodup) : guB n i l = true := by
  simp only [guB, Bool.and_eq_true, decide_eq_true_eq]
  exact ⟨h1, h2⟩
theorem nodup_snoc {l : List Int} {i : Nat} {a : Int} (hx : l[i]? = some a) (hb : (l.take i).Nodup) (ha : a ∉ l.take i) : (l.take (i + 1)).Nodup := by
  rw [take_snoc hx, List.nodup_append]
  exact ⟨hb, by simp, fun x h1 y h2 => by simp at h2; subst h2; intro e; exact ha (e ▸ h1)⟩
theorem rightB_not {debts : List Int} {backs : List (List Int)} {means : List Int} {i : Nat} (hi : i < debts.length) (h : memB debts backs means i = false) : rightB debts backs means = false := by
  rcases (show rightB debts backs means = false ∨ rightB debts backs means = true by cases rightB debts backs means <;> simp) with h1 | h1
  · exact h1
  · simp only [rightB, Bool.and_eq_true, decide_eq_true_eq] at h1
    rw [h1.2 i hi] at h
    cases h
def seenM (l : List Int) : List (Key × List U) := l.map fun g => (Key.i .i64 g, [U.bool true])
theorem look_seenM (g : Int) : ∀ l : List Int, lookK (seenM l) (.i .i64 g) = if g ∈ l then some [U.bool true] else none
  | [] => rfl
  | a :: l => by
    have := look_seenM g l
    simp only [seenM] at this
    simp only [seenM, List.map_cons, lookK, this, List.mem_cons, Key.i.injEq, true_and]
    by_cases h : g = a <;> simp [h]
theorem upd_seenM {g : Int} {l : List Int} (h : g ∉ l) : updK (seenM l) (.i .i64 g) [U.bool true] = seenM (l ++ [g]) := by
  rw [updK_none]
  · simp [seenM]
  · intro p hp
    obtain ⟨a, ha, rfl⟩ := List.mem_map.1 hp
    intro e
    simp at e
    exact h (e ▸ ha)
attribute [local simp] hcons hstep evPure opd uOf putOK St.put St.at getK binD binI binS binB nilD aggD eqUs cmpK lookD lookR rangeD nextD entryD keyD valU keyU lookK mkV entD_nil lookK_entD updK_entD1 updK_entD2 updK_entD3 allUE allUE_entD makeMapD mapUpdD mapEff updK valM Key.kk shiftI arith unD convD pickD loadD cellsAt fieldAddrD fieldD indexAddrD indexD sliceD cutD lenD minmaxD nilCheckD buildD fillD cellsD isOne ones setAll mkAgg allU allocD boxD storeD St.add buildSliceD appendD rowsOf makeD setOb getK_setOb getK_del getK_cons stripL strip guardTmp entry chunks zcells valD argsV argsW argW argU1 argU0 argsU0 argsU1 calleeOf scalarD scalarU delAll effD St.effS RK_seq RK_seq_ret RK_seq_exit RK_blk RK_blk_ret RK_blk_exit RK_loop RK_loop_ret RK_loop_exit RK_done vs_seq vs_block vs_skip vs_label vs_exit vs_ret vs_cond vs_region vs_loop vs_draw vs_range vs_scope applyW mkD rdIds lentIds callOf calleeOf freeOp D.ids Op.operands Call.operands isEffOp IntKind.bits allU2 allU2_append List.take_of_length_le List.range_succ
attribute [local irreducible] V G H HD HD2 RunK Eff CallP CallV EndOK Fun Ret FinOK LoopI LoopW EndW
theorem right_fun (debts : List Int) (backs : List (List Int)) (means : List Int) (hd : debts.length ≤ 1000000) (hb : backs.length ≤ 1000000) (hm : means.length ≤ 1000000) (hbl : ∀ r ∈ backs, r.length ≤ 1000000) :
    Fun Try.prog 12 [.u (ints debts), .u (lists backs), .u (ints means)] (· = .u (.bool (rightB debts backs means))) := by
  by_cases hs : debts.length ≤ 60 ∧ backs.length = debts.length ∧ means.length = debts.length
  case neg =>
    have hr : rightB debts backs means = false := by
      rcases (show rightB debts backs means = false ∨ rightB debts backs means = true by cases rightB debts backs means <;> simp) with h1 | h1
      · exact h1
      · simp only [rightB, Bool.and_eq_true, decide_eq_true_eq] at h1
        exact absurd ⟨h1.1.1.1, h1.1.1.2, h1.1.2⟩ hs
    rw [hr]
    by_cases h1 : 60 < debts.length
    · (refine Fun.of_body Try.func12 rfl (by simp) fun Γ hn => ?_); simp only [entry, List.zipIdx_cons, List.zipIdx_nil, List.map_cons, List.map_nil, Nat.zero_add, Try.ntmps12]
      repeat' (first
    | (refine H_cons ?_; simp [h1])
    | (refine H_nil ?_; simp [h1])
    | (refine ⟨by omega, ?_⟩)
    | (refine V_sseq ?_; simp [h1])
    | (refine V_scond ?_; simp [h1])
    | (refine V_ret ?_; simp only [RK_seq, RK_seq_ret, RK_seq_exit, RK_blk, RK_blk_ret, RK_blk_exit, RK_loop, RK_loop_ret, RK_loop_exit, RK_done])
    | (intro hc <;> (try (exfalso; omega)))
    | fail)
      all_goals
        (refine EndOK.val (.inr rfl) ?_; simp [resD, oneOrTup, pureD, Try.results12])
    by_cases h2 : backs.length = debts.length
    · have h3 : ¬ means.length = debts.length := fun h => hs ⟨by omega, h2, h⟩
      have h3b : ¬ (means.length : Int) = debts.length := by omega
      have h2b : (backs.length : Int) = debts.length := by omega
      (refine Fun.of_body Try.func12 rfl (by simp) fun Γ hn => ?_); simp only [entry, List.zipIdx_cons, List.zipIdx_nil, List.map_cons, List.map_nil, Nat.zero_add, Try.ntmps12]
      repeat' (first
    | (refine H_cons ?_; simp [h1, h2, h2b, h3, h3b])
    | (refine H_nil ?_; simp [h1, h2, h2b, h3, h3b])
    | (refine V_sseq ?_; simp [h1, h2, h2b, h3, h3b])
    | (refine V_scond ?_; simp [h1, h2, h2b, h3, h3b])
    | (refine V_ret ?_; simp only [RK_seq, RK_seq_ret, RK_seq_exit, RK_blk, RK_blk_ret, RK_blk_exit, RK_loop, RK_loop_ret, RK_loop_exit, RK_done])
    | (refine ⟨?_, by omega⟩)
    | (intro hc <;> (try (exfalso; omega)))
    | fail)
      all_goals
        (refine EndOK.val (.inr rfl) ?_; simp [resD, oneOrTup, pureD, Try.results12])
    · have h2b : ¬ (backs.length : Int) = debts.length := by omega
      (refine Fun.of_body Try.func12 rfl (by simp) fun Γ hn => ?_); simp only [entry, List.zipIdx_cons, List.zipIdx_nil, List.map_cons, List.map_nil, Nat.zero_add, Try.ntmps12]
      repeat' (first
    | (refine H_cons ?_; simp [h1, h2, h2b])
    | (refine H_nil ?_; simp [h1, h2, h2b])
    | (refine V_sseq ?_; simp [h1, h2, h2b])
    | (refine V_scond ?_; simp [h1, h2, h2b])
    | (refine V_ret ?_; simp only [RK_seq, RK_seq_ret, RK_seq_exit, RK_blk, RK_blk_ret, RK_blk_exit, RK_loop, RK_loop_ret, RK_loop_exit, RK_done])
    | (refine ⟨?_, by omega⟩)
    | (intro hc <;> (try (exfalso; omega)))
    | fail)
      all_goals
        (refine EndOK.val (.inr rfl) ?_; simp [resD, oneOrTup, pureD, Try.results12])
  obtain ⟨h1, h2, h3⟩ := hs
  have h1b : ¬ 60 < debts.length := by omega
  have h2b : (backs.length : Int) = debts.length := by omega
  have h3b : (means.length : Int) = debts.length := by omega
  (refine Fun.of_body Try.func12 rfl (by simp) fun Γ hn => ?_); simp only [entry, List.zipIdx_cons, List.zipIdx_nil, List.map_cons, List.map_nil, Nat.zero_add, Try.ntmps12]
  repeat' (first
    | (refine H_cons ?_; simp [h1b, h2, h2b, h3, h3b])
    | (refine H_nil ?_; simp [h1b, h2, h2b, h3, h3b])
    | (refine V_sseq ?_; simp [h1b, h2, h2b, h3, h3b])
    | (refine V_scond ?_; simp [h1b, h2, h2b, h3, h3b])
    | (refine V_sblock ?_; simp [h1b, h2, h2b, h3, h3b])
    | (refine V_skip ?_; simp only [RK_seq, RK_seq_ret, RK_seq_exit, RK_blk, RK_blk_ret, RK_blk_exit, RK_loop, RK_loop_ret, RK_loop_exit, RK_done])
    | (refine ⟨?_, by omega⟩)
    | (intro hc <;> (try (exfalso; omega)))
    | fail)
  refine V_loopF (α := { i : Nat // i ≤ debts.length ∧ ∀ k, k < i → memB debts backs means k = true }) [0, 2, 7, 29, 30] (fun i => [(31, .u (.int .i64 i.1))]) (fun i => debts.length - i.1) ⟨0, by omega, by omega⟩ ?_ ?_
  · exact (Wk.cut rfl (by simp [hn, St.lp]) (by simp [wkO, St.lp, getK_cons, getK, Ob.under, D.under, under_rowsD, under_entD, h2]) (by simp [wkU, St.lp, keepE, getK_cons, getK, D.under, h2]) (by simp [wkE, St.lp, keepE, getK_cons, getK, h2] <;> (try (intros; simp_all; done)) <;> (try (intros; omega)) <;> (try grind)))
  rintro ⟨i, hi, hok⟩
  simp [St.lp, St.only, keepE, getK_cons, getK]
  by_cases hlt : i < debts.length
  case neg =>
    obtain rfl : i = debts.length := by omega
    have hr : rightB debts backs means = true := by
      simp only [rightB, Bool.and_eq_true, decide_eq_true_eq]
      exact ⟨⟨⟨h1, h2⟩, h3⟩, hok⟩
    rw [hr]
    repeat' (first
    | (refine H_cons ?_; simp [h2, h2b])
    | (refine H_nil ?_; simp [h2, h2b])
    | (refine V_sseq ?_; simp [h2, h2b])
    | (refine V_ret ?_; simp only [RK_seq, RK_seq_ret, RK_seq_exit, RK_blk, RK_blk_ret, RK_blk_exit, RK_loop, RK_loop_ret, RK_loop_exit, RK_done])
    | (refine V_exit ?_; simp [RK_seq, RK_seq_ret, RK_seq_exit, RK_blk, RK_blk_ret, RK_blk_exit, RK_loop, RK_loop_ret, RK_loop_exit, RK_done])
    | fail)
    (refine EndOK.val (.inr rfl) ?_; simp [resD, oneOrTup, pureD, Try.results12])
  obtain ⟨l, hx⟩ : ∃ l, backs[i]? = some l := ⟨_, List.getElem?_eq_getElem (by omega)⟩
  obtain ⟨a, ha⟩ : ∃ a, debts[i]? = some a := ⟨_, List.getElem?_eq_getElem hlt⟩
  obtain ⟨m, hmn⟩ : ∃ m, means[i]? = some m := ⟨_, List.getElem?_eq_getElem (by omega)⟩
  have hme : memB debts backs means i = (guB debts.length i l && amB a && amB m) := by simp [memB, List.getD_eq_getElem?_getD, hx, ha, hmn]
  have hll := hbl l (List.mem_of_getElem? hx)
  repeat' (first
    | (refine H_cons ?_; simp [h2, h2b, hx])
    | (refine H_nil ?_; simp [h2, h2b, hx])
    | (refine V_sseq ?_; simp [h2, h2b, hx])
    | (refine V_sblock ?_; simp [h2, h2b, hx])
    | (refine V_skip ?_; simp only [RK_seq, RK_seq_ret, RK_seq_exit, RK_blk, RK_blk_ret, RK_blk_exit, RK_loop, RK_loop_ret, RK_loop_exit, RK_done])
    | (refine ⟨?_, by omega⟩)
    | (intro hc <;> (try (exfalso; omega)))
    | fail)
  refine V_loopO (α := { j : Nat // j ≤ l.length ∧ (∀ y ∈ l.take j, 0 ≤ y ∧ y < debts.length ∧ y ≠ i) ∧ (l.take j).Nodup }) [0, 2, 7, 8, 10, 29, 30, 31, 39, 40] (fun j => [(41, .u (.int .i64 j.1))]) (fun j => [(0, .map (.i .i64) false (entD (seenM ((i : Int) :: l.take j.1))))]) 1 (fun j => l.length - j.1) ⟨0, by omega, by simp, by simp⟩ ?_ ?_
  · exact (Wk.cut rfl (by simp [hn, St.lp]) (by simp [wkO, St.lp, getK_cons, getK, Ob.under, D.under, under_rowsD, under_entD, seenM, entD]) (by simp [wkU, St.lp, keepE, getK_cons, getK, D.under, seenM, entD]) (by simp [wkE, St.lp, keepE, getK_cons, getK, seenM, entD] <;> (try (intros; simp_all; done)) <;> (try (intros; omega)) <;> (try grind)))
  rintro ⟨j, hj, hj1, hj2⟩
  simp [St.lp, St.only, keepE, getK_cons, getK]
  rcases hg : l[j]? with _ | g
  · have hge : l.length ≤ j := by simpa using hg
    obtain rfl : j = l.length := by omega
    rw [List.take_length] at hj1 hj2
    rw [guB_good hj1 hj2, Bool.true_and] at hme
    have ham := amount_fun a
    have hmm := amount_fun m
    by_cases hgd : amB a = true
    · rw [show decide (0 ≤ a ∧ a ≤ maxC) = true from hgd] at ham
      rw [hgd, Bool.true_and] at hme
      by_cases hgm : amB m = true
      · rw [show decide (0 ≤ m ∧ m ≤ maxC) = true from hgm] at hmm
        rw [hgm] at hme
        repeat' (first
    | (refine H_cons ?_; simp [hg, ha, hmn])
    | (refine H_nil ?_; simp [hg, ha, hmn])
    | (refine ⟨by omega, ?_⟩)
    | (refine V_sseq ?_; simp [hg, ha, hmn])
    | (refine V_scond ?_; simp [hg, ha, hmn])
    | (refine V_sregion ?_; simp [hg, ha, hmn])
    | (refine V_skip ?_; simp only [RK_seq, RK_seq_ret, RK_seq_exit, RK_blk, RK_blk_ret, RK_blk_exit, RK_loop, RK_loop_ret, RK_loop_exit, RK_done])
    | (refine V_exit ?_; simp [RK_seq, RK_seq_ret, RK_seq_exit, RK_blk, RK_blk_ret, RK_blk_exit, RK_loop, RK_loop_ret, RK_loop_exit, RK_done])
    | (refine CallP.fun_ (ham) (by first | rfl | fail) (by first | assumption | (simp; done) | fail) (by first | (simp [hg, ha, hmn]; done) | (simp [hg, ha, hmn]; rfl) | fail) (by first | (simp; done) | fail) (fun d hd => ?_); subst hd; (try simp [hg, ha, hmn]))
    | (refine CallP.fun_ (hmm) (by first | rfl | fail) (by first | assumption | (simp; done) | fail) (by first | (simp [hg, ha, hmn]; done) | (simp [hg, ha, hmn]; rfl) | fail) (by first | (simp; done) | fail) (fun d hd => ?_); subst hd; (try simp [hg, ha, hmn]))
    | fail)
        refine LoopW.next ⟨i + 1, by omega, fun k hk => (Nat.lt_succ_iff_lt_or_eq.1 hk).elim (hok k) (fun e => by subst e; exact hme)⟩ (by simp; omega) ?_
        exact (Wk.cut rfl (by simp [hn, St.lp]) (by simp [wkO, St.lp, getK_cons, getK, Ob.under, D.under, under_rowsD, under_entD]) (by simp [wkU, St.lp, keepE, getK_cons, getK, D.under]) (by simp [wkE, St.lp, keepE, getK_cons, getK] <;> (try (intros; simp_all; done)) <;> (try (intros; omega)) <;> (try grind)))
      · rw [show amB m = false by simpa using hgm] at hme
        rw [show decide (0 ≤ m ∧ m ≤ maxC) = false by simpa [amB] using hgm] at hmm
        rw [rightB_not hlt hme]
        repeat' (first
    | (refine H_cons ?_; simp [hg, ha, hmn])
    | (refine H_nil ?_; simp [hg, ha, hmn])
    | (refine V_sseq ?_; simp [hg, ha, hmn])
    | (refine V_scond ?_; simp [hg, ha, hmn])
    | (refine V_ret ?_; simp only [RK_seq, RK_seq_ret, RK_seq_exit, RK_blk, RK_blk_ret, RK_blk_exit, RK_loop, RK_loop_ret, RK_loop_exit, RK_done])
    | (refine V_exit ?_; simp [RK_seq, RK_seq_ret, RK_seq_exit, RK_blk, RK_blk_ret, RK_blk_exit, RK_loop, RK_loop_ret, RK_loop_exit, RK_done])
    | (refine CallP.fun_ (ham) (by first | rfl | fail) (by first | assumption | (simp; done) | fail) (by first | (simp [hg, ha, hmn]; done) | (simp [hg, ha, hmn]; rfl) | fail) (by first | (simp; done) | fail) (fun d hd => ?_); subst hd; (try simp [hg, ha, hmn]))
    | (refine CallP.fun_ (hmm) (by first | rfl | fail) (by first | assumption | (simp; done) | fail) (by first | (simp [hg, ha, hmn]; done) | (simp [hg, ha, hmn]; rfl) | fail) (by first | (simp; done) | fail) (fun d hd => ?_); subst hd; (try simp [hg, ha, hmn]))
    | fail)
        all_goals
          (refine EndOK.val (.inr rfl) ?_; simp [resD, oneOrTup, pureD, Try.results12])
    · rw [show amB a = false by simpa using hgd, Bool.false_and] at hme
      rw [show decide (0 ≤ a ∧ a ≤ maxC) = false by simpa [amB] using hgd] at ham
      rw [rightB_not hlt hme]
      repeat' (first
    | (refine H_cons ?_; simp [hg, ha, hmn])
    | (refine H_nil ?_; simp [hg, ha, hmn])
    | (refine V_sseq ?_; simp [hg, ha, hmn])
    | (refine V_scond ?_; simp [hg, ha, hmn])
    | (refine V_ret ?_; simp only [RK_seq, RK_seq_ret, RK_seq_exit, RK_blk, RK_blk_ret, RK_blk_exit, RK_loop, RK_loop_ret, RK_loop_exit, RK_done])
    | (refine V_exit ?_; simp [RK_seq, RK_seq_ret, RK_seq_exit, RK_blk, RK_blk_ret, RK_blk_exit, RK_loop, RK_loop_ret, RK_loop_exit, RK_done])
    | (refine CallP.fun_ (ham) (by first | rfl | fail) (by first | assumption | (simp; done) | fail) (by first | (simp [hg, ha, hmn]; done) | (simp [hg, ha, hmn]; rfl) | fail) (by first | (simp; done) | fail) (fun d hd => ?_); subst hd; (try simp [hg, ha, hmn]))
    | fail)
      all_goals
        (refine EndOK.val (.inr rfl) ?_; simp [resD, oneOrTup, pureD, Try.results12])
  · have hlj : j < l.length := (List.getElem?_eq_some_iff.1 hg).1
    by_cases hbad : g < 0 ∨ (debts.length : Int) ≤ g
    · rw [rightB_not hlt (by rw [hme, guB_bad hg (hbad.elim .inl (fun h => .inr (.inl h)))]; rfl)]
      rcases hbad with hb1 | hb1
      · repeat' (first
    | (refine H_cons ?_; simp [hg, hb1])
    | (refine H_nil ?_; simp [hg, hb1])
    | (refine V_sseq ?_; simp [hg, hb1])
    | (refine V_scond ?_; simp [hg, hb1])
    | (refine V_ret ?_; simp only [RK_seq, RK_seq_ret, RK_seq_exit, RK_blk, RK_blk_ret, RK_blk_exit, RK_loop, RK_loop_ret, RK_loop_exit, RK_done])
    | (refine V_skip ?_; simp only [RK_seq, RK_seq_ret, RK_seq_exit, RK_blk, RK_blk_ret, RK_blk_exit, RK_loop, RK_loop_ret, RK_loop_exit, RK_done])
    | (refine ⟨?_, by omega⟩)
    | (intro hc <;> (try (exfalso; omega)))
    | fail)
        all_goals
          (refine EndOK.val (.inr rfl) ?_; simp [resD, oneOrTup, pureD, Try.results12])
      · have hb2 : ¬ g < 0 := by omega
        repeat' (first
    | (refine H_cons ?_; simp [hg, hb1, hb2])
    | (refine H_nil ?_; simp [hg, hb1, hb2])
    | (refine V_sseq ?_; simp [hg, hb1, hb2])
    | (refine V_scond ?_; simp [hg, hb1, hb2])
    | (refine V_ret ?_; simp only [RK_seq, RK_seq_ret, RK_seq_exit, RK_blk, RK_blk_ret, RK_blk_exit, RK_loop, RK_loop_ret, RK_loop_exit, RK_done])
    | (refine V_skip ?_; simp only [RK_seq, RK_seq_ret, RK_seq_exit, RK_blk, RK_blk_ret, RK_blk_exit, RK_loop, RK_loop_ret, RK_loop_exit, RK_done])
    | (refine ⟨?_, by omega⟩)
    | (intro hc <;> (try (exfalso; omega)))
    | fail)
        all_goals
          (refine EndOK.val (.inr rfl) ?_; simp [resD, oneOrTup, pureD, Try.results12])
    have hb1 : ¬ (debts.length : Int) ≤ g := by omega
    have hb2 : ¬ g < 0 := by omega
    have hlk := look_seenM g ((i : Int) :: l.take j)
    by_cases hin : g ∈ (i : Int) :: l.take j
    · rw [if_pos hin] at hlk
      have hin2 : g = i ∨ g ∈ l.take j := by simpa using hin
      rw [rightB_not hlt (by rw [hme, guB_bad hg (.inr (.inr hin2))]; rfl)]
      repeat' (first
    | (refine H_cons ?_; simp [hg, hb1, hb2, hlk])
    | (refine H_nil ?_; simp [hg, hb1, hb2, hlk])
    | (refine V_sseq ?_; simp [hg, hb1, hb2, hlk])
    | (refine V_scond ?_; simp [hg, hb1, hb2, hlk])
    | (refine V_ret ?_; simp only [RK_seq, RK_seq_ret, RK_seq_exit, RK_blk, RK_blk_ret, RK_blk_exit, RK_loop, RK_loop_ret, RK_loop_exit, RK_done])
    | (refine V_skip ?_; simp only [RK_seq, RK_seq_ret, RK_seq_exit, RK_blk, RK_blk_ret, RK_blk_exit, RK_loop, RK_loop_ret, RK_loop_exit, RK_done])
    | (refine ⟨?_, by omega⟩)
    | (intro hc <;> (try (exfalso; omega)))
    | fail)
      all_goals
        (refine EndOK.val (.inr rfl) ?_; simp [resD, oneOrTup, pureD, Try.results12])
    · rw [if_neg hin] at hlk
      have hup := upd_seenM hin
      have hni : g ≠ i ∧ g ∉ l.take j := by simpa using hin
      have htk : (i : Int) :: l.take (j + 1) = ((i : Int) :: l.take j) ++ [g] := by rw [take_snoc hg]; rfl
      rw [← htk] at hup
      repeat' (first
    | (refine H_cons ?_; simp [hg, hb1, hb2, hlk, hup])
    | (refine H_nil ?_; simp [hg, hb1, hb2, hlk, hup])
    | (refine ⟨by omega, ?_⟩)
    | (refine V_sseq ?_; simp [hg, hb1, hb2, hlk, hup])
    | (refine V_scond ?_; simp [hg, hb1, hb2, hlk, hup])
    | (refine V_sregion ?_; simp [hg, hb1, hb2, hlk, hup])
    | (refine V_skip ?_; simp only [RK_seq, RK_seq_ret, RK_seq_exit, RK_blk, RK_blk_ret, RK_blk_exit, RK_loop, RK_loop_ret, RK_loop_exit, RK_done])
    | (refine ⟨?_, by omega⟩)
    | (intro hc <;> (try (exfalso; omega)))
    | fail)
      refine LoopW.next ⟨j + 1, by omega, all_snoc (p := fun y : Int => 0 ≤ y ∧ y < debts.length ∧ y ≠ i) hg hj1 ⟨by omega, by omega, hni.1⟩, nodup_snoc hg hj2 hni.2⟩ (by simp; omega) ?_
      exact (Wk.cut rfl (by simp [hn, St.lp]) (by simp [wkO, St.lp, getK_cons, getK, Ob.under, D.under, under_rowsD, under_entD, hup]) (by simp [wkU, St.lp, keepE, getK_cons, getK, D.under, hup]) (by simp [wkE, St.lp, keepE, getK_cons, getK, hup] <;> (try (intros; simp_all; done)) <;> (try (intros; omega)) <;> (try grind)))
theorem rright_fun (debts : List Int) (backs : List (List Int)) (means : List Int) (hd : debts.length ≤ 1000000) (hb : backs.length ≤ 1000000) (hm : means.length ≤ 1000000) (hbl : ∀ r ∈ backs, r.length ≤ 1000000) :
    Fun Try.prog 13 [.u (ints debts), .u (lists backs), .u (ints means)] (· = .u (.bool (rightB debts backs means))) := by
  by_cases hs : debts.length ≤ 60 ∧ backs.length = debts.length ∧ means.length = debts.length
  case neg =>
    have hr : rightB debts backs means = false := by
      rcases (show rightB debts backs means = false ∨ rightB debts backs means = true by cases rightB debts backs means <;> simp) with h1 | h1
      · exact h1
      · simp only [rightB, Bool.and_eq_true, decide_eq_true_eq] at h1
        exact absurd ⟨h1.1.1.1, h1.1.1.2, h1.1.2⟩ hs
    rw [hr]
    by_cases h1 : 60 < debts.length
    · (refine Fun.of_body Try.func13 rfl (by simp) fun Γ hn => ?_); simp only [entry, List.zipIdx_cons, List.zipIdx_nil, List.map_cons, List.map_nil, Nat.zero_add, Try.ntmps13]
      repeat' (first
    | (refine H_cons ?_; simp [h1])
    | (refine H_nil ?_; simp [h1])
    | (refine ⟨by omega, ?_⟩)
    | (refine V_sseq ?_; simp [h1])
    | (refine V_scond ?_; simp [h1])
    | (refine V_ret ?_; simp only [RK_seq, RK_seq_ret, RK_seq_exit, RK_blk, RK_blk_ret, RK_blk_exit, RK_loop, RK_loop_ret, RK_loop_exit, RK_done])
    | (intro hc <;> (try (exfalso; omega)))
    | fail)
      all_goals
        (refine EndOK.val (.inr rfl) ?_; simp [resD, oneOrTup, pureD, Try.results13])
    by_cases h2 : backs.length = debts.length
    · have h3 : ¬ means.length = debts.length := fun h => hs ⟨by omega, h2, h⟩
      have h3b : ¬ (means.length : Int) = debts.length := by omega
      have h2b : (backs.length : Int) = debts.length := by omega
      (refine Fun.of_body Try.func13 rfl (by simp) fun Γ hn => ?_); simp only [entry, List.zipIdx_cons, List.zipIdx_nil, List.map_cons, List.map_nil, Nat.zero_add, Try.ntmps13]
      repeat' (first
    | (refine H_cons ?_; simp [h1, h2, h2b, h3, h3b])
    | (refine H_nil ?_; simp [h1, h2, h2b, h3, h3b])
    | (refine V_sseq ?_; simp [h1, h2, h2b, h3, h3b])
    | (refine V_scond ?_; simp [h1, h2, h2b, h3, h3b])
    | (refine V_ret ?_; simp only [RK_seq, RK_seq_ret, RK_seq_exit, RK_blk, RK_blk_ret, RK_blk_exit, RK_loop, RK_loop_ret, RK_loop_exit, RK_done])
    | (refine ⟨?_, by omega⟩)
    | (intro hc <;> (try (exfalso; omega)))
    | fail)
      all_goals
        (refine EndOK.val (.inr rfl) ?_; simp [resD, oneOrTup, pureD, Try.results13])
    · have h2b : ¬ (backs.length : Int) = debts.length := by omega
      (refine Fun.of_body Try.func13 rfl (by simp) fun Γ hn => ?_); simp only [entry, List.zipIdx_cons, List.zipIdx_nil, List.map_cons, List.map_nil, Nat.zero_add, Try.ntmps13]
      repeat' (first
    | (refine H_cons ?_; simp [h1, h2, h2b])
    | (refine H_nil ?_; simp [h1, h2, h2b])
    | (refine V_sseq ?_; simp [h1, h2, h2b])
    | (refine V_scond ?_; simp [h1, h2, h2b])
    | (refine V_ret ?_; simp only [RK_seq, RK_seq_ret, RK_seq_exit, RK_blk, RK_blk_ret, RK_blk_exit, RK_loop, RK_loop_ret, RK_loop_exit, RK_done])
    | (refine ⟨?_, by omega⟩)
    | (intro hc <;> (try (exfalso; omega)))
    | fail)
      all_goals
        (refine EndOK.val (.inr rfl) ?_; simp [resD, oneOrTup, pureD, Try.results13])
  obtain ⟨h1, h2, h3⟩ := hs
  have h1b : ¬ 60 < debts.length := by omega
  have h2b : (backs.length : Int) = debts.length := by omega
  have h3b : (means.length : Int) = debts.length := by omega
  (refine Fun.of_body Try.func13 rfl (by simp) fun Γ hn => ?_); simp only [entry, List.zipIdx_cons, List.zipIdx_nil, List.map_cons, List.map_nil, Nat.zero_add, Try.ntmps13]
  repeat' (first
    | (refine H_cons ?_; simp [h1b, h2, h2b, h3, h3b])
    | (refine H_nil ?_; simp [h1b, h2, h2b, h3, h3b])
    | (refine V_sseq ?_; simp [h1b, h2, h2b, h3, h3b])
    | (refine V_scond ?_; simp [h1b, h2, h2b, h3, h3b])
    | (refine V_sblock ?_; simp [h1b, h2, h2b, h3, h3b])
    | (refine V_skip ?_; simp only [RK_seq, RK_seq_ret, RK_seq_exit, RK_blk, RK_blk_ret, RK_blk_exit, RK_loop, RK_loop_ret, RK_loop_exit, RK_done])
    | (refine ⟨?_, by omega⟩)
    | (intro hc <;> (try (exfalso; omega)))
    | fail)
  refine V_loopF (α := { i : Nat // i ≤ debts.length ∧ ∀ k, k < i → memB debts backs means k = true }) [0, 1, 2, 7] (fun i => [(8, .u (.int .i64 i.1))]) (fun i => debts.length - i.1) ⟨0, by omega, by omega⟩ ?_ ?_
  · exact (Wk.cut rfl (by simp [hn, St.lp]) (by simp [wkO, St.lp, getK_cons, getK, Ob.under, D.under, under_rowsD, under_entD]) (by simp [wkU, St.lp, keepE, getK_cons, getK, D.under]) (by simp [wkE, St.lp, keepE, getK_cons, getK] <;> (try (intros; simp_all; done)) <;> (try (intros; omega)) <;> (try grind)))
  rintro ⟨i, hi, hok⟩
  simp [St.lp, St.only, keepE, getK_cons, getK]
  by_cases hlt : i < debts.length
  case neg =>
    obtain rfl : i = debts.length := by omega
    have hr : rightB debts backs means = true := by
      simp only [rightB, Bool.and_eq_true, decide_eq_true_eq]
      exact ⟨⟨⟨h1, h2⟩, h3⟩, hok⟩
    rw [hr]
    repeat' (first
    | (refine H_cons ?_; simp)
    | (refine H_nil ?_; simp)
    | (refine V_sseq ?_; simp)
    | (refine V_scond ?_; simp)
    | (refine V_ret ?_; simp only [RK_seq, RK_seq_ret, RK_seq_exit, RK_blk, RK_blk_ret, RK_blk_exit, RK_loop, RK_loop_ret, RK_loop_exit, RK_done])
    | (refine V_exit ?_; simp [RK_seq, RK_seq_ret, RK_seq_exit, RK_blk, RK_blk_ret, RK_blk_exit, RK_loop, RK_loop_ret, RK_loop_exit, RK_done])
    | fail)
    (refine EndOK.val (.inr rfl) ?_; simp [resD, oneOrTup, pureD, Try.results13])
  obtain ⟨l, hx⟩ : ∃ l, backs[i]? = some l := ⟨_, List.getElem?_eq_getElem (by omega)⟩
  obtain ⟨a, ha⟩ : ∃ a, debts[i]? = some a := ⟨_, List.getElem?_eq_getElem hlt⟩
  obtain ⟨m, hmn⟩ : ∃ m, means[i]? = some m := ⟨_, List.getElem?_eq_getElem (by omega)⟩
  have hme : memB debts backs means i = (guB debts.length i l && amB a && amB m) := by simp [memB, List.getD_eq_getElem?_getD, hx, ha, hmn]
  have hll := hbl l (List.mem_of_getElem? hx)
  by_cases hgd : a < 0 ∨ 1099511627776 < a ∨ m < 0 ∨ 1099511627776 < m ∨ (debts.length : Int) < l.length
  · have hf : memB debts backs means i = false := by
      rw [hme]
      rcases (show (guB debts.length i l && amB a && amB m) = false ∨ (guB debts.length i l && amB a && amB m) = true by cases (guB debts.length i l && amB a && amB m) <;> simp) with h | h
      · exact h
      · simp only [Bool.and_eq_true, amB_iff] at h
        have := guB_len h.1.1
        omega
    rw [rightB_not hlt hf]
    by_cases c1 : a < 0
    · repeat' (first
    | (refine H_cons ?_; simp [hx, ha, hmn, c1])
    | (refine H_nil ?_; simp [hx, ha, hmn, c1])
    | (refine V_sseq ?_; simp [hx, ha, hmn, c1])
    | (refine V_scond ?_; simp [hx, ha, hmn, c1])
    | (refine V_ret ?_; simp only [RK_seq, RK_seq_ret, RK_seq_exit, RK_blk, RK_blk_ret, RK_blk_exit, RK_loop, RK_loop_ret, RK_loop_exit, RK_done])
    | (refine V_skip ?_; simp only [RK_seq, RK_seq_ret, RK_seq_exit, RK_blk, RK_blk_ret, RK_blk_exit, RK_loop, RK_loop_ret, RK_loop_exit, RK_done])
    | (refine ⟨?_, by omega⟩)
    | (intro hc <;> (try (exfalso; omega)))
    | fail)
      all_goals
        (refine EndOK.val (.inr rfl) ?_; simp [resD, oneOrTup, pureD, Try.results13])
    by_cases c2 : 1099511627776 < a
    · repeat' (first
    | (refine H_cons ?_; simp [hx, ha, hmn, c1, c2])
    | (refine H_nil ?_; simp [hx, ha, hmn, c1, c2])
    | (refine V_sseq ?_; simp [hx, ha, hmn, c1, c2])
    | (refine V_scond ?_; simp [hx, ha, hmn, c1, c2])
    | (refine V_ret ?_; simp only [RK_seq, RK_seq_ret, RK_seq_exit, RK_blk, RK_blk_ret, RK_blk_exit, RK_loop, RK_loop_ret, RK_loop_exit, RK_done])
    | (refine V_skip ?_; simp only [RK_seq, RK_seq_ret, RK_seq_exit, RK_blk, RK_blk_ret, RK_blk_exit, RK_loop, RK_loop_ret, RK_loop_exit, RK_done])
    | (refine ⟨?_, by omega⟩)
    | (intro hc <;> (try (exfalso; omega)))
    | fail)
      all_goals
        (refine EndOK.val (.inr rfl) ?_; simp [resD, oneOrTup, pureD, Try.results13])
    by_cases c3 : m < 0
    · repeat' (first
    | (refine H_cons ?_; simp [hx, ha, hmn, c1, c2, c3])
    | (refine H_nil ?_; simp [hx, ha, hmn, c1, c2, c3])
    | (refine V_sseq ?_; simp [hx, ha, hmn, c1, c2, c3])
    | (refine V_scond ?_; simp [hx, ha, hmn, c1, c2, c3])
    | (refine V_ret ?_; simp only [RK_seq, RK_seq_ret, RK_seq_exit, RK_blk, RK_blk_ret, RK_blk_exit, RK_loop, RK_loop_ret, RK_loop_exit, RK_done])
    | (refine V_skip ?_; simp only [RK_seq, RK_seq_ret, RK_seq_exit, RK_blk, RK_blk_ret, RK_blk_exit, RK_loop, RK_loop_ret, RK_loop_exit, RK_done])
    | (refine ⟨?_, by omega⟩)
    | (intro hc <;> (try (exfalso; omega)))
    | fail)
      all_goals
        (refine EndOK.val (.inr rfl) ?_; simp [resD, oneOrTup, pureD, Try.results13])
    by_cases c4 : 1099511627776 < m
    · repeat' (first
    | (refine H_cons ?_; simp [hx, ha, hmn, c1, c2, c3, c4])
    | (refine H_nil ?_; simp [hx, ha, hmn, c1, c2, c3, c4])
    | (refine V_sseq ?_; simp [hx, ha, hmn, c1, c2, c3, c4])
    | (refine V_scond ?_; simp [hx, ha, hmn, c1, c2, c3, c4])
    | (refine V_ret ?_; simp only [RK_seq, RK_seq_ret, RK_seq_exit, RK_blk, RK_blk_ret, RK_blk_exit, RK_loop, RK_loop_ret, RK_loop_exit, RK_done])
    | (refine V_skip ?_; simp only [RK_seq, RK_seq_ret, RK_seq_exit, RK_blk, RK_blk_ret, RK_blk_exit, RK_loop, RK_loop_ret, RK_loop_exit, RK_done])
    | (refine ⟨?_, by omega⟩)
    | (intro hc <;> (try (exfalso; omega)))
    | fail)
      all_goals
        (refine EndOK.val (.inr rfl) ?_; simp [resD, oneOrTup, pureD, Try.results13])
    have c5 : debts.length < l.length := by omega
    repeat' (first
    | (refine H_cons ?_; simp [hx, ha, hmn, c1, c2, c3, c4, c5])
    | (refine H_nil ?_; simp [hx, ha, hmn, c1, c2, c3, c4, c5])
    | (refine V_sseq ?_; simp [hx, ha, hmn, c1, c2, c3, c4, c5])
    | (refine V_scond ?_; simp [hx, ha, hmn, c1, c2, c3, c4, c5])
    | (refine V_ret ?_; simp only [RK_seq, RK_seq_ret, RK_seq_exit, RK_blk, RK_blk_ret, RK_blk_exit, RK_loop, RK_loop_ret, RK_loop_exit, RK_done])
    | (refine V_skip ?_; simp only [RK_seq, RK_seq_ret, RK_seq_exit, RK_blk, RK_blk_ret, RK_blk_exit, RK_loop, RK_loop_ret, RK_loop_exit, RK_done])
    | (refine ⟨?_, by omega⟩)
    | (intro hc <;> (try (exfalso; omega)))
    | fail)
    all_goals
      (refine EndOK.val (.inr rfl) ?_; simp [resD, oneOrTup, pureD, Try.results13])
  have c1 : ¬ a < 0 := by omega
  have c2 : ¬ 1099511627776 < a := by omega
  have c3 : ¬ m < 0 := by omega
  have c4 : ¬ 1099511627776 < m := by omega
  have c5 : ¬ debts.length < l.length := by omega
  repeat' (first
    | (refine H_cons ?_; simp [hx, ha, hmn, c1, c2, c3, c4, c5])
    | (refine H_nil ?_; simp [hx, ha, hmn, c1, c2, c3, c4, c5])
    | (refine V_sseq ?_; simp [hx, ha, hmn, c1, c2, c3, c4, c5])
    | (refine V_scond ?_; simp [hx, ha, hmn, c1, c2, c3, c4, c5])
    | (refine V_sblock ?_; simp [hx, ha, hmn, c1, c2, c3, c4, c5])
    | (refine V_skip ?_; simp only [RK_seq, RK_seq_ret, RK_seq_exit, RK_blk, RK_blk_ret, RK_blk_exit, RK_loop, RK_loop_ret, RK_loop_exit, RK_done])
    | (refine ⟨?_, by omega⟩)
    | (intro hc <;> (try (exfalso; omega)))
    | fail)
  refine V_loopF (α := { j : Nat // j ≤ l.length ∧ (∀ y ∈ l.take j, 0 ≤ y ∧ y < debts.length ∧ y ≠ i) ∧ (l.take j).Nodup }) [0, 1, 2, 7, 8] (fun j => [(9, .u (.int .i64 j.1))]) (fun j => l.length - j.1) ⟨0, by omega, by simp, by simp⟩ ?_ ?_
  · exact (Wk.cut rfl (by simp [hn, St.lp]) (by simp [wkO, St.lp, getK_cons, getK, Ob.under, D.under, under_rowsD, under_entD]) (by simp [wkU, St.lp, keepE, getK_cons, getK, D.under]) (by simp [wkE, St.lp, keepE, getK_cons, getK] <;> (try (intros; simp_all; done)) <;> (try (intros; omega)) <;> (try grind)))
  rintro ⟨j, hj, hj1, hj2⟩
  simp [St.lp, St.only, keepE, getK_cons, getK]
  rcases hg : l[j]? with _ | g
  · have hge : l.length ≤ j := by simpa using hg
    obtain rfl : j = l.length := by omega
    rw [List.take_length] at hj1 hj2
    have hmt : memB debts backs means i = true := by
      rw [hme, guB_good hj1 hj2]
      simp only [Bool.true_and, Bool.and_eq_true, amB_iff]
      omega
    repeat' (first
    | (refine H_cons ?_; simp [hx, hg])
    | (refine H_nil ?_; simp [hx, hg])
    | (refine ⟨by omega, ?_⟩)
    | (refine V_sseq ?_; simp [hx, hg])
    | (refine V_scond ?_; simp [hx, hg])
    | (refine V_sregion ?_; simp [hx, hg])
    | (refine V_exit ?_; simp [RK_seq, RK_seq_ret, RK_seq_exit, RK_blk, RK_blk_ret, RK_blk_exit, RK_loop, RK_loop_ret, RK_loop_exit, RK_done])
    | fail)
    refine LoopW.next ⟨i + 1, by omega, fun k hk => (Nat.lt_succ_iff_lt_or_eq.1 hk).elim (hok k) (fun e => by subst e; exact hmt)⟩ (by simp; omega) ?_
    exact (Wk.cut rfl (by simp [hn, St.lp]) (by simp [wkO, St.lp, getK_cons, getK, Ob.under, D.under, under_rowsD, under_entD]) (by simp [wkU, St.lp, keepE, getK_cons, getK, D.under]) (by simp [wkE, St.lp, keepE, getK_cons, getK] <;> (try (intros; simp_all; done)) <;> (try (intros; omega)) <;> (try grind)))
  · have hlj : j < l.length := (List.getElem?_eq_some_iff.1 hg).1
    have hjl : j ≤ l.length := by omega
    have hhf := has_fun (l.take j) g (by rw [List.length_take]; omega)
    by_cases hbad : g < 0 ∨ (debts.length : Int) ≤ g ∨ g = i
    · rw [rightB_not hlt (by rw [hme, guB_bad hg (hbad.elim .inl (fun h => h.elim (fun h => .inr (.inl h)) (fun h => .inr (.inr (.inl h)))))]; rfl)]
      rcases hbad with hb1 | hb1 | hb1
      · repeat' (first
    | (refine H_cons ?_; simp [hx, hg, hb1])
    | (refine H_nil ?_; simp [hx, hg, hb1])
    | (refine V_sseq ?_; simp [hx, hg, hb1])
    | (refine V_scond ?_; simp [hx, hg, hb1])
    | (refine V_ret ?_; simp only [RK_seq, RK_seq_ret, RK_seq_exit, RK_blk, RK_blk_ret, RK_blk_exit, RK_loop, RK_loop_ret, RK_loop_exit, RK_done])
    | (refine V_skip ?_; simp only [RK_seq, RK_seq_ret, RK_seq_exit, RK_blk, RK_blk_ret, RK_blk_exit, RK_loop, RK_loop_ret, RK_loop_exit, RK_done])
    | (refine ⟨?_, by omega⟩)
    | (intro hc <;> (try (exfalso; omega)))
    | fail)
        all_goals
          (refine EndOK.val (.inr rfl) ?_; simp [resD, oneOrTup, pureD, Try.results13])
      · have hb2 : ¬ g < 0 := by omega
        repeat' (first
    | (refine H_cons ?_; simp [hx, hg, hb1, hb2])
    | (refine H_nil ?_; simp [hx, hg, hb1, hb2])
    | (refine V_sseq ?_; simp [hx, hg, hb1, hb2])
    | (refine V_scond ?_; simp [hx, hg, hb1, hb2])
    | (refine V_ret ?_; simp only [RK_seq, RK_seq_ret, RK_seq_exit, RK_blk, RK_blk_ret, RK_blk_exit, RK_loop, RK_loop_ret, RK_loop_exit, RK_done])
    | (refine V_skip ?_; simp only [RK_seq, RK_seq_ret, RK_seq_exit, RK_blk, RK_blk_ret, RK_blk_exit, RK_loop, RK_loop_ret, RK_loop_exit, RK_done])
    | (refine ⟨?_, by omega⟩)
    | (intro hc <;> (try (exfalso; omega)))
    | fail)
        all_goals
          (refine EndOK.val (.inr rfl) ?_; simp [resD, oneOrTup, pureD, Try.results13])
      · have hb2 : ¬ g < 0 := by omega
        have hb3 : ¬ (debts.length : Int) ≤ g := by omega
        subst hb1
        repeat' (first
    | (refine H_cons ?_; simp [hx, hg, hb2, hb3])
    | (refine H_nil ?_; simp [hx, hg, hb2, hb3])
    | (refine V_sseq ?_; simp [hx, hg, hb2, hb3])
    | (refine V_scond ?_; simp [hx, hg, hb2, hb3])
    | (refine V_ret ?_; simp only [RK_seq, RK_seq_ret, RK_seq_exit, RK_blk, RK_blk_ret, RK_blk_exit, RK_loop, RK_loop_ret, RK_loop_exit, RK_done])
    | (refine V_skip ?_; simp only [RK_seq, RK_seq_ret, RK_seq_exit, RK_blk, RK_blk_ret, RK_blk_exit, RK_loop, RK_loop_ret, RK_loop_exit, RK_done])
    | (refine ⟨?_, by omega⟩)
    | (intro hc <;> (try (exfalso; omega)))
    | fail)
        all_goals
          (refine EndOK.val (.inr rfl) ?_; simp [resD, oneOrTup, pureD, Try.results13])
    have hb1 : ¬ (debts.length : Int) ≤ g := by omega
    have hb2 : ¬ g < 0 := by omega
    have hb3 : ¬ g = i := by omega
    by_cases hin : g ∈ l.take j
    · rw [rightB_not hlt (by rw [hme, guB_bad hg (.inr (.inr (.inr hin)))]; rfl)]
      simp only [hin, decide_true] at hhf
      repeat' (first
    | (refine H_cons ?_; simp [hx, hg, hb1, hb2, hb3, hjl])
    | (refine H_nil ?_; simp [hx, hg, hb1, hb2, hb3, hjl])
    | (refine V_sseq ?_; simp [hx, hg, hb1, hb2, hb3, hjl])
    | (refine V_scond ?_; simp [hx, hg, hb1, hb2, hb3, hjl])
    | (refine V_ret ?_; simp only [RK_seq, RK_seq_ret, RK_seq_exit, RK_blk, RK_blk_ret, RK_blk_exit, RK_loop, RK_loop_ret, RK_loop_exit, RK_done])
    | (refine V_skip ?_; simp only [RK_seq, RK_seq_ret, RK_seq_exit, RK_blk, RK_blk_ret, RK_blk_exit, RK_loop, RK_loop_ret, RK_loop_exit, RK_done])
    | (refine ⟨?_, by omega⟩)
    | (intro hc <;> (try (exfalso; omega)))
    | (refine CallP.fun_ (hhf) (by first | rfl | fail) (by first | assumption | (simp; done) | fail) (by first | (simp [hx, hg, hb1, hb2, hb3, hjl]; done) | (simp [hx, hg, hb1, hb2, hb3, hjl]; rfl) | fail) (by first | (simp; done) | fail) (fun d hd => ?_); subst hd; (try simp [hx, hg, hb1, hb2, hb3, hjl]))
    | fail)
      all_goals
        (refine EndOK.val (.inr rfl) ?_; simp [resD, oneOrTup, pureD, Try.results13])
    · rw [show decide (g ∈ l.take j) = false by simp [hin]] at hhf
      repeat' (first
    | (refine H_cons ?_; simp [hx, hg, hb1, hb2, hb3, hjl])
    | (refine H_nil ?_; simp [hx, hg, hb1, hb2, hb3, hjl])
    | (refine ⟨by omega, ?_⟩)
    | (refine V_sseq ?_; simp [hx, hg, hb1, hb2, hb3, hjl])
    | (refine V_scond ?_; simp [hx, hg, hb1, hb2, hb3, hjl])
    | (refine V_sregion ?_; simp [hx, hg, hb1, hb2, hb3, hjl])
    | (refine V_skip ?_; simp only [RK_seq, RK_seq_ret, RK_seq_exit, RK_blk, RK_blk_ret, RK_blk_exit, RK_loop, RK_loop_ret, RK_loop_exit, RK_done])
    | (refine ⟨?_, by omega⟩)
    | (intro hc <;> (try (exfalso; omega)))
    | (refine CallP.fun_ (hhf) (by first | rfl | fail) (by first | assumption | (simp; done) | fail) (by first | (simp [hx, hg, hb1, hb2, hb3, hjl]; done) | (simp [hx, hg, hb1, hb2, hb3, hjl]; rfl) | fail) (by first | (simp; done) | fail) (fun d hd => ?_); subst hd; (try simp [hx, hg, hb1, hb2, hb3, hjl]))
    | fail)
      refine LoopW.next ⟨j + 1, by omega, all_snoc (p := fun y : Int => 0 ≤ y ∧ y < debts.length ∧ y ≠ i) hg hj1 ⟨by omega, by omega, hb3⟩, nodup_snoc hg hj2 hin⟩ (by simp; omega) ?_
      exact (Wk.cut rfl (by simp [hn, St.lp]) (by simp [wkO, St.lp, getK_cons, getK, Ob.under, D.under, under_rowsD, under_entD]) (by simp [wkU, St.lp, keepE, getK_cons, getK, D.under]) (by simp [wkE, St.lp, keepE, getK_cons, getK] <;> (try (intros; simp_all; done)) <;> (try (intros; omega)) <;> (try grind)))
end Go.Proofs.Ytjmddlekokodfaa
