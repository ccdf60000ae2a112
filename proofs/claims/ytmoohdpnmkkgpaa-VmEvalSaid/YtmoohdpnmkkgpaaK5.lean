/- Texts joined by a program of mine: Fh FA Pm Wa Pn Wb Wc Wd We Wf Wg Wh Wi Wj Wk Wl Wm Wo Wp Ca Cb Cc Cd Ce. -/
import Derived.Test.YtmoohdpnmkkgpaaK4
import Derived.Laws.Bits64
import Derived.IntWalk
set_option linter.all false
set_option maxRecDepth 100000
set_option maxHeartbeats 8000000
namespace Go.Proofs.Ytmoohdpnmkkgpaa
open Go Go.VL
theorem args_1 {e : Exp} {d : Nat} (h : rightB (d + 1) e = true) (ho : operandsI e.op = 1) : ∃ x, e.args = [x] := by
  obtain ⟨h1, _⟩ := right_args h
  exact List.length_eq_one_iff.1 (by omega)
theorem args_2 {e : Exp} {d : Nat} (h : rightB (d + 1) e = true) (ho : operandsI e.op = 2) : ∃ x y, e.args = [x, y] := by
  obtain ⟨h1, _⟩ := right_args h
  match hl : e.args, h1 with
  | [a, b], _ => exact ⟨a, b, rfl⟩
  | [], h => simp at h; omega
  | [a], h => simp at h; omega
  | a :: b :: c :: l, h => simp at h; omega
theorem args_3 {e : Exp} {d : Nat} (h : rightB (d + 1) e = true) (ho : operandsI e.op = 3) : ∃ x y z, e.args = [x, y, z] := by
  obtain ⟨h1, _⟩ := right_args h
  match hl : e.args, h1 with
  | [a, b, c], _ => exact ⟨a, b, c, rfl⟩
  | [], h => simp at h; omega
  | [a], h => simp at h; omega
  | [a, b], h => simp at h; omega
  | a :: b :: c :: d :: l, h => simp at h; omega
theorem value_all {lets : List Let} {r : Nat} {g : GM} {m n : Nat} (hgs : ∀ s v, gF g s = some v → inC v) (hrb : ∀ l ∈ lets, rightB 12 l.body = true) (hl : lets.length ≤ 20) (hmr : m ≠ r) (hnl : n ≤ lets.length) (hN : NameOK lets r g m n) : ∀ (d : Nat) (e : Exp), rightB d e = true → ValOK lets r g m n e
  | 0, e, h => by simp [rightB] at h
  | d + 1, e, h => by
    obtain ⟨h1, h2, h3, h4⟩ := right_args h
    by_cases c0 : e.op = 0
    · exact value_num hmr c0
    by_cases c1 : e.op = 1
    · exact value_name hmr c1 hN
    have hV : ∀ x ∈ e.args, ValOK lets r g m n x := fun x hx => value_all hgs hrb hl hmr hnl hN d x (h4 c0 c1 x hx)
    have hT : ∀ x ∈ e.args, TMok lets.length (valL lets (gF g) n x) := fun x hx => valL_ok hrb hgs n d x (h4 c0 c1 x hx)
    by_cases c2 : e.op = 10
    · obtain ⟨x, y, he⟩ := args_2 h (by rw [c2]; rfl)
      rw [he] at hV hT
      exact value_and hmr c2 he (hV x (by simp)) (hT x (by simp)) (hV y (by simp)) (hT y (by simp))
    by_cases c3 : e.op = 11
    · obtain ⟨x, y, he⟩ := args_2 h (by rw [c3]; rfl)
      rw [he] at hV hT
      exact value_or hmr c3 he (hV x (by simp)) (hT x (by simp)) (hV y (by simp)) (hT y (by simp))
    by_cases c4 : e.op = 12
    · obtain ⟨x, he⟩ := args_1 h (by rw [c4]; rfl)
      rw [he] at hV hT
      exact value_not hmr c4 he (hV x (by simp)) (hT x (by simp))
    by_cases c5 : e.op = 13
    · obtain ⟨x, y, z, he⟩ := args_3 h (by rw [c5]; rfl)
      rw [he] at hV hT
      exact value_if hmr c5 he (hV x (by simp)) (hT x (by simp)) (hV y (by simp)) (hT y (by simp)) (hV z (by simp)) (hT z (by simp))
    obtain ⟨x, y, he⟩ := args_2 h (by unfold operandsI; split <;> first | omega | (split <;> first | omega | (split <;> first | omega | (split <;> omega))))
    rw [he] at hV hT
    exact value_bin hmr (by omega) hl hnl he (hV x (by simp)) (hT x (by simp)) (hV y (by simp)) (hT y (by simp))
theorem eval_all {lets : List Let} {r : Nat} {g : GM} {m : Nat} (hgs : ∀ s v, gF g s = some v → inC v) (hrb : ∀ l ∈ lets, rightB 12 l.body = true) (hl : lets.length ≤ 20) (hmr : m ≠ r) :
    ∀ n, n ≤ lets.length → ∀ (d : Nat) (e : Exp), rightB d e = true → ValOK lets r g m n e := by
  intro n
  induction n using Nat.strongRecOn with
  | _ n ih =>
    intro hnl
    refine value_all hgs hrb hl hmr hnl fun s t nx hm hr ht => ?_
    exact name_ret hgs hrb (fun i l hi hx => try_ret (ih i hi (by omega) 12 l.body (hrb l (List.mem_of_getElem? hx))) hmr) s hnl hl hmr t nx hm hr ht
/-- The given values, the first of each name. -/
def gV (vars : List Var) : GM := vars.foldl (fun g v => if asc g v.name = none then ascPut g v.name v.n else g) []
theorem gV_succ {vars : List Var} {i : Nat} {v : Var} (h : vars[i]? = some v) : gV (vars.take (i + 1)) = if asc (gV (vars.take i)) v.name = none then ascPut (gV (vars.take i)) v.name v.n else gV (vars.take i) := foldl_succ _ _ h
def inCB (v : Var) : Bool := decide (v.n ≤ 1099511627776) && decide (-1099511627776 ≤ v.n)
theorem gV_in : ∀ (vars : List Var) (g : GM), (∀ s v, asc g s = some v → inC v) → (∀ v ∈ vars, inCB v = true) → ∀ s v, asc (vars.foldl (fun g v => if asc g v.name = none then ascPut g v.name v.n else g) g) s = some v → inC v
  | [], g, hg, _, s, v, h => hg s v h
  | x :: l, g, hg, hv, s, v, h => by
    refine gV_in l _ ?_ (fun y hy => hv y (by simp [hy])) s v h
    intro s' v' h'
    simp only at h'
    split at h'
    · rw [asc_put] at h'
      split at h'
      · cases h'
        have := hv x (by simp)
        simp only [inCB, Bool.and_eq_true, decide_eq_true_eq] at this
        exact ⟨this.2, this.1⟩
      · exact hg s' v' h'
    · exact hg s' v' h'
def tab0 (lets : List Let) : Tab := List.replicate lets.length (0, 0, false)
/-- What Value returns. -/
def valueP (lets : List Let) (vars : List Var) (e : Exp) : Int × Int :=
  if rightAll lets e = true ∧ vars.all inCB = true then ((entX (valL lets (gF (gV vars)) lets.length e (tab0 lets)).1).1, (entX (valL lets (gF (gV vars)) lets.length e (tab0 lets)).1).2.1) else (0, 1)
attribute [local simp] HS hcons hstep evPure opd uOf putOK St.put St.at getK binD binI binS binB nilD aggD eqUs cmpK lookD lookR rangeD Go.VL.nextD entryD keyD valU keyU lookK mkV entD_nil lookK_entD updK_entD1 updK_entD3 allUE allUE_entD makeMapD mapUpdD mapEff updK valM Key.kk shiftI arith unD convD pickD loadD cellsAt fieldAddrD fieldD indexAddrD indexD sliceD cutD lenD minmaxD nilCheckD buildD fillD cellsD isOne ones setAll mkAgg allU allocD boxD storeD St.add buildSliceD appendD rowsOf makeD setOb getK_setOb getK_del getK_cons stripL strip guardTmp entry chunks zcells valD argsV argsW argW argU1 argU0 argsU0 argsU1 calleeOf scalarD scalarU delAll effD St.effS RK_seq RK_seq_ret RK_seq_exit RK_blk RK_blk_ret RK_blk_exit RK_loop RK_loop_ret RK_loop_exit RK_done vs_seq vs_block vs_cond vs_region vs_loop vs_draw applyW mkD rdIds lentIds callOf calleeOf freeOp D.ids Op.operands Call.operands isEffOp makeIfD typeAssertD conc concs conc1 uOfV panicD IntKind.bits allU2 List.take_of_length_le List.range_succ
attribute [local irreducible] V G H HD HD2 HD4 HD4h RetX RunK Eff CallP CallV EndOK Fun Ret FinOK LoopI LoopW EndW
theorem value_fun (lets : List Let) (vars : List Var) (e : Exp) : Fun Try.prog 8 [.u (letsU lets), .u (varsU vars), eagg e] (· = .tup [.u (.int .i64 (valueP lets vars e).1), .u (.int .i64 (valueP lets vars e).2)]) := by
  have h1 := rightExp_fun e
  generalize hK : valueP lets vars e = K
  unfold valueP rightAll at hK
  by_cases hre : rightB 12 e = true
  case neg =>
    have hre2 : rightB 12 e = false := by simpa using hre
    rw [if_neg (by simp [hre2])] at hK
    subst hK
    rw [hre2] at h1
    simp only [letsU, varsU, eagg] at h1 ⊢
    (refine Fun.of_bodyW Try.func8 rfl (by simp) fun Γ hn => ?_); simp only [entry, List.zipIdx_cons, List.zipIdx_nil, List.map_cons, List.map_nil, Nat.zero_add, Try.ntmps8]
    repeat' (first
    | (refine H_cons ?_; simp)
    | (refine H_nil ?_; simp)
    | (refine V_sseq ?_; simp)
    | (refine V_scond ?_; simp)
    | (refine V_ret ?_; simp only [RunK])
    | (refine CallP.fun_ (h1) (by first | rfl | fail) (by first | assumption | (simp; done) | fail) (by first | (simp; done) | (simp; rfl) | fail) (by first | (simp; done) | fail) (fun d hd => ?_); subst hd; (try simp))
    | fail)
    refine EndW.here ?_
    (refine EndOK.val (.inr rfl) ?_; simp [resD, oneOrTup, pureD, Try.results8])
  by_cases hll : lets.length ≤ 20
  case neg =>
    have hll2 : 20 < (lets.length : Int) := by omega
    rw [if_neg (by simp [hll])] at hK
    subst hK
    rw [hre] at h1
    simp only [letsU, varsU, eagg] at h1 ⊢
    (refine Fun.of_bodyW Try.func8 rfl (by simp) fun Γ hn => ?_); simp only [entry, List.zipIdx_cons, List.zipIdx_nil, List.map_cons, List.map_nil, Nat.zero_add, Try.ntmps8]
    refine V_len (x := 0) rfl fun hl0 => ?_
    simp only [List.length_map] at hl0
    repeat' (first
    | (refine H_cons ?_; simp [hll2])
    | (refine H_nil ?_; simp [hll2])
    | (refine V_sseq ?_; simp [hll2])
    | (refine V_scond ?_; simp [hll2])
    | (refine V_ret ?_; simp only [RunK])
    | (refine CallP.fun_ (h1) (by first | rfl | fail) (by first | assumption | (simp; done) | fail) (by first | (simp [hll2]; done) | (simp [hll2]; rfl) | fail) (by first | (simp; done) | fail) (fun d hd => ?_); subst hd; (try simp [hll2]))
    | fail)
    refine EndW.here ?_
    (refine EndOK.val (.inr rfl) ?_; simp [resD, oneOrTup, pureD, Try.results8])
  have hll2 : ¬ 20 < (lets.length : Int) := by omega
  rw [hre] at h1
  simp only [letsU, varsU, eagg] at h1 ⊢
  (refine Fun.of_bodyW Try.func8 rfl (by simp) fun Γ hn => ?_); simp only [entry, List.zipIdx_cons, List.zipIdx_nil, List.map_cons, List.map_nil, Nat.zero_add, Try.ntmps8]
  refine V_len (x := 1) rfl fun hl1 => ?_
  simp only [List.length_map] at hl1
  repeat' (first
    | (refine H_cons ?_; simp [hll2])
    | (refine H_nil ?_; simp [hll2])
    | (refine V_sseq ?_; simp [hll2])
    | (refine V_scond ?_; simp [hll2])
    | (refine V_sblock ?_; simp [hll2])
    | (refine V_skip ?_; simp only [RunK])
    | (refine CallP.fun_ (h1) (by first | rfl | fail) (by first | assumption | (simp; done) | fail) (by first | (simp [hll2]; done) | (simp [hll2]; rfl) | fail) (by first | (simp; done) | fail) (fun d hd => ?_); subst hd; (try simp [hll2]))
    | fail)
  refine V_loopO (α := { i : Nat // i ≤ lets.length ∧ ∀ l ∈ lets.take i, rightB 12 l.body = true }) [0, 1, 5, 23, 24] (fun i => [(25, .u (.int .i64 i.1))])
    (fun i => [(0, .box [.u (.int .i64 e.op), .u (.int .i64 e.n), .u (.int .i64 e.unit), .u (.str e.s), .u (.sl (e.args.map Exp.row))])]) 1
    (fun i => lets.length - i.1) ⟨0, by omega, by simp⟩ ?_ ?_
  · exact (Wk.cut rfl (by simp [hn, St.lp]) (by simp [wkO, St.lp, getK_cons, getK, Ob.under, D.under, under_rowsD, under_entD, Ob.under]) (by simp [wkU, St.lp, keepE, getK_cons, getK, D.under, Ob.under]) (by simp [wkE, St.lp, keepE, getK_cons, getK, Ob.under] <;> (try (intros; simp_all; done)) <;> (try (intros; omega)) <;> (try grind)))
  rintro ⟨i, hi, hb⟩
  simp [St.lp, St.only, keepE, getK_cons, getK]
  rcases hx : lets[i]? with _ | l
  · have hge : lets.length ≤ i := by simpa using hx
    obtain rfl : i = lets.length := by omega
    rw [List.take_length] at hb
    repeat' (first
    | (refine H_cons ?_; simp [hx])
    | (refine H_nil ?_; simp [hx])
    | (refine ⟨by omega, ?_⟩)
    | (refine V_sseq ?_; simp [hx])
    | (refine V_sblock ?_; simp [hx])
    | (refine V_exit ?_; simp [RunK])
    | fail)
    have hrg : rightAll lets e = true := by
      simp only [rightAll, Bool.and_eq_true, decide_eq_true_eq, Bool.not_eq_true', List.any_eq_false]
      exact ⟨⟨hll, hre⟩, fun l hl => by simp [hb l hl]⟩
    refine V_loopO (α := { i : Nat // i ≤ vars.length ∧ ∀ v ∈ vars.take i, inCB v = true }) [0, 5, 10, 41, 42] (fun i => [(43, .u (.int .i64 i.1))])
      (fun i => [(3, .box [.u (.sl (lets.map fun l => [.str l.name, .int .i64 l.body.op, .int .i64 l.body.n, .int .i64 l.body.unit, .str l.body.s, .sl (l.body.args.map Exp.row)])), .vec 1 lets.length, .mp 2]), (2, .map .s false (entD (gmap (gV (vars.take i.1))))),
        (1, .vec 100 3 (List.replicate lets.length [.u (.int .i64 0), .u (.int .i64 0), .u (.bool false)])), (0, .box [.u (.int .i64 e.op), .u (.int .i64 e.n), .u (.int .i64 e.unit), .u (.str e.s), .u (.sl (e.args.map Exp.row))])]) 4
      (fun i => vars.length - i.1) ⟨0, by omega, by simp⟩ ?_ ?_
    · exact (Wk.cut rfl (by simp [hn, St.lp]) (by simp [wkO, St.lp, getK_cons, getK, Ob.under, D.under, under_rowsD, under_entD, gV, gmap, entD_nil, Ob.under]) (by simp [wkU, St.lp, keepE, getK_cons, getK, D.under, gV, gmap, entD_nil, Ob.under]) (by simp [wkE, St.lp, keepE, getK_cons, getK, gV, gmap, entD_nil, Ob.under] <;> (try (intros; simp_all; done)) <;> (try (intros; omega)) <;> (try grind)))
    rintro ⟨j, hj, hvb⟩
    simp [St.lp, St.only, keepE, getK_cons, getK]
    rcases hy : vars[j]? with _ | v
    · have hge : vars.length ≤ j := by simpa using hy
      obtain rfl : j = vars.length := by omega
      rw [List.take_length] at hvb
      have hva : vars.all inCB = true := by simpa [List.all_eq_true] using hvb
      have hgs : ∀ s v, gF (gV vars) s = some v → inC v := gV_in vars [] (fun s v h => by simp [asc] at h) hvb
      rw [if_pos ⟨hrg, hva⟩] at hK
      have htry := fun nx' (h : 4 ≤ nx') => try_ret (eval_all (r := 1) (m := 3) hgs hb hll (by decide) lets.length (Nat.le_refl _) 12 e hre) (by decide) (tab0 lets) nx' (by omega) (by omega) ⟨by simp [tab0], fun i v er d hi => by
        have h7 : (v, er, d) = (0, 0, false) := List.eq_of_mem_replicate (List.mem_of_getElem? hi)
        cases h7
        unfold inC; omega⟩
      have htb : tOb (tab0 lets) = .vec 100 3 (List.replicate lets.length [.u (.int .i64 0), .u (.int .i64 0), .u (.bool false)]) := by simp [tOb, tab0]
      rw [htb] at htry
      simp only [eagg, mOb, letsU] at htry
      subst hK
      repeat' (first
    | (refine H_cons ?_; simp [hy, List.take_length])
    | (refine H_nil ?_; simp [hy, List.take_length])
    | (refine V_sseq ?_; simp [hy, List.take_length])
    | (refine V_exit ?_; simp [RunK])
    | fail)
      refine CallP_wk (Wk.frzM (us := gmap (gV vars)) 2 [3, 2, 1, 0] rfl (by simp)) ?_
      simp [frz_env, frz_obs, St.frzS, frzS, fv, fzVec, fzMap, fzBox, frzObS, frz_entD, frz_rowsD, del]
      repeat' (first
    | (refine H_cons ?_; simp [hy])
    | (refine H_nil ?_; simp [hy])
    | (refine V_ret ?_; simp only [RunK])
    | (refine CallP.okL (htry _ (by first | omega | (simp; done) | (simp; omega) | fail)) (by first | (simp [hy, getK_cons, getK, getK_append, getK_del, getK_setOb, applyW, del]; done) | fail) (by rfl) (by first | assumption | (simp; done) | fail) (by rfl) (by simp) ?_; (try simp [hy, delL, del]))
    | fail)
      refine EndW.here ?_
      (refine EndOK.val (.inr rfl) ?_; simp [resD, oneOrTup, pureD, Try.results8])
    · have hlt : j < vars.length := (List.getElem?_eq_some_iff.1 hy).1
      have hg := look_g (gV (vars.take j)) v.name
      have hsu := gV_succ hy
      by_cases hv : inCB v = true
      · have hv1 := hv
        simp only [inCB, Bool.and_eq_true, decide_eq_true_eq] at hv1
        have hv2 : ¬ 1099511627776 < v.n := by omega
        have hv3 : ¬ v.n < -1099511627776 := by omega
        cases hga : asc (gV (vars.take j)) v.name with
        | some u =>
          rw [hga] at hg hsu
          simp only [Option.map_some] at hg
          repeat' (first
    | (refine H_cons ?_; simp [hy, hg, hv2, hv3])
    | (refine HD4_val rfl ?_; simp [hy, hg, hv2, hv3])
    | (refine H_nil ?_; simp [hy, hg, hv2, hv3])
    | (refine ⟨by omega, ?_⟩)
    | (refine V_sseq ?_; simp [hy, hg, hv2, hv3])
    | (refine V_scond ?_; simp [hy, hg, hv2, hv3])
    | (refine HD4_nil (hC _ (by kernel_rfl)) (hk _ ?_); clear hC hk C k; simp only [RunK])
    | (refine V_drawX rfl (by kernel_rfl) (by first | (simp [hn]; done) | (simp [hn]; omega) | fail) fun C k hC hk => ?_; simp [hy, hg, hv2, hv3])
    | (refine V_sregion ?_; simp [hy, hg, hv2, hv3])
    | (refine V_skip ?_; simp only [RunK])
    | (refine ⟨?_, by omega⟩)
    | (intro hc <;> (try (exfalso; omega)))
    | fail)
          refine LoopW.next ⟨j + 1, by omega, take_succ_all hy hvb hv⟩ (by simp; omega) ?_
          exact (Wk.cut rfl (by simp [hn, St.lp]) (by simp [wkO, St.lp, getK_cons, getK, Ob.under, D.under, under_rowsD, under_entD, hsu]) (by simp [wkU, St.lp, keepE, getK_cons, getK, D.under, hsu]) (by simp [wkE, St.lp, keepE, getK_cons, getK, hsu] <;> (try (intros; simp_all; done)) <;> (try (intros; omega)) <;> (try grind)))
        | none =>
          rw [hga] at hg hsu
          simp only [Option.map_none] at hg
          repeat' (first
    | (refine H_cons ?_; simp [hy, hg, upd_g, hv2, hv3])
    | (refine HD4_val rfl ?_; simp [hy, hg, upd_g, hv2, hv3])
    | (refine HD4_chg rfl ?_; simp [hy, hg, upd_g, hv2, hv3])
    | (refine H_nil ?_; simp [hy, hg, upd_g, hv2, hv3])
    | (refine ⟨by omega, ?_⟩)
    | (refine V_sseq ?_; simp [hy, hg, upd_g, hv2, hv3])
    | (refine V_scond ?_; simp [hy, hg, upd_g, hv2, hv3])
    | (refine HD4_nil (hC _ (by kernel_rfl)) (hk _ ?_); clear hC hk C k; simp only [RunK])
    | (refine V_drawX rfl (by kernel_rfl) (by first | (simp [hn]; done) | (simp [hn]; omega) | fail) fun C k hC hk => ?_; simp [hy, hg, upd_g, hv2, hv3])
    | (refine V_sregion ?_; simp [hy, hg, upd_g, hv2, hv3])
    | (refine V_skip ?_; simp only [RunK])
    | (refine ⟨?_, by omega⟩)
    | (intro hc <;> (try (exfalso; omega)))
    | fail)
          refine LoopW.next ⟨j + 1, by omega, take_succ_all hy hvb hv⟩ (by simp; omega) ?_
          exact (Wk.cut rfl (by simp [hn, St.lp]) (by simp [wkO, St.lp, getK_cons, getK, Ob.under, D.under, under_rowsD, under_entD, hsu]) (by simp [wkU, St.lp, keepE, getK_cons, getK, D.under, hsu]) (by simp [wkE, St.lp, keepE, getK_cons, getK, hsu] <;> (try (intros; simp_all; done)) <;> (try (intros; omega)) <;> (try grind)))
      · have hv1 : 1099511627776 < v.n ∨ v.n < -1099511627776 := by
          simp only [inCB, Bool.and_eq_true, decide_eq_true_eq] at hv
          omega
        rw [if_neg (by
          rintro ⟨_, h⟩
          rw [List.all_eq_true] at h
          exact hv (h v (List.mem_of_getElem? hy)))] at hK
        subst hK
        by_cases hv2 : 1099511627776 < v.n
        · repeat' (first
    | (refine H_cons ?_; simp [hy, hv2])
    | (refine H_nil ?_; simp [hy, hv2])
    | (refine V_sseq ?_; simp [hy, hv2])
    | (refine V_scond ?_; simp [hy, hv2])
    | (refine V_ret ?_; simp only [RunK])
    | (refine V_skip ?_; simp only [RunK])
    | (refine ⟨?_, by omega⟩)
    | (intro hc <;> (try (exfalso; omega)))
    | fail)
          refine EndW.here ?_
          (refine EndOK.val (.inr rfl) ?_; simp [resD, oneOrTup, pureD, Try.results8])
        · have hv3 : v.n < -1099511627776 := by omega
          repeat' (first
    | (refine H_cons ?_; simp [hy, hv2, hv3])
    | (refine H_nil ?_; simp [hy, hv2, hv3])
    | (refine V_sseq ?_; simp [hy, hv2, hv3])
    | (refine V_scond ?_; simp [hy, hv2, hv3])
    | (refine V_ret ?_; simp only [RunK])
    | (refine V_skip ?_; simp only [RunK])
    | (refine ⟨?_, by omega⟩)
    | (intro hc <;> (try (exfalso; omega)))
    | fail)
          refine EndW.here ?_
          (refine EndOK.val (.inr rfl) ?_; simp [resD, oneOrTup, pureD, Try.results8])
  · have hlt : i < lets.length := (List.getElem?_eq_some_iff.1 hx).1
    have h2 := rightExp_fun l.body
    simp only [eagg] at h2
    by_cases hlb : rightB 12 l.body = true
    · rw [hlb] at h2
      repeat' (first
    | (refine H_cons ?_; simp [hx])
    | (refine H_nil ?_; simp [hx])
    | (refine ⟨by omega, ?_⟩)
    | (refine V_sseq ?_; simp [hx])
    | (refine V_scond ?_; simp [hx])
    | (refine V_sregion ?_; simp [hx])
    | (refine V_skip ?_; simp only [RunK])
    | (refine ⟨?_, by omega⟩)
    | (intro hc <;> (try (exfalso; omega)))
    | (refine CallP.fun_ (h2) (by first | rfl | fail) (by first | assumption | (simp; done) | fail) (by first | (simp [hx]; done) | (simp [hx]; rfl) | fail) (by first | (simp; done) | fail) (fun d hd => ?_); subst hd; (try simp [hx]))
    | fail)
      refine LoopW.next ⟨i + 1, by omega, take_succ_all hx hb hlb⟩ (by simp; omega) ?_
      exact (Wk.cut rfl (by simp [hn, St.lp]) (by simp [wkO, St.lp, getK_cons, getK, Ob.under, D.under, under_rowsD, under_entD, Ob.under]) (by simp [wkU, St.lp, keepE, getK_cons, getK, D.under, Ob.under]) (by simp [wkE, St.lp, keepE, getK_cons, getK, Ob.under] <;> (try (intros; simp_all; done)) <;> (try (intros; omega)) <;> (try grind)))
    · have hlb2 : rightB 12 l.body = false := by simpa using hlb
      rw [hlb2] at h2
      rw [if_neg (by
        rintro ⟨h, _⟩
        simp only [Bool.and_eq_true, Bool.not_eq_true', List.any_eq_false] at h
        have := h.2 l (List.mem_of_getElem? hx)
        simp [hlb2] at this)] at hK
      subst hK
      repeat' (first
    | (refine H_cons ?_; simp [hx])
    | (refine H_nil ?_; simp [hx])
    | (refine V_sseq ?_; simp [hx])
    | (refine V_scond ?_; simp [hx])
    | (refine V_ret ?_; simp only [RunK])
    | (refine V_skip ?_; simp only [RunK])
    | (refine ⟨?_, by omega⟩)
    | (intro hc <;> (try (exfalso; omega)))
    | (refine CallP.fun_ (h2) (by first | rfl | fail) (by first | assumption | (simp; done) | fail) (by first | (simp [hx]; done) | (simp [hx]; rfl) | fail) (by first | (simp; done) | fail) (fun d hd => ?_); subst hd; (try simp [hx]))
    | fail)
      refine EndW.here ?_
      (refine EndOK.val (.inr rfl) ?_; simp [resD, oneOrTup, pureD, Try.results8])
end Go.Proofs.Ytmoohdpnmkkgpaa
namespace Go.Proofs.Ytmoohdpnmkkgpaa
open Go Go.VL
abbrev gst (g : GM) (v : Var) : GM := if asc g v.name = none then ascPut g v.name v.n else g
theorem gV_inC {vars : List Var} (h : vars.all inCB = true) : ∀ s v, gF (gV vars) s = some v → inC v := gV_in vars [] (fun s v h => by simp [asc] at h) (by simpa [List.all_eq_true] using h)
theorem tab0_ok (lets : List Let) : TabOK lets.length (tab0 lets) := ⟨by simp [tab0], fun i v e d h => by
  simp only [tab0, List.getElem?_replicate] at h
  split at h
  · cases h; exact ⟨by decide, by decide⟩
  · cases h⟩
theorem tab0_v (lets : List Let) (G) : TabV lets G (tab0 lets) := fun i v e h => by
  simp only [tab0, List.getElem?_replicate] at h
  split at h <;> cases h
/-- Value without a table. -/
theorem valueP_eq (lets : List Let) (vars : List Var) (e : Exp) : valueP lets vars e = if rightAll lets e = true ∧ vars.all inCB = true then ((entX (valX lets (gF (gV vars)) lets.length e)).1, (entX (valX lets (gF (gV vars)) lets.length e)).2.1) else (0, 1) := by
  unfold valueP
  by_cases h : rightAll lets e = true ∧ vars.all inCB = true
  · rw [if_pos h, if_pos h]
    obtain ⟨_, h2, h3⟩ := rights_out h.1
    rw [(valL_valX h3 (gV_inC h.2) lets.length 12 e h2 (tab0 lets) (tab0_ok lets) (tab0_v lets _)).1]
  · rw [if_neg h, if_neg h]
end Go.Proofs.Ytmoohdpnmkkgpaa
namespace Go.Pm
theorem fdiv_of {a b q r : Int} (h : a = b * q + r) (hp : 0 < b → 0 ≤ r ∧ r < b) (hn : b < 0 → b < r ∧ r ≤ 0) (hb : b ≠ 0) : a.fdiv b = q := by
  rcases Int.lt_or_gt_of_ne hb with h0 | h0
  · obtain ⟨h1, h2⟩ := hn h0
    have e1 : a.fdiv b = (-a).fdiv (-b) := by rw [Int.neg_fdiv_neg]
    rw [e1, Int.fdiv_eq_ediv_of_nonneg _ (by omega)]
    have e2 : -a = -r + (-b) * q := by rw [h, Int.neg_mul]; omega
    rw [e2, Int.add_mul_ediv_left _ _ (by omega), Int.ediv_eq_zero_of_lt (by omega) (by omega)]
    omega
  · obtain ⟨h1, h2⟩ := hp h0
    rw [Int.fdiv_eq_ediv_of_nonneg _ (by omega), h, Int.add_comm, Int.add_mul_ediv_left _ _ (by omega), Int.ediv_eq_zero_of_lt h1 h2]
    omega
theorem tdiv_parts (a b : Int) (hb : b ≠ 0) : a = b * a.tdiv b + a.tmod b ∧ (0 ≤ a → 0 ≤ a.tmod b) ∧ (a ≤ 0 → a.tmod b ≤ 0) ∧ (0 < b → -b < a.tmod b ∧ a.tmod b < b) ∧ (b < 0 → b < a.tmod b ∧ a.tmod b < -b) := by
  have h1 := Int.mul_tdiv_add_tmod a b
  have h2 : (a.tmod b).natAbs < b.natAbs := by rw [Int.natAbs_tmod]; exact Nat.mod_lt _ (by omega)
  refine ⟨h1.symm, fun h => Int.tmod_nonneg b h, fun h => ?_, fun h => by omega, fun h => by omega⟩
  have := Int.tmod_nonneg (a := -a) b (by omega)
  rw [Int.neg_tmod] at this
  omega
theorem tdiv_le (a b : Int) (ha : -1099511627776 ≤ a) (ha2 : a ≤ 1099511627776) : -1099511627776 ≤ a.tdiv b ∧ a.tdiv b ≤ 1099511627776 := by
  have h : (a.tdiv b).natAbs ≤ a.natAbs := by rw [Int.natAbs_tdiv]; exact Nat.div_le_self _ _
  omega
/-- Go's '/' with the correction for unlike signs is the quotient rounded down. -/
theorem floor_eq (a b : Int) (hb : b ≠ 0) : a.fdiv b = if a.tmod b ≠ 0 ∧ ¬ (a < 0 ↔ b < 0) then a.tdiv b - 1 else a.tdiv b := by
  obtain ⟨h1, h2, h3, h4, h5⟩ := tdiv_parts a b hb
  split
  · rename_i hc
    refine fdiv_of (r := a.tmod b + b) (by rw [Int.mul_sub]; omega) (fun h => ?_) (fun h => ?_) hb
    · have := h4 h; have := h3 (by omega); omega
    · have := h5 h; have := h2 (by omega); omega
  · rename_i hc
    refine fdiv_of (r := a.tmod b) h1 (fun h => ?_) (fun h => ?_) hb
    · have := h4 h
      by_cases h0 : a < 0
      · have : a.tmod b = 0 := Classical.byContradiction fun hh => hc ⟨hh, by omega⟩
        omega
      · have := h2 (by omega); omega
    · have := h5 h
      by_cases h0 : a < 0
      · have := h3 (by omega); omega
      · have : a.tmod b = 0 := by
          by_cases ha : a = 0
          · subst ha; simp
          · exact Classical.byContradiction fun hh => hc ⟨hh, by omega⟩
        omega
end Go.Pm
namespace Go.Proofs.Ytmoohdpnmkkgpaa.Vm
open Go Go.VL
attribute [local simp] hcons hstep evPure opd uOf putOK St.put St.at getK binD binI binS binB nilD aggD eqUs cmpK lookD lookR rangeD Go.VL.nextD entryD keyD valU keyU lookK mkV entD_nil lookK_entD updK_entD1 updK_entD3 allUE allUE_entD makeMapD mapUpdD mapEff updK valM Key.kk shiftI arith unD convD pickD loadD cellsAt fieldAddrD fieldD indexAddrD indexD sliceD cutD lenD minmaxD nilCheckD buildD fillD cellsD isOne ones setAll mkAgg allU allocD boxD storeD St.add buildSliceD appendD rowsOf makeD setOb getK_setOb getK_del getK_cons stripL strip guardTmp entry chunks zcells valD argsV argsW argW argU1 argU0 argsU0 argsU1 calleeOf scalarD scalarU delAll effD St.effS RK_seq RK_seq_ret RK_seq_exit RK_blk RK_blk_ret RK_blk_exit RK_loop RK_loop_ret RK_loop_exit RK_done vs_seq vs_block vs_cond vs_region vs_loop vs_draw applyW mkD rdIds lentIds callOf calleeOf freeOp D.ids Op.operands Call.operands isEffOp makeIfD typeAssertD conc concs conc1 uOfV panicD IntKind.bits allU2 List.take_of_length_le List.range_succ
attribute [local irreducible] V G H HD HD2 RunK Eff CallP CallV EndOK Fun Ret FinOK LoopI LoopW EndW
theorem within_fun (n : Int) : Fun Try.prog 34 [.u (.int .i64 n)] (· = .u (.bool (decide (-1099511627776 ≤ n ∧ n ≤ 1099511627776)))) := by
  (refine Fun.of_body Try.func34 rfl (by simp) fun Γ hn => ?_); simp only [entry, List.zipIdx_cons, List.zipIdx_nil, List.map_cons, List.map_nil, Nat.zero_add, Try.ntmps34]
  repeat' (first
    | (refine H_cons ?_; simp)
    | (refine H_nil ?_; simp)
    | (refine V_sseq ?_; simp)
    | (refine V_ret ?_; simp only [RunK])
    | (refine ⟨fun hc => ?_, fun hc => ?_⟩ <;> (try (exfalso; omega)))
    | fail)
  all_goals
  (refine EndOK.val (.inr rfl) ?_; simp [resD, oneOrTup, pureD, Try.results34])
  all_goals omega
theorem floor_fun (a b : Int) (hb : b ≠ 0) (ha : -1099511627776 ≤ a) (ha2 : a ≤ 1099511627776) : Fun Try.prog 54 [.u (.int .i64 a), .u (.int .i64 b)] (· = .u (.int .i64 (a.fdiv b))) := by
  have h1 := Pm.tdiv_le a b ha ha2
  (refine Fun.of_body Try.func54 rfl (by simp) fun Γ hn => ?_); simp only [entry, List.zipIdx_cons, List.zipIdx_nil, List.map_cons, List.map_nil, Nat.zero_add, Try.ntmps54]
  repeat' (first
    | (refine H_cons ?_; simp)
    | (refine H_nil ?_; simp)
    | (refine ⟨by omega, ?_⟩)
    | (refine V_sseq ?_; simp)
    | (refine V_scond ?_; simp)
    | (refine V_sregion ?_; simp)
    | (refine V_ret ?_; simp only [RunK])
    | (refine V_skip ?_; simp only [RunK])
    | (refine ⟨fun hc => ?_, fun hc => ?_⟩ <;> (try (exfalso; omega)))
    | fail)
  all_goals
  (refine EndOK.val (.inr rfl) ?_; simp [resD, oneOrTup, pureD, Try.results54])
  all_goals rw [Pm.floor_eq a b hb]
  all_goals split <;> omega
theorem truth_fun (b : Bool) : Fun Try.prog 39 [.u (.bool b)] (· = .u (.int .i64 (if b then 1 else 0))) := by
  (refine Fun.of_body Try.func39 rfl (by simp) fun Γ hn => ?_); simp only [entry, List.zipIdx_cons, List.zipIdx_nil, List.map_cons, List.map_nil, Nat.zero_add, Try.ntmps39]
  repeat' (first
    | (refine H_cons ?_; simp)
    | (refine H_nil ?_; simp)
    | (refine V_sseq ?_; simp)
    | (refine V_scond ?_; simp)
    | (refine V_ret ?_; simp only [RunK])
    | (refine V_skip ?_; simp only [RunK])
    | (refine ⟨fun hc => ?_, fun hc => ?_⟩ <;> (try (exfalso; omega)))
    | fail)
  all_goals
  (refine EndOK.val (.inr rfl) ?_; simp [resD, oneOrTup, pureD, Try.results39])
  all_goals simp_all
def needs (n : Int) : Int := if n = 0 ∨ n = 1 ∨ n = 12 then 0 else if n = 11 ∨ n = 13 ∨ n = 14 then 1 else 2
theorem needs_fun (n : Int) : Fun Try.prog 31 [.u (.int .i64 n)] (· = .u (.int .i64 (needs n))) := by
  (refine Fun.of_body Try.func31 rfl (by simp) fun Γ hn => ?_); simp only [entry, List.zipIdx_cons, List.zipIdx_nil, List.map_cons, List.map_nil, Nat.zero_add, Try.ntmps31]
  repeat' (first
    | (refine H_cons ?_; simp)
    | (refine H_nil ?_; simp)
    | (refine V_sseq ?_; simp)
    | (refine V_scond ?_; simp)
    | (refine V_sblock ?_; simp)
    | (refine V_sregion ?_; simp)
    | (refine V_ret ?_; simp only [RunK])
    | (refine V_skip ?_; simp only [RunK])
    | (refine ⟨?_, by omega⟩)
    | (refine ⟨fun hc => ?_, fun hc => ?_⟩ <;> (try (exfalso; omega)))
    | (intro hc <;> (try (exfalso; omega)))
    | fail)
  all_goals
  (refine EndOK.val (.inr rfl) ?_; simp [resD, oneOrTup, pureD, Try.results31])
  all_goals (unfold needs; simp_all)
end Go.Proofs.Ytmoohdpnmkkgpaa.Vm
namespace Go.Pm
open Go Go.VL
theorem ofInt_nat (a : Int) (h : 0 ≤ a) (h' : a < 18446744073709551616) : (BitVec.ofInt 64 a).toNat = a.toNat := by
  rw [BitVec.toNat_ofInt]
  have : a % (2 ^ 64 : Nat) = a := Int.emod_eq_of_lt h (by omega)
  rw [this]
theorem and_mask32 (a : Int) (h : 0 ≤ a) (h' : a < 18446744073709551616) : bitAnd .u64 a 4294967295 = a % 4294967296 := by
  unfold bitAnd
  have e : (BitVec.ofInt IntKind.u64.bits a &&& BitVec.ofInt IntKind.u64.bits 4294967295).toNat = a.toNat % 4294967296 := by
    show (BitVec.ofInt 64 a &&& BitVec.ofInt 64 4294967295).toNat = _
    rw [BitVec.toNat_and, ofInt_nat a h h', ofInt_nat _ (by omega) (by omega)]
    have := Nat.and_two_pow_sub_one_eq_mod a.toNat 32
    simpa using this
  rw [e, IntKind.wrap_u64]
  omega
theorem or_add (a b : Int) (n : Nat) (ha : 0 ≤ a) (hb : 0 ≤ b) (hb' : b < 2 ^ n) (hab : a * 2 ^ n + b < 18446744073709551616) : bitOr .u64 (a * 2 ^ n) b = a * 2 ^ n + b := by
  unfold bitOr
  obtain ⟨A, rfl⟩ := Int.eq_ofNat_of_zero_le ha
  obtain ⟨B, rfl⟩ := Int.eq_ofNat_of_zero_le hb
  have hB : B < 2 ^ n := by
    have e : ((2 : Int) ^ n) = ((2 ^ n : Nat) : Int) := by push_cast; rfl
    rw [e] at hb'
    omega
  have e1 : ((A : Int) * 2 ^ n) = ((A * 2 ^ n : Nat) : Int) := by push_cast; rfl
  rw [e1] at hab ⊢
  generalize hC : A * 2 ^ n = C at *
  have e : (BitVec.ofInt IntKind.u64.bits (C : Int) ||| BitVec.ofInt IntKind.u64.bits (B : Int)).toNat = C + B := by
    show (BitVec.ofInt 64 (C : Int) ||| BitVec.ofInt 64 (B : Int)).toNat = _
    rw [BitVec.toNat_or, ofInt_nat _ (by omega) (by omega), ofInt_nat _ (by omega) (by omega), Int.toNat_natCast, Int.toNat_natCast, ← hC, Nat.mul_comm]
    exact (Nat.two_pow_add_eq_or_of_lt hB A).symm
  rw [e, IntKind.wrap_u64]
  omega
theorem mul_hi (x y : Int) (hx : 0 ≤ x) (hx' : x ≤ 1099511627776) (hy : 0 ≤ y) (hy' : y ≤ 1099511627776) :
    (x / 4294967296 * (y / 4294967296) +
          (x / 4294967296 * bitAnd IntKind.u64 y 4294967295 +
                bitAnd IntKind.u64 x 4294967295 * bitAnd IntKind.u64 y 4294967295 % 18446744073709551616 / 4294967296) %
              18446744073709551616 /
            4294967296 +
        (bitAnd IntKind.u64
                ((x / 4294967296 * bitAnd IntKind.u64 y 4294967295 +
                    bitAnd IntKind.u64 x 4294967295 * bitAnd IntKind.u64 y 4294967295 % 18446744073709551616 /
                      4294967296) %
                  18446744073709551616)
                4294967295 +
              bitAnd IntKind.u64 x 4294967295 * (y / 4294967296)) %
            18446744073709551616 /
          4294967296) %
      18446744073709551616 =
    x * y / 18446744073709551616 := by
  rw [and_mask32 x hx (by omega), and_mask32 y hy (by omega), and_mask32 _ (by omega) (by omega)]
  have hxe : x = x / 4294967296 * 4294967296 + x % 4294967296 := by omega
  have hye : y = y / 4294967296 * 4294967296 + y % 4294967296 := by omega
  have hx1 : 0 ≤ x / 4294967296 ∧ x / 4294967296 ≤ 256 := by omega
  have hy1 : 0 ≤ y / 4294967296 ∧ y / 4294967296 ≤ 256 := by omega
  have hx0 : 0 ≤ x % 4294967296 ∧ x % 4294967296 ≤ 4294967295 := by omega
  have hy0 : 0 ≤ y % 4294967296 ∧ y % 4294967296 ≤ 4294967295 := by omega
  generalize x / 4294967296 = x1 at *
  generalize y / 4294967296 = y1 at *
  generalize x % 4294967296 = x0 at *
  generalize y % 4294967296 = y0 at *
  have e : x * y = x1 * y1 * 18446744073709551616 + (x1 * y0 + x0 * y1) * 4294967296 + x0 * y0 := by
    rw [hxe, hye]
    simp only [Int.add_mul, Int.mul_add]
    have a1 : x1 * 4294967296 * (y1 * 4294967296) = x1 * y1 * 18446744073709551616 := by
      rw [Int.mul_assoc, ← Int.mul_assoc 4294967296, Int.mul_comm 4294967296 y1, Int.mul_assoc y1, ← Int.mul_assoc]; rfl
    have a2 : x1 * 4294967296 * y0 = x1 * y0 * 4294967296 := by rw [Int.mul_assoc, Int.mul_comm 4294967296, ← Int.mul_assoc]
    have a3 : x0 * (y1 * 4294967296) = x0 * y1 * 4294967296 := by rw [Int.mul_assoc]
    rw [a1, a2, a3]
    omega
  have b00 := Int.mul_le_mul hx0.2 hy0.2 hy0.1 (by omega)
  have b10 := Int.mul_le_mul hx1.2 hy0.2 hy0.1 (by omega)
  have b01 := Int.mul_le_mul hx0.2 hy1.2 hy1.1 (by omega)
  have b11 := Int.mul_le_mul hx1.2 hy1.2 hy1.1 (by omega)
  have c00 := Int.mul_nonneg hx0.1 hy0.1
  have c10 := Int.mul_nonneg hx1.1 hy0.1
  have c01 := Int.mul_nonneg hx0.1 hy1.1
  have c11 := Int.mul_nonneg hx1.1 hy1.1
  rw [e]
  generalize x0 * y0 = p00 at *
  generalize x1 * y0 = p10 at *
  generalize x0 * y1 = p01 at *
  generalize x1 * y1 = p11 at *
  clear e hxe hye
  omega
end Go.Pm
namespace Go.Proofs.Ytmoohdpnmkkgpaa.Vm
open Go Go.VL
attribute [local simp] hcons hstep evPure opd uOf putOK St.put St.at getK binD binI binS binB nilD aggD eqUs cmpK lookD lookR rangeD Go.VL.nextD entryD keyD valU keyU lookK mkV entD_nil lookK_entD updK_entD1 updK_entD3 allUE allUE_entD makeMapD mapUpdD mapEff updK valM Key.kk shiftI arith unD convD pickD loadD cellsAt fieldAddrD fieldD indexAddrD indexD sliceD cutD lenD minmaxD nilCheckD buildD fillD cellsD isOne ones setAll mkAgg allU allocD boxD storeD St.add buildSliceD appendD rowsOf makeD setOb getK_setOb getK_del getK_cons stripL strip guardTmp entry chunks zcells valD argsV argsW argW argU1 argU0 argsU0 argsU1 calleeOf scalarD scalarU delAll effD St.effS RK_seq RK_seq_ret RK_seq_exit RK_blk RK_blk_ret RK_blk_exit RK_loop RK_loop_ret RK_loop_exit RK_done vs_seq vs_block vs_cond vs_region vs_loop vs_draw applyW mkD rdIds lentIds callOf calleeOf freeOp D.ids Op.operands Call.operands isEffOp makeIfD typeAssertD conc concs conc1 uOfV panicD IntKind.bits allU2 List.take_of_length_le List.range_succ
attribute [local irreducible] V G H HD HD2 RunK Eff CallP CallV EndOK Fun Ret FinOK LoopI LoopW EndW
theorem mul64_fun (x y : Int) (hx : 0 ≤ x) (hx' : x ≤ 1099511627776) (hy : 0 ≤ y) (hy' : y ≤ 1099511627776) : Fun Try.prog 62 [.u (.int .u64 x), .u (.int .u64 y)]
    (· = .tup [.u (.int .u64 (x * y / 18446744073709551616)), .u (.int .u64 (x * y % 18446744073709551616))]) := by
  (refine Fun.of_body Try.func62 rfl (by simp) fun Γ hn => ?_); simp only [entry, List.zipIdx_cons, List.zipIdx_nil, List.map_cons, List.map_nil, Nat.zero_add, Try.ntmps62]
  repeat' (first
    | (refine H_cons ?_; simp)
    | (refine H_nil ?_; simp)
    | (refine V_sseq ?_; simp)
    | (refine V_ret ?_; simp only [RunK])
    | fail)
  all_goals
  (refine EndOK.val (.inr rfl) ?_; simp [resD, oneOrTup, pureD, Try.results62])
  exact Pm.mul_hi x y hx hx' hy hy'
set_option maxRecDepth 100000 in
theorem len64_1000 : Fun Try.prog 74 [.u (.int .u64 1000)] (· = .u (.int .i64 10)) := by
  (refine Fun.of_body Try.func74 rfl (by simp) fun Γ hn => ?_); simp only [entry, List.zipIdx_cons, List.zipIdx_nil, List.map_cons, List.map_nil, Nat.zero_add, Try.ntmps74]
  repeat' (first
    | (refine H_cons ?_; simp)
    | (refine H_nil ?_; simp)
    | (refine V_sseq ?_; simp)
    | (refine V_scond ?_; simp)
    | (refine V_sregion ?_; simp)
    | (refine V_ret ?_; simp only [RunK])
    | (refine V_skip ?_; simp only [RunK])
    | fail)
  (refine EndOK.val (.inr rfl) ?_; simp [resD, oneOrTup, pureD, Try.results74])
theorem lz64_1000 : Fun Try.prog 71 [.u (.int .u64 1000)] (· = .u (.int .i64 54)) := by
  (refine Fun.of_body Try.func71 rfl (by simp) fun Γ hn => ?_); simp only [entry, List.zipIdx_cons, List.zipIdx_nil, List.map_cons, List.map_nil, Nat.zero_add, Try.ntmps71]
  repeat' (first
    | (refine H_cons ?_; simp)
    | (refine H_nil ?_; simp)
    | (refine V_sseq ?_; simp)
    | fail)
  (first | (refine CallV.fun_ (len64_1000) (by first | rfl | fail) (by first | assumption | (simp; done) | fail) (by first | (simp; done) | (simp; rfl) | fail) (by first | (simp; done) | fail) ?_ <;> (try simp)) | (refine CallP.fun_ (len64_1000) (by first | rfl | fail) (by first | assumption | (simp; done) | fail) (by first | (simp; done) | (simp; rfl) | fail) (by first | (simp; done) | fail) (fun d hd => ?_); subst hd; (try simp)))
  repeat' (first
    | (refine H_cons ?_; simp)
    | (refine H_nil ?_; simp)
    | (refine V_ret ?_; simp only [RunK])
    | fail)
  (refine EndOK.val (.inr rfl) ?_; simp [resD, oneOrTup, pureD, Try.results71])
theorem div64_zero (x y : Int) (hx : 0 ≤ x) (hx' : x < 18446744073709551616) (hy : 0 < y) (hy' : y < 18446744073709551616) :
    Fun Try.prog 63 [.u (.int .u64 0), .u (.int .u64 x), .u (.int .u64 y)] (· = .tup [.u (.int .u64 (x / y)), .u (.int .u64 (x % y))]) := by
  (refine Fun.of_body Try.func63 rfl (by simp) fun Γ hn => ?_); simp only [entry, List.zipIdx_cons, List.zipIdx_nil, List.map_cons, List.map_nil, Nat.zero_add, Try.ntmps63]
  repeat' (first
    | (refine H_cons ?_; simp)
    | (refine HD_cons ?_; simp)
    | (refine H_nil ?_; simp)
    | (refine ⟨by omega, ?_⟩)
    | (refine V_sseq ?_; simp)
    | (refine V_scond ?_; simp)
    | (refine HD_nil ?_)
    | (refine hk _ ?_; clear hk k; simp only [RunK])
    | (refine V_drawV rfl (by kernel_rfl) (by kernel_rfl) fun k hk => ?_; simp)
    | (refine V_ret ?_; simp only [RunK])
    | (refine V_skip ?_; simp only [RunK])
    | (intro hc <;> (try (exfalso; omega)))
    | fail)
  all_goals
  (refine EndOK.val (.inr rfl) ?_; simp [resD, oneOrTup, pureD, Try.results63])
  rw [Int.tdiv_eq_ediv_of_nonneg hx, Int.tmod_eq_emod_of_nonneg hx]
  refine ⟨?_, rfl⟩
  have h1 := Int.ediv_nonneg hx (Int.le_of_lt hy)
  have h2 := Int.ediv_le_self y hx
  omega
theorem div64_1000 (h x : Int) (hh : 0 < h) (hh' : h < 1000) (hx : 0 ≤ x) (hx' : x < 18446744073709551616) :
    Fun Try.prog 63 [.u (.int .u64 h), .u (.int .u64 x), .u (.int .u64 1000)]
      (· = .tup [.u (.int .u64 ((h * 18446744073709551616 + x) / 1000)), .u (.int .u64 ((h * 18446744073709551616 + x) % 1000))]) := by
  have e1 : bitOr .u64 (h * 18014398509481984 % 18446744073709551616) (x / 1024) = h * 18014398509481984 + x / 1024 := by
    rw [show h * 18014398509481984 % 18446744073709551616 = h * 2 ^ 54 by omega]
    rw [Pm.or_add h (x / 1024) 54 (by omega) (by omega) (by omega) (by omega)]
    omega
  have e2 : bitAnd .u64 (x * 18014398509481984 % 18446744073709551616) 4294967295 = 0 := by
    rw [Pm.and_mask32 _ (by omega) (by omega)]
    omega
  have e3 : bitAnd .u64 18014398509481984000 4294967295 = 0 := by
    rw [Pm.and_mask32 _ (by omega) (by omega)]
    rfl
  have t1 : (h * 18014398509481984 + x / 1024).tdiv 4194304000 % 18446744073709551616 = (h * 18014398509481984 + x / 1024) / 4194304000 := by
    rw [Int.tdiv_eq_ediv_of_nonneg (by omega)]
    omega
  have t2 : ((h * 18014398509481984 + x / 1024) * 4294967296 + x * 18014398509481984 % 18446744073709551616 / 4294967296 -
      (h * 18014398509481984 + x / 1024) / 4194304000 * 18014398509481984000) % 18446744073709551616 =
      (h * 18014398509481984 + x / 1024) % 4194304000 * 4294967296 + x % 1024 * 4194304 := by omega
  have t3 : ((h * 18014398509481984 + x / 1024) % 4194304000 * 4294967296 + x % 1024 * 4194304).tdiv 4194304000 =
      ((h * 18014398509481984 + x / 1024) % 4194304000 * 4294967296 + x % 1024 * 4194304) / 4194304000 := Int.tdiv_eq_ediv_of_nonneg (by omega)
  have t3' : ((h * 18014398509481984 + x / 1024) % 4194304000 * 4294967296 + x % 1024 * 4194304) / 4194304000 % 18446744073709551616 =
      ((h * 18014398509481984 + x / 1024) % 4194304000 * 4294967296 + x % 1024 * 4194304) / 4194304000 := by omega
  have t4 : (h * 18014398509481984 + x / 1024) % 4194304000 * 4294967296 + x % 1024 * 4194304 =
      (h * 18446744073709551616 + x) % 4294967296000 * 4194304 := by omega
  have t5 : (h * 18014398509481984 + x / 1024) / 4194304000 = (h * 18446744073709551616 + x) / 4294967296000 := by omega
  have t6 : ∀ z : Int, 0 ≤ z → z < 18446744073709551616000 → (z / 4294967296000 * 4294967296 + z % 4294967296000 * 4194304 / 4194304000) % 18446744073709551616 = z / 1000 := by omega
  (refine Fun.of_body Try.func63 rfl (by simp) fun Γ hn => ?_); simp only [entry, List.zipIdx_cons, List.zipIdx_nil, List.map_cons, List.map_nil, Nat.zero_add, Try.ntmps63]
  repeat' (first
    | (refine H_cons ?_; simp [e1, e2, e3, t1, t2, t3, t3'])
    | (refine H_nil ?_; simp [e1, e2, e3, t1, t2, t3, t3'])
    | (refine ⟨by omega, ?_⟩)
    | (refine V_sseq ?_; simp [e1, e2, e3, t1, t2, t3, t3'])
    | (refine V_scond ?_; simp [e1, e2, e3, t1, t2, t3, t3'])
    | (refine V_skip ?_; simp only [RunK])
    | (intro hc <;> (try (exfalso; omega)))
    | fail)
  (first | (refine CallV.fun_ (lz64_1000) (by first | rfl | fail) (by first | assumption | (simp; done) | fail) (by first | (simp; done) | (simp; rfl) | fail) (by first | (simp; done) | fail) ?_ <;> (try simp)) | (refine CallP.fun_ (lz64_1000) (by first | rfl | fail) (by first | assumption | (simp; done) | fail) (by first | (simp; done) | (simp; rfl) | fail) (by first | (simp; done) | fail) (fun d hd => ?_); subst hd; (try simp)))
  repeat' (first
    | (refine H_cons ?_; simp [e1, e2, e3, t1, t2, t3, t3'])
    | (refine H_nil ?_; simp [e1, e2, e3, t1, t2, t3, t3'])
    | (refine ⟨by omega, ?_⟩)
    | (refine V_once ?_)
    | (refine V_sseq ?_; simp [e1, e2, e3, t1, t2, t3, t3'])
    | (refine V_scond ?_; simp [e1, e2, e3, t1, t2, t3, t3'])
    | (refine V_ret ?_; simp only [RunK])
    | (refine V_exit ?_; simp [RunK])
    | (refine ⟨?_, by omega⟩)
    | (intro hc <;> (try (exfalso; omega)))
    | fail)
  all_goals
  (refine EndOK.val (.inr rfl) ?_; simp [resD, oneOrTup, pureD, Try.results63])
  rw [t5, t4]
  refine ⟨t6 _ (by omega) (by omega), ?_⟩
  generalize h * 18446744073709551616 + x = z at *
  omega
end Go.Proofs.Ytmoohdpnmkkgpaa.Vm
namespace Go.Pm
/-- a * b / c, rounded down, if that is not too great. -/
def over (x y c : Int) : Int := if 1099511627776 < (x.natAbs * y.natAbs : Int) / c then 1099511627777 else x * y / c
theorem abs_mul (x y : Int) : x * y = if (x < 0 ↔ y < 0) then (x.natAbs * y.natAbs : Int) else -(x.natAbs * y.natAbs : Int) := by
  rcases Int.lt_or_le x 0 with hx | hx <;> rcases Int.lt_or_le y 0 with hy | hy
  · have e1 : (x.natAbs : Int) = -x := by omega
    have e2 : (y.natAbs : Int) = -y := by omega
    simp [hx, hy, e1, e2, Int.neg_mul_neg]
  · have e1 : (x.natAbs : Int) = -x := by omega
    have e2 : (y.natAbs : Int) = y := by omega
    simp [hx, Int.not_lt.2 hy, e1, e2, Int.neg_mul]
  · have e1 : (x.natAbs : Int) = x := by omega
    have e2 : (y.natAbs : Int) = -y := by omega
    simp [hy, Int.not_lt.2 hx, e1, e2, Int.mul_neg]
  · have e1 : (x.natAbs : Int) = x := by omega
    have e2 : (y.natAbs : Int) = y := by omega
    simp [Int.not_lt.2 hx, Int.not_lt.2 hy, e1, e2]
end Go.Pm
namespace Go.Proofs.Ytmoohdpnmkkgpaa.Vm
open Go Go.VL
attribute [local simp] hcons hstep evPure opd uOf putOK St.put St.at getK binD binI binS binB nilD aggD eqUs cmpK lookD lookR rangeD Go.VL.nextD entryD keyD valU keyU lookK mkV entD_nil lookK_entD updK_entD1 updK_entD3 allUE allUE_entD makeMapD mapUpdD mapEff updK valM Key.kk shiftI arith unD convD pickD loadD cellsAt fieldAddrD fieldD indexAddrD indexD sliceD cutD lenD minmaxD nilCheckD buildD fillD cellsD isOne ones setAll mkAgg allU allocD boxD storeD St.add buildSliceD appendD rowsOf makeD setOb getK_setOb getK_del getK_cons stripL strip guardTmp entry chunks zcells valD argsV argsW argW argU1 argU0 argsU0 argsU1 calleeOf scalarD scalarU delAll effD St.effS RK_seq RK_seq_ret RK_seq_exit RK_blk RK_blk_ret RK_blk_exit RK_loop RK_loop_ret RK_loop_exit RK_done vs_seq vs_block vs_cond vs_region vs_loop vs_draw applyW mkD rdIds lentIds callOf calleeOf freeOp D.ids Op.operands Call.operands isEffOp makeIfD typeAssertD conc concs conc1 uOfV panicD IntKind.bits allU2 List.take_of_length_le List.range_succ
attribute [local irreducible] V G H HD HD2 RunK Eff CallP CallV EndOK Fun Ret FinOK LoopI LoopW EndW
theorem mul64_fun' (x y m : Int) (hx : 0 ≤ x) (hx' : x ≤ 1099511627776) (hy : 0 ≤ y) (hy' : y ≤ 1099511627776) (hm : x * y = m) : Fun Try.prog 62 [.u (.int .u64 x), .u (.int .u64 y)]
    (· = .tup [.u (.int .u64 (m / 18446744073709551616)), .u (.int .u64 (m % 18446744073709551616))]) := by
  subst hm
  exact mul64_fun x y hx hx' hy hy'
theorem div64_fun (m c : Int) (hm : 0 ≤ m) (hm' : m ≤ 1208925819614629174706176) (hc : c = 1 ∨ c = 1000) (hh : m / 18446744073709551616 < c) :
    Fun Try.prog 63 [.u (.int .u64 (m / 18446744073709551616)), .u (.int .u64 (m % 18446744073709551616)), .u (.int .u64 c)]
      (· = .tup [.u (.int .u64 (m / c)), .u (.int .u64 (m % c))]) := by
  by_cases h0 : m / 18446744073709551616 = 0
  · rw [h0]
    have e : m % 18446744073709551616 = m := by omega
    rw [e]
    exact div64_zero m c hm (by omega) (by omega) (by omega)
  · obtain rfl : c = 1000 := by omega
    have h := div64_1000 (m / 18446744073709551616) (m % 18446744073709551616) (by omega) (by omega) (by omega) (by omega)
    have e : m / 18446744073709551616 * 18446744073709551616 + m % 18446744073709551616 = m := by omega
    rw [e] at h
    exact h
theorem over_fun (x y c : Int) (hx : -1099511627776 ≤ x ∧ x ≤ 1099511627776) (hy : -1099511627776 ≤ y ∧ y ≤ 1099511627776) (hcc : c = 1 ∨ c = 1000) :
    Fun Try.prog 53 [.u (.int .i64 x), .u (.int .i64 y), .u (.int .i64 c)] (· = .u (.int .i64 (Pm.over x y c))) := by
  obtain ⟨m, hm⟩ : ∃ m : Int, m = (x.natAbs : Int) * (y.natAbs : Int) := ⟨_, rfl⟩
  have hm0 : 0 ≤ m := by rw [hm]; exact Int.mul_nonneg (by omega) (by omega)
  have hm1 : m ≤ 1208925819614629174706176 := by
    rw [hm]
    have := Int.mul_le_mul (a := (x.natAbs : Int)) (b := (y.natAbs : Int)) (c := 1099511627776) (d := 1099511627776) (by omega) (by omega) (by omega) (by omega)
    exact this
  have e1 : max x (-x) % 18446744073709551616 = (x.natAbs : Int) := by omega
  have e2 : max y (-y) % 18446744073709551616 = (y.natAbs : Int) := by omega
  have e3 : c % 18446744073709551616 = c := by omega
  have hq0 : 0 ≤ m / c ∧ m / c ≤ 1208925819614629174706176 := by rcases hcc with rfl | rfl <;> omega
  have hr0 : 0 ≤ m % c ∧ m % c < 1000 := by rcases hcc with rfl | rfl <;> omega
  have hov : Pm.over x y c = if 1099511627776 < m / c then 1099511627777 else if (x < 0 ↔ y < 0) then m / c else -m / c := by
    rw [Pm.over, ← hm]
    split
    · rfl
    · rw [Pm.abs_mul x y, ← hm]
      split <;> rfl
  (refine Fun.of_body Try.func53 rfl (by simp) fun Γ hn => ?_); simp only [entry, List.zipIdx_cons, List.zipIdx_nil, List.map_cons, List.map_nil, Nat.zero_add, Try.ntmps53]
  repeat' (first
    | (refine H_cons ?_; simp [e1, e2, e3])
    | (refine H_nil ?_; simp [e1, e2, e3])
    | (refine ⟨by omega, ?_⟩)
    | (refine V_sseq ?_; simp [e1, e2, e3])
    | fail)
  (first | (refine CallV.fun_ (mul64_fun' (x.natAbs : Int) (y.natAbs : Int) m (by omega) (by omega) (by omega) (by omega) hm.symm) (by first | rfl | fail) (by first | assumption | (simp; done) | fail) (by first | (simp; done) | (simp; rfl) | fail) (by first | (simp; done) | fail) ?_ <;> (try simp)) | (refine CallP.fun_ (mul64_fun' (x.natAbs : Int) (y.natAbs : Int) m (by omega) (by omega) (by omega) (by omega) hm.symm) (by first | rfl | fail) (by first | assumption | (simp; done) | fail) (by first | (simp; done) | (simp; rfl) | fail) (by first | (simp; done) | fail) (fun d hd => ?_); subst hd; (try simp)))
  repeat' (first
    | (refine H_cons ?_; simp [e1, e2, e3])
    | (refine H_nil ?_; simp [e1, e2, e3])
    | (refine V_sseq ?_; simp [e1, e2, e3])
    | (refine V_scond ?_; simp [e1, e2, e3])
    | (refine V_ret ?_; simp only [RunK])
    | (refine V_skip ?_; simp only [RunK])
    | (refine ⟨fun hc => ?_, fun hc => ?_⟩ <;> (try (exfalso; omega)))
    | fail)
  · (refine EndOK.val (.inr rfl) ?_; simp [resD, oneOrTup, pureD, Try.results53])
    rw [hov]
    rcases hcc with rfl | rfl <;> split <;> omega
  (first | (refine CallV.fun_ (div64_fun m c hm0 hm1 hcc (by omega)) (by first | rfl | fail) (by first | assumption | (simp; done) | fail) (by first | (simp; done) | (simp; rfl) | fail) (by first | (simp; done) | fail) ?_ <;> (try simp)) | (refine CallP.fun_ (div64_fun m c hm0 hm1 hcc (by omega)) (by first | rfl | fail) (by first | assumption | (simp; done) | fail) (by first | (simp; done) | (simp; rfl) | fail) (by first | (simp; done) | fail) (fun d hd => ?_); subst hd; (try simp)))
  repeat' (first
    | (refine H_cons ?_; simp [e1, e2, e3])
    | (refine H_nil ?_; simp [e1, e2, e3])
    | (refine ⟨by omega, ?_⟩)
    | (refine V_sseq ?_; simp [e1, e2, e3])
    | (refine V_scond ?_; simp [e1, e2, e3])
    | (refine V_sregion ?_; simp [e1, e2, e3])
    | (refine V_ret ?_; simp only [RunK])
    | (refine V_skip ?_; simp only [RunK])
    | (refine ⟨fun hc => ?_, fun hc => ?_⟩ <;> (try (exfalso; omega)))
    | fail)
  all_goals
    (refine EndOK.val (.inr rfl) ?_; simp [resD, oneOrTup, pureD, Try.results53])
    rw [hov]
    rcases hcc with rfl | rfl
  all_goals try omega
  all_goals
    rw [if_neg (by omega)]
    split <;> omega
end Go.Proofs.Ytmoohdpnmkkgpaa.Vm
namespace Go.Pm
def truth (b : Bool) : Int := if b then 1 else 0
/-- What an instruction of two values computes. -/
def two (op a b : Int) : Int :=
  if op = 2 then a + b else if op = 3 then a - b else if op = 4 then over a b 1 else if op = 6 then over a b 1000 else if op = 5 then a.fdiv b
  else if op = 7 then min a b else if op = 8 then max a b else if op = 9 then truth (decide (a < b)) else truth (decide (a = b))
end Go.Pm
namespace Go.Proofs.Ytmoohdpnmkkgpaa.Vm
open Go Go.VL
attribute [local simp] hcons hstep evPure opd uOf putOK St.put St.at getK binD binI binS binB nilD aggD eqUs cmpK lookD lookR rangeD Go.VL.nextD entryD keyD valU keyU lookK mkV entD_nil lookK_entD updK_entD1 updK_entD3 allUE allUE_entD makeMapD mapUpdD mapEff updK valM Key.kk shiftI arith unD convD pickD loadD cellsAt fieldAddrD fieldD indexAddrD indexD sliceD cutD lenD minmaxD nilCheckD buildD fillD cellsD isOne ones setAll mkAgg allU allocD boxD storeD St.add buildSliceD appendD rowsOf makeD setOb getK_setOb getK_del getK_cons stripL strip guardTmp entry chunks zcells valD argsV argsW argW argU1 argU0 argsU0 argsU1 calleeOf scalarD scalarU delAll effD St.effS RK_seq RK_seq_ret RK_seq_exit RK_blk RK_blk_ret RK_blk_exit RK_loop RK_loop_ret RK_loop_exit RK_done vs_seq vs_block vs_cond vs_region vs_loop vs_draw applyW mkD rdIds lentIds callOf calleeOf freeOp D.ids Op.operands Call.operands isEffOp makeIfD typeAssertD conc concs conc1 uOfV panicD IntKind.bits allU2 List.take_of_length_le List.range_succ
attribute [local irreducible] V G H HD HD2 RunK Eff CallP CallV EndOK Fun Ret FinOK LoopI LoopW EndW
theorem two_fun (op x y : Int) (hx : -1099511627776 ≤ x ∧ x ≤ 1099511627776) (hy : -1099511627776 ≤ y ∧ y ≤ 1099511627776) (hd : op = 5 → y ≠ 0) :
    Fun Try.prog 40 [.u (.int .i64 op), .u (.int .i64 x), .u (.int .i64 y)] (· = .u (.int .i64 (Pm.two op x y))) := by
  (refine Fun.of_body Try.func40 rfl (by simp) fun Γ hn => ?_); simp only [entry, List.zipIdx_cons, List.zipIdx_nil, List.map_cons, List.map_nil, Nat.zero_add, Try.ntmps40]
  repeat' (first
    | (refine H_cons ?_; simp)
    | (refine H_nil ?_; simp)
    | (refine ⟨by omega, ?_⟩)
    | (refine V_sseq ?_; simp)
    | (refine V_scond ?_; simp)
    | (refine V_sblock ?_; simp)
    | (refine V_ret ?_; simp only [RunK])
    | (refine V_skip ?_; simp only [RunK])
    | (refine ⟨fun hc => ?_, fun hc => ?_⟩ <;> (try (exfalso; omega)))
    | (refine CallP.fun_ (over_fun x y 1 hx hy (.inl rfl)) (by first | rfl | fail) (by first | assumption | (simp; done) | fail) (by first | (simp; done) | (simp; rfl) | fail) (by first | (simp; done) | fail) (fun d hd => ?_); subst hd; (try simp))
    | (refine CallP.fun_ (over_fun x y 1000 hx hy (.inr rfl)) (by first | rfl | fail) (by first | assumption | (simp; done) | fail) (by first | (simp; done) | (simp; rfl) | fail) (by first | (simp; done) | fail) (fun d hd => ?_); subst hd; (try simp))
    | (refine CallP.fun_ (floor_fun x y (hd (by omega)) hx.1 hx.2) (by first | rfl | fail) (by first | assumption | (simp; done) | fail) (by first | (simp; done) | (simp; rfl) | fail) (by first | (simp; done) | fail) (fun d hd => ?_); subst hd; (try simp))
    | (refine CallP.fun_ (truth_fun (decide (x < y))) (by first | rfl | fail) (by first | assumption | (simp; done) | fail) (by first | (simp; done) | (simp; rfl) | fail) (by first | (simp; done) | fail) (fun d hd => ?_); subst hd; (try simp))
    | (refine CallP.fun_ (truth_fun (decide (x = y))) (by first | rfl | fail) (by first | assumption | (simp; done) | fail) (by first | (simp; done) | (simp; rfl) | fail) (by first | (simp; done) | fail) (fun d hd => ?_); subst hd; (try simp))
    | fail)
  all_goals
    (refine EndOK.val (.inr rfl) ?_; simp [resD, oneOrTup, pureD, Try.results40])
  all_goals simp [Pm.two, Pm.truth, *]
end Go.Proofs.Ytmoohdpnmkkgpaa.Vm
namespace Go.Pm
def idx {α : Type} (p : α → Bool) (l : List α) : Int := match l.findIdx? p with | some i => i | none => -1
theorem idx_at {α : Type} {p : α → Bool} {l : List α} {i : Nat} {x : α} (hi : l[i]? = some x) (hp : p x = true) (hb : ∀ j y, j < i → l[j]? = some y → p y = false) : idx p l = i := by
  have : l.findIdx? p = some i := by
    rw [List.findIdx?_eq_some_iff_getElem]
    obtain ⟨h, rfl⟩ := List.getElem?_eq_some_iff.1 hi
    exact ⟨h, hp, fun j hj => by have := hb j l[j] hj (List.getElem?_eq_getElem _); simp [this]⟩
  simp [idx, this]
theorem idx_none {α : Type} {p : α → Bool} {l : List α} (h : ∀ x ∈ l, p x = false) : idx p l = -1 := by
  have : l.findIdx? p = none := by rw [List.findIdx?_eq_none_iff]; exact h
  simp [idx, this]
theorem idx_any {α : Type} (p : α → Bool) (l : List α) : decide (0 ≤ idx p l) = l.any p := by
  unfold idx
  cases h : l.findIdx? p with
  | none => rw [List.findIdx?_eq_none_iff] at h; simp; exact h
  | some i =>
    rw [List.findIdx?_eq_some_iff_getElem] at h
    obtain ⟨hi, hp, _⟩ := h
    simp
    exact ⟨l[i], List.getElem_mem _, hp⟩
end Go.Pm
namespace Go.Proofs.Ytmoohdpnmkkgpaa.Vm
open Go Go.VL
attribute [local simp] hcons hstep evPure opd uOf putOK St.put St.at getK binD binI binS binB nilD aggD eqUs cmpK lookD lookR rangeD Go.VL.nextD entryD keyD valU keyU lookK mkV entD_nil lookK_entD updK_entD1 updK_entD3 allUE allUE_entD makeMapD mapUpdD mapEff updK valM Key.kk shiftI arith unD convD pickD loadD cellsAt fieldAddrD fieldD indexAddrD indexD sliceD cutD lenD minmaxD nilCheckD buildD fillD cellsD isOne ones setAll mkAgg allU allocD boxD storeD St.add buildSliceD appendD rowsOf makeD setOb getK_setOb getK_del getK_cons stripL strip guardTmp entry chunks zcells valD argsV argsW argW argU1 argU0 argsU0 argsU1 calleeOf scalarD scalarU delAll effD St.effS RK_seq RK_seq_ret RK_seq_exit RK_blk RK_blk_ret RK_blk_exit RK_loop RK_loop_ret RK_loop_exit RK_done vs_seq vs_block vs_cond vs_region vs_loop vs_draw applyW mkD rdIds lentIds callOf calleeOf freeOp D.ids Op.operands Call.operands isEffOp makeIfD typeAssertD conc concs conc1 uOfV panicD IntKind.bits allU2 List.take_of_length_le List.range_succ
attribute [local irreducible] V G H HD HD2 RunK Eff CallP CallV EndOK Fun Ret FinOK LoopI LoopW EndW
def ints (l : List Int) : U := .sl (l.map fun n => [.int .i64 n])
theorem indexInt_fun (l : List Int) (f : FuncId) (caps : List U) (p : Int → Bool) (hf : ∀ n ∈ l, Fun Try.prog f (.u (.int .i64 n) :: caps.map .u) (· = .u (.bool (p n)))) (hcl : callable Try.prog f = true)
    (hca : ∀ o, argsW o (caps.map .u) = some (caps.map .u, [])) : Fun Try.prog 52 [.u (ints l), .fnc (.func f) (caps.map .u)] (· = .u (.int .i64 (Pm.idx p l))) := by
  (refine Fun.of_body Try.func52 rfl (by simp) fun Γ hn => ?_); simp only [entry, List.zipIdx_cons, List.zipIdx_nil, List.map_cons, List.map_nil, Nat.zero_add, Try.ntmps52]
  simp only [ints]
  refine V_len (x := 0) rfl fun hl => ?_
  simp at hl
  repeat' (first
    | (refine H_cons ?_; simp)
    | (refine H_nil ?_; simp)
    | (refine V_sseq ?_; simp)
    | (refine V_sblock ?_; simp)
    | fail)
  refine V_loop (α := { i : Nat // i ≤ l.length ∧ ∀ j y, j < i → l[j]? = some y → p y = false })
    (fun i => { n := 19, env := [(0, .u (.sl (l.map fun n => [.int .i64 n]))), (1, .fnc (.func f) (caps.map .u)), (7, .u (.int .i64 l.length)), (8, .u (.int .i64 i.1))], obs := [], next := 0 })
    (fun i => l.length - i.1) ⟨0, by omega, by omega⟩ (fun i => i) ?_ ?_
  · (refine St.le_of rfl ?_ ?_ ?_ ?_ <;> simp [leEnv, leObs, leL, D.le, D.ren, D.under, hn])
  rintro ⟨i, hi, hb⟩
  rcases hx : l[i]? with _ | n
  · have hge : l.length ≤ i := by simpa using hx
    repeat' (first
    | (refine H_cons ?_; simp [hx])
    | (refine H_nil ?_; simp [hx])
    | (refine ⟨by omega, ?_⟩)
    | (refine V_sseq ?_; simp [hx])
    | (refine V_ret ?_; simp only [RunK])
    | (refine V_exit ?_; simp [RunK])
    | (intro hc <;> (try (exfalso; omega)))
    | fail)
    (refine EndOK.val (.inr rfl) ?_; simp [resD, oneOrTup, pureD, Try.results52])
    refine (Pm.idx_none fun x hm => ?_).symm
    obtain ⟨j, hj⟩ := List.getElem?_of_mem hm
    exact hb j x (by have := (List.getElem?_eq_some_iff.1 hj).1; omega) hj
  · have hlt : i < l.length := (List.getElem?_eq_some_iff.1 hx).1
    have h1 := hf n (List.mem_of_getElem? hx)
    repeat' (first
    | (refine H_cons ?_; simp [hx, hca])
    | (refine H_nil ?_; simp [hx, hca])
    | (refine ⟨by omega, ?_⟩)
    | (refine V_sseq ?_; simp [hx, hca])
    | (refine V_scond ?_; simp [hx, hca])
    | (refine V_sregion ?_; simp [hx, hca])
    | (refine V_ret ?_; simp only [RunK])
    | (refine V_skip ?_; simp only [RunK])
    | (refine ⟨?_, by omega⟩)
    | (refine ⟨fun hc => ?_, fun hc => ?_⟩ <;> (try (exfalso; omega)))
    | (intro hc <;> (try (exfalso; omega)))
    | (refine CallP.fun_ (h1) (by first | rfl | fail) (by first | assumption | (simp; done) | fail) (by first | (simp [hx, hca]; done) | (simp [hx, hca]; rfl) | fail) (by first | (simp; done) | fail) (fun d hd => ?_); subst hd; (try simp [hx, hca]))
    | fail)
    · (refine EndOK.val (.inr rfl) ?_; simp [resD, oneOrTup, pureD, Try.results52])
      exact (Pm.idx_at hx (by assumption) hb).symm
    · have hb' : ∀ j y, j < i + 1 → l[j]? = some y → p y = false := fun j y hj hy => by
        by_cases hji : j = i
        · subst hji; rw [hx] at hy; cases hy; assumption
        · exact hb j y (by omega) hy
      refine LoopI.next ?y (fun i => i) ?h1 ?h2
      case y => exact ⟨i + 1, by omega, hb'⟩
      case h1 => simp; omega
      case h2 => (refine St.le_of rfl ?_ ?_ ?_ ?_ <;> simp [leEnv, leObs, leL, D.le, D.ren, D.under, hn])
end Go.Proofs.Ytmoohdpnmkkgpaa.Vm
namespace Go.Proofs.Ytmoohdpnmkkgpaa.Vm
open Go Go.VL
attribute [local simp] hcons hstep evPure opd uOf putOK St.put St.at getK binD binI binS binB nilD aggD eqUs cmpK lookD lookR rangeD Go.VL.nextD entryD keyD valU keyU lookK mkV entD_nil lookK_entD updK_entD1 updK_entD3 allUE allUE_entD makeMapD mapUpdD mapEff updK valM Key.kk shiftI arith unD convD pickD loadD cellsAt fieldAddrD fieldD indexAddrD indexD sliceD cutD lenD minmaxD nilCheckD buildD fillD cellsD isOne ones setAll mkAgg allU allocD boxD storeD St.add buildSliceD appendD rowsOf makeD setOb getK_setOb getK_del getK_cons stripL strip guardTmp entry chunks zcells valD argsV argsW argW argU1 argU0 argsU0 argsU1 calleeOf scalarD scalarU delAll effD St.effS RK_seq RK_seq_ret RK_seq_exit RK_blk RK_blk_ret RK_blk_exit RK_loop RK_loop_ret RK_loop_exit RK_done vs_seq vs_block vs_cond vs_region vs_loop vs_draw applyW mkD rdIds lentIds callOf calleeOf freeOp D.ids Op.operands Call.operands isEffOp makeIfD typeAssertD conc concs conc1 uOfV panicD IntKind.bits allU2 List.take_of_length_le List.range_succ
attribute [local irreducible] V G H HD HD2 RunK Eff CallP CallV EndOK Fun Ret FinOK LoopI LoopW EndW
structure Var where
  name : List UInt8
  unit : Int
  n : Int
  deriving DecidableEq
structure Ins where
  op : Int
  a : Int
  s : List UInt8
  deriving DecidableEq
def Var.row (v : Var) : List U := [.str v.name, .int .i64 v.unit, .int .i64 v.n]
def Ins.row (c : Ins) : List U := [.int .i64 c.op, .int .i64 c.a, .str c.s]
def vars (l : List Var) : U := .sl (l.map fun v => [.str v.name, .int .i64 v.unit, .int .i64 v.n])
def inss (l : List Ins) : U := .sl (l.map fun c => [.int .i64 c.op, .int .i64 c.a, .str c.s])
def vagg (v : Var) : D := .u (.agg v.row)
theorem indexVar_fun (l : List Var) (f : FuncId) (caps : List U) (p : Var → Bool) (hf : ∀ n ∈ l, Fun Try.prog f (vagg n :: caps.map .u) (· = .u (.bool (p n)))) (hcl : callable Try.prog f = true)
    (hca : ∀ o, argsW o (caps.map .u) = some (caps.map .u, [])) : Fun Try.prog 36 [.u (vars l), .fnc (.func f) (caps.map .u)] (· = .u (.int .i64 (Pm.idx p l))) := by
  (refine Fun.of_body Try.func36 rfl (by simp) fun Γ hn => ?_); simp only [entry, List.zipIdx_cons, List.zipIdx_nil, List.map_cons, List.map_nil, Nat.zero_add, Try.ntmps36]
  simp only [vars]
  refine V_len (x := 0) rfl fun hl => ?_
  simp at hl
  repeat' (first
    | (refine H_cons ?_; simp)
    | (refine H_nil ?_; simp)
    | (refine V_sseq ?_; simp)
    | (refine V_sblock ?_; simp)
    | fail)
  refine V_loop (α := { i : Nat // i ≤ l.length ∧ ∀ j y, j < i → l[j]? = some y → p y = false })
    (fun i => { n := 19, env := [(0, .u (.sl (l.map fun n => [.str n.name, .int .i64 n.unit, .int .i64 n.n]))), (1, .fnc (.func f) (caps.map .u)), (7, .u (.int .i64 l.length)), (8, .u (.int .i64 i.1))], obs := [], next := 0 })
    (fun i => l.length - i.1) ⟨0, by omega, by omega⟩ (fun i => i) ?_ ?_
  · (refine St.le_of rfl ?_ ?_ ?_ ?_ <;> simp [leEnv, leObs, leL, D.le, D.ren, D.under, hn])
  rintro ⟨i, hi, hb⟩
  rcases hx : l[i]? with _ | n
  · have hge : l.length ≤ i := by simpa using hx
    repeat' (first
    | (refine H_cons ?_; simp [hx])
    | (refine H_nil ?_; simp [hx])
    | (refine ⟨by omega, ?_⟩)
    | (refine V_sseq ?_; simp [hx])
    | (refine V_ret ?_; simp only [RunK])
    | (refine V_exit ?_; simp [RunK])
    | (intro hc <;> (try (exfalso; omega)))
    | fail)
    (refine EndOK.val (.inr rfl) ?_; simp [resD, oneOrTup, pureD, Try.results36])
    refine (Pm.idx_none fun x hm => ?_).symm
    obtain ⟨j, hj⟩ := List.getElem?_of_mem hm
    exact hb j x (by have := (List.getElem?_eq_some_iff.1 hj).1; omega) hj
  · have hlt : i < l.length := (List.getElem?_eq_some_iff.1 hx).1
    have h1 := hf n (List.mem_of_getElem? hx)
    simp only [vagg, Var.row] at h1
    repeat' (first
    | (refine H_cons ?_; simp [hx, hca])
    | (refine H_nil ?_; simp [hx, hca])
    | (refine ⟨by omega, ?_⟩)
    | (refine V_sseq ?_; simp [hx, hca])
    | (refine V_scond ?_; simp [hx, hca])
    | (refine V_sregion ?_; simp [hx, hca])
    | (refine V_ret ?_; simp only [RunK])
    | (refine V_skip ?_; simp only [RunK])
    | (refine ⟨?_, by omega⟩)
    | (refine ⟨fun hc => ?_, fun hc => ?_⟩ <;> (try (exfalso; omega)))
    | (intro hc <;> (try (exfalso; omega)))
    | (refine CallP.fun_ (h1) (by first | rfl | fail) (by first | assumption | (simp; done) | fail) (by first | (simp [hx, hca]; done) | (simp [hx, hca]; rfl) | fail) (by first | (simp; done) | fail) (fun d hd => ?_); subst hd; (try simp [hx, hca]))
    | fail)
    · (refine EndOK.val (.inr rfl) ?_; simp [resD, oneOrTup, pureD, Try.results36])
      exact (Pm.idx_at hx (by assumption) hb).symm
    · have hb' : ∀ j y, j < i + 1 → l[j]? = some y → p y = false := fun j y hj hy => by
        by_cases hji : j = i
        · subst hji; rw [hx] at hy; cases hy; assumption
        · exact hb j y (by omega) hy
      refine LoopI.next ?y (fun i => i) ?h1 ?h2
      case y => exact ⟨i + 1, by omega, hb'⟩
      case h1 => simp; omega
      case h2 => (refine St.le_of rfl ?_ ?_ ?_ ?_ <;> simp [leEnv, leObs, leL, D.le, D.ren, D.under, hn])
theorem step1_fun (n : Int) : Fun Try.prog 33 [.u (.int .i64 n)] (· = .u (.bool (!decide (-1099511627776 ≤ n ∧ n ≤ 1099511627776)))) := by
  (refine Fun.of_body Try.func33 rfl (by simp) fun Γ hn => ?_); simp only [entry, List.zipIdx_cons, List.zipIdx_nil, List.map_cons, List.map_nil, Nat.zero_add, Try.ntmps33]
  repeat' (first
    | (refine H_cons ?_; simp)
    | (refine H_nil ?_; simp)
    | (refine V_sseq ?_; simp)
    | (refine V_ret ?_; simp only [RunK])
    | (refine CallP.fun_ (within_fun n) (by first | rfl | fail) (by first | assumption | (simp; done) | fail) (by first | (simp; done) | (simp; rfl) | fail) (by first | (simp; done) | fail) (fun d hd => ?_); subst hd; (try simp))
    | fail)
  (refine EndOK.val (.inr rfl) ?_; simp [resD, oneOrTup, pureD, Try.results33])
theorem step2_fun (v : Var) (c : Ins) : Fun Try.prog 37 [vagg v, .u (.row c.row 0)] (· = .u (.bool (decide (v.name = c.s)))) := by
  (refine Fun.of_body Try.func37 rfl (by simp) fun Γ hn => ?_); simp only [entry, List.zipIdx_cons, List.zipIdx_nil, List.map_cons, List.map_nil, Nat.zero_add, Try.ntmps37]
  simp only [vagg, Var.row, Ins.row]
  repeat' (first
    | (refine H_cons ?_; simp)
    | (refine H_nil ?_; simp)
    | (refine V_sseq ?_; simp)
    | (refine V_ret ?_; simp only [RunK])
    | fail)
  (refine EndOK.val (.inr rfl) ?_; simp [resD, oneOrTup, pureD, Try.results37])
theorem contains_fun (l : List Int) : Fun Try.prog 32 [.u (ints l), .fnc (.func 33) []] (· = .u (.bool (l.any fun n => !decide (-1099511627776 ≤ n ∧ n ≤ 1099511627776)))) := by
  (refine Fun.of_body Try.func32 rfl (by simp) fun Γ hn => ?_); simp only [entry, List.zipIdx_cons, List.zipIdx_nil, List.map_cons, List.map_nil, Nat.zero_add, Try.ntmps32]
  simp only [ints]
  have h1 := indexInt_fun l 33 [] _ (fun n _ => step1_fun n) (by simp) (fun _ => rfl)
  simp only [ints, List.map_nil] at h1
  repeat' (first
    | (refine H_cons ?_; simp)
    | (refine H_nil ?_; simp)
    | (refine V_sseq ?_; simp)
    | (refine V_ret ?_; simp only [RunK])
    | (refine CallP.fun_ (h1) (by first | rfl | fail) (by first | assumption | (simp; done) | fail) (by first | (simp; done) | (simp; rfl) | fail) (by first | (simp; done) | fail) (fun d hd => ?_); subst hd; (try simp))
    | fail)
  (refine EndOK.val (.inr rfl) ?_; simp [resD, oneOrTup, pureD, Try.results32])
  rw [← Pm.idx_any]

def stk (l : List Int) : List (List D) := l.map fun n => [.u (.int .i64 n)]
theorem stk_u (l : List Int) : uRows (stk l) := uRows_map l fun n => [.int .i64 n]
@[simp] theorem stk_length (l : List Int) : (stk l).length = l.length := by simp [stk]
@[simp] theorem stk_get (l : List Int) (j : Nat) : (stk l)[j]? = (l[j]?).map fun n => [.u (.int .i64 n)] := by simp [stk]
/-- The machine's variable. -/
def mbox (pc : Int) (sd : D) (en : Bool) (va er : Int) : Ob := .box [.u (.int .i64 pc), sd, .u (.bool en), .u (.int .i64 va), .u (.int .i64 er)]
theorem pop_ret (o : List (Nat × Ob)) (nx : Nat) (pc : Int) (n : Nat) (x : Int) (en : Bool) (va er : Int) (i : Nat) (r : List Int) (hi : i ≠ 0) (h0 : getK o 0 = some (mbox pc (.vec i (n + 1)) en va er)) (h1 : getK o i = some (.vec 3 1 (stk r))) (hx : r[n]? = some x) :
    Ret Try.prog 38 [.ptr 0 0] o nx (fun d o' n' => d = .u (.int .i64 x) ∧ o' = setOb o 0 (mbox pc (.vec i n) en va er) ∧ n' = nx) := by
  have hl := (List.getElem?_eq_some_iff.1 hx).1
  (refine Ret.of_body Try.func38 rfl (by simp) fun Γ hn => ?_); simp only [entry, List.zipIdx_cons, List.zipIdx_nil, List.map_cons, List.map_nil, Nat.zero_add, Try.ntmps38]
  simp only [mbox] at h0 ⊢
  refine V_vlen (i := i) (e := 3) (sz := 1) (rows := stk r) h1 fun hl2 => ?_
  simp at hl2
  repeat' (first
    | (refine H_cons ?_; simp [h0, h1, hi, hx])
    | (refine HD2_val rfl ?_; simp [h0, h1, hi, hx])
    | (refine HD_cons ?_; simp [h0, h1, hi, hx])
    | (refine HD2_chg rfl ?_; simp [h0, h1, hi, hx])
    | (refine H_nil ?_; simp [h0, h1, hi, hx])
    | (refine ⟨by omega, ?_⟩)
    | (refine V_sseq ?_; simp [h0, h1, hi, hx])
    | (refine HD2_nil (hC _ (by kernel_rfl)) (hk _ ?_); clear hC hk C k; simp only [RunK])
    | (refine HD_nil ?_)
    | (refine hk _ ?_; clear hk k; simp only [RunK])
    | (refine V_drawV rfl (by kernel_rfl) (by kernel_rfl) fun k hk => ?_; simp [h0, h1, hi, hx])
    | (refine V_drawE rfl (by kernel_rfl) (by kernel_rfl) (by simp [hn]) fun C k hC hk => ?_; simp [h0, h1, hi, hx])
    | (refine V_ret ?_; simp only [RunK])
    | (refine ⟨?_, by omega⟩)
    | fail)
  (first | (refine EndOK.fin (.inr rfl) ?_) | (refine EndOK.fin (.inl rfl) ?_)); simp [resD, oneOrTup, Try.results38]
  refine FinOK.here ?_ ?_ <;> simp
theorem end_ret (o : List (Nat × Ob)) (nx : Nat) (pc : Int) (sd : D) (en : Bool) (va er va' er' : Int) (h0 : getK o 0 = some (mbox pc sd en va er)) :
    Ret Try.prog 30 [.ptr 0 0, .u (.int .i64 va'), .u (.int .i64 er')] o nx (fun _ o' n' => getK o' 0 = some (mbox pc (.u .nil) true va' er') ∧ n' = nx) := by
  (refine Ret.of_body Try.func30 rfl (by simp) fun Γ hn => ?_); simp only [entry, List.zipIdx_cons, List.zipIdx_nil, List.map_cons, List.map_nil, Nat.zero_add, Try.ntmps30]
  simp only [mbox] at h0 ⊢
  repeat' (first
    | (refine H_cons ?_; simp [h0])
    | (refine H_nil ?_; simp [h0])
    | (refine V_sregion ?_; simp [h0])
    | fail)
  (first | (refine EndOK.fin (.inr rfl) ?_) | (refine EndOK.fin (.inl rfl) ?_)); simp [resD, oneOrTup, Try.results30]
  refine FinOK.here ?_ ?_ <;> simp
/-- The machine and its stack lie here. -/
def MAt (pc : Int) (st : List Int) (en : Bool) (va er : Int) (o : List (Nat × Ob)) (nx : Nat) : Prop :=
  (st = [] ∧ getK o 0 = some (mbox pc (.u .nil) en va er)) ∨
  ∃ i r, i ≠ 0 ∧ i < nx ∧ r.take st.length = st ∧ getK o 0 = some (mbox pc (.vec i st.length) en va er) ∧ getK o i = some (.vec 3 1 (stk r))
theorem push_nil (o : List (Nat × Ob)) (nx : Nat) (pc : Int) (x : Int) (en : Bool) (va er : Int) (hnx : 0 < nx) (h0 : getK o 0 = some (mbox pc (.u .nil) en va er)) (hx : -1099511627776 ≤ x ∧ x ≤ 1099511627776) (hp : pc < 9223372036854775807 ∧ -9223372036854775808 ≤ pc) :
    Ret Try.prog 35 [.ptr 0 0, .u (.int .i64 x)] o nx (fun _ o' n' => MAt (pc + 1) [x] en va er o' n') := by
  have hn1 : 0 ≠ nx := by omega
  have hn2 : nx ≠ 0 := by omega
  (refine Ret.of_body Try.func35 rfl (by simp) fun Γ hn => ?_); simp only [entry, List.zipIdx_cons, List.zipIdx_nil, List.map_cons, List.map_nil, Nat.zero_add, Try.ntmps35]
  simp only [mbox] at h0 ⊢
  repeat' (first
    | (refine H_cons ?_; simp [h0, hx, hn1, hn2])
    | (refine H_nil ?_; simp [h0, hx, hn1, hn2])
    | (refine ⟨by omega, ?_⟩)
    | (refine V_sseq ?_; simp [h0, hx, hn1, hn2])
    | (refine V_scond ?_; simp [h0, hx, hn1, hn2])
    | (refine V_sregion ?_; simp [h0, hx, hn1, hn2])
    | (refine V_skip ?_; simp only [RunK])
    | (refine CallP.fun_ (within_fun x) (by first | rfl | fail) (by first | assumption | (simp; done) | fail) (by first | (simp [h0, hx, hn1, hn2]; done) | (simp [h0, hx, hn1, hn2]; rfl) | fail) (by first | (simp; done) | fail) (fun d hd => ?_); subst hd; (try simp [h0, hx, hn1, hn2]))
    | fail)
  (first | (refine EndOK.fin (.inr rfl) ?_) | (refine EndOK.fin (.inl rfl) ?_)); simp [resD, oneOrTup, Try.results35]
  refine FinOK.here (by simp; omega) (.inr ⟨nx + 1, [x], by omega, by simp, by simp, ?_, ?_⟩) <;> simp [mbox, stk, hn1, getK_cons]
theorem push_vec (o : List (Nat × Ob)) (nx : Nat) (pc : Int) (st : List Int) (x : Int) (en : Bool) (va er : Int) (i : Nat) (r : List Int) (hi : i ≠ 0) (hin : i < nx) (h0 : getK o 0 = some (mbox pc (.vec i st.length) en va er)) (h1 : getK o i = some (.vec 3 1 (stk r)))
    (hr : r.take st.length = st) (hl : st.length < 100000) (hx : -1099511627776 ≤ x ∧ x ≤ 1099511627776) (hp : pc < 9223372036854775807 ∧ -9223372036854775808 ≤ pc) :
    Ret Try.prog 35 [.ptr 0 0, .u (.int .i64 x)] o nx (fun _ o' n' => MAt (pc + 1) (st ++ [x]) en va er o' n') := by
  have hrl : st.length ≤ r.length := by
    have := congrArg List.length hr
    simp at this
    omega
  have hrs : (stk r).take st.length = stk st := by rw [stk, ← List.map_take, hr]; rfl
  have hi1 : 0 ≠ i := by omega
  have hin1 : nx ≠ i := by omega
  have hin' : i ≠ nx := by omega
  have hn1 : 0 ≠ nx := by omega
  have hn2 : nx ≠ 0 := by omega
  (refine Ret.of_body Try.func35 rfl (by simp) fun Γ hn => ?_); simp only [entry, List.zipIdx_cons, List.zipIdx_nil, List.map_cons, List.map_nil, Nat.zero_add, Try.ntmps35]
  simp only [mbox] at h0 ⊢
  repeat' (first
    | (refine H_cons ?_; simp [h0, h1, hx, hi, hi1, hin1, hin', hn1, hn2, hrs, hrl])
    | (refine H_nil ?_; simp [h0, h1, hx, hi, hi1, hin1, hin', hn1, hn2, hrs, hrl])
    | (refine ⟨by omega, ?_⟩)
    | (refine V_sseq ?_; simp [h0, h1, hx, hi, hi1, hin1, hin', hn1, hn2, hrs, hrl])
    | (refine V_scond ?_; simp [h0, h1, hx, hi, hi1, hin1, hin', hn1, hn2, hrs, hrl])
    | (refine V_sregion ?_; simp [h0, h1, hx, hi, hi1, hin1, hin', hn1, hn2, hrs, hrl])
    | (refine V_skip ?_; simp only [RunK])
    | (refine CallP.fun_ (within_fun x) (by first | rfl | fail) (by first | assumption | (simp; done) | fail) (by first | (simp [h0, h1, hx, hi, hi1, hin1, hin', hn1, hn2, hrs, hrl]; done) | (simp [h0, h1, hx, hi, hi1, hin1, hin', hn1, hn2, hrs, hrl]; rfl) | fail) (by first | (simp; done) | fail) (fun d hd => ?_); subst hd; (try simp [h0, h1, hx, hi, hi1, hin1, hin', hn1, hn2, hrs, hrl]))
    | fail)
  (first | (refine EndOK.fin (.inr rfl) ?_) | (refine EndOK.fin (.inl rfl) ?_)); simp [resD, oneOrTup, Try.results35]
  refine FinOK.here (by simp; omega) (.inr ⟨nx + 1, st ++ [x], by omega, by simp, List.take_of_length_le (Nat.le_refl _), ?_, ?_⟩) <;> simp [mbox, stk, hn1, getK_cons]
end Go.Proofs.Ytmoohdpnmkkgpaa.Vm
namespace Go.Proofs.Ytmoohdpnmkkgpaa.Vm
open Go Go.VL
structure Mach where
  pc : Int
  stack : List Int
  en : Bool
  va : Int
  er : Int
  deriving DecidableEq
def okv (n : Int) : Bool := decide (-1099511627776 ≤ n ∧ n ≤ 1099511627776)
def Mach.fin (m : Mach) (v e : Int) : Mach := { m with stack := [], en := true, va := v, er := e }
def Mach.push (m : Mach) (x : Int) : Mach := if okv x then { m with pc := m.pc + 1, stack := m.stack ++ [x] } else m.fin 0 3
def Mach.drop (m : Mach) (k : Nat) : Mach := { m with stack := m.stack.take (m.stack.length - k) }
def Mach.top (m : Mach) (k : Nat) : Int := m.stack.getD (m.stack.length - 1 - k) 0
def stepI (vs : List Var) (m : Mach) (c : Ins) : Mach :=
  if c.op = 0 then m.push c.a
  else if c.op = 1 then match vs.find? fun v => decide (v.name = c.s) with | none => m.fin 0 13 | some v => m.push v.n
  else if c.op = 12 then { m with pc := c.a }
  else if c.op = 13 then { m.drop 1 with pc := if m.top 0 = 0 then c.a else m.pc + 1 }
  else if c.op = 14 then m.fin (m.top 0) 0
  else if c.op = 11 then (m.drop 1).push (Pm.truth (decide (m.top 0 = 0)))
  else if c.op = 5 ∧ m.top 0 = 0 then m.fin 0 15
  else (m.drop 2).push (Pm.two c.op (m.top 1) (m.top 0))
def stepM (code : List Ins) (vs : List Var) (m : Mach) : Mach :=
  if m.pc < 0 then m.fin 0 2 else match code[m.pc.toNat]? with
  | none => m.fin 0 2
  | some c => if c.op < 0 ∨ 15 ≤ c.op ∨ (m.stack.length : Int) < needs c.op ∨ (m.stack.any fun n => !okv n) = true then m.fin 0 2 else stepI vs m c
theorem stepM_eq {code : List Ins} {vs : List Var} {m : Mach} {c : Ins} (h : 0 ≤ m.pc) (hc : code[m.pc.toNat]? = some c) :
    stepM code vs m = if c.op < 0 ∨ 15 ≤ c.op ∨ (m.stack.length : Int) < needs c.op ∨ (m.stack.any fun n => !okv n) = true then m.fin 0 2 else stepI vs m c := by
  unfold stepM
  rw [if_neg (by omega), hc]
theorem idx_find (vs : List Var) (p : Var → Bool) : (Pm.idx p vs = -1 ∧ vs.find? p = none) ∨ ∃ (j : Nat) (v : Var), Pm.idx p vs = j ∧ vs[j]? = some v ∧ vs.find? p = some v := by
  unfold Pm.idx
  cases h : vs.findIdx? p with
  | none =>
    refine .inl ⟨rfl, ?_⟩
    rw [List.findIdx?_eq_none_iff] at h
    rw [List.find?_eq_none]
    intro x hx
    simp [h x hx]
  | some j =>
    rw [List.findIdx?_eq_some_iff_getElem] at h
    obtain ⟨hj, hp, hb⟩ := h
    refine .inr ⟨j, vs[j], rfl, List.getElem?_eq_getElem hj, ?_⟩
    rw [List.find?_eq_some_iff_getElem]
    exact ⟨hp, j, hj, rfl, fun k hk => by simpa using hb k hk⟩
def MOb (m : Mach) (o : List (Nat × Ob)) (nx : Nat) : Prop := MAt m.pc m.stack m.en m.va m.er o nx
attribute [local simp] hcons hstep evPure opd uOf putOK St.put St.at getK binD binI binS binB nilD aggD eqUs cmpK lookD lookR rangeD Go.VL.nextD entryD keyD valU keyU lookK mkV entD_nil lookK_entD updK_entD1 updK_entD3 allUE allUE_entD makeMapD mapUpdD mapEff updK valM Key.kk shiftI arith unD convD pickD loadD cellsAt fieldAddrD fieldD indexAddrD indexD sliceD cutD lenD minmaxD nilCheckD buildD fillD cellsD isOne ones setAll mkAgg allU allocD boxD storeD St.add buildSliceD appendD rowsOf makeD setOb getK_setOb getK_del getK_cons stripL strip guardTmp entry chunks zcells valD argsV argsW argW argU1 argU0 argsU0 argsU1 calleeOf scalarD scalarU delAll effD St.effS RK_seq RK_seq_ret RK_seq_exit RK_blk RK_blk_ret RK_blk_exit RK_loop RK_loop_ret RK_loop_exit RK_done vs_seq vs_block vs_cond vs_region vs_loop vs_draw applyW mkD rdIds lentIds callOf calleeOf freeOp D.ids Op.operands Call.operands isEffOp makeIfD typeAssertD conc concs conc1 uOfV panicD IntKind.bits allU2 List.take_of_length_le List.range_succ
attribute [local irreducible] V G H HD HD2 RunK Eff CallP CallV EndOK Fun Ret FinOK LoopI LoopW EndW
theorem allU2_stk (l : List Int) : allU2 (stk l) = some (l.map fun n => [.int .i64 n]) := by
  have : stk l = (l.map fun n => [U.int .i64 n]).map (·.map D.u) := by simp [stk]
  rw [this, allU2_map]
theorem push_out (o : List (Nat × Ob)) (nx : Nat) (pc : Int) (sd : D) (en : Bool) (va er x : Int) (h0 : getK o 0 = some (mbox pc sd en va er)) (hx : okv x = false) :
    Ret Try.prog 35 [.ptr 0 0, .u (.int .i64 x)] o nx (fun _ o' n' => getK o' 0 = some (mbox pc (.u .nil) true 0 3) ∧ n' = nx) := by
  have hx' : (decide (-1099511627776 ≤ x ∧ x ≤ 1099511627776)) = false := hx
  have h1 := within_fun x
  rw [hx'] at h1
  (refine Ret.of_body Try.func35 rfl (by simp) fun Γ hn => ?_); simp only [entry, List.zipIdx_cons, List.zipIdx_nil, List.map_cons, List.map_nil, Nat.zero_add, Try.ntmps35]
  repeat' (first
    | (refine H_cons ?_; simp)
    | (refine H_nil ?_; simp)
    | (refine V_sseq ?_; simp)
    | (refine V_scond ?_; simp)
    | (refine V_ret ?_; simp only [RunK])
    | (refine CallP.fun_ (h1) (by first | rfl | fail) (by first | assumption | (simp; done) | fail) (by first | (simp; done) | (simp; rfl) | fail) (by first | (simp; done) | fail) (fun d hd => ?_); subst hd; (try simp))
    | (refine CallP.ret_ (end_ret o nx pc sd en va er _ _ h0) (by rfl) (by first | assumption | simp) (by rfl) (by simp) ?_; rintro d o n' hn' ⟨hg, rfl⟩; (try simp at hn'); (try simp))
    | fail)
  (first | (refine EndOK.fin (.inr rfl) ?_) | (refine EndOK.fin (.inl rfl) ?_)); simp [resD, oneOrTup, Try.results35]
  refine FinOK.here (by simp) (by simpa using hg)
/-- A push, whatever the stack and the number. -/
theorem push_ret (m : Mach) (o : List (Nat × Ob)) (nx : Nat) (x : Int) (hnx : 0 < nx) (h : MOb m o nx) (hl : m.stack.length < 100000) (hp : m.pc < 9223372036854775807 ∧ -9223372036854775808 ≤ m.pc) :
    Ret Try.prog 35 [.ptr 0 0, .u (.int .i64 x)] o nx (fun _ o' n' => MOb (m.push x) o' n') := by
  obtain ⟨pc, st, en, va, er⟩ := m
  unfold Mach.push
  by_cases hx : okv x = true
  · have hx' : -1099511627776 ≤ x ∧ x ≤ 1099511627776 := by simpa [okv] using hx
    rw [if_pos hx]
    rcases h with ⟨h1, h2⟩ | ⟨i, r, h1, h2, h3, h4, h5⟩
    · simp only at h1
      subst h1
      exact push_nil o nx pc x en va er hnx h2 hx' hp
    · exact push_vec o nx pc st x en va er i r h1 h2 h4 h5 h3 hl hx' hp
  · rw [if_neg hx]
    have hx' : okv x = false := by simpa using hx
    have h0 : ∃ sd, getK o 0 = some (mbox pc sd en va er) := by
      rcases h with ⟨h1, h2⟩ | ⟨i, r, h1, h2, h3, h4, h5⟩
      · exact ⟨_, h2⟩
      · exact ⟨_, h4⟩
    obtain ⟨sd, h0⟩ := h0
    exact Ret.mono (push_out o nx pc sd en va er x h0 hx') fun d o' n' ⟨hg, _⟩ => .inl ⟨rfl, hg⟩

theorem needs_le (n : Int) : (0 ≤ needs n ∧ needs n ≤ 2) ∧ (needs n ≤ 0 → n = 0 ∨ n = 1 ∨ n = 12) ∧ (needs n ≤ 1 → n = 0 ∨ n = 1 ∨ n = 12 ∨ n = 11 ∨ n = 13 ∨ n = 14) := by
  unfold needs
  split <;> (try split) <;> omega
set_option maxHeartbeats 8000000 in
/-- The stack is not there. -/
theorem step_nil (code : List Ins) (vs : List Var) (pc : Int) (en : Bool) (va er : Int) (c : Ins) (o : List (Nat × Ob)) (nx : Nat) (hnx : 0 < nx) (hpc : 0 ≤ pc) (hcd : code[pc.toNat]? = some c) (h0 : getK o 0 = some (mbox pc (.u .nil) en va er)) :
    Ret Try.prog 22 [.ptr 0 0, .u (inss code), .u (vars vs)] o nx (fun _ o n => MOb (stepM code vs ⟨pc, [], en, va, er⟩) o n) := by
  have hlt := (List.getElem?_eq_some_iff.1 hcd).1
  have hn1 : 0 ≠ nx := by omega
  have hn2 : nx ≠ 0 := by omega
  have hne := needs_le c.op
  have hcf := contains_fun []
  have hif := indexVar_fun vs 37 [.row c.row 0] (fun v => decide (v.name = c.s)) (fun v _ => step2_fun v c) (by simp) (fun _ => rfl)
  simp only [ints, vars, Ins.row, List.map_nil, List.map_cons] at hcf hif
  have hst := stepM_eq (code := code) (vs := vs) (m := ⟨pc, [], en, va, er⟩) hpc hcd
  rcases idx_find vs (fun v => decide (v.name = c.s)) with ⟨hix, hfd⟩ | ⟨j, v, hix, hj, hfd⟩
  · rw [hix] at hif
    (refine Ret.of_body Try.func22 rfl (by simp) fun Γ hn => ?_); simp only [entry, List.zipIdx_cons, List.zipIdx_nil, List.map_cons, List.map_nil, Nat.zero_add, Try.ntmps22]
    simp only [mbox, inss, vars] at h0 ⊢
    refine V_len (x := 1) rfl fun hl => ?_
    simp at hl
    repeat' (first
    | (refine H_cons ?_; simp [hcd, h0, hn1, hn2])
    | (refine HD_cons ?_; simp [hcd, h0, hn1, hn2])
    | (refine H_nil ?_; simp [hcd, h0, hn1, hn2])
    | (refine ⟨by omega, ?_⟩)
    | (refine V_sseq ?_; simp [hcd, h0, hn1, hn2])
    | (refine V_scond ?_; simp [hcd, h0, hn1, hn2])
    | (refine HD_nil ?_)
    | (refine hk _ ?_; clear hk k; simp only [RunK])
    | (refine V_drawV rfl (by kernel_rfl) (by kernel_rfl) fun k hk => ?_; simp [hcd, h0, hn1, hn2])
    | (refine HD_guard rfl (by simp [hcd, h0, hn1, hn2]) (fun hc => ?_) (fun hc => ?_) <;> (try simp [hcd, h0, hn1, hn2] at hc) <;> (try (exfalso; omega)) <;> (try simp [hcd, h0, hn1, hn2]))
    | (refine V_sblock ?_; simp [hcd, h0, hn1, hn2])
    | (refine V_sregion ?_; simp [hcd, h0, hn1, hn2])
    | (refine V_ret ?_; simp only [RunK])
    | (refine V_skip ?_; simp only [RunK])
    | (refine ⟨?_, by omega⟩)
    | (refine ⟨fun hc => ?_, fun hc => ?_⟩ <;> (try (exfalso; omega)))
    | (intro hc <;> (try (exfalso; omega)))
    | (refine CallV.fun_ (needs_fun c.op) (by first | rfl | fail) (by first | assumption | (simp; done) | fail) (by first | (simp [hcd, h0, hn1, hn2]; done) | (simp [hcd, h0, hn1, hn2]; rfl) | fail) (by first | (simp; done) | fail) ?_ <;> (try simp [hcd, h0, hn1, hn2]))
    | (refine CallV.fun_ (hcf) (by first | rfl | fail) (by first | assumption | (simp; done) | fail) (by first | (simp [hcd, h0, hn1, hn2]; done) | (simp [hcd, h0, hn1, hn2]; rfl) | fail) (by first | (simp; done) | fail) ?_ <;> (try simp [hcd, h0, hn1, hn2]))
    | (refine CallP.fun_ (hif) (by first | rfl | fail) (by first | assumption | (simp; done) | fail) (by first | (simp [hcd, h0, hn1, hn2]; done) | (simp [hcd, h0, hn1, hn2]; rfl) | fail) (by first | (simp; done) | fail) (fun d hd => ?_); subst hd; (try simp [hcd, h0, hn1, hn2]))
    | (refine CallP.ret_ (end_ret _ _ _ _ _ _ _ _ _ (by simp [h0, hn1, hn2] <;> rfl)) (by rfl) (by first | assumption | simp) (by rfl) (by simp) ?_; rintro d o n' hn' ⟨hg, rfl⟩; (try simp at hn'); (try simp [hcd, h0, hn1, hn2]))
    | (refine CallP.ret_ (push_ret ⟨pc, [], en, va, er⟩ _ _ _ (by simp <;> omega) (.inl ⟨rfl, by simp [h0, hn1, hn2] <;> rfl⟩) (by simp) (by simp <;> omega)) (by rfl) (by first | assumption | simp) (by rfl) (by simp) ?_; rintro d o n' hn' hg; (try simp at hn'); (try simp [hcd, h0, hn1, hn2]))
    | fail)
    all_goals
      (first | (refine EndOK.fin (.inr rfl) ?_) | (refine EndOK.fin (.inl rfl) ?_)); simp [resD, oneOrTup, Try.results22]
      refine FinOK.here (by simp <;> omega) ?_
      rw [hst]
    · rw [if_neg (by simp <;> omega), stepI, if_pos ‹c.op = 0›]
      exact hg
    · rw [if_neg (by simp <;> omega), stepI, if_neg ‹¬c.op = 0›, if_pos ‹c.op = 1›, hfd]
      exact .inl ⟨rfl, hg⟩
    · rw [if_neg (by simp <;> omega), stepI, if_neg ‹¬c.op = 0›, if_neg ‹¬c.op = 1›, if_pos ‹c.op = 12›]
      exact .inl ⟨rfl, by simp [mbox, hn1]⟩
    all_goals
      rw [if_pos (by simp <;> omega)]
      exact .inl ⟨rfl, hg⟩
  · rw [hix] at hif
    have hj0 : (0 : Int) ≤ j := by omega
    (refine Ret.of_body Try.func22 rfl (by simp) fun Γ hn => ?_); simp only [entry, List.zipIdx_cons, List.zipIdx_nil, List.map_cons, List.map_nil, Nat.zero_add, Try.ntmps22]
    simp only [mbox, inss, vars] at h0 ⊢
    refine V_len (x := 1) rfl fun hl => ?_
    simp at hl
    repeat' (first
    | (refine H_cons ?_; simp [hcd, h0, hn1, hn2, hj])
    | (refine HD_cons ?_; simp [hcd, h0, hn1, hn2, hj])
    | (refine H_nil ?_; simp [hcd, h0, hn1, hn2, hj])
    | (refine ⟨by omega, ?_⟩)
    | (refine V_sseq ?_; simp [hcd, h0, hn1, hn2, hj])
    | (refine V_scond ?_; simp [hcd, h0, hn1, hn2, hj])
    | (refine HD_nil ?_)
    | (refine hk _ ?_; clear hk k; simp only [RunK])
    | (refine V_drawV rfl (by kernel_rfl) (by kernel_rfl) fun k hk => ?_; simp [hcd, h0, hn1, hn2, hj])
    | (refine HD_guard rfl (by simp [hcd, h0, hn1, hn2, hj]) (fun hc => ?_) (fun hc => ?_) <;> (try simp [hcd, h0, hn1, hn2, hj] at hc) <;> (try (exfalso; omega)) <;> (try simp [hcd, h0, hn1, hn2, hj]))
    | (refine V_sblock ?_; simp [hcd, h0, hn1, hn2, hj])
    | (refine V_sregion ?_; simp [hcd, h0, hn1, hn2, hj])
    | (refine V_ret ?_; simp only [RunK])
    | (refine V_skip ?_; simp only [RunK])
    | (refine ⟨?_, by omega⟩)
    | (refine ⟨fun hc => ?_, fun hc => ?_⟩ <;> (try (exfalso; omega)))
    | (intro hc <;> (try (exfalso; omega)))
    | (refine CallV.fun_ (needs_fun c.op) (by first | rfl | fail) (by first | assumption | (simp; done) | fail) (by first | (simp [hcd, h0, hn1, hn2, hj]; done) | (simp [hcd, h0, hn1, hn2, hj]; rfl) | fail) (by first | (simp; done) | fail) ?_ <;> (try simp [hcd, h0, hn1, hn2, hj]))
    | (refine CallV.fun_ (hcf) (by first | rfl | fail) (by first | assumption | (simp; done) | fail) (by first | (simp [hcd, h0, hn1, hn2, hj]; done) | (simp [hcd, h0, hn1, hn2, hj]; rfl) | fail) (by first | (simp; done) | fail) ?_ <;> (try simp [hcd, h0, hn1, hn2, hj]))
    | (refine CallP.fun_ (hif) (by first | rfl | fail) (by first | assumption | (simp; done) | fail) (by first | (simp [hcd, h0, hn1, hn2, hj]; done) | (simp [hcd, h0, hn1, hn2, hj]; rfl) | fail) (by first | (simp; done) | fail) (fun d hd => ?_); subst hd; (try simp [hcd, h0, hn1, hn2, hj]))
    | (refine CallP.ret_ (end_ret _ _ _ _ _ _ _ _ _ (by simp [h0, hn1, hn2] <;> rfl)) (by rfl) (by first | assumption | simp) (by rfl) (by simp) ?_; rintro d o n' hn' ⟨hg, rfl⟩; (try simp at hn'); (try simp [hcd, h0, hn1, hn2, hj]))
    | (refine CallP.ret_ (push_ret ⟨pc, [], en, va, er⟩ _ _ _ (by simp <;> omega) (.inl ⟨rfl, by simp [h0, hn1, hn2] <;> rfl⟩) (by simp) (by simp <;> omega)) (by rfl) (by first | assumption | simp) (by rfl) (by simp) ?_; rintro d o n' hn' hg; (try simp at hn'); (try simp [hcd, h0, hn1, hn2, hj]))
    | fail)
    all_goals
      (first | (refine EndOK.fin (.inr rfl) ?_) | (refine EndOK.fin (.inl rfl) ?_)); simp [resD, oneOrTup, Try.results22]
      refine FinOK.here (by simp <;> omega) ?_
      rw [hst]
    · rw [if_neg (by simp <;> omega), stepI, if_pos ‹c.op = 0›]
      exact hg
    · rw [if_neg (by simp <;> omega), stepI, if_neg ‹¬c.op = 0›, if_pos ‹c.op = 1›, hfd]
      exact hg
    · rw [if_neg (by simp <;> omega), stepI, if_neg ‹¬c.op = 0›, if_neg ‹¬c.op = 1›, if_pos ‹c.op = 12›]
      exact .inl ⟨rfl, by simp [mbox, hn1]⟩
    all_goals
      rw [if_pos (by simp <;> omega)]
      exact .inl ⟨rfl, hg⟩

set_option maxHeartbeats 16000000 in
theorem step_any (code : List Ins) (vs : List Var) (pc : Int) (en : Bool) (va er : Int) (c : Ins) (o : List (Nat × Ob)) (nx : Nat) (i : Nat) (r : List Int) (st : List Int) (hpc : 0 ≤ pc) (hcd : code[pc.toNat]? = some c)
    (hi : i ≠ 0) (hinx : i < nx) (hr : r.take (st).length = st) (hany : ((st).any fun n => !okv n) = true) (hlen : (st).length < 100000)
    (h0 : getK o 0 = some (mbox pc (.vec i (st).length) en va er)) (h1 : getK o i = some (.vec 3 1 (stk r))) :
    Ret Try.prog 22 [.ptr 0 0, .u (inss code), .u (vars vs)] o nx (fun _ o n => MOb (stepM code vs ⟨pc, st, en, va, er⟩) o n) := by
  have hlt := (List.getElem?_eq_some_iff.1 hcd).1
  have hrl : (st).length ≤ r.length := by
    have := congrArg List.length hr
    rw [List.length_take] at this
    omega
  have hrs : (stk r).take (st).length = stk (st) := by rw [stk, ← List.map_take, hr]; rfl
  have hi1 : 0 ≠ i := by omega
  have hin1 : nx ≠ i := by omega
  have hin' : i ≠ nx := by omega
  have hn1 : 0 ≠ nx := by omega
  have hn2 : nx ≠ 0 := by omega
  have hne := needs_le c.op
  have hcf := contains_fun (st)
  rw [show ((st).any fun n => !decide (-1099511627776 ≤ n ∧ n ≤ 1099511627776)) = true from hany] at hcf
  have hif := indexVar_fun vs 37 [.row c.row 0] (fun v => decide (v.name = c.s)) (fun v _ => step2_fun v c) (by simp) (fun _ => rfl)
  have hst := stepM_eq (code := code) (vs := vs) (m := ⟨pc, st, en, va, er⟩) hpc hcd
  simp only [ints, vars, Ins.row, List.map_nil, List.map_cons] at hcf hif
  (refine Ret.of_body Try.func22 rfl (by simp) fun Γ hn => ?_); simp only [entry, List.zipIdx_cons, List.zipIdx_nil, List.map_cons, List.map_nil, Nat.zero_add, Try.ntmps22]
  simp only [mbox, inss, vars] at h0 ⊢
  refine V_len (x := 1) rfl fun hl => ?_
  simp at hl
  repeat' (first
    | (refine H_cons ?_; simp [hcd, h0, h1, hi, hi1, hin1, hin', hn1, hn2, hrs, hrl, allU2_stk, mbox])
    | (refine HD_cons ?_; simp [hcd, h0, h1, hi, hi1, hin1, hin', hn1, hn2, hrs, hrl, allU2_stk, mbox])
    | (refine H_nil ?_; simp [hcd, h0, h1, hi, hi1, hin1, hin', hn1, hn2, hrs, hrl, allU2_stk, mbox])
    | (refine ⟨by omega, ?_⟩)
    | (refine V_sseq ?_; simp [hcd, h0, h1, hi, hi1, hin1, hin', hn1, hn2, hrs, hrl, allU2_stk, mbox])
    | (refine V_scond ?_; simp [hcd, h0, h1, hi, hi1, hin1, hin', hn1, hn2, hrs, hrl, allU2_stk, mbox])
    | (refine HD_nil ?_)
    | (refine hk _ ?_; clear hk k; simp only [RunK])
    | (refine V_drawV rfl (by kernel_rfl) (by kernel_rfl) fun k hk => ?_; simp [hcd, h0, h1, hi, hi1, hin1, hin', hn1, hn2, hrs, hrl, allU2_stk, mbox])
    | (refine HD_guard rfl (by simp [hcd, h0, h1, hi, hi1, hin1, hin', hn1, hn2, hrs, hrl, allU2_stk, mbox]) (fun hc => ?_) (fun hc => ?_) <;> (try simp [hcd, h0, h1, hi, hi1, hin1, hin', hn1, hn2, hrs, hrl, allU2_stk, mbox] at hc) <;> (try (exfalso; omega)) <;> (try simp [hcd, h0, h1, hi, hi1, hin1, hin', hn1, hn2, hrs, hrl, allU2_stk, mbox]))
    | (refine V_ret ?_; simp only [RunK])
    | (refine V_skip ?_; simp only [RunK])
    | (refine ⟨?_, by omega⟩)
    | (intro hc <;> (try (exfalso; omega)))
    | (refine CallV.fun_ (needs_fun c.op) (by first | rfl | fail) (by first | assumption | (simp; done) | fail) (by first | (simp [hcd, h0, h1, hi, hi1, hin1, hin', hn1, hn2, hrs, hrl, allU2_stk, mbox]; done) | (simp [hcd, h0, h1, hi, hi1, hin1, hin', hn1, hn2, hrs, hrl, allU2_stk, mbox]; rfl) | fail) (by first | (simp; done) | fail) ?_ <;> (try simp [hcd, h0, h1, hi, hi1, hin1, hin', hn1, hn2, hrs, hrl, allU2_stk, mbox]))
    | (refine CallV.fun_ (hcf) (by first | rfl | fail) (by first | assumption | (simp; done) | fail) (by first | (simp [hcd, h0, h1, hi, hi1, hin1, hin', hn1, hn2, hrs, hrl, allU2_stk, mbox]; done) | (simp [hcd, h0, h1, hi, hi1, hin1, hin', hn1, hn2, hrs, hrl, allU2_stk, mbox]; rfl) | fail) (by first | (simp; done) | fail) ?_ <;> (try simp [hcd, h0, h1, hi, hi1, hin1, hin', hn1, hn2, hrs, hrl, allU2_stk, mbox]))
    | (refine CallP.ret_ (end_ret _ _ _ _ _ _ _ _ _ (by first | (simp [hcd, h0, h1, hi, hi1, hin1, hin', hn1, hn2, hrs, hrl, allU2_stk]; done) | (simp [hcd, h0, h1, hi, hi1, hin1, hin', hn1, hn2, hrs, hrl, allU2_stk]; rfl))) (by rfl) (by first | assumption | simp) (by rfl) (by simp) ?_; rintro d o n' hn' ⟨hg, rfl⟩; (try simp at hn'); (try simp [hcd, h0, h1, hi, hi1, hin1, hin', hn1, hn2, hrs, hrl, allU2_stk, mbox]))
    | fail)
  all_goals
    (first | (refine EndOK.fin (.inr rfl) ?_) | (refine EndOK.fin (.inl rfl) ?_)); simp [resD, oneOrTup, Try.results22]
    refine FinOK.here (by simp <;> omega) ?_
    rw [hst]
  all_goals
    rw [if_pos (by simp [hany] <;> omega)]
    exact .inl ⟨rfl, hg⟩

set_option maxHeartbeats 16000000 in
theorem step_0 (code : List Ins) (vs : List Var) (pc : Int) (en : Bool) (va er : Int) (c : Ins) (o : List (Nat × Ob)) (nx : Nat) (i : Nat) (r : List Int) (hpc : 0 ≤ pc) (hcd : code[pc.toNat]? = some c)
    (hi : i ≠ 0) (hinx : i < nx) (hr : r.take (([] : List Int)).length = ([] : List Int)) (hany : ((([] : List Int)).any fun n => !okv n) = false) (hlen : (([] : List Int)).length < 100000)
    (h0 : getK o 0 = some (mbox pc (.vec i (([] : List Int)).length) en va er)) (h1 : getK o i = some (.vec 3 1 (stk r))) :
    Ret Try.prog 22 [.ptr 0 0, .u (inss code), .u (vars vs)] o nx (fun _ o n => MOb (stepM code vs ⟨pc, ([] : List Int), en, va, er⟩) o n) := by
  have hlt := (List.getElem?_eq_some_iff.1 hcd).1
  have hrl : (([] : List Int)).length ≤ r.length := by
    have := congrArg List.length hr
    rw [List.length_take] at this
    omega
  have hrs : (stk r).take (([] : List Int)).length = stk (([] : List Int)) := by rw [stk, ← List.map_take, hr]; rfl
  have hi1 : 0 ≠ i := by omega
  have hin1 : nx ≠ i := by omega
  have hin' : i ≠ nx := by omega
  have hn1 : 0 ≠ nx := by omega
  have hn2 : nx ≠ 0 := by omega
  have hne := needs_le c.op
  have hcf := contains_fun (([] : List Int))
  rw [show ((([] : List Int)).any fun n => !decide (-1099511627776 ≤ n ∧ n ≤ 1099511627776)) = false from hany] at hcf
  have hif := indexVar_fun vs 37 [.row c.row 0] (fun v => decide (v.name = c.s)) (fun v _ => step2_fun v c) (by simp) (fun _ => rfl)
  have hst := stepM_eq (code := code) (vs := vs) (m := ⟨pc, ([] : List Int), en, va, er⟩) hpc hcd
  simp only [ints, vars, Ins.row, List.map_nil, List.map_cons] at hcf hif
  simp at hcf hrl hrs h0
  rcases idx_find vs (fun v => decide (v.name = c.s)) with ⟨hix, hfd⟩ | ⟨j, v, hix, hj, hfd⟩
  · rw [hix] at hif
    (refine Ret.of_body Try.func22 rfl (by simp) fun Γ hn => ?_); simp only [entry, List.zipIdx_cons, List.zipIdx_nil, List.map_cons, List.map_nil, Nat.zero_add, Try.ntmps22]
    simp only [mbox, inss, vars] at h0 ⊢
    refine V_len (x := 1) rfl fun hl => ?_
    simp at hl
    repeat' (first
    | (refine H_cons ?_; simp [hcd, h0, h1, hi, hi1, hin1, hin', hn1, hn2, hrs, hrl, allU2_stk, mbox])
    | (refine HD_cons ?_; simp [hcd, h0, h1, hi, hi1, hin1, hin', hn1, hn2, hrs, hrl, allU2_stk, mbox])
    | (refine H_nil ?_; simp [hcd, h0, h1, hi, hi1, hin1, hin', hn1, hn2, hrs, hrl, allU2_stk, mbox])
    | (refine ⟨by omega, ?_⟩)
    | (refine V_sseq ?_; simp [hcd, h0, h1, hi, hi1, hin1, hin', hn1, hn2, hrs, hrl, allU2_stk, mbox])
    | (refine V_scond ?_; simp [hcd, h0, h1, hi, hi1, hin1, hin', hn1, hn2, hrs, hrl, allU2_stk, mbox])
    | (refine HD_nil ?_)
    | (refine hk _ ?_; clear hk k; simp only [RunK])
    | (refine V_drawV rfl (by kernel_rfl) (by kernel_rfl) fun k hk => ?_; simp [hcd, h0, h1, hi, hi1, hin1, hin', hn1, hn2, hrs, hrl, allU2_stk, mbox])
    | (refine HD_guard rfl (by simp [hcd, h0, h1, hi, hi1, hin1, hin', hn1, hn2, hrs, hrl, allU2_stk, mbox]) (fun hc => ?_) (fun hc => ?_) <;> (try simp [hcd, h0, h1, hi, hi1, hin1, hin', hn1, hn2, hrs, hrl, allU2_stk, mbox] at hc) <;> (try (exfalso; omega)) <;> (try simp [hcd, h0, h1, hi, hi1, hin1, hin', hn1, hn2, hrs, hrl, allU2_stk, mbox]))
    | (refine V_sblock ?_; simp [hcd, h0, h1, hi, hi1, hin1, hin', hn1, hn2, hrs, hrl, allU2_stk, mbox])
    | (refine V_sregion ?_; simp [hcd, h0, h1, hi, hi1, hin1, hin', hn1, hn2, hrs, hrl, allU2_stk, mbox])
    | (refine V_ret ?_; simp only [RunK])
    | (refine V_skip ?_; simp only [RunK])
    | (refine ⟨?_, by omega⟩)
    | (refine ⟨fun hc => ?_, fun hc => ?_⟩ <;> (try (exfalso; omega)))
    | (intro hc <;> (try (exfalso; omega)))
    | (refine CallV.fun_ (needs_fun c.op) (by first | rfl | fail) (by first | assumption | (simp; done) | fail) (by first | (simp [hcd, h0, h1, hi, hi1, hin1, hin', hn1, hn2, hrs, hrl, allU2_stk, mbox]; done) | (simp [hcd, h0, h1, hi, hi1, hin1, hin', hn1, hn2, hrs, hrl, allU2_stk, mbox]; rfl) | fail) (by first | (simp; done) | fail) ?_ <;> (try simp [hcd, h0, h1, hi, hi1, hin1, hin', hn1, hn2, hrs, hrl, allU2_stk, mbox]))
    | (refine CallV.fun_ (hcf) (by first | rfl | fail) (by first | assumption | (simp; done) | fail) (by first | (simp [hcd, h0, h1, hi, hi1, hin1, hin', hn1, hn2, hrs, hrl, allU2_stk, mbox]; done) | (simp [hcd, h0, h1, hi, hi1, hin1, hin', hn1, hn2, hrs, hrl, allU2_stk, mbox]; rfl) | fail) (by first | (simp; done) | fail) ?_ <;> (try simp [hcd, h0, h1, hi, hi1, hin1, hin', hn1, hn2, hrs, hrl, allU2_stk, mbox]))
    | (refine CallP.fun_ (hif) (by first | rfl | fail) (by first | assumption | (simp; done) | fail) (by first | (simp [hcd, h0, h1, hi, hi1, hin1, hin', hn1, hn2, hrs, hrl, allU2_stk, mbox]; done) | (simp [hcd, h0, h1, hi, hi1, hin1, hin', hn1, hn2, hrs, hrl, allU2_stk, mbox]; rfl) | fail) (by first | (simp; done) | fail) (fun d hd => ?_); subst hd; (try simp [hcd, h0, h1, hi, hi1, hin1, hin', hn1, hn2, hrs, hrl, allU2_stk, mbox]))
    | (refine CallP.ret_ (end_ret _ _ _ _ _ _ _ _ _ (by first | (simp [hcd, h0, h1, hi, hi1, hin1, hin', hn1, hn2, hrs, hrl, allU2_stk]; done) | (simp [hcd, h0, h1, hi, hi1, hin1, hin', hn1, hn2, hrs, hrl, allU2_stk]; rfl))) (by rfl) (by first | assumption | simp) (by rfl) (by simp) ?_; rintro d o n' hn' ⟨hg, rfl⟩; (try simp at hn'); (try simp [hcd, h0, h1, hi, hi1, hin1, hin', hn1, hn2, hrs, hrl, allU2_stk, mbox]))
    | (refine CallP.ret_ (push_ret ⟨pc, [], en, va, er⟩ _ _ _ (by first | (simp; done) | (simp; omega)) (.inr ⟨i, r, hi, (by first | (simp; done) | (simp; omega)), rfl, (by first | (simp [hcd, h0, h1, hi, hi1, hin1, hin', hn1, hn2, hrs, hrl, allU2_stk]; done) | (simp [hcd, h0, h1, hi, hi1, hin1, hin', hn1, hn2, hrs, hrl, allU2_stk]; rfl)), (by first | (simp [hcd, h0, h1, hi, hi1, hin1, hin', hn1, hn2, hrs, hrl, allU2_stk]; done) | fail)⟩) (by first | (simp; done) | (simp; omega)) (by first | (simp; done) | (simp; omega))) (by rfl) (by first | assumption | simp) (by rfl) (by simp) ?_; rintro d o n' hn' hg; (try simp at hn'); (try simp [hcd, h0, h1, hi, hi1, hin1, hin', hn1, hn2, hrs, hrl, allU2_stk, mbox]))
    | fail)
    all_goals
      (first | (refine EndOK.fin (.inr rfl) ?_) | (refine EndOK.fin (.inl rfl) ?_)); simp [resD, oneOrTup, Try.results22]
      refine FinOK.here (by simp <;> omega) ?_
      rw [hst]
    · rw [if_neg (by simp [hany] <;> omega), stepI, if_pos ‹c.op = 0›]
      exact hg
    · rw [if_neg (by simp [hany] <;> omega), stepI, if_neg ‹¬c.op = 0›, if_pos ‹c.op = 1›, hfd]
      exact .inl ⟨rfl, hg⟩
    · rw [if_neg (by simp [hany] <;> omega), stepI, if_neg ‹¬c.op = 0›, if_neg ‹¬c.op = 1›, if_pos ‹c.op = 12›]
      exact .inr ⟨i, r, hi, by simp <;> omega, hr, by simp [mbox, hcd, h0, h1, hi, hi1, hin1, hin', hn1, hn2, hrs, hrl, allU2_stk], by simp [hcd, h0, h1, hi, hi1, hin1, hin', hn1, hn2, hrs, hrl, allU2_stk]⟩
    all_goals
      rw [if_pos (by simp [hany] <;> omega)]
      exact .inl ⟨rfl, hg⟩
  · rw [hix] at hif
    have hj0 : (0 : Int) ≤ j := by omega
    (refine Ret.of_body Try.func22 rfl (by simp) fun Γ hn => ?_); simp only [entry, List.zipIdx_cons, List.zipIdx_nil, List.map_cons, List.map_nil, Nat.zero_add, Try.ntmps22]
    simp only [mbox, inss, vars] at h0 ⊢
    refine V_len (x := 1) rfl fun hl => ?_
    simp at hl
    repeat' (first
    | (refine H_cons ?_; simp [hcd, h0, h1, hi, hi1, hin1, hin', hn1, hn2, hrs, hrl, allU2_stk, mbox, hj])
    | (refine HD_cons ?_; simp [hcd, h0, h1, hi, hi1, hin1, hin', hn1, hn2, hrs, hrl, allU2_stk, mbox, hj])
    | (refine H_nil ?_; simp [hcd, h0, h1, hi, hi1, hin1, hin', hn1, hn2, hrs, hrl, allU2_stk, mbox, hj])
    | (refine ⟨by omega, ?_⟩)
    | (refine V_sseq ?_; simp [hcd, h0, h1, hi, hi1, hin1, hin', hn1, hn2, hrs, hrl, allU2_stk, mbox, hj])
    | (refine V_scond ?_; simp [hcd, h0, h1, hi, hi1, hin1, hin', hn1, hn2, hrs, hrl, allU2_stk, mbox, hj])
    | (refine HD_nil ?_)
    | (refine hk _ ?_; clear hk k; simp only [RunK])
    | (refine V_drawV rfl (by kernel_rfl) (by kernel_rfl) fun k hk => ?_; simp [hcd, h0, h1, hi, hi1, hin1, hin', hn1, hn2, hrs, hrl, allU2_stk, mbox, hj])
    | (refine HD_guard rfl (by simp [hcd, h0, h1, hi, hi1, hin1, hin', hn1, hn2, hrs, hrl, allU2_stk, mbox, hj]) (fun hc => ?_) (fun hc => ?_) <;> (try simp [hcd, h0, h1, hi, hi1, hin1, hin', hn1, hn2, hrs, hrl, allU2_stk, mbox, hj] at hc) <;> (try (exfalso; omega)) <;> (try simp [hcd, h0, h1, hi, hi1, hin1, hin', hn1, hn2, hrs, hrl, allU2_stk, mbox, hj]))
    | (refine V_sblock ?_; simp [hcd, h0, h1, hi, hi1, hin1, hin', hn1, hn2, hrs, hrl, allU2_stk, mbox, hj])
    | (refine V_sregion ?_; simp [hcd, h0, h1, hi, hi1, hin1, hin', hn1, hn2, hrs, hrl, allU2_stk, mbox, hj])
    | (refine V_ret ?_; simp only [RunK])
    | (refine V_skip ?_; simp only [RunK])
    | (refine ⟨?_, by omega⟩)
    | (refine ⟨fun hc => ?_, fun hc => ?_⟩ <;> (try (exfalso; omega)))
    | (intro hc <;> (try (exfalso; omega)))
    | (refine CallV.fun_ (needs_fun c.op) (by first | rfl | fail) (by first | assumption | (simp; done) | fail) (by first | (simp [hcd, h0, h1, hi, hi1, hin1, hin', hn1, hn2, hrs, hrl, allU2_stk, mbox, hj]; done) | (simp [hcd, h0, h1, hi, hi1, hin1, hin', hn1, hn2, hrs, hrl, allU2_stk, mbox, hj]; rfl) | fail) (by first | (simp; done) | fail) ?_ <;> (try simp [hcd, h0, h1, hi, hi1, hin1, hin', hn1, hn2, hrs, hrl, allU2_stk, mbox, hj]))
    | (refine CallV.fun_ (hcf) (by first | rfl | fail) (by first | assumption | (simp; done) | fail) (by first | (simp [hcd, h0, h1, hi, hi1, hin1, hin', hn1, hn2, hrs, hrl, allU2_stk, mbox, hj]; done) | (simp [hcd, h0, h1, hi, hi1, hin1, hin', hn1, hn2, hrs, hrl, allU2_stk, mbox, hj]; rfl) | fail) (by first | (simp; done) | fail) ?_ <;> (try simp [hcd, h0, h1, hi, hi1, hin1, hin', hn1, hn2, hrs, hrl, allU2_stk, mbox, hj]))
    | (refine CallP.fun_ (hif) (by first | rfl | fail) (by first | assumption | (simp; done) | fail) (by first | (simp [hcd, h0, h1, hi, hi1, hin1, hin', hn1, hn2, hrs, hrl, allU2_stk, mbox, hj]; done) | (simp [hcd, h0, h1, hi, hi1, hin1, hin', hn1, hn2, hrs, hrl, allU2_stk, mbox, hj]; rfl) | fail) (by first | (simp; done) | fail) (fun d hd => ?_); subst hd; (try simp [hcd, h0, h1, hi, hi1, hin1, hin', hn1, hn2, hrs, hrl, allU2_stk, mbox, hj]))
    | (refine CallP.ret_ (end_ret _ _ _ _ _ _ _ _ _ (by first | (simp [hcd, h0, h1, hi, hi1, hin1, hin', hn1, hn2, hrs, hrl, allU2_stk]; done) | (simp [hcd, h0, h1, hi, hi1, hin1, hin', hn1, hn2, hrs, hrl, allU2_stk]; rfl))) (by rfl) (by first | assumption | simp) (by rfl) (by simp) ?_; rintro d o n' hn' ⟨hg, rfl⟩; (try simp at hn'); (try simp [hcd, h0, h1, hi, hi1, hin1, hin', hn1, hn2, hrs, hrl, allU2_stk, mbox, hj]))
    | (refine CallP.ret_ (push_ret ⟨pc, [], en, va, er⟩ _ _ _ (by first | (simp; done) | (simp; omega)) (.inr ⟨i, r, hi, (by first | (simp; done) | (simp; omega)), rfl, (by first | (simp [hcd, h0, h1, hi, hi1, hin1, hin', hn1, hn2, hrs, hrl, allU2_stk]; done) | (simp [hcd, h0, h1, hi, hi1, hin1, hin', hn1, hn2, hrs, hrl, allU2_stk]; rfl)), (by first | (simp [hcd, h0, h1, hi, hi1, hin1, hin', hn1, hn2, hrs, hrl, allU2_stk]; done) | fail)⟩) (by first | (simp; done) | (simp; omega)) (by first | (simp; done) | (simp; omega))) (by rfl) (by first | assumption | simp) (by rfl) (by simp) ?_; rintro d o n' hn' hg; (try simp at hn'); (try simp [hcd, h0, h1, hi, hi1, hin1, hin', hn1, hn2, hrs, hrl, allU2_stk, mbox, hj]))
    | fail)
    all_goals
      (first | (refine EndOK.fin (.inr rfl) ?_) | (refine EndOK.fin (.inl rfl) ?_)); simp [resD, oneOrTup, Try.results22]
      refine FinOK.here (by simp <;> omega) ?_
      rw [hst]
    · rw [if_neg (by simp [hany] <;> omega), stepI, if_pos ‹c.op = 0›]
      exact hg
    · rw [if_neg (by simp [hany] <;> omega), stepI, if_neg ‹¬c.op = 0›, if_pos ‹c.op = 1›, hfd]
      exact hg
    · rw [if_neg (by simp [hany] <;> omega), stepI, if_neg ‹¬c.op = 0›, if_neg ‹¬c.op = 1›, if_pos ‹c.op = 12›]
      exact .inr ⟨i, r, hi, by simp <;> omega, hr, by simp [mbox, hcd, h0, h1, hi, hi1, hin1, hin', hn1, hn2, hrs, hrl, allU2_stk], by simp [hcd, h0, h1, hi, hi1, hin1, hin', hn1, hn2, hrs, hrl, allU2_stk]⟩
    all_goals
      rw [if_pos (by simp [hany] <;> omega)]
      exact .inl ⟨rfl, hg⟩

set_option maxHeartbeats 16000000 in
theorem step_1 (code : List Ins) (vs : List Var) (pc : Int) (en : Bool) (va er : Int) (c : Ins) (o : List (Nat × Ob)) (nx : Nat) (i : Nat) (r : List Int) (x : Int) (hpc : 0 ≤ pc) (hcd : code[pc.toNat]? = some c)
    (hi : i ≠ 0) (hinx : i < nx) (hr : r.take ([x]).length = [x]) (hany : (([x]).any fun n => !okv n) = false) (hlen : ([x]).length < 100000)
    (h0 : getK o 0 = some (mbox pc (.vec i ([x]).length) en va er)) (h1 : getK o i = some (.vec 3 1 (stk r))) :
    Ret Try.prog 22 [.ptr 0 0, .u (inss code), .u (vars vs)] o nx (fun _ o n => MOb (stepM code vs ⟨pc, [x], en, va, er⟩) o n) := by
  have hlt := (List.getElem?_eq_some_iff.1 hcd).1
  have hrl : ([x]).length ≤ r.length := by
    have := congrArg List.length hr
    rw [List.length_take] at this
    omega
  have hrs : (stk r).take ([x]).length = stk ([x]) := by rw [stk, ← List.map_take, hr]; rfl
  have hi1 : 0 ≠ i := by omega
  have hin1 : nx ≠ i := by omega
  have hin' : i ≠ nx := by omega
  have hn1 : 0 ≠ nx := by omega
  have hn2 : nx ≠ 0 := by omega
  have hne := needs_le c.op
  have hcf := contains_fun ([x])
  rw [show (([x]).any fun n => !decide (-1099511627776 ≤ n ∧ n ≤ 1099511627776)) = false from hany] at hcf
  have hif := indexVar_fun vs 37 [.row c.row 0] (fun v => decide (v.name = c.s)) (fun v _ => step2_fun v c) (by simp) (fun _ => rfl)
  have hst := stepM_eq (code := code) (vs := vs) (m := ⟨pc, [x], en, va, er⟩) hpc hcd
  have hx0 : r[0]? = some x := by
    have := congrArg (·[0]?) hr
    simpa [List.getElem?_take] using this
  have hxv : -1099511627776 ≤ x ∧ x ≤ 1099511627776 := by simpa [okv] using hany
  have htop : Mach.top ⟨pc, [x], en, va, er⟩ 0 = x := by simp [Mach.top]
  have hdrop : Mach.drop ⟨pc, [x], en, va, er⟩ 1 = ⟨pc, [], en, va, er⟩ := by simp [Mach.drop]
  simp only [ints, vars, Ins.row, List.map_nil, List.map_cons] at hcf hif
  simp at hcf hrl hrs h0
  rcases idx_find vs (fun v => decide (v.name = c.s)) with ⟨hix, hfd⟩ | ⟨j, v, hix, hj, hfd⟩
  · rw [hix] at hif
    (refine Ret.of_body Try.func22 rfl (by simp) fun Γ hn => ?_); simp only [entry, List.zipIdx_cons, List.zipIdx_nil, List.map_cons, List.map_nil, Nat.zero_add, Try.ntmps22]
    simp only [mbox, inss, vars] at h0 ⊢
    refine V_len (x := 1) rfl fun hl => ?_
    simp at hl
    repeat' (first
    | (refine H_cons ?_; simp [hcd, h0, h1, hi, hi1, hin1, hin', hn1, hn2, hrs, hrl, allU2_stk, mbox])
    | (refine HD_cons ?_; simp [hcd, h0, h1, hi, hi1, hin1, hin', hn1, hn2, hrs, hrl, allU2_stk, mbox])
    | (refine H_nil ?_; simp [hcd, h0, h1, hi, hi1, hin1, hin', hn1, hn2, hrs, hrl, allU2_stk, mbox])
    | (refine ⟨by omega, ?_⟩)
    | (refine V_sseq ?_; simp [hcd, h0, h1, hi, hi1, hin1, hin', hn1, hn2, hrs, hrl, allU2_stk, mbox])
    | (refine V_scond ?_; simp [hcd, h0, h1, hi, hi1, hin1, hin', hn1, hn2, hrs, hrl, allU2_stk, mbox])
    | (refine HD_nil ?_)
    | (refine hk _ ?_; clear hk k; simp only [RunK])
    | (refine V_drawV rfl (by kernel_rfl) (by kernel_rfl) fun k hk => ?_; simp [hcd, h0, h1, hi, hi1, hin1, hin', hn1, hn2, hrs, hrl, allU2_stk, mbox])
    | (refine HD_guard rfl (by simp [hcd, h0, h1, hi, hi1, hin1, hin', hn1, hn2, hrs, hrl, allU2_stk, mbox]) (fun hc => ?_) (fun hc => ?_) <;> (try simp [hcd, h0, h1, hi, hi1, hin1, hin', hn1, hn2, hrs, hrl, allU2_stk, mbox] at hc) <;> (try (exfalso; omega)) <;> (try simp [hcd, h0, h1, hi, hi1, hin1, hin', hn1, hn2, hrs, hrl, allU2_stk, mbox]))
    | (refine V_sblock ?_; simp [hcd, h0, h1, hi, hi1, hin1, hin', hn1, hn2, hrs, hrl, allU2_stk, mbox])
    | (refine V_sregion ?_; simp [hcd, h0, h1, hi, hi1, hin1, hin', hn1, hn2, hrs, hrl, allU2_stk, mbox])
    | (refine V_ret ?_; simp only [RunK])
    | (refine V_skip ?_; simp only [RunK])
    | (refine ⟨?_, by omega⟩)
    | (refine ⟨fun hc => ?_, fun hc => ?_⟩ <;> (try (exfalso; omega)))
    | (intro hc <;> (try (exfalso; omega)))
    | (refine CallV.fun_ (needs_fun c.op) (by first | rfl | fail) (by first | assumption | (simp; done) | fail) (by first | (simp [hcd, h0, h1, hi, hi1, hin1, hin', hn1, hn2, hrs, hrl, allU2_stk, mbox]; done) | (simp [hcd, h0, h1, hi, hi1, hin1, hin', hn1, hn2, hrs, hrl, allU2_stk, mbox]; rfl) | fail) (by first | (simp; done) | fail) ?_ <;> (try simp [hcd, h0, h1, hi, hi1, hin1, hin', hn1, hn2, hrs, hrl, allU2_stk, mbox]))
    | (refine CallV.fun_ (hcf) (by first | rfl | fail) (by first | assumption | (simp; done) | fail) (by first | (simp [hcd, h0, h1, hi, hi1, hin1, hin', hn1, hn2, hrs, hrl, allU2_stk, mbox]; done) | (simp [hcd, h0, h1, hi, hi1, hin1, hin', hn1, hn2, hrs, hrl, allU2_stk, mbox]; rfl) | fail) (by first | (simp; done) | fail) ?_ <;> (try simp [hcd, h0, h1, hi, hi1, hin1, hin', hn1, hn2, hrs, hrl, allU2_stk, mbox]))
    | (refine CallP.fun_ (hif) (by first | rfl | fail) (by first | assumption | (simp; done) | fail) (by first | (simp [hcd, h0, h1, hi, hi1, hin1, hin', hn1, hn2, hrs, hrl, allU2_stk, mbox]; done) | (simp [hcd, h0, h1, hi, hi1, hin1, hin', hn1, hn2, hrs, hrl, allU2_stk, mbox]; rfl) | fail) (by first | (simp; done) | fail) (fun d hd => ?_); subst hd; (try simp [hcd, h0, h1, hi, hi1, hin1, hin', hn1, hn2, hrs, hrl, allU2_stk, mbox]))
    | (refine CallP.fun_ (truth_fun (decide (x = 0))) (by first | rfl | fail) (by first | assumption | (simp; done) | fail) (by first | (simp [hcd, h0, h1, hi, hi1, hin1, hin', hn1, hn2, hrs, hrl, allU2_stk, mbox]; done) | (simp [hcd, h0, h1, hi, hi1, hin1, hin', hn1, hn2, hrs, hrl, allU2_stk, mbox]; rfl) | fail) (by first | (simp; done) | fail) (fun d hd => ?_); subst hd; (try simp [hcd, h0, h1, hi, hi1, hin1, hin', hn1, hn2, hrs, hrl, allU2_stk, mbox]))
    | (refine CallP.ret_ (end_ret _ _ _ _ _ _ _ _ _ (by first | (simp [hcd, h0, h1, hi, hi1, hin1, hin', hn1, hn2, hrs, hrl, allU2_stk]; done) | (simp [hcd, h0, h1, hi, hi1, hin1, hin', hn1, hn2, hrs, hrl, allU2_stk]; rfl))) (by rfl) (by first | assumption | simp) (by rfl) (by simp) ?_; rintro d o n' hn' ⟨hg, rfl⟩; (try simp at hn'); (try simp [hcd, h0, h1, hi, hi1, hin1, hin', hn1, hn2, hrs, hrl, allU2_stk, mbox]))
    | (refine CallP.ret_ (pop_ret _ _ _ (0) x en va er i r hi (by first | (simp [hcd, h0, h1, hi, hi1, hin1, hin', hn1, hn2, hrs, hrl, allU2_stk]; done) | (simp [hcd, h0, h1, hi, hi1, hin1, hin', hn1, hn2, hrs, hrl, allU2_stk]; rfl)) (by first | (simp [hcd, h0, h1, hi, hi1, hin1, hin', hn1, hn2, hrs, hrl, allU2_stk]; done) | fail) (by assumption)) (by rfl) (by first | assumption | simp) (by rfl) (by simp) ?_; rintro d o n' hn' ⟨rfl, rfl, rfl⟩; (try simp at hn'); (try simp [hcd, h0, h1, hi, hi1, hin1, hin', hn1, hn2, hrs, hrl, allU2_stk, mbox]))
    | (refine CallP.ret_ (push_ret ⟨pc, [x], en, va, er⟩ _ _ _ (by first | (simp; done) | (simp; omega)) (.inr ⟨i, r, hi, (by first | (simp; done) | (simp; omega)), hr, (by first | (simp [hcd, h0, h1, hi, hi1, hin1, hin', hn1, hn2, hrs, hrl, allU2_stk]; done) | (simp [hcd, h0, h1, hi, hi1, hin1, hin', hn1, hn2, hrs, hrl, allU2_stk]; rfl)), (by first | (simp [hcd, h0, h1, hi, hi1, hin1, hin', hn1, hn2, hrs, hrl, allU2_stk]; done) | fail)⟩) (by first | (simp; done) | (simp; omega)) (by first | (simp; done) | (simp; omega))) (by rfl) (by first | assumption | simp) (by rfl) (by simp) ?_; rintro d o n' hn' hg; (try simp at hn'); (try simp [hcd, h0, h1, hi, hi1, hin1, hin', hn1, hn2, hrs, hrl, allU2_stk, mbox]))
    | (refine CallP.ret_ (push_ret ⟨pc, [], en, va, er⟩ _ _ _ (by first | (simp; done) | (simp; omega)) (.inr ⟨i, r, hi, (by first | (simp; done) | (simp; omega)), rfl, (by first | (simp [hcd, h0, h1, hi, hi1, hin1, hin', hn1, hn2, hrs, hrl, allU2_stk]; done) | (simp [hcd, h0, h1, hi, hi1, hin1, hin', hn1, hn2, hrs, hrl, allU2_stk]; rfl)), (by first | (simp [hcd, h0, h1, hi, hi1, hin1, hin', hn1, hn2, hrs, hrl, allU2_stk]; done) | fail)⟩) (by first | (simp; done) | (simp; omega)) (by first | (simp; done) | (simp; omega))) (by rfl) (by first | assumption | simp) (by rfl) (by simp) ?_; rintro d o n' hn' hg; (try simp at hn'); (try simp [hcd, h0, h1, hi, hi1, hin1, hin', hn1, hn2, hrs, hrl, allU2_stk, mbox]))
    | fail)
    all_goals
      (first | (refine EndOK.fin (.inr rfl) ?_) | (refine EndOK.fin (.inl rfl) ?_)); simp [resD, oneOrTup, Try.results22]
      refine FinOK.here (by simp <;> omega) ?_
      rw [hst]
    · rw [if_neg (by simp [hany] <;> omega), stepI, if_pos ‹c.op = 0›]
      exact hg
    · rw [if_neg (by simp [hany] <;> omega), stepI, if_neg ‹¬c.op = 0›, if_pos ‹c.op = 1›, hfd]
      exact .inl ⟨rfl, hg⟩
    · rw [if_neg (by simp [hany] <;> omega), stepI, if_neg ‹¬c.op = 0›, if_neg ‹¬c.op = 1›, if_pos ‹c.op = 12›]
      exact .inr ⟨i, r, hi, by simp <;> omega, hr, by simp [mbox, hcd, h0, h1, hi, hi1, hin1, hin', hn1, hn2, hrs, hrl, allU2_stk], by simp [hcd, h0, h1, hi, hi1, hin1, hin', hn1, hn2, hrs, hrl, allU2_stk]⟩
    · rw [if_neg (by simp [hany] <;> omega), stepI, if_neg ‹¬c.op = 0›, if_neg ‹¬c.op = 1›, if_neg ‹¬c.op = 12›, if_pos ‹c.op = 13›, htop, hdrop, if_pos ‹x = 0›]
      exact .inr ⟨i, r, hi, by simp <;> omega, rfl, by simp [mbox, hcd, h0, h1, hi, hi1, hin1, hin', hn1, hn2, hrs, hrl, allU2_stk], by simp [hcd, h0, h1, hi, hi1, hin1, hin', hn1, hn2, hrs, hrl, allU2_stk]⟩
    · rw [if_neg (by simp [hany] <;> omega), stepI, if_neg ‹¬c.op = 0›, if_neg ‹¬c.op = 1›, if_neg ‹¬c.op = 12›, if_pos ‹c.op = 13›, htop, hdrop, if_neg ‹¬x = 0›]
      exact .inr ⟨i, r, hi, by simp <;> omega, rfl, by simp [mbox, hcd, h0, h1, hi, hi1, hin1, hin', hn1, hn2, hrs, hrl, allU2_stk], by simp [hcd, h0, h1, hi, hi1, hin1, hin', hn1, hn2, hrs, hrl, allU2_stk]⟩
    · rw [if_neg (by simp [hany] <;> omega), stepI, if_neg ‹¬c.op = 0›, if_neg ‹¬c.op = 1›, if_neg ‹¬c.op = 12›, if_neg ‹¬c.op = 13›, if_pos ‹c.op = 14›, htop]
      exact .inl ⟨rfl, hg⟩
    · rw [if_neg (by simp [hany] <;> omega), stepI, if_neg ‹¬c.op = 0›, if_neg ‹¬c.op = 1›, if_neg ‹¬c.op = 12›, if_neg ‹¬c.op = 13›, if_neg ‹¬c.op = 14›, if_pos ‹c.op = 11›, htop, hdrop]
      simp only [Pm.truth, decide_eq_true_eq]
      exact hg
    all_goals
      rw [if_pos (by simp [hany] <;> omega)]
      exact .inl ⟨rfl, hg⟩
  · rw [hix] at hif
    have hj0 : (0 : Int) ≤ j := by omega
    (refine Ret.of_body Try.func22 rfl (by simp) fun Γ hn => ?_); simp only [entry, List.zipIdx_cons, List.zipIdx_nil, List.map_cons, List.map_nil, Nat.zero_add, Try.ntmps22]
    simp only [mbox, inss, vars] at h0 ⊢
    refine V_len (x := 1) rfl fun hl => ?_
    simp at hl
    repeat' (first
    | (refine H_cons ?_; simp [hcd, h0, h1, hi, hi1, hin1, hin', hn1, hn2, hrs, hrl, allU2_stk, mbox, hj])
    | (refine HD_cons ?_; simp [hcd, h0, h1, hi, hi1, hin1, hin', hn1, hn2, hrs, hrl, allU2_stk, mbox, hj])
    | (refine H_nil ?_; simp [hcd, h0, h1, hi, hi1, hin1, hin', hn1, hn2, hrs, hrl, allU2_stk, mbox, hj])
    | (refine ⟨by omega, ?_⟩)
    | (refine V_sseq ?_; simp [hcd, h0, h1, hi, hi1, hin1, hin', hn1, hn2, hrs, hrl, allU2_stk, mbox, hj])
    | (refine V_scond ?_; simp [hcd, h0, h1, hi, hi1, hin1, hin', hn1, hn2, hrs, hrl, allU2_stk, mbox, hj])
    | (refine HD_nil ?_)
    | (refine hk _ ?_; clear hk k; simp only [RunK])
    | (refine V_drawV rfl (by kernel_rfl) (by kernel_rfl) fun k hk => ?_; simp [hcd, h0, h1, hi, hi1, hin1, hin', hn1, hn2, hrs, hrl, allU2_stk, mbox, hj])
    | (refine HD_guard rfl (by simp [hcd, h0, h1, hi, hi1, hin1, hin', hn1, hn2, hrs, hrl, allU2_stk, mbox, hj]) (fun hc => ?_) (fun hc => ?_) <;> (try simp [hcd, h0, h1, hi, hi1, hin1, hin', hn1, hn2, hrs, hrl, allU2_stk, mbox, hj] at hc) <;> (try (exfalso; omega)) <;> (try simp [hcd, h0, h1, hi, hi1, hin1, hin', hn1, hn2, hrs, hrl, allU2_stk, mbox, hj]))
    | (refine V_sblock ?_; simp [hcd, h0, h1, hi, hi1, hin1, hin', hn1, hn2, hrs, hrl, allU2_stk, mbox, hj])
    | (refine V_sregion ?_; simp [hcd, h0, h1, hi, hi1, hin1, hin', hn1, hn2, hrs, hrl, allU2_stk, mbox, hj])
    | (refine V_ret ?_; simp only [RunK])
    | (refine V_skip ?_; simp only [RunK])
    | (refine ⟨?_, by omega⟩)
    | (refine ⟨fun hc => ?_, fun hc => ?_⟩ <;> (try (exfalso; omega)))
    | (intro hc <;> (try (exfalso; omega)))
    | (refine CallV.fun_ (needs_fun c.op) (by first | rfl | fail) (by first | assumption | (simp; done) | fail) (by first | (simp [hcd, h0, h1, hi, hi1, hin1, hin', hn1, hn2, hrs, hrl, allU2_stk, mbox, hj]; done) | (simp [hcd, h0, h1, hi, hi1, hin1, hin', hn1, hn2, hrs, hrl, allU2_stk, mbox, hj]; rfl) | fail) (by first | (simp; done) | fail) ?_ <;> (try simp [hcd, h0, h1, hi, hi1, hin1, hin', hn1, hn2, hrs, hrl, allU2_stk, mbox, hj]))
    | (refine CallV.fun_ (hcf) (by first | rfl | fail) (by first | assumption | (simp; done) | fail) (by first | (simp [hcd, h0, h1, hi, hi1, hin1, hin', hn1, hn2, hrs, hrl, allU2_stk, mbox, hj]; done) | (simp [hcd, h0, h1, hi, hi1, hin1, hin', hn1, hn2, hrs, hrl, allU2_stk, mbox, hj]; rfl) | fail) (by first | (simp; done) | fail) ?_ <;> (try simp [hcd, h0, h1, hi, hi1, hin1, hin', hn1, hn2, hrs, hrl, allU2_stk, mbox, hj]))
    | (refine CallP.fun_ (hif) (by first | rfl | fail) (by first | assumption | (simp; done) | fail) (by first | (simp [hcd, h0, h1, hi, hi1, hin1, hin', hn1, hn2, hrs, hrl, allU2_stk, mbox, hj]; done) | (simp [hcd, h0, h1, hi, hi1, hin1, hin', hn1, hn2, hrs, hrl, allU2_stk, mbox, hj]; rfl) | fail) (by first | (simp; done) | fail) (fun d hd => ?_); subst hd; (try simp [hcd, h0, h1, hi, hi1, hin1, hin', hn1, hn2, hrs, hrl, allU2_stk, mbox, hj]))
    | (refine CallP.fun_ (truth_fun (decide (x = 0))) (by first | rfl | fail) (by first | assumption | (simp; done) | fail) (by first | (simp [hcd, h0, h1, hi, hi1, hin1, hin', hn1, hn2, hrs, hrl, allU2_stk, mbox, hj]; done) | (simp [hcd, h0, h1, hi, hi1, hin1, hin', hn1, hn2, hrs, hrl, allU2_stk, mbox, hj]; rfl) | fail) (by first | (simp; done) | fail) (fun d hd => ?_); subst hd; (try simp [hcd, h0, h1, hi, hi1, hin1, hin', hn1, hn2, hrs, hrl, allU2_stk, mbox, hj]))
    | (refine CallP.ret_ (end_ret _ _ _ _ _ _ _ _ _ (by first | (simp [hcd, h0, h1, hi, hi1, hin1, hin', hn1, hn2, hrs, hrl, allU2_stk]; done) | (simp [hcd, h0, h1, hi, hi1, hin1, hin', hn1, hn2, hrs, hrl, allU2_stk]; rfl))) (by rfl) (by first | assumption | simp) (by rfl) (by simp) ?_; rintro d o n' hn' ⟨hg, rfl⟩; (try simp at hn'); (try simp [hcd, h0, h1, hi, hi1, hin1, hin', hn1, hn2, hrs, hrl, allU2_stk, mbox, hj]))
    | (refine CallP.ret_ (pop_ret _ _ _ (0) x en va er i r hi (by first | (simp [hcd, h0, h1, hi, hi1, hin1, hin', hn1, hn2, hrs, hrl, allU2_stk]; done) | (simp [hcd, h0, h1, hi, hi1, hin1, hin', hn1, hn2, hrs, hrl, allU2_stk]; rfl)) (by first | (simp [hcd, h0, h1, hi, hi1, hin1, hin', hn1, hn2, hrs, hrl, allU2_stk]; done) | fail) (by assumption)) (by rfl) (by first | assumption | simp) (by rfl) (by simp) ?_; rintro d o n' hn' ⟨rfl, rfl, rfl⟩; (try simp at hn'); (try simp [hcd, h0, h1, hi, hi1, hin1, hin', hn1, hn2, hrs, hrl, allU2_stk, mbox, hj]))
    | (refine CallP.ret_ (push_ret ⟨pc, [x], en, va, er⟩ _ _ _ (by first | (simp; done) | (simp; omega)) (.inr ⟨i, r, hi, (by first | (simp; done) | (simp; omega)), hr, (by first | (simp [hcd, h0, h1, hi, hi1, hin1, hin', hn1, hn2, hrs, hrl, allU2_stk]; done) | (simp [hcd, h0, h1, hi, hi1, hin1, hin', hn1, hn2, hrs, hrl, allU2_stk]; rfl)), (by first | (simp [hcd, h0, h1, hi, hi1, hin1, hin', hn1, hn2, hrs, hrl, allU2_stk]; done) | fail)⟩) (by first | (simp; done) | (simp; omega)) (by first | (simp; done) | (simp; omega))) (by rfl) (by first | assumption | simp) (by rfl) (by simp) ?_; rintro d o n' hn' hg; (try simp at hn'); (try simp [hcd, h0, h1, hi, hi1, hin1, hin', hn1, hn2, hrs, hrl, allU2_stk, mbox, hj]))
    | (refine CallP.ret_ (push_ret ⟨pc, [], en, va, er⟩ _ _ _ (by first | (simp; done) | (simp; omega)) (.inr ⟨i, r, hi, (by first | (simp; done) | (simp; omega)), rfl, (by first | (simp [hcd, h0, h1, hi, hi1, hin1, hin', hn1, hn2, hrs, hrl, allU2_stk]; done) | (simp [hcd, h0, h1, hi, hi1, hin1, hin', hn1, hn2, hrs, hrl, allU2_stk]; rfl)), (by first | (simp [hcd, h0, h1, hi, hi1, hin1, hin', hn1, hn2, hrs, hrl, allU2_stk]; done) | fail)⟩) (by first | (simp; done) | (simp; omega)) (by first | (simp; done) | (simp; omega))) (by rfl) (by first | assumption | simp) (by rfl) (by simp) ?_; rintro d o n' hn' hg; (try simp at hn'); (try simp [hcd, h0, h1, hi, hi1, hin1, hin', hn1, hn2, hrs, hrl, allU2_stk, mbox, hj]))
    | fail)
    all_goals
      (first | (refine EndOK.fin (.inr rfl) ?_) | (refine EndOK.fin (.inl rfl) ?_)); simp [resD, oneOrTup, Try.results22]
      refine FinOK.here (by simp <;> omega) ?_
      rw [hst]
    · rw [if_neg (by simp [hany] <;> omega), stepI, if_pos ‹c.op = 0›]
      exact hg
    · rw [if_neg (by simp [hany] <;> omega), stepI, if_neg ‹¬c.op = 0›, if_pos ‹c.op = 1›, hfd]
      exact hg
    · rw [if_neg (by simp [hany] <;> omega), stepI, if_neg ‹¬c.op = 0›, if_neg ‹¬c.op = 1›, if_pos ‹c.op = 12›]
      exact .inr ⟨i, r, hi, by simp <;> omega, hr, by simp [mbox, hcd, h0, h1, hi, hi1, hin1, hin', hn1, hn2, hrs, hrl, allU2_stk], by simp [hcd, h0, h1, hi, hi1, hin1, hin', hn1, hn2, hrs, hrl, allU2_stk]⟩
    · rw [if_neg (by simp [hany] <;> omega), stepI, if_neg ‹¬c.op = 0›, if_neg ‹¬c.op = 1›, if_neg ‹¬c.op = 12›, if_pos ‹c.op = 13›, htop, hdrop, if_pos ‹x = 0›]
      exact .inr ⟨i, r, hi, by simp <;> omega, rfl, by simp [mbox, hcd, h0, h1, hi, hi1, hin1, hin', hn1, hn2, hrs, hrl, allU2_stk], by simp [hcd, h0, h1, hi, hi1, hin1, hin', hn1, hn2, hrs, hrl, allU2_stk]⟩
    · rw [if_neg (by simp [hany] <;> omega), stepI, if_neg ‹¬c.op = 0›, if_neg ‹¬c.op = 1›, if_neg ‹¬c.op = 12›, if_pos ‹c.op = 13›, htop, hdrop, if_neg ‹¬x = 0›]
      exact .inr ⟨i, r, hi, by simp <;> omega, rfl, by simp [mbox, hcd, h0, h1, hi, hi1, hin1, hin', hn1, hn2, hrs, hrl, allU2_stk], by simp [hcd, h0, h1, hi, hi1, hin1, hin', hn1, hn2, hrs, hrl, allU2_stk]⟩
    · rw [if_neg (by simp [hany] <;> omega), stepI, if_neg ‹¬c.op = 0›, if_neg ‹¬c.op = 1›, if_neg ‹¬c.op = 12›, if_neg ‹¬c.op = 13›, if_pos ‹c.op = 14›, htop]
      exact .inl ⟨rfl, hg⟩
    · rw [if_neg (by simp [hany] <;> omega), stepI, if_neg ‹¬c.op = 0›, if_neg ‹¬c.op = 1›, if_neg ‹¬c.op = 12›, if_neg ‹¬c.op = 13›, if_neg ‹¬c.op = 14›, if_pos ‹c.op = 11›, htop, hdrop]
      simp only [Pm.truth, decide_eq_true_eq]
      exact hg
    all_goals
      rw [if_pos (by simp [hany] <;> omega)]
      exact .inl ⟨rfl, hg⟩

set_option maxHeartbeats 16000000 in
theorem step_2 (code : List Ins) (vs : List Var) (pc : Int) (en : Bool) (va er : Int) (c : Ins) (o : List (Nat × Ob)) (nx : Nat) (i : Nat) (r : List Int) (st : List Int) (y x : Int) (hpc : 0 ≤ pc) (hcd : code[pc.toNat]? = some c)
    (hi : i ≠ 0) (hinx : i < nx) (hr : r.take ((st ++ [y, x])).length = (st ++ [y, x])) (hany : (((st ++ [y, x])).any fun n => !okv n) = false) (hlen : ((st ++ [y, x])).length < 100000)
    (h0 : getK o 0 = some (mbox pc (.vec i ((st ++ [y, x])).length) en va er)) (h1 : getK o i = some (.vec 3 1 (stk r))) :
    Ret Try.prog 22 [.ptr 0 0, .u (inss code), .u (vars vs)] o nx (fun _ o n => MOb (stepM code vs ⟨pc, (st ++ [y, x]), en, va, er⟩) o n) := by
  have hlt := (List.getElem?_eq_some_iff.1 hcd).1
  have hrl : ((st ++ [y, x])).length ≤ r.length := by
    have := congrArg List.length hr
    rw [List.length_take] at this
    omega
  have hrs : (stk r).take ((st ++ [y, x])).length = stk ((st ++ [y, x])) := by rw [stk, ← List.map_take, hr]; rfl
  have hi1 : 0 ≠ i := by omega
  have hin1 : nx ≠ i := by omega
  have hin' : i ≠ nx := by omega
  have hn1 : 0 ≠ nx := by omega
  have hn2 : nx ≠ 0 := by omega
  have hne := needs_le c.op
  have hcf := contains_fun ((st ++ [y, x]))
  rw [show (((st ++ [y, x])).any fun n => !decide (-1099511627776 ≤ n ∧ n ≤ 1099511627776)) = false from hany] at hcf
  have hif := indexVar_fun vs 37 [.row c.row 0] (fun v => decide (v.name = c.s)) (fun v _ => step2_fun v c) (by simp) (fun _ => rfl)
  have hst := stepM_eq (code := code) (vs := vs) (m := ⟨pc, (st ++ [y, x]), en, va, er⟩) hpc hcd
  have hx0 : r[st.length + 1]? = some x := by
    have := congrArg (·[st.length + 1]?) hr
    simpa [List.getElem?_take] using this
  have hy0 : r[st.length]? = some y := by
    have := congrArg (·[st.length]?) hr
    simpa [List.getElem?_take] using this
  have he : st ++ [y, x] = (st ++ [y]) ++ [x] := by simp
  have htk : (st ++ [y, x]).take (st.length + 1) = st ++ [y] := by
    rw [he, show st.length + 1 = (st ++ [y]).length by simp, List.take_left]
  have hr2 : r.take (st ++ [y]).length = st ++ [y] := by
    have := congrArg (List.take (st.length + 1)) hr
    rw [List.take_take, htk, Nat.min_eq_left (by simp)] at this
    simpa using this
  have hr1 : r.take st.length = st := by
    have := congrArg (List.take st.length) hr
    rw [List.take_take, Nat.min_eq_left (by simp), List.take_left] at this
    exact this
  have hxv : (-1099511627776 ≤ y ∧ y ≤ 1099511627776) ∧ (-1099511627776 ≤ x ∧ x ≤ 1099511627776) := by
    simp [okv] at hany
    omega
  have htop : Mach.top ⟨pc, st ++ [y, x], en, va, er⟩ 0 = x := by simp [Mach.top]
  have htop1 : Mach.top ⟨pc, st ++ [y, x], en, va, er⟩ 1 = y := by simp [Mach.top]
  have hdrop : Mach.drop ⟨pc, st ++ [y, x], en, va, er⟩ 1 = ⟨pc, st ++ [y], en, va, er⟩ := by simp [Mach.drop, htk]
  have hdrop2 : Mach.drop ⟨pc, st ++ [y, x], en, va, er⟩ 2 = ⟨pc, st, en, va, er⟩ := by simp [Mach.drop]
  simp only [ints, vars, Ins.row, List.map_nil, List.map_cons] at hcf hif
  simp at hcf hrl hrs h0 hlen
  rcases idx_find vs (fun v => decide (v.name = c.s)) with ⟨hix, hfd⟩ | ⟨j, v, hix, hj, hfd⟩
  · rw [hix] at hif
    (refine Ret.of_body Try.func22 rfl (by simp) fun Γ hn => ?_); simp only [entry, List.zipIdx_cons, List.zipIdx_nil, List.map_cons, List.map_nil, Nat.zero_add, Try.ntmps22]
    simp only [mbox, inss, vars] at h0 ⊢
    refine V_len (x := 1) rfl fun hl => ?_
    simp at hl
    repeat' (first
    | (refine H_cons ?_; simp [hcd, h0, h1, hi, hi1, hin1, hin', hn1, hn2, hrs, hrl, allU2_stk, mbox])
    | (refine HD_cons ?_; simp [hcd, h0, h1, hi, hi1, hin1, hin', hn1, hn2, hrs, hrl, allU2_stk, mbox])
    | (refine H_nil ?_; simp [hcd, h0, h1, hi, hi1, hin1, hin', hn1, hn2, hrs, hrl, allU2_stk, mbox])
    | (refine ⟨by omega, ?_⟩)
    | (refine V_sseq ?_; simp [hcd, h0, h1, hi, hi1, hin1, hin', hn1, hn2, hrs, hrl, allU2_stk, mbox])
    | (refine V_scond ?_; simp [hcd, h0, h1, hi, hi1, hin1, hin', hn1, hn2, hrs, hrl, allU2_stk, mbox])
    | (refine HD_nil ?_)
    | (refine hk _ ?_; clear hk k; simp only [RunK])
    | (refine V_drawV rfl (by kernel_rfl) (by kernel_rfl) fun k hk => ?_; simp [hcd, h0, h1, hi, hi1, hin1, hin', hn1, hn2, hrs, hrl, allU2_stk, mbox])
    | (refine HD_guard rfl (by simp [hcd, h0, h1, hi, hi1, hin1, hin', hn1, hn2, hrs, hrl, allU2_stk, mbox]) (fun hc => ?_) (fun hc => ?_) <;> (try simp [hcd, h0, h1, hi, hi1, hin1, hin', hn1, hn2, hrs, hrl, allU2_stk, mbox] at hc) <;> (try (exfalso; omega)) <;> (try simp [hcd, h0, h1, hi, hi1, hin1, hin', hn1, hn2, hrs, hrl, allU2_stk, mbox]))
    | (refine V_sblock ?_; simp [hcd, h0, h1, hi, hi1, hin1, hin', hn1, hn2, hrs, hrl, allU2_stk, mbox])
    | (refine V_sregion ?_; simp [hcd, h0, h1, hi, hi1, hin1, hin', hn1, hn2, hrs, hrl, allU2_stk, mbox])
    | (refine V_ret ?_; simp only [RunK])
    | (refine V_skip ?_; simp only [RunK])
    | (refine ⟨?_, by omega⟩)
    | (refine ⟨fun hc => ?_, fun hc => ?_⟩ <;> (try (exfalso; omega)))
    | (intro hc <;> (try (exfalso; omega)))
    | (refine CallV.fun_ (needs_fun c.op) (by first | rfl | fail) (by first | assumption | (simp; done) | fail) (by first | (simp [hcd, h0, h1, hi, hi1, hin1, hin', hn1, hn2, hrs, hrl, allU2_stk, mbox]; done) | (simp [hcd, h0, h1, hi, hi1, hin1, hin', hn1, hn2, hrs, hrl, allU2_stk, mbox]; rfl) | fail) (by first | (simp; done) | fail) ?_ <;> (try simp [hcd, h0, h1, hi, hi1, hin1, hin', hn1, hn2, hrs, hrl, allU2_stk, mbox]))
    | (refine CallV.fun_ (hcf) (by first | rfl | fail) (by first | assumption | (simp; done) | fail) (by first | (simp [hcd, h0, h1, hi, hi1, hin1, hin', hn1, hn2, hrs, hrl, allU2_stk, mbox]; done) | (simp [hcd, h0, h1, hi, hi1, hin1, hin', hn1, hn2, hrs, hrl, allU2_stk, mbox]; rfl) | fail) (by first | (simp; done) | fail) ?_ <;> (try simp [hcd, h0, h1, hi, hi1, hin1, hin', hn1, hn2, hrs, hrl, allU2_stk, mbox]))
    | (refine CallP.fun_ (hif) (by first | rfl | fail) (by first | assumption | (simp; done) | fail) (by first | (simp [hcd, h0, h1, hi, hi1, hin1, hin', hn1, hn2, hrs, hrl, allU2_stk, mbox]; done) | (simp [hcd, h0, h1, hi, hi1, hin1, hin', hn1, hn2, hrs, hrl, allU2_stk, mbox]; rfl) | fail) (by first | (simp; done) | fail) (fun d hd => ?_); subst hd; (try simp [hcd, h0, h1, hi, hi1, hin1, hin', hn1, hn2, hrs, hrl, allU2_stk, mbox]))
    | (refine CallP.fun_ (truth_fun (decide (x = 0))) (by first | rfl | fail) (by first | assumption | (simp; done) | fail) (by first | (simp [hcd, h0, h1, hi, hi1, hin1, hin', hn1, hn2, hrs, hrl, allU2_stk, mbox]; done) | (simp [hcd, h0, h1, hi, hi1, hin1, hin', hn1, hn2, hrs, hrl, allU2_stk, mbox]; rfl) | fail) (by first | (simp; done) | fail) (fun d hd => ?_); subst hd; (try simp [hcd, h0, h1, hi, hi1, hin1, hin', hn1, hn2, hrs, hrl, allU2_stk, mbox]))
    | (refine CallP.fun_ (two_fun c.op y x hxv.1 hxv.2 (by omega)) (by first | rfl | fail) (by first | assumption | (simp; done) | fail) (by first | (simp [hcd, h0, h1, hi, hi1, hin1, hin', hn1, hn2, hrs, hrl, allU2_stk, mbox]; done) | (simp [hcd, h0, h1, hi, hi1, hin1, hin', hn1, hn2, hrs, hrl, allU2_stk, mbox]; rfl) | fail) (by first | (simp; done) | fail) (fun d hd => ?_); subst hd; (try simp [hcd, h0, h1, hi, hi1, hin1, hin', hn1, hn2, hrs, hrl, allU2_stk, mbox]))
    | (refine CallP.ret_ (end_ret _ _ _ _ _ _ _ _ _ (by first | (simp [hcd, h0, h1, hi, hi1, hin1, hin', hn1, hn2, hrs, hrl, allU2_stk]; done) | (simp [hcd, h0, h1, hi, hi1, hin1, hin', hn1, hn2, hrs, hrl, allU2_stk]; rfl))) (by rfl) (by first | assumption | simp) (by rfl) (by simp) ?_; rintro d o n' hn' ⟨hg, rfl⟩; (try simp at hn'); (try simp [hcd, h0, h1, hi, hi1, hin1, hin', hn1, hn2, hrs, hrl, allU2_stk, mbox]))
    | (refine CallP.ret_ (pop_ret _ _ _ (st.length + 1) x en va er i r hi (by first | (simp [hcd, h0, h1, hi, hi1, hin1, hin', hn1, hn2, hrs, hrl, allU2_stk]; done) | (simp [hcd, h0, h1, hi, hi1, hin1, hin', hn1, hn2, hrs, hrl, allU2_stk]; rfl)) (by first | (simp [hcd, h0, h1, hi, hi1, hin1, hin', hn1, hn2, hrs, hrl, allU2_stk]; done) | fail) (by assumption)) (by rfl) (by first | assumption | simp) (by rfl) (by simp) ?_; rintro d o n' hn' ⟨rfl, rfl, rfl⟩; (try simp at hn'); (try simp [hcd, h0, h1, hi, hi1, hin1, hin', hn1, hn2, hrs, hrl, allU2_stk, mbox]))
    | (refine CallP.ret_ (pop_ret _ _ _ (st.length) y en va er i r hi (by first | (simp [hcd, h0, h1, hi, hi1, hin1, hin', hn1, hn2, hrs, hrl, allU2_stk]; done) | (simp [hcd, h0, h1, hi, hi1, hin1, hin', hn1, hn2, hrs, hrl, allU2_stk]; rfl)) (by first | (simp [hcd, h0, h1, hi, hi1, hin1, hin', hn1, hn2, hrs, hrl, allU2_stk]; done) | fail) (by assumption)) (by rfl) (by first | assumption | simp) (by rfl) (by simp) ?_; rintro d o n' hn' ⟨rfl, rfl, rfl⟩; (try simp at hn'); (try simp [hcd, h0, h1, hi, hi1, hin1, hin', hn1, hn2, hrs, hrl, allU2_stk, mbox]))
    | (refine CallP.ret_ (push_ret ⟨pc, st ++ [y, x], en, va, er⟩ _ _ _ (by first | (simp; done) | (simp; omega)) (.inr ⟨i, r, hi, (by first | (simp; done) | (simp; omega)), hr, (by first | (simp [hcd, h0, h1, hi, hi1, hin1, hin', hn1, hn2, hrs, hrl, allU2_stk]; done) | (simp [hcd, h0, h1, hi, hi1, hin1, hin', hn1, hn2, hrs, hrl, allU2_stk]; rfl)), (by first | (simp [hcd, h0, h1, hi, hi1, hin1, hin', hn1, hn2, hrs, hrl, allU2_stk]; done) | fail)⟩) (by first | (simp; done) | (simp; omega)) (by first | (simp; done) | (simp; omega))) (by rfl) (by first | assumption | simp) (by rfl) (by simp) ?_; rintro d o n' hn' hg; (try simp at hn'); (try simp [hcd, h0, h1, hi, hi1, hin1, hin', hn1, hn2, hrs, hrl, allU2_stk, mbox]))
    | (refine CallP.ret_ (push_ret ⟨pc, st ++ [y], en, va, er⟩ _ _ _ (by first | (simp; done) | (simp; omega)) (.inr ⟨i, r, hi, (by first | (simp; done) | (simp; omega)), hr2, (by first | (simp [hcd, h0, h1, hi, hi1, hin1, hin', hn1, hn2, hrs, hrl, allU2_stk]; done) | (simp [hcd, h0, h1, hi, hi1, hin1, hin', hn1, hn2, hrs, hrl, allU2_stk]; rfl)), (by first | (simp [hcd, h0, h1, hi, hi1, hin1, hin', hn1, hn2, hrs, hrl, allU2_stk]; done) | fail)⟩) (by first | (simp; done) | (simp; omega)) (by first | (simp; done) | (simp; omega))) (by rfl) (by first | assumption | simp) (by rfl) (by simp) ?_; rintro d o n' hn' hg; (try simp at hn'); (try simp [hcd, h0, h1, hi, hi1, hin1, hin', hn1, hn2, hrs, hrl, allU2_stk, mbox]))
    | (refine CallP.ret_ (push_ret ⟨pc, st, en, va, er⟩ _ _ _ (by first | (simp; done) | (simp; omega)) (.inr ⟨i, r, hi, (by first | (simp; done) | (simp; omega)), hr1, (by first | (simp [hcd, h0, h1, hi, hi1, hin1, hin', hn1, hn2, hrs, hrl, allU2_stk]; done) | (simp [hcd, h0, h1, hi, hi1, hin1, hin', hn1, hn2, hrs, hrl, allU2_stk]; rfl)), (by first | (simp [hcd, h0, h1, hi, hi1, hin1, hin', hn1, hn2, hrs, hrl, allU2_stk]; done) | fail)⟩) (by first | (simp; done) | (simp; omega)) (by first | (simp; done) | (simp; omega))) (by rfl) (by first | assumption | simp) (by rfl) (by simp) ?_; rintro d o n' hn' hg; (try simp at hn'); (try simp [hcd, h0, h1, hi, hi1, hin1, hin', hn1, hn2, hrs, hrl, allU2_stk, mbox]))
    | fail)
    all_goals
      (first | (refine EndOK.fin (.inr rfl) ?_) | (refine EndOK.fin (.inl rfl) ?_)); simp [resD, oneOrTup, Try.results22]
      refine FinOK.here (by simp <;> omega) ?_
      rw [hst]
    · rw [if_neg (by simp [hany] <;> omega), stepI, if_pos ‹c.op = 0›]
      exact hg
    · rw [if_neg (by simp [hany] <;> omega), stepI, if_neg ‹¬c.op = 0›, if_pos ‹c.op = 1›, hfd]
      exact .inl ⟨rfl, hg⟩
    · rw [if_neg (by simp [hany] <;> omega), stepI, if_neg ‹¬c.op = 0›, if_neg ‹¬c.op = 1›, if_pos ‹c.op = 12›]
      exact .inr ⟨i, r, hi, by simp <;> omega, hr, by simp [mbox, hcd, h0, h1, hi, hi1, hin1, hin', hn1, hn2, hrs, hrl, allU2_stk], by simp [hcd, h0, h1, hi, hi1, hin1, hin', hn1, hn2, hrs, hrl, allU2_stk]⟩
    · rw [if_neg (by simp [hany] <;> omega), stepI, if_neg ‹¬c.op = 0›, if_neg ‹¬c.op = 1›, if_neg ‹¬c.op = 12›, if_pos ‹c.op = 13›, htop, hdrop, if_pos ‹x = 0›]
      exact .inr ⟨i, r, hi, by simp <;> omega, hr2, by simp [mbox, hcd, h0, h1, hi, hi1, hin1, hin', hn1, hn2, hrs, hrl, allU2_stk], by simp [hcd, h0, h1, hi, hi1, hin1, hin', hn1, hn2, hrs, hrl, allU2_stk]⟩
    · rw [if_neg (by simp [hany] <;> omega), stepI, if_neg ‹¬c.op = 0›, if_neg ‹¬c.op = 1›, if_neg ‹¬c.op = 12›, if_pos ‹c.op = 13›, htop, hdrop, if_neg ‹¬x = 0›]
      exact .inr ⟨i, r, hi, by simp <;> omega, hr2, by simp [mbox, hcd, h0, h1, hi, hi1, hin1, hin', hn1, hn2, hrs, hrl, allU2_stk], by simp [hcd, h0, h1, hi, hi1, hin1, hin', hn1, hn2, hrs, hrl, allU2_stk]⟩
    · rw [if_neg (by simp [hany] <;> omega), stepI, if_neg ‹¬c.op = 0›, if_neg ‹¬c.op = 1›, if_neg ‹¬c.op = 12›, if_neg ‹¬c.op = 13›, if_pos ‹c.op = 14›, htop]
      exact .inl ⟨rfl, hg⟩
    · rw [if_neg (by simp [hany] <;> omega), stepI, if_neg ‹¬c.op = 0›, if_neg ‹¬c.op = 1›, if_neg ‹¬c.op = 12›, if_neg ‹¬c.op = 13›, if_neg ‹¬c.op = 14›, if_pos ‹c.op = 11›, htop, hdrop]
      simp only [Pm.truth, decide_eq_true_eq]
      exact hg
    · rw [if_neg (by simp [hany] <;> omega), stepI, if_neg ‹¬c.op = 0›, if_neg ‹¬c.op = 1›, if_neg ‹¬c.op = 12›, if_neg ‹¬c.op = 13›, if_neg ‹¬c.op = 14›, if_neg ‹¬c.op = 11›, htop, if_pos (by omega)]
      exact .inl ⟨rfl, hg⟩
    all_goals first
      | (rw [if_neg (by simp [hany] <;> omega), stepI, if_neg ‹¬c.op = 0›, if_neg ‹¬c.op = 1›, if_neg ‹¬c.op = 12›, if_neg ‹¬c.op = 13›, if_neg ‹¬c.op = 14›, if_neg ‹¬c.op = 11›, htop, htop1, hdrop2, if_neg (by omega)]; exact hg)
      | (rw [if_pos (by simp [hany] <;> omega)]; exact .inl ⟨rfl, hg⟩)
  · rw [hix] at hif
    have hj0 : (0 : Int) ≤ j := by omega
    (refine Ret.of_body Try.func22 rfl (by simp) fun Γ hn => ?_); simp only [entry, List.zipIdx_cons, List.zipIdx_nil, List.map_cons, List.map_nil, Nat.zero_add, Try.ntmps22]
    simp only [mbox, inss, vars] at h0 ⊢
    refine V_len (x := 1) rfl fun hl => ?_
    simp at hl
    repeat' (first
    | (refine H_cons ?_; simp [hcd, h0, h1, hi, hi1, hin1, hin', hn1, hn2, hrs, hrl, allU2_stk, mbox, hj])
    | (refine HD_cons ?_; simp [hcd, h0, h1, hi, hi1, hin1, hin', hn1, hn2, hrs, hrl, allU2_stk, mbox, hj])
    | (refine H_nil ?_; simp [hcd, h0, h1, hi, hi1, hin1, hin', hn1, hn2, hrs, hrl, allU2_stk, mbox, hj])
    | (refine ⟨by omega, ?_⟩)
    | (refine V_sseq ?_; simp [hcd, h0, h1, hi, hi1, hin1, hin', hn1, hn2, hrs, hrl, allU2_stk, mbox, hj])
    | (refine V_scond ?_; simp [hcd, h0, h1, hi, hi1, hin1, hin', hn1, hn2, hrs, hrl, allU2_stk, mbox, hj])
    | (refine HD_nil ?_)
    | (refine hk _ ?_; clear hk k; simp only [RunK])
    | (refine V_drawV rfl (by kernel_rfl) (by kernel_rfl) fun k hk => ?_; simp [hcd, h0, h1, hi, hi1, hin1, hin', hn1, hn2, hrs, hrl, allU2_stk, mbox, hj])
    | (refine HD_guard rfl (by simp [hcd, h0, h1, hi, hi1, hin1, hin', hn1, hn2, hrs, hrl, allU2_stk, mbox, hj]) (fun hc => ?_) (fun hc => ?_) <;> (try simp [hcd, h0, h1, hi, hi1, hin1, hin', hn1, hn2, hrs, hrl, allU2_stk, mbox, hj] at hc) <;> (try (exfalso; omega)) <;> (try simp [hcd, h0, h1, hi, hi1, hin1, hin', hn1, hn2, hrs, hrl, allU2_stk, mbox, hj]))
    | (refine V_sblock ?_; simp [hcd, h0, h1, hi, hi1, hin1, hin', hn1, hn2, hrs, hrl, allU2_stk, mbox, hj])
    | (refine V_sregion ?_; simp [hcd, h0, h1, hi, hi1, hin1, hin', hn1, hn2, hrs, hrl, allU2_stk, mbox, hj])
    | (refine V_ret ?_; simp only [RunK])
    | (refine V_skip ?_; simp only [RunK])
    | (refine ⟨?_, by omega⟩)
    | (refine ⟨fun hc => ?_, fun hc => ?_⟩ <;> (try (exfalso; omega)))
    | (intro hc <;> (try (exfalso; omega)))
    | (refine CallV.fun_ (needs_fun c.op) (by first | rfl | fail) (by first | assumption | (simp; done) | fail) (by first | (simp [hcd, h0, h1, hi, hi1, hin1, hin', hn1, hn2, hrs, hrl, allU2_stk, mbox, hj]; done) | (simp [hcd, h0, h1, hi, hi1, hin1, hin', hn1, hn2, hrs, hrl, allU2_stk, mbox, hj]; rfl) | fail) (by first | (simp; done) | fail) ?_ <;> (try simp [hcd, h0, h1, hi, hi1, hin1, hin', hn1, hn2, hrs, hrl, allU2_stk, mbox, hj]))
    | (refine CallV.fun_ (hcf) (by first | rfl | fail) (by first | assumption | (simp; done) | fail) (by first | (simp [hcd, h0, h1, hi, hi1, hin1, hin', hn1, hn2, hrs, hrl, allU2_stk, mbox, hj]; done) | (simp [hcd, h0, h1, hi, hi1, hin1, hin', hn1, hn2, hrs, hrl, allU2_stk, mbox, hj]; rfl) | fail) (by first | (simp; done) | fail) ?_ <;> (try simp [hcd, h0, h1, hi, hi1, hin1, hin', hn1, hn2, hrs, hrl, allU2_stk, mbox, hj]))
    | (refine CallP.fun_ (hif) (by first | rfl | fail) (by first | assumption | (simp; done) | fail) (by first | (simp [hcd, h0, h1, hi, hi1, hin1, hin', hn1, hn2, hrs, hrl, allU2_stk, mbox, hj]; done) | (simp [hcd, h0, h1, hi, hi1, hin1, hin', hn1, hn2, hrs, hrl, allU2_stk, mbox, hj]; rfl) | fail) (by first | (simp; done) | fail) (fun d hd => ?_); subst hd; (try simp [hcd, h0, h1, hi, hi1, hin1, hin', hn1, hn2, hrs, hrl, allU2_stk, mbox, hj]))
    | (refine CallP.fun_ (truth_fun (decide (x = 0))) (by first | rfl | fail) (by first | assumption | (simp; done) | fail) (by first | (simp [hcd, h0, h1, hi, hi1, hin1, hin', hn1, hn2, hrs, hrl, allU2_stk, mbox, hj]; done) | (simp [hcd, h0, h1, hi, hi1, hin1, hin', hn1, hn2, hrs, hrl, allU2_stk, mbox, hj]; rfl) | fail) (by first | (simp; done) | fail) (fun d hd => ?_); subst hd; (try simp [hcd, h0, h1, hi, hi1, hin1, hin', hn1, hn2, hrs, hrl, allU2_stk, mbox, hj]))
    | (refine CallP.fun_ (two_fun c.op y x hxv.1 hxv.2 (by omega)) (by first | rfl | fail) (by first | assumption | (simp; done) | fail) (by first | (simp [hcd, h0, h1, hi, hi1, hin1, hin', hn1, hn2, hrs, hrl, allU2_stk, mbox, hj]; done) | (simp [hcd, h0, h1, hi, hi1, hin1, hin', hn1, hn2, hrs, hrl, allU2_stk, mbox, hj]; rfl) | fail) (by first | (simp; done) | fail) (fun d hd => ?_); subst hd; (try simp [hcd, h0, h1, hi, hi1, hin1, hin', hn1, hn2, hrs, hrl, allU2_stk, mbox, hj]))
    | (refine CallP.ret_ (end_ret _ _ _ _ _ _ _ _ _ (by first | (simp [hcd, h0, h1, hi, hi1, hin1, hin', hn1, hn2, hrs, hrl, allU2_stk]; done) | (simp [hcd, h0, h1, hi, hi1, hin1, hin', hn1, hn2, hrs, hrl, allU2_stk]; rfl))) (by rfl) (by first | assumption | simp) (by rfl) (by simp) ?_; rintro d o n' hn' ⟨hg, rfl⟩; (try simp at hn'); (try simp [hcd, h0, h1, hi, hi1, hin1, hin', hn1, hn2, hrs, hrl, allU2_stk, mbox, hj]))
    | (refine CallP.ret_ (pop_ret _ _ _ (st.length + 1) x en va er i r hi (by first | (simp [hcd, h0, h1, hi, hi1, hin1, hin', hn1, hn2, hrs, hrl, allU2_stk]; done) | (simp [hcd, h0, h1, hi, hi1, hin1, hin', hn1, hn2, hrs, hrl, allU2_stk]; rfl)) (by first | (simp [hcd, h0, h1, hi, hi1, hin1, hin', hn1, hn2, hrs, hrl, allU2_stk]; done) | fail) (by assumption)) (by rfl) (by first | assumption | simp) (by rfl) (by simp) ?_; rintro d o n' hn' ⟨rfl, rfl, rfl⟩; (try simp at hn'); (try simp [hcd, h0, h1, hi, hi1, hin1, hin', hn1, hn2, hrs, hrl, allU2_stk, mbox, hj]))
    | (refine CallP.ret_ (pop_ret _ _ _ (st.length) y en va er i r hi (by first | (simp [hcd, h0, h1, hi, hi1, hin1, hin', hn1, hn2, hrs, hrl, allU2_stk]; done) | (simp [hcd, h0, h1, hi, hi1, hin1, hin', hn1, hn2, hrs, hrl, allU2_stk]; rfl)) (by first | (simp [hcd, h0, h1, hi, hi1, hin1, hin', hn1, hn2, hrs, hrl, allU2_stk]; done) | fail) (by assumption)) (by rfl) (by first | assumption | simp) (by rfl) (by simp) ?_; rintro d o n' hn' ⟨rfl, rfl, rfl⟩; (try simp at hn'); (try simp [hcd, h0, h1, hi, hi1, hin1, hin', hn1, hn2, hrs, hrl, allU2_stk, mbox, hj]))
    | (refine CallP.ret_ (push_ret ⟨pc, st ++ [y, x], en, va, er⟩ _ _ _ (by first | (simp; done) | (simp; omega)) (.inr ⟨i, r, hi, (by first | (simp; done) | (simp; omega)), hr, (by first | (simp [hcd, h0, h1, hi, hi1, hin1, hin', hn1, hn2, hrs, hrl, allU2_stk]; done) | (simp [hcd, h0, h1, hi, hi1, hin1, hin', hn1, hn2, hrs, hrl, allU2_stk]; rfl)), (by first | (simp [hcd, h0, h1, hi, hi1, hin1, hin', hn1, hn2, hrs, hrl, allU2_stk]; done) | fail)⟩) (by first | (simp; done) | (simp; omega)) (by first | (simp; done) | (simp; omega))) (by rfl) (by first | assumption | simp) (by rfl) (by simp) ?_; rintro d o n' hn' hg; (try simp at hn'); (try simp [hcd, h0, h1, hi, hi1, hin1, hin', hn1, hn2, hrs, hrl, allU2_stk, mbox, hj]))
    | (refine CallP.ret_ (push_ret ⟨pc, st ++ [y], en, va, er⟩ _ _ _ (by first | (simp; done) | (simp; omega)) (.inr ⟨i, r, hi, (by first | (simp; done) | (simp; omega)), hr2, (by first | (simp [hcd, h0, h1, hi, hi1, hin1, hin', hn1, hn2, hrs, hrl, allU2_stk]; done) | (simp [hcd, h0, h1, hi, hi1, hin1, hin', hn1, hn2, hrs, hrl, allU2_stk]; rfl)), (by first | (simp [hcd, h0, h1, hi, hi1, hin1, hin', hn1, hn2, hrs, hrl, allU2_stk]; done) | fail)⟩) (by first | (simp; done) | (simp; omega)) (by first | (simp; done) | (simp; omega))) (by rfl) (by first | assumption | simp) (by rfl) (by simp) ?_; rintro d o n' hn' hg; (try simp at hn'); (try simp [hcd, h0, h1, hi, hi1, hin1, hin', hn1, hn2, hrs, hrl, allU2_stk, mbox, hj]))
    | (refine CallP.ret_ (push_ret ⟨pc, st, en, va, er⟩ _ _ _ (by first | (simp; done) | (simp; omega)) (.inr ⟨i, r, hi, (by first | (simp; done) | (simp; omega)), hr1, (by first | (simp [hcd, h0, h1, hi, hi1, hin1, hin', hn1, hn2, hrs, hrl, allU2_stk]; done) | (simp [hcd, h0, h1, hi, hi1, hin1, hin', hn1, hn2, hrs, hrl, allU2_stk]; rfl)), (by first | (simp [hcd, h0, h1, hi, hi1, hin1, hin', hn1, hn2, hrs, hrl, allU2_stk]; done) | fail)⟩) (by first | (simp; done) | (simp; omega)) (by first | (simp; done) | (simp; omega))) (by rfl) (by first | assumption | simp) (by rfl) (by simp) ?_; rintro d o n' hn' hg; (try simp at hn'); (try simp [hcd, h0, h1, hi, hi1, hin1, hin', hn1, hn2, hrs, hrl, allU2_stk, mbox, hj]))
    | fail)
    all_goals
      (first | (refine EndOK.fin (.inr rfl) ?_) | (refine EndOK.fin (.inl rfl) ?_)); simp [resD, oneOrTup, Try.results22]
      refine FinOK.here (by simp <;> omega) ?_
      rw [hst]
    · rw [if_neg (by simp [hany] <;> omega), stepI, if_pos ‹c.op = 0›]
      exact hg
    · rw [if_neg (by simp [hany] <;> omega), stepI, if_neg ‹¬c.op = 0›, if_pos ‹c.op = 1›, hfd]
      exact hg
    · rw [if_neg (by simp [hany] <;> omega), stepI, if_neg ‹¬c.op = 0›, if_neg ‹¬c.op = 1›, if_pos ‹c.op = 12›]
      exact .inr ⟨i, r, hi, by simp <;> omega, hr, by simp [mbox, hcd, h0, h1, hi, hi1, hin1, hin', hn1, hn2, hrs, hrl, allU2_stk], by simp [hcd, h0, h1, hi, hi1, hin1, hin', hn1, hn2, hrs, hrl, allU2_stk]⟩
    · rw [if_neg (by simp [hany] <;> omega), stepI, if_neg ‹¬c.op = 0›, if_neg ‹¬c.op = 1›, if_neg ‹¬c.op = 12›, if_pos ‹c.op = 13›, htop, hdrop, if_pos ‹x = 0›]
      exact .inr ⟨i, r, hi, by simp <;> omega, hr2, by simp [mbox, hcd, h0, h1, hi, hi1, hin1, hin', hn1, hn2, hrs, hrl, allU2_stk], by simp [hcd, h0, h1, hi, hi1, hin1, hin', hn1, hn2, hrs, hrl, allU2_stk]⟩
    · rw [if_neg (by simp [hany] <;> omega), stepI, if_neg ‹¬c.op = 0›, if_neg ‹¬c.op = 1›, if_neg ‹¬c.op = 12›, if_pos ‹c.op = 13›, htop, hdrop, if_neg ‹¬x = 0›]
      exact .inr ⟨i, r, hi, by simp <;> omega, hr2, by simp [mbox, hcd, h0, h1, hi, hi1, hin1, hin', hn1, hn2, hrs, hrl, allU2_stk], by simp [hcd, h0, h1, hi, hi1, hin1, hin', hn1, hn2, hrs, hrl, allU2_stk]⟩
    · rw [if_neg (by simp [hany] <;> omega), stepI, if_neg ‹¬c.op = 0›, if_neg ‹¬c.op = 1›, if_neg ‹¬c.op = 12›, if_neg ‹¬c.op = 13›, if_pos ‹c.op = 14›, htop]
      exact .inl ⟨rfl, hg⟩
    · rw [if_neg (by simp [hany] <;> omega), stepI, if_neg ‹¬c.op = 0›, if_neg ‹¬c.op = 1›, if_neg ‹¬c.op = 12›, if_neg ‹¬c.op = 13›, if_neg ‹¬c.op = 14›, if_pos ‹c.op = 11›, htop, hdrop]
      simp only [Pm.truth, decide_eq_true_eq]
      exact hg
    · rw [if_neg (by simp [hany] <;> omega), stepI, if_neg ‹¬c.op = 0›, if_neg ‹¬c.op = 1›, if_neg ‹¬c.op = 12›, if_neg ‹¬c.op = 13›, if_neg ‹¬c.op = 14›, if_neg ‹¬c.op = 11›, htop, if_pos (by omega)]
      exact .inl ⟨rfl, hg⟩
    all_goals first
      | (rw [if_neg (by simp [hany] <;> omega), stepI, if_neg ‹¬c.op = 0›, if_neg ‹¬c.op = 1›, if_neg ‹¬c.op = 12›, if_neg ‹¬c.op = 13›, if_neg ‹¬c.op = 14›, if_neg ‹¬c.op = 11›, htop, htop1, hdrop2, if_neg (by omega)]; exact hg)
      | (rw [if_pos (by simp [hany] <;> omega)]; exact .inl ⟨rfl, hg⟩)

/-- No instruction lies there. -/
theorem step_out (code : List Ins) (vs : List Var) (m : Mach) (o : List (Nat × Ob)) (nx : Nat) (hp : m.pc < 0 ∨ (code.length : Int) ≤ m.pc) (h : MOb m o nx) :
    Ret Try.prog 22 [.ptr 0 0, .u (inss code), .u (vars vs)] o nx (fun _ o n => MOb (stepM code vs m) o n) := by
  obtain ⟨pc, st, en, va, er⟩ := m
  simp only at hp
  have h0 : ∃ sd, getK o 0 = some (mbox pc sd en va er) := by
    rcases h with ⟨h1, h2⟩ | ⟨i, r, h1, h2, h3, h4, h5⟩
    · exact ⟨_, h2⟩
    · exact ⟨_, h4⟩
  obtain ⟨sd, h0⟩ := h0
  have hst : stepM code vs ⟨pc, st, en, va, er⟩ = Mach.fin ⟨pc, st, en, va, er⟩ 0 2 := by
    unfold stepM
    by_cases h : pc < 0
    · rw [if_pos h]
    · rw [if_neg h, show code[pc.toNat]? = none by rw [List.getElem?_eq_none_iff]; omega]
  rw [hst]
  (refine Ret.of_body Try.func22 rfl (by simp) fun Γ hn => ?_); simp only [entry, List.zipIdx_cons, List.zipIdx_nil, List.map_cons, List.map_nil, Nat.zero_add, Try.ntmps22]
  simp only [mbox, inss, vars] at h0 ⊢
  repeat' (first
    | (refine H_cons ?_; simp [h0])
    | (refine H_nil ?_; simp [h0])
    | (refine V_sseq ?_; simp [h0])
    | (refine V_scond ?_; simp [h0])
    | (refine V_ret ?_; simp only [RunK])
    | (refine ⟨?_, by omega⟩)
    | (refine ⟨fun hc => ?_, fun hc => ?_⟩ <;> (try (exfalso; omega)))
    | (intro hc <;> (try (exfalso; omega)))
    | (refine CallP.ret_ (end_ret _ _ _ _ _ _ _ _ _ (by first | (simp [h0]; done) | (simp [h0]; rfl))) (by rfl) (by first | assumption | simp) (by rfl) (by simp) ?_; rintro d o n' hn' ⟨hg, rfl⟩; (try simp at hn'); (try simp [h0]))
    | fail)
  all_goals
    (first | (refine EndOK.fin (.inr rfl) ?_) | (refine EndOK.fin (.inl rfl) ?_)); simp [resD, oneOrTup, Try.results22]
    refine FinOK.here (by first | (simp; done) | (simp; omega)) ?_
    exact .inl ⟨rfl, hg⟩
theorem step_ret (code : List Ins) (vs : List Var) (m : Mach) (o : List (Nat × Ob)) (nx : Nat) (hnx : 0 < nx) (h : MOb m o nx) (hlen : m.stack.length < 100000) :
    Ret Try.prog 22 [.ptr 0 0, .u (inss code), .u (vars vs)] o nx (fun _ o n => MOb (stepM code vs m) o n) := by
  by_cases hp : m.pc < 0 ∨ (code.length : Int) ≤ m.pc
  · exact step_out code vs m o nx hp h
  · obtain ⟨pc, st, en, va, er⟩ := m
    simp only [not_or, Int.not_lt, Int.not_le] at hp hlen
    have hpc : 0 ≤ pc := hp.1
    obtain ⟨c, hcd⟩ : ∃ c, code[pc.toNat]? = some c := ⟨code[pc.toNat]'(by omega), List.getElem?_eq_getElem _⟩
    rcases h with ⟨h1, h2⟩ | ⟨i, r, h1, h2, h3, h4, h5⟩
    · simp only at h1
      subst h1
      exact step_nil code vs pc en va er c o nx hnx hpc hcd h2
    · simp only at h3 h4
      cases hany : (st.any fun n => !okv n) with
      | true => exact step_any code vs pc en va er c o nx i r st hpc hcd h1 h2 h3 hany hlen h4 h5
      | false =>
        rcases List.eq_nil_or_concat st with rfl | ⟨s1, x, rfl⟩
        · exact step_0 code vs pc en va er c o nx i r hpc hcd h1 h2 h3 hany hlen h4 h5
        · rcases List.eq_nil_or_concat s1 with rfl | ⟨s2, y, rfl⟩
          · exact step_1 code vs pc en va er c o nx i r x hpc hcd h1 h2 h3 hany hlen h4 h5
          · have e : (s2 ++ [y]) ++ [x] = s2 ++ [y, x] := by simp
            simp only [List.concat_eq_append] at h3 h4 hany hlen ⊢
            rw [e] at h3 h4 hany hlen ⊢
            exact step_2 code vs pc en va er c o nx i r s2 y x hpc hcd h1 h2 h3 hany hlen h4 h5
end Go.Proofs.Ytmoohdpnmkkgpaa.Vm
namespace Go.Proofs.Ytmoohdpnmkkgpaa.Vm
open Go Go.VL
/-- k more steps, of which n are done. -/
def runK (code : List Ins) (vs : List Var) (fuel : Int) : Nat → Int → Mach → Int × Int × Int
  | 0, _, _ => (0, fuel, 16)
  | k + 1, n, m => let m' := stepM code vs m
    if m'.en then (m'.va, n + 1, m'.er) else runK code vs fuel k (n + 1) m'
def run0 : Mach := ⟨0, [], false, 0, 0⟩
def runM (code : List Ins) (vs : List Var) (fuel : Int) : Int × Int × Int :=
  if fuel < 0 ∨ 100000 < fuel then (0, 0, 1) else runK code vs fuel fuel.toNat 0 run0
theorem Mach.push_len (m : Mach) (x : Int) : (m.push x).stack.length ≤ m.stack.length + 1 := by
  unfold Mach.push Mach.fin
  split <;> simp
theorem Mach.drop_len (m : Mach) (k : Nat) : (m.drop k).stack.length ≤ m.stack.length := by
  simp [Mach.drop]
theorem stepI_len (vs : List Var) (m : Mach) (c : Ins) : (stepI vs m c).stack.length ≤ m.stack.length + 1 := by
  have h1 := Mach.drop_len m 1
  have h2 := Mach.drop_len m 2
  have h3 := Mach.push_len (m.drop 1) (Pm.truth (decide (m.top 0 = 0)))
  have h4 := Mach.push_len (m.drop 2) (Pm.two c.op (m.top 1) (m.top 0))
  unfold stepI
  split
  · exact Mach.push_len _ _
  split
  · split
    · simp [Mach.fin]
    · exact Mach.push_len _ _
  split
  · simp
  split
  · simp only
    omega
  split
  · simp [Mach.fin]
  split
  · omega
  split
  · simp [Mach.fin]
  · omega
theorem stepM_len (code : List Ins) (vs : List Var) (m : Mach) : (stepM code vs m).stack.length ≤ m.stack.length + 1 := by
  unfold stepM
  split
  · simp [Mach.fin]
  split
  · simp [Mach.fin]
  split
  · simp [Mach.fin]
  · exact stepI_len _ _ _
/-- Where a run stands: the steps done, the machine, its stack's rows. -/
structure RunAt (code : List Ins) (vs : List Var) (fuel : Int) where
  n : Nat
  m : Mach
  rows : Option (List Int)
  hn : (n : Int) ≤ fuel
  hlen : m.stack.length ≤ n
  hrun : runK code vs fuel (fuel.toNat - n) n m = runK code vs fuel fuel.toNat 0 run0
  hrows : match rows with | none => m.stack = [] | some r => r.take m.stack.length = m.stack
def RunAt.obs {code vs fuel} (x : RunAt code vs fuel) : List (Nat × Ob) :=
  match x.rows with
  | none => [(0, mbox x.m.pc (.u .nil) x.m.en x.m.va x.m.er)]
  | some r => [(0, mbox x.m.pc (.vec 1 x.m.stack.length) x.m.en x.m.va x.m.er), (1, .vec 3 1 (stk r))]
theorem RunAt.mob {code vs fuel} (x : RunAt code vs fuel) : MOb x.m x.obs 2 := by
  obtain ⟨n, m, rows, h1, h2, h3, h4⟩ := x
  cases rows with
  | none => exact .inl ⟨h4, rfl⟩
  | some r => exact .inr ⟨1, r, by omega, by omega, h4, rfl, rfl⟩
attribute [local simp] hcons hstep evPure opd uOf putOK St.put St.at getK binD binI binS binB nilD aggD eqUs cmpK lookD lookR rangeD Go.VL.nextD entryD keyD valU keyU lookK mkV entD_nil lookK_entD updK_entD1 updK_entD3 allUE allUE_entD makeMapD mapUpdD mapEff updK valM Key.kk shiftI arith unD convD pickD loadD cellsAt fieldAddrD fieldD indexAddrD indexD sliceD cutD lenD minmaxD nilCheckD buildD fillD cellsD isOne ones setAll mkAgg allU allocD boxD storeD St.add buildSliceD appendD rowsOf makeD setOb getK_setOb getK_del getK_cons stripL strip guardTmp entry chunks zcells valD argsV argsW argW argU1 argU0 argsU0 argsU1 calleeOf scalarD scalarU delAll effD St.effS RK_seq RK_seq_ret RK_seq_exit RK_blk RK_blk_ret RK_blk_exit RK_loop RK_loop_ret RK_loop_exit RK_done vs_seq vs_block vs_cond vs_region vs_loop vs_draw applyW mkD rdIds lentIds callOf calleeOf freeOp D.ids Op.operands Call.operands isEffOp makeIfD typeAssertD conc concs conc1 uOfV panicD IntKind.bits allU2 List.take_of_length_le List.range_succ
attribute [local irreducible] V G H HD HD2 RunK Eff CallP CallV EndOK Fun Ret FinOK LoopI LoopW EndW
theorem run_fun (code : List Ins) (vs : List Var) (fuel : Int) : Fun Try.prog 10 [.u (inss code), .u (vars vs), .u (.int .i64 fuel)]
    (· = .tup [.u (.int .i64 (runM code vs fuel).1), .u (.int .i64 (runM code vs fuel).2.1), .u (.int .i64 (runM code vs fuel).2.2)]) := by
  (refine Fun.of_body Try.func10 rfl (by simp) fun Γ hn => ?_); simp only [entry, List.zipIdx_cons, List.zipIdx_nil, List.map_cons, List.map_nil, Nat.zero_add, Try.ntmps10]
  by_cases hf : fuel < 0 ∨ 100000 < fuel
  · have hr : runM code vs fuel = (0, 0, 1) := by unfold runM; rw [if_pos hf]
    rw [hr]
    rcases hf with hf | hf
    all_goals
      repeat' (first
    | (refine H_cons ?_; simp)
    | (refine H_nil ?_; simp)
    | (refine ⟨by omega, ?_⟩)
    | (refine V_sseq ?_; simp)
    | (refine V_scond ?_; simp)
    | (refine V_ret ?_; simp only [RunK])
    | (refine ⟨?_, by omega⟩)
    | (intro hc <;> (try (exfalso; omega)))
    | fail)
    all_goals
      (refine EndOK.val (.inr rfl) ?_; simp [resD, oneOrTup, pureD, Try.results10])
  · have hr : runM code vs fuel = runK code vs fuel fuel.toNat 0 run0 := by unfold runM; rw [if_neg hf]
    rw [hr]
    have hf0 : 0 ≤ fuel ∧ fuel ≤ 100000 := by omega
    repeat' (first
    | (refine H_cons ?_; simp)
    | (refine H_nil ?_; simp)
    | (refine ⟨by omega, ?_⟩)
    | (refine V_sseq ?_; simp)
    | (refine V_scond ?_; simp)
    | (refine V_sblock ?_; simp)
    | (refine V_skip ?_; simp only [RunK])
    | (refine ⟨?_, by omega⟩)
    | (intro hc <;> (try (exfalso; omega)))
    | fail)
    refine V_loop (α := RunAt code vs fuel)
      (fun x => { n := 34, env := [(0, .u (inss code)), (1, .u (vars vs)), (2, .u (.int .i64 fuel)), (9, .ptr 0 0), (17, .u (.int .i64 fuel)), (18, .u (.int .i64 x.n))], obs := x.obs, next := 2 })
      (fun x => fuel.toNat - x.n) ⟨0, run0, none, by omega, by simp [run0], by simp, rfl⟩ (fun i => i) ?_ ?_
    · (refine St.le_of rfl ?_ ?_ ?_ ?_ <;> simp [leEnv, leObs, leL, D.le, D.ren, D.under, hn, RunAt.obs, mbox, run0, Ob.under_box, Ob.le_id])
    intro x
    repeat' (first
    | (refine H_cons ?_; simp)
    | (refine H_nil ?_; simp)
    | (refine V_sseq ?_; simp)
    | (refine V_ret ?_; simp only [RunK])
    | (refine V_skip ?_; simp only [RunK])
    | (refine V_exit ?_; simp [RunK])
    | (refine ⟨fun hc => ?_, fun hc => ?_⟩ <;> (try (exfalso; omega)))
    | fail)
    · have hlt : (x.n : Int) < fuel := by assumption
      have hkk : fuel.toNat - x.n = (fuel.toNat - (x.n + 1)) + 1 := by omega
      have hrun := x.hrun
      rw [hkk, runK] at hrun
      have hl := stepM_len code vs x.m
      have hxl := x.hlen
      refine CallP.ret_ (step_ret code vs x.m x.obs 2 (by omega) x.mob (by omega)) (by rfl) (by simp) (by rfl) (by simp) ?_
      rintro d o n' hn' hg
      simp at hn'
      refine H_nil ?_
      simp
      generalize stepM code vs x.m = m' at hg hrun hl
      obtain ⟨pc, st, en, va, er⟩ := m'
      simp only at hrun hl
      rcases hg with ⟨h1, h0⟩ | ⟨i, r, h1, h2, h3, h0, h4⟩
      · simp only at h1 h0
        subst h1
        cases en with
        | true =>
          rw [if_pos rfl] at hrun
          repeat' (first
    | (refine H_cons ?_; simp [h0, mbox])
    | (refine HD_cons ?_; simp [h0, mbox])
    | (refine H_nil ?_; simp [h0, mbox])
    | (refine ⟨by omega, ?_⟩)
    | (refine V_sseq ?_; simp [h0, mbox])
    | (refine V_scond ?_; simp [h0, mbox])
    | (refine HD_nil ?_)
    | (refine hk _ ?_; clear hk k; simp only [RunK])
    | (refine V_drawV rfl (by kernel_rfl) (by kernel_rfl) fun k hk => ?_; simp [h0, mbox])
    | (refine V_ret ?_; simp only [RunK])
    | fail)
          (refine EndOK.val (.inr rfl) ?_; simp [resD, oneOrTup, pureD, Try.results10])
          rw [← hrun]
          simp
        | false =>
          rw [if_neg (by simp)] at hrun
          repeat' (first
    | (refine H_cons ?_; simp [h0, mbox])
    | (refine H_nil ?_; simp [h0, mbox])
    | (refine ⟨by omega, ?_⟩)
    | (refine V_sseq ?_; simp [h0, mbox])
    | (refine V_scond ?_; simp [h0, mbox])
    | (refine V_sregion ?_; simp [h0, mbox])
    | (refine V_skip ?_; simp only [RunK])
    | fail)
          refine LoopI.next ?y (fun i => i) ?h1 ?h2
          case y => exact ⟨x.n + 1, ⟨pc, [], false, va, er⟩, none, by omega, by simp, by simpa using hrun, rfl⟩
          case h1 => simp; omega
          case h2 =>
            (refine St.le_of rfl ?_ ?_ ?_ ?_ <;> simp [leEnv, leObs, leL, D.le, D.ren, D.under, hn, RunAt.obs, mbox, h0, Ob.under_box, Ob.le_id])
      · simp only at h3 h0
        cases en with
        | true =>
          rw [if_pos rfl] at hrun
          repeat' (first
    | (refine H_cons ?_; simp [h0, mbox])
    | (refine HD_cons ?_; simp [h0, mbox])
    | (refine H_nil ?_; simp [h0, mbox])
    | (refine ⟨by omega, ?_⟩)
    | (refine V_sseq ?_; simp [h0, mbox])
    | (refine V_scond ?_; simp [h0, mbox])
    | (refine HD_nil ?_)
    | (refine hk _ ?_; clear hk k; simp only [RunK])
    | (refine V_drawV rfl (by kernel_rfl) (by kernel_rfl) fun k hk => ?_; simp [h0, mbox])
    | (refine V_ret ?_; simp only [RunK])
    | fail)
          (refine EndOK.val (.inr rfl) ?_; simp [resD, oneOrTup, pureD, Try.results10])
          rw [← hrun]
          simp
        | false =>
          rw [if_neg (by simp)] at hrun
          repeat' (first
    | (refine H_cons ?_; simp [h0, mbox])
    | (refine H_nil ?_; simp [h0, mbox])
    | (refine ⟨by omega, ?_⟩)
    | (refine V_sseq ?_; simp [h0, mbox])
    | (refine V_scond ?_; simp [h0, mbox])
    | (refine V_sregion ?_; simp [h0, mbox])
    | (refine V_skip ?_; simp only [RunK])
    | fail)
          refine LoopI.next ?y (fun j => if j = 1 then i else j) ?h1 ?h2
          case y => exact ⟨x.n + 1, ⟨pc, st, false, va, er⟩, some r, by omega, by simp; omega, by simpa using hrun, h3⟩
          case h1 => simp; omega
          case h2 =>
            (refine St.le_of rfl ?_ ?_ ?_ ?_ <;> simp [leEnv, leObs, leL, D.le, D.ren, D.under, hn, RunAt.obs, mbox, h0, h4])
            · refine ⟨⟨Ob.le_box ?_, ?_⟩, Ob.le_vec_refl (stk_u r), Ob.under_vec (stk_u r)⟩
              · simp [leL, D.le, D.ren]
              · simp [Ob.under_box, D.under]
            · omega
    · have hxn := x.hn
      have hkk : fuel.toNat - x.n = 0 := by omega
      have hrun := x.hrun
      rw [hkk, runK] at hrun
      (refine EndOK.val (.inr rfl) ?_; simp [resD, oneOrTup, pureD, Try.results10])
      rw [← hrun]
      simp
end Go.Proofs.Ytmoohdpnmkkgpaa.Vm
namespace Go.Proofs.Ytmoohdpnmkkgpaa
open Go Go.VL
abbrev Ins := Vm.Ins
abbrev Code := List Ins
def putC (c : Code) (i : Ins) : Code := if c.length ≤ 2000 then c ++ [i] else c
def landC (c : Code) (j : Nat) : Code := match c[j]? with | some x => c.set j { x with a := c.length } | none => c
def truthC (c : Code) : Code := putC (putC c ⟨11, 0, []⟩) ⟨11, 0, []⟩
/-- A condition, what comes if it is true, and what comes if it is false. -/
def choiceC (A B D : Code → Code) (c : Code) : Code :=
  landC (D (landC (putC (B (putC (A c) ⟨13, 0, []⟩)) ⟨12, 0, []⟩) ((putC (A c) ⟨13, 0, []⟩).length - 1))) ((putC (B (putC (A c) ⟨13, 0, []⟩)) ⟨12, 0, []⟩).length - 1)
def plainOp (sh : Exp → Bool) (op : Int) (args : List Exp) : Int :=
  if op = 2 then 2 else if op = 3 then 3 else if op = 5 then 5 else if op = 6 then 7 else if op = 7 then 8 else if op = 8 then 9 else if op = 9 then 10 else if op = 12 then 11
  else if (args.take 2).any sh = true then 6 else 4
mutual
def genT (nm : List UInt8 → Code → Code) (sh : Exp → Bool) : Exp → Code → Code
  | .mk op n _ s args => fun c =>
    if 2000 < c.length then c
    else if op = 0 then putC c ⟨0, n, []⟩
    else if op = 1 then nm s c
    else if op = 10 then choiceC (genN nm sh args 0) (fun c => truthC (genN nm sh args 1 c)) (fun c => putC c ⟨0, 0, []⟩) c
    else if op = 11 then choiceC (genN nm sh args 0) (fun c => putC c ⟨0, 1, []⟩) (fun c => truthC (genN nm sh args 1 c)) c
    else if op = 13 then choiceC (genN nm sh args 0) (genN nm sh args 1) (genN nm sh args 2) c
    else putC (genA nm sh args c) ⟨plainOp sh op args, 0, []⟩
def genN (nm : List UInt8 → Code → Code) (sh : Exp → Bool) : List Exp → Nat → Code → Code
  | [], _ => fun c => c
  | e :: _, 0 => genT nm sh e
  | _ :: r, i + 1 => genN nm sh r i
def genA (nm : List UInt8 → Code → Code) (sh : Exp → Bool) : List Exp → Code → Code
  | [] => fun c => c
  | e :: r => fun c => genA nm sh r (genT nm sh e c)
end
theorem genT_eq (nm sh) (e : Exp) (c : Code) : genT nm sh e c = if 2000 < c.length then c
    else if e.op = 0 then putC c ⟨0, e.n, []⟩
    else if e.op = 1 then nm e.s c
    else if e.op = 10 then choiceC (genN nm sh e.args 0) (fun c => truthC (genN nm sh e.args 1 c)) (fun c => putC c ⟨0, 0, []⟩) c
    else if e.op = 11 then choiceC (genN nm sh e.args 0) (fun c => putC c ⟨0, 1, []⟩) (fun c => truthC (genN nm sh e.args 1 c)) c
    else if e.op = 13 then choiceC (genN nm sh e.args 0) (genN nm sh e.args 1) (genN nm sh e.args 2) c
    else putC (genA nm sh e.args c) ⟨plainOp sh e.op e.args, 0, []⟩ := by
  cases e with | mk op n u s args => rw [genT]; rfl
/-- The code of a name, for the first n lets. -/
def nmC (lets : List Let) (sh : Nat → Exp → Bool) : Nat → List UInt8 → Code → Code
  | 0, s => fun c => putC c ⟨1, 0, s⟩
  | n + 1, s => match lets[n]? with
    | none => fun c => putC c ⟨1, 0, s⟩
    | some l => if l.name = s then genT (nmC lets sh n) (sh n) l.body else nmC lets sh n s
/-- The code grows, and what was there stays. -/
def Pre (F : Code → Code) : Prop := ∀ c : Code, c.length ≤ (F c).length ∧ ∀ i, i < c.length → (F c)[i]? = c[i]?
theorem Pre.id : Pre fun c => c := fun c => ⟨Nat.le_refl _, fun _ _ => rfl⟩
theorem putC_pre (x : Ins) (c : Code) : c.length ≤ (putC c x).length ∧ ∀ i, i < c.length → (putC c x)[i]? = c[i]? := by
  unfold putC
  split
  · exact ⟨by simp, fun i hi => by rw [List.getElem?_append_left hi]⟩
  · exact ⟨Nat.le_refl _, fun _ _ => rfl⟩
theorem Pre.put (x : Ins) : Pre fun c => putC c x := fun c => putC_pre x c
theorem Pre.comp {F G : Code → Code} (hF : Pre F) (hG : Pre G) : Pre fun c => G (F c) := fun c => by
  obtain ⟨h1, h2⟩ := hF c
  obtain ⟨h3, h4⟩ := hG (F c)
  exact ⟨Nat.le_trans h1 h3, fun i hi => (h4 i (by omega)).trans (h2 i hi)⟩
theorem landC_len (c : Code) (j : Nat) : (landC c j).length = c.length := by
  unfold landC
  split <;> simp
theorem landC_get (c : Code) (j i : Nat) (h : i ≠ j) : (landC c j)[i]? = c[i]? := by
  unfold landC
  split
  · rw [List.getElem?_set]; simp [Ne.symm h]
  · rfl
theorem landC_at {c : Code} {j : Nat} {x : Ins} (h : c[j]? = some x) : (landC c j)[j]? = some { x with a := c.length } := by
  unfold landC
  rw [h]
  have := (List.getElem?_eq_some_iff.1 h).1
  simp [this]
theorem putC_len (c : Code) (x : Ins) : (putC c x).length = if c.length ≤ 2000 then c.length + 1 else c.length := by
  unfold putC; split <;> simp
theorem putC_pos (c : Code) (x : Ins) : 0 < (putC c x).length := by rw [putC_len]; split <;> omega
theorem Pre.choice {A B D : Code → Code} (hA : Pre A) (hB : Pre B) (hD : Pre D) (c : Code) (hc2 : c.length ≤ 2000) : c.length ≤ (choiceC A B D c).length ∧ ∀ i, i < c.length → (choiceC A B D c)[i]? = c[i]? := by
  unfold choiceC
  obtain ⟨a1, a2⟩ := hA c
  obtain ⟨p1, p2⟩ := putC_pre ⟨13, 0, []⟩ (A c)
  have k1 := putC_len (A c) ⟨13, 0, []⟩
  generalize putC (A c) ⟨13, 0, []⟩ = c2 at *
  obtain ⟨b1, b2⟩ := hB c2
  obtain ⟨q1, q2⟩ := putC_pre ⟨12, 0, []⟩ (B c2)
  have k2 := putC_len (B c2) ⟨12, 0, []⟩
  generalize putC (B c2) ⟨12, 0, []⟩ = c4 at *
  obtain ⟨d1, d2⟩ := hD (landC c4 (c2.length - 1))
  rw [landC_len] at d1 d2
  rw [landC_len]
  have k3 : c.length ≤ c2.length - 1 := by split at k1 <;> omega
  have k4 : c.length ≤ c4.length - 1 := by split at k2 <;> split at k1 <;> omega
  refine ⟨by omega, fun i hi => ?_⟩
  rw [landC_get _ _ _ (by omega), d2 i (by omega), landC_get _ _ _ (by omega), q2 i (by omega), b2 i (by omega), p2 i (by omega), a2 i hi]
theorem Pre.truth : Pre truthC := (Pre.put _).comp (Pre.put _)
mutual
theorem genT_pre {nm : List UInt8 → Code → Code} {sh : Exp → Bool} (hn : ∀ s, Pre (nm s)) : ∀ e : Exp, Pre (genT nm sh e)
  | .mk op n u s args => fun c => by
    have h := fun i => genN_pre (sh := sh) hn args i
    have hA := genA_pre (sh := sh) hn args
    rw [genT]
    simp only
    split
    · exact Pre.id c
    rename_i hc2
    have hc3 : c.length ≤ 2000 := by omega
    split
    · exact Pre.put _ c
    split
    · exact hn s c
    split
    · exact Pre.choice (h 0) ((h 1).comp Pre.truth) (Pre.put _) c hc3
    split
    · exact Pre.choice (h 0) (Pre.put _) ((h 1).comp Pre.truth) c hc3
    split
    · exact Pre.choice (h 0) (h 1) (h 2) c hc3
    · exact (hA.comp (Pre.put _)) c
theorem genN_pre {nm : List UInt8 → Code → Code} {sh : Exp → Bool} (hn : ∀ s, Pre (nm s)) : ∀ (l : List Exp) (i : Nat), Pre (genN nm sh l i)
  | [], i => by rw [genN]; exact Pre.id
  | e :: l, 0 => by rw [genN]; exact genT_pre hn e
  | e :: l, i + 1 => by rw [genN]; exact genN_pre hn l i
theorem genA_pre {nm : List UInt8 → Code → Code} {sh : Exp → Bool} (hn : ∀ s, Pre (nm s)) : ∀ (l : List Exp), Pre (genA nm sh l)
  | [] => by rw [genA]; exact Pre.id
  | e :: l => by rw [genA]; exact (genT_pre hn e).comp (genA_pre hn l)
end
theorem nmC_pre {lets sh} : ∀ (n : Nat) (s : List UInt8), Pre (nmC lets sh n s)
  | 0, s => by rw [nmC]; exact Pre.put _
  | n + 1, s => by
    rw [nmC]
    split
    · exact Pre.put _
    · split
      · exact genT_pre (nmC_pre n) _
      · exact nmC_pre n s
open Vm in
def Steps (C : Code) (vs : List Vm.Var) (q : Nat) (m m' : Mach) : Prop := ∀ (fuel : Int) (K : Nat) (n : Int), runK C vs fuel (q + K) n m = runK C vs fuel K (n + q) m'
open Vm in
def Ends (C : Code) (vs : List Vm.Var) (q : Nat) (m : Mach) (v e : Int) : Prop := ∀ (fuel : Int) (K : Nat) (n : Int), runK C vs fuel (q + K) n m = (v, n + q, e)
section
open Vm
variable {C : Code} {vs : List Vm.Var} {m m' m'' : Mach} {q q' : Nat} {v e : Int}
theorem Steps.zero : Steps C vs 0 m m := fun fuel K n => by simp
theorem Steps.trans (h : Steps C vs q m m') (g : Steps C vs q' m' m'') : Steps C vs (q + q') m m'' := fun fuel K n => by
  rw [show q + q' + K = q + (q' + K) by omega, h, g]
  congr 1
  omega
theorem Steps.ends (h : Steps C vs q m m') (g : Ends C vs q' m' v e) : Ends C vs (q + q') m v e := fun fuel K n => by
  rw [show q + q' + K = q + (q' + K) by omega, h, g]
  simp
  omega
theorem Steps.one (h : stepM C vs m = m') (hm : m'.en = false) : Steps C vs 1 m m' := fun fuel K n => by
  rw [show 1 + K = K + 1 by omega, runK]
  simp [h, hm]
theorem Ends.one (h : stepM C vs m = m') (hm : m'.en = true) : Ends C vs 1 m m'.va m'.er := fun fuel K n => by
  rw [show 1 + K = K + 1 by omega, runK]
  simp [h, hm]
end
abbrev at_ (p : Nat) (S : List Int) (va er : Int) : Vm.Mach := ⟨p, S, false, va, er⟩
def okS (S : List Int) : Prop := ∀ x ∈ S, Vm.okv x = true
theorem okS.snoc {S : List Int} {x : Int} (h : okS S) (hx : Vm.okv x = true) : okS (S ++ [x]) := fun y hy => by
  rcases List.mem_append.1 hy with hy | hy
  · exact h y hy
  · simp at hy; subst hy; exact hx
section
open Vm
theorem step_at {C : Code} {vs : List Vm.Var} {p : Nat} {S : List Int} {va er : Int} {i : Ins} (hi : C[p]? = some i) (hop : 0 ≤ i.op ∧ i.op < 15) (hl : needs i.op ≤ S.length) (hS : okS S) : stepM C vs (at_ p S va er) = stepI vs (at_ p S va er) i := by
  rw [stepM_eq (c := i) (by simp) (by simpa using hi), if_neg]
  rintro (h | h | h | h)
  · omega
  · omega
  · simp only at h; omega
  · obtain ⟨x, hx, h⟩ := List.any_eq_true.1 h
    rw [hS x hx] at h
    cases h
theorem okv_of {x : Int} (h : inC x) : okv x = true := by unfold inC at h; simp [okv, h]
theorem okv_out {x : Int} (h : okv x = true) : inC x := by unfold okv at h; unfold inC; simpa using h
variable {C : Code} {vs : List Vm.Var} {p : Nat} {S : List Int} {va er : Int}
theorem run_num {a : Int} (hi : C[p]? = some ⟨0, a, []⟩) (hS : okS S) : if okv a = true then Steps C vs 1 (at_ p S va er) (at_ (p + 1) (S ++ [a]) va er) else Ends C vs 1 (at_ p S va er) 0 3 := by
  have h := step_at (va := va) (er := er) (vs := vs) hi (by simp) (by simp [needs]) hS
  have h2 : stepI vs (at_ p S va er) ⟨0, a, []⟩ = (at_ p S va er).push a := by simp [stepI]
  rw [h2] at h
  split
  · rename_i ha
    have z := Steps.one h (by simp [Mach.push, ha])
    have e : (at_ p S va er).push a = at_ (p + 1) (S ++ [a]) va er := by simp [Mach.push, ha]
    rw [e] at z
    exact z
  · rename_i ha
    have := Ends.one h (by simp [Mach.push, ha, Mach.fin])
    simpa [Mach.push, ha, Mach.fin] using this
theorem run_name {s : List UInt8} (hi : C[p]? = some ⟨1, 0, s⟩) (hS : okS S) : match vs.find? fun v => decide (v.name = s) with
    | none => Ends C vs 1 (at_ p S va er) 0 13
    | some v => if okv v.n = true then Steps C vs 1 (at_ p S va er) (at_ (p + 1) (S ++ [v.n]) va er) else Ends C vs 1 (at_ p S va er) 0 3 := by
  have h := step_at (va := va) (er := er) (vs := vs) hi (by simp) (by simp [needs]) hS
  cases hf : vs.find? fun v => decide (v.name = s) with
  | none =>
    have h2 : stepI vs (at_ p S va er) ⟨1, 0, s⟩ = (at_ p S va er).fin 0 13 := by simp [stepI, hf]
    rw [h2] at h
    have := Ends.one h (by simp [Mach.fin])
    simpa [Mach.fin] using this
  | some v =>
    have h2 : stepI vs (at_ p S va er) ⟨1, 0, s⟩ = (at_ p S va er).push v.n := by simp [stepI, hf]
    rw [h2] at h
    simp only
    split
    · rename_i ha
      have z := Steps.one h (by simp [Mach.push, ha])
      have e : (at_ p S va er).push v.n = at_ (p + 1) (S ++ [v.n]) va er := by simp [Mach.push, ha]
      rw [e] at z
      exact z
    · rename_i ha
      have := Ends.one h (by simp [Mach.push, ha, Mach.fin])
      simpa [Mach.push, ha, Mach.fin] using this
theorem run_jump {a : Nat} (hi : C[p]? = some ⟨12, a, []⟩) (hS : okS S) : Steps C vs 1 (at_ p S va er) (at_ a S va er) := by
  have h := step_at (va := va) (er := er) (vs := vs) hi (by simp) (by simp [needs]) hS
  have h2 : stepI vs (at_ p S va er) ⟨12, a, []⟩ = at_ a S va er := by simp [stepI]
  rw [h2] at h
  exact Steps.one h rfl
theorem top0 {x : Int} : (at_ p (S ++ [x]) va er).top 0 = x := by simp [Mach.top]
theorem drop1 {x : Int} : (at_ p (S ++ [x]) va er).drop 1 = at_ p S va er := by simp [Mach.drop]
theorem run_false {a : Nat} {x : Int} (hi : C[p]? = some ⟨13, a, []⟩) (hS : okS S) (hx : inC x) : Steps C vs 1 (at_ p (S ++ [x]) va er) (at_ (if x = 0 then a else p + 1) S va er) := by
  have h := step_at (va := va) (er := er) (vs := vs) hi (by simp) (by simp [needs]; omega) (hS.snoc (okv_of hx))
  have h2 : stepI vs (at_ p (S ++ [x]) va er) ⟨13, a, []⟩ = at_ (if x = 0 then a else p + 1) S va er := by
    simp only [stepI, top0, drop1]
    simp
    split <;> simp
  rw [h2] at h
  exact Steps.one h rfl
theorem run_not {x : Int} (hi : C[p]? = some ⟨11, 0, []⟩) (hS : okS S) (hx : inC x) : Steps C vs 1 (at_ p (S ++ [x]) va er) (at_ (p + 1) (S ++ [truthX (decide (x = 0))]) va er) := by
  have h := step_at (va := va) (er := er) (vs := vs) hi (by simp) (by simp [needs]; omega) (hS.snoc (okv_of hx))
  have h3 : okv (truthX (decide (x = 0))) = true := okv_of (truthX_in _)
  have h2 : stepI vs (at_ p (S ++ [x]) va er) ⟨11, 0, []⟩ = at_ (p + 1) (S ++ [truthX (decide (x = 0))]) va er := by
    have h4 : Pm.truth (decide (x = 0)) = truthX (decide (x = 0)) := by unfold Pm.truth truthX; rfl
    simp only [stepI, top0, drop1, h4]
    simp [Mach.push, h3]
  rw [h2] at h
  exact Steps.one h rfl
theorem run_end {x : Int} (hi : C[p]? = some ⟨14, 0, []⟩) (hx : inC x) : Ends C vs 1 (at_ p [x] va er) x 0 := by
  have h := step_at (va := va) (er := er) (vs := vs) (S := [x]) hi (by simp) (by simp [needs]) (fun y hy => by simp at hy; subst hy; exact okv_of hx)
  have h2 : stepI vs (at_ p [x] va er) ⟨14, 0, []⟩ = (at_ p [x] va er).fin x 0 := by simp [stepI, Mach.top]
  rw [h2] at h
  have := Ends.one h (by simp [Mach.fin])
  simpa [Mach.fin] using this
theorem run_two {op x y : Int} (hop : 2 ≤ op ∧ op ≤ 10) (hi : C[p]? = some ⟨op, 0, []⟩) (hS : okS S) (hx : inC x) (hy : inC y) : if op = 5 ∧ y = 0 then Ends C vs 1 (at_ p (S ++ [x] ++ [y]) va er) 0 15 else
    if okv (Pm.two op x y) = true then Steps C vs 1 (at_ p (S ++ [x] ++ [y]) va er) (at_ (p + 1) (S ++ [Pm.two op x y]) va er) else Ends C vs 1 (at_ p (S ++ [x] ++ [y]) va er) 0 3 := by
  have h := step_at (va := va) (er := er) (vs := vs) hi (by simp; omega) (by simp [needs]; split <;> (try split) <;> omega) ((hS.snoc (okv_of hx)).snoc (okv_of hy))
  have ht1 : (at_ p (S ++ [x] ++ [y]) va er).top 1 = x := by simp [Mach.top]
  have hd2 : (at_ p (S ++ [x] ++ [y]) va er).drop 2 = at_ p S va er := by simp [Mach.drop]
  unfold stepI at h
  rw [if_neg (by simp; omega), if_neg (by simp; omega), if_neg (by simp; omega), if_neg (by simp; omega), if_neg (by simp; omega), if_neg (by simp; omega)] at h
  simp only [ht1, hd2, top0] at h
  split
  · rename_i hz
    rw [if_pos hz] at h
    have := Ends.one h (by simp [Mach.fin])
    simpa [Mach.fin] using this
  · rename_i hz
    rw [if_neg hz] at h
    split
    · rename_i ha
      have z := Steps.one h (by simp [Mach.push, ha])
      have e : (at_ p S va er).push (Pm.two op x y) = at_ (p + 1) (S ++ [Pm.two op x y]) va er := by simp [Mach.push, ha]
      rw [e] at z
      exact z
    · rename_i ha
      have := Ends.one h (by simp [Mach.push, ha, Mach.fin])
      simpa [Mach.push, ha, Mach.fin] using this
end
/-- What a piece of code does with the machine. -/
def Res (C : Code) (vs : List Vm.Var) (p p' : Nat) (S : List Int) (r : Except Int Int) : Prop := ∀ va er, match r with
  | .ok v => inC v ∧ ∃ q, q ≤ p' - p ∧ Steps C vs q (at_ p S va er) (at_ p' (S ++ [v]) va er)
  | .error e => ∃ q, q ≤ p' - p ∧ Ends C vs q (at_ p S va er) 0 e
def Does (vs : List Vm.Var) (F : Code → Code) (r : Except Int Int) : Prop := ∀ (c C : Code) (S : List Int), (F c).length ≤ 2000 → (∀ i, c.length ≤ i → i < (F c).length → C[i]? = (F c)[i]?) → okS S → Res C vs c.length (F c).length S r
theorem put_at {c : Code} {x : Ins} (h : (putC c x).length ≤ 2000) : c.length ≤ 1999 ∧ (putC c x).length = c.length + 1 ∧ (putC c x)[c.length]? = some x ∧ ∀ i, i < c.length → (putC c x)[i]? = c[i]? := by
  have h1 := putC_len c x
  have h2 : c.length ≤ 1999 := by split at h1 <;> omega
  refine ⟨h2, by rw [h1, if_pos (by omega)], ?_, (putC_pre x c).2⟩
  unfold putC
  rw [if_pos (by omega)]
  simp
abbrev bindX (r : Except Int Int) (f : Int → Except Int Int) : Except Int Int := match r with | .error e => .error e | .ok a => f a
theorem Does.num {vs} (a : Int) : Does vs (fun c => putC c ⟨0, a, []⟩) (keptX a) := fun c C S hl hC hS => by
  simp only at hl hC ⊢
  intro va er
  obtain ⟨h1, h2, h3, _⟩ := put_at hl
  have hi : C[c.length]? = some ⟨0, a, []⟩ := by rw [hC _ (Nat.le_refl _) (by omega)]; exact h3
  have := run_num (vs := vs) (va := va) (er := er) hi hS
  unfold keptX
  by_cases ho : Vm.okv a = true
  · rw [if_pos ho] at this
    have hin := okv_out ho
    rw [if_neg (by unfold inC at hin; omega)]
    exact ⟨hin, 1, by omega, by rw [h2]; exact this⟩
  · rw [if_neg ho] at this
    rw [if_pos (by
      apply Classical.byContradiction
      intro hno
      exact ho (okv_of (by unfold inC; omega)))]
    exact ⟨1, by omega, this⟩
theorem Does.name {vs} (s : List UInt8) (hvs : ∀ v ∈ vs, inC v.n) : Does vs (fun c => putC c ⟨1, 0, s⟩) (match vs.find? fun v => decide (v.name = s) with | none => .error 13 | some v => .ok v.n) := fun c C S hl hC hS => by
  simp only at hl hC ⊢
  intro va er
  obtain ⟨h1, h2, h3, _⟩ := put_at hl
  have hi : C[c.length]? = some ⟨1, 0, s⟩ := by rw [hC _ (Nat.le_refl _) (by omega)]; exact h3
  have := run_name (vs := vs) (va := va) (er := er) hi hS
  cases hf : vs.find? fun v => decide (v.name = s) with
  | none =>
    rw [hf] at this
    exact ⟨1, by omega, this⟩
  | some v =>
    rw [hf] at this
    have hin := hvs v (List.mem_of_find?_eq_some hf)
    simp only at this
    rw [if_pos (okv_of hin)] at this
    exact ⟨hin, 1, by omega, by rw [h2]; exact this⟩
theorem Does.err {vs F r e} (h : r = .error e) (g : Does vs F r) {c C S} (hl : (F c).length ≤ 2000) (hC : ∀ i, c.length ≤ i → i < (F c).length → C[i]? = (F c)[i]?) (hS : okS S) (va er : Int) : ∃ q, q ≤ (F c).length - c.length ∧ Ends C vs q (at_ c.length S va er) 0 e := by
  subst h; exact g c C S hl hC hS va er
theorem Does.ok {vs F r v} (h : r = .ok v) (g : Does vs F r) {c C S} (hl : (F c).length ≤ 2000) (hC : ∀ i, c.length ≤ i → i < (F c).length → C[i]? = (F c)[i]?) (hS : okS S) (va er : Int) : inC v ∧ ∃ q, q ≤ (F c).length - c.length ∧ Steps C vs q (at_ c.length S va er) (at_ (F c).length (S ++ [v]) va er) := by
  subst h; exact g c C S hl hC hS va er
theorem Does.cast {vs F r r'} (h : Does vs F r) (e : r = r') : Does vs F r' := e ▸ h
theorem Does.not {vs F ra} (hF : Does vs F ra) (pF : Pre F) : Does vs (fun c => putC (F c) ⟨11, 0, []⟩) (bindX ra fun a => .ok (truthX (decide (a = 0)))) := fun c C S hl hC hS va er => by
  simp only at hl hC
  obtain ⟨h1, h2, h3, h4⟩ := put_at hl
  obtain ⟨p1, _⟩ := pF c
  have hCF : ∀ i, c.length ≤ i → i < (F c).length → C[i]? = (F c)[i]? := fun i hi hi2 => by rw [hC i hi (by omega), h4 i hi2]
  have hi : C[(F c).length]? = some ⟨11, 0, []⟩ := by rw [hC _ p1 (by omega)]; exact h3
  cases ra with
  | error e =>
    obtain ⟨q, hq, hE⟩ := hF.err rfl (by omega) hCF hS va er
    exact ⟨q, by simp only; omega, hE⟩
  | ok a =>
    obtain ⟨hin, q, hq, hE⟩ := hF.ok rfl (by omega) hCF hS va er
    exact ⟨truthX_in _, q + 1, by simp only; omega, by simp only; rw [h2]; exact hE.trans (run_not hi hS hin)⟩
theorem Does.truth {vs F ra} (hF : Does vs F ra) (pF : Pre F) : Does vs (fun c => truthC (F c)) (bindX ra fun a => .ok (truthX (decide (a ≠ 0)))) := by
  have := (hF.not pF).not (pF.comp (Pre.put _))
  cases ra with
  | error e => exact this
  | ok a =>
    have e : truthX (decide (truthX (decide (a = 0)) = 0)) = truthX (decide (a ≠ 0)) := by
      unfold truthX
      by_cases h : a = 0 <;> simp [h]
    exact this.cast (congrArg Except.ok e)
theorem Does.choice {vs A B D ra rb rd} (hA : Does vs A ra) (hB : Does vs B rb) (hD : Does vs D rd) (pA : Pre A) (pB : Pre B) (pD : Pre D) :
    Does vs (choiceC A B D) (bindX ra fun a => if a = 0 then rd else rb) := fun c C S hl hC hS va er => by
  unfold choiceC at hl hC ⊢
  obtain ⟨a1, _⟩ := pA c
  obtain ⟨p1, p2⟩ := putC_pre ⟨13, 0, []⟩ (A c)
  have kA := @put_at (A c) ⟨13, 0, []⟩
  generalize hc2 : putC (A c) ⟨13, 0, []⟩ = c2 at *
  obtain ⟨b1, b2⟩ := pB c2
  obtain ⟨q1, q2⟩ := putC_pre ⟨12, 0, []⟩ (B c2)
  have kB := @put_at (B c2) ⟨12, 0, []⟩
  generalize hc4 : putC (B c2) ⟨12, 0, []⟩ = c4 at *
  obtain ⟨d1, d2⟩ := pD (landC c4 (c2.length - 1))
  rw [landC_len] at d1 d2
  have hD' := hD (landC c4 (c2.length - 1)) C
  rw [landC_len] at hl hD' ⊢
  generalize hc6 : D (landC c4 (c2.length - 1)) = c6 at *
  obtain ⟨x1, x2, x3, x4⟩ := kB (by omega)
  obtain ⟨y1, y2, y3, y4⟩ := kA (by omega)
  rw [landC_len] at hC
  have g5 : ∀ i, i < c4.length → i ≠ c2.length - 1 → i ≠ c4.length - 1 → c.length ≤ i → C[i]? = c4[i]? := fun i h1 h2 h3 h4 => by
    rw [hC i h4 (by omega), landC_get _ _ _ h3, d2 i h1, landC_get _ _ _ h2]
  have gA : ∀ i, c.length ≤ i → i < (A c).length → C[i]? = (A c)[i]? := fun i h1 h2 => by
    rw [g5 i (by omega) (by omega) (by omega) h1, x4 i (by omega), b2 i (by omega), y4 i h2]
  have gF : C[(A c).length]? = some ⟨13, (c4.length : Nat), []⟩ := by
    have e : (A c).length = c2.length - 1 := by omega
    rw [hC _ a1 (by omega), landC_get _ _ _ (by omega), d2 _ (by omega), e]
    exact landC_at (x := ⟨13, 0, []⟩) (by rw [← e, x4 _ (by omega), b2 _ (by omega), y3])
  have gB : ∀ i, c2.length ≤ i → i < (B c2).length → C[i]? = (B c2)[i]? := fun i h1 h2 => by
    rw [g5 i (by omega) (by omega) (by omega) (by omega), x4 i h2]
  have gJ : C[(B c2).length]? = some ⟨12, (c6.length : Nat), []⟩ := by
    have e : (B c2).length = c4.length - 1 := by omega
    rw [hC _ (by omega) (by omega), e]
    exact landC_at (x := ⟨12, 0, []⟩) (by rw [← e, d2 _ (by omega), landC_get _ _ _ (by omega), x3])
  have gD : ∀ i, c4.length ≤ i → i < c6.length → C[i]? = c6[i]? := fun i h1 h2 => by
    rw [hC i (by omega) h2, landC_get _ _ _ (by omega)]
  cases ra with
  | error e =>
    obtain ⟨q, hq, hE⟩ := hA.err rfl (by omega) gA hS va er
    exact ⟨q, by omega, hE⟩
  | ok a =>
    obtain ⟨hin, q, hq, hE⟩ := hA.ok rfl (by omega) gA hS va er
    have hf := hE.trans (run_false gF hS hin)
    by_cases ha : a = 0
    · rw [if_pos ha] at hf
      have hb : bindX (.ok a) (fun a => if a = 0 then rd else rb) = rd := if_pos ha
      rw [hb]
      have := hD' S (by omega) gD hS va er
      cases rd with
      | error e =>
        obtain ⟨q', hq', hE'⟩ := this
        exact ⟨_, by omega, hf.ends hE'⟩
      | ok v =>
        obtain ⟨hin', q', hq', hE'⟩ := this
        exact ⟨hin', _, by omega, hf.trans hE'⟩
    · rw [if_neg ha] at hf
      have hb : bindX (.ok a) (fun a => if a = 0 then rd else rb) = rb := if_neg ha
      rw [hb]
      rw [← y2] at hf
      have := hB c2 C S (by omega) gB hS va er
      cases rb with
      | error e =>
        obtain ⟨q', hq', hE'⟩ := this
        exact ⟨_, by omega, hf.ends hE'⟩
      | ok v =>
        obtain ⟨hin', q', hq', hE'⟩ := this
        exact ⟨hin', _, by omega, (hf.trans hE').trans (run_jump gJ (hS.snoc (okv_of hin')))⟩
end Go.Proofs.Ytmoohdpnmkkgpaa
namespace Go.Proofs.Ytmoohdpnmkkgpaa
open Go Go.VL
theorem tmod_iff (a b : Int) : a.tdiv b * b ≠ a ↔ a.tmod b ≠ 0 := by
  have := Int.mul_tdiv_add_tmod a b
  rw [Int.mul_comm] at this
  omega
theorem floorX_fdiv (a b : Int) (hb : b ≠ 0) : floorX a b = a.fdiv b := by
  rw [Pm.floor_eq a b hb]
  unfold floorX
  simp only [tmod_iff]
theorem kept_okv {n : Int} : keptX n = if Vm.okv n = true then .ok n else .error 3 := by
  unfold keptX Vm.okv
  by_cases h : -1099511627776 ≤ n ∧ n ≤ 1099511627776
  · rw [if_neg (by omega), if_pos (by simpa using h)]
  · rw [if_pos (by omega), if_neg (by simpa using h)]
theorem prod_over {a b c : Int} (hc : c = 1 ∨ c = 1000) : prodX a b c = if Vm.okv (Pm.over a b c) = true then .ok (Pm.over a b c) else .error 3 := by
  have hcp : 0 < c := by omega
  have hcn : c ≠ 0 := by omega
  have hfl : floorX (a * b) c = a * b / c := by rw [floorX_fdiv _ _ hcn, Int.fdiv_eq_ediv_of_nonneg _ (by omega)]
  have habs : (a * b).natAbs = a.natAbs * b.natAbs := Int.natAbs_mul a b
  unfold prodX
  have hiff : (a ≠ 0 ∧ ((1099511627777 * c).tdiv (max a (-a)) < b ∨ b < (-(1099511627777 * c)).tdiv (max a (-a)))) ↔ (1099511627777 * c).natAbs < a.natAbs * b.natAbs := by
    by_cases ha : a = 0
    · subst ha; simp
    · have hM : 0 < max a (-a) := by omega
      have hm : (max a (-a)).natAbs = a.natAbs := by omega
      have h1 : ((1099511627777 * c).tdiv (max a (-a))).natAbs = (1099511627777 * c).natAbs / a.natAbs := by rw [Int.natAbs_tdiv, hm]; rfl
      have h3 : 0 ≤ (1099511627777 * c).tdiv (max a (-a)) := Int.tdiv_nonneg (by omega) (by omega)
      have h4 : (-(1099511627777 * c)).tdiv (max a (-a)) = -((1099511627777 * c).tdiv (max a (-a))) := by rw [Int.neg_tdiv]
      rw [h4]
      have h5 : (1099511627777 * c).natAbs / a.natAbs < b.natAbs ↔ (1099511627777 * c).natAbs < a.natAbs * b.natAbs := by
        rw [Nat.div_lt_iff_lt_mul (by omega), Nat.mul_comm]
      rw [← h5, ← h1]
      generalize (1099511627777 * c).tdiv (max a (-a)) = q at *
      constructor
      · rintro ⟨_, h⟩; omega
      · intro h; exact ⟨ha, by omega⟩
  by_cases hbig : (1099511627777 * c).natAbs < a.natAbs * b.natAbs
  · rw [if_pos (hiff.2 hbig)]
    have ho : Pm.over a b c = 1099511627777 := by
      unfold Pm.over
      rw [if_pos]
      have e : ((a.natAbs : Int) * (b.natAbs : Int)) = ((a.natAbs * b.natAbs : Nat) : Int) := by push_cast; rfl
      rw [e]
      rcases hc with rfl | rfl <;> omega
    rw [ho, if_neg (by decide)]
  · rw [if_neg (fun h => hbig (hiff.1 h)), hfl, kept_okv]
    have e : ((a.natAbs : Int) * (b.natAbs : Int)) = ((a.natAbs * b.natAbs : Nat) : Int) := by push_cast; rfl
    unfold Pm.over
    rw [e]
    by_cases h2 : 1099511627776 < ((a.natAbs * b.natAbs : Nat) : Int) / c
    · have hL : ¬ Vm.okv (a * b / c) = true := fun h3 => by
        have h4 : inC (a * b / c) := okv_out h3
        unfold inC at h4
        rcases hc with rfl | rfl <;> omega
      rw [if_pos h2, if_neg hL, if_neg (by decide)]
    · rw [if_neg h2]
/-- The instruction of an operation. -/
theorem bin_two {sh : Exp → Bool} {op : Int} {args : List Exp} (hop : 2 ≤ op ∧ op ≤ 9) {a b : Int} (ha : inC a) (hb : inC b) : 2 ≤ plainOp sh op args ∧ plainOp sh op args ≤ 10 ∧
    (if plainOp sh op args = 5 ∧ b = 0 then binX op ((args.take 2).any sh) a b = .error 15 else
      binX op ((args.take 2).any sh) a b = if Vm.okv (Pm.two (plainOp sh op args) a b) = true then .ok (Pm.two (plainOp sh op args) a b) else .error 3) := by
  have htr : ∀ x : Bool, Pm.truth x = truthX x := fun x => by unfold Pm.truth truthX; rfl
  have hmin : Vm.okv (min a b) = true := okv_of (by unfold inC at *; omega)
  have hmax : Vm.okv (max a b) = true := okv_of (by unfold inC at *; omega)
  have htk : ∀ x : Bool, Vm.okv (truthX x) = true := fun x => okv_of (truthX_in x)
  rcases (show op = 2 ∨ op = 3 ∨ op = 4 ∨ op = 5 ∨ op = 6 ∨ op = 7 ∨ op = 8 ∨ op = 9 by omega) with rfl | rfl | rfl | rfl | rfl | rfl | rfl | rfl
  · simp [plainOp, binX, Pm.two, kept_okv]
  · simp [plainOp, binX, Pm.two, kept_okv]
  · generalize hs : (args.take 2).any sh = s
    cases s with
    | true => simp [plainOp, binX, Pm.two, hs, prod_over (.inr rfl)]
    | false => simp [plainOp, binX, Pm.two, hs, prod_over (.inl rfl)]
  · by_cases h0 : b = 0
    · simp [plainOp, binX, h0]
    · simp [plainOp, binX, Pm.two, h0, kept_okv, floorX_fdiv a b h0]
  · simp [plainOp, binX, Pm.two, hmin]
  · simp [plainOp, binX, Pm.two, hmax]
  · simp [plainOp, binX, Pm.two, htr, htk]
  · simp [plainOp, binX, Pm.two, htr, htk]
theorem Does.bin {vs F G ra rb} {sh : Exp → Bool} {op : Int} {args : List Exp} (hF : Does vs F ra) (hG : Does vs G rb) (pF : Pre F) (pG : Pre G) (hop : 2 ≤ op ∧ op ≤ 9) :
    Does vs (fun c => putC (G (F c)) ⟨plainOp sh op args, 0, []⟩) (bindX ra fun a => bindX rb fun b => binX op ((args.take 2).any sh) a b) := fun c C S hl hC hS va er => by
  simp only at hl hC
  obtain ⟨h1, h2, h3, h4⟩ := put_at hl
  obtain ⟨p1, _⟩ := pF c
  obtain ⟨q1, q2⟩ := pG (F c)
  have hCG : ∀ i, c.length ≤ i → i < (G (F c)).length → C[i]? = (G (F c))[i]? := fun i hi hi2 => by rw [hC i hi (by omega), h4 i hi2]
  have hCF : ∀ i, c.length ≤ i → i < (F c).length → C[i]? = (F c)[i]? := fun i hi hi2 => by rw [hCG i hi (by omega), q2 i hi2]
  have hi : C[(G (F c)).length]? = some ⟨plainOp sh op args, 0, []⟩ := by rw [hC _ (by omega) (by omega)]; exact h3
  cases ra with
  | error e =>
    obtain ⟨q, hq, hE⟩ := hF.err rfl (by omega) hCF hS va er
    exact ⟨q, by simp only; omega, hE⟩
  | ok a =>
    obtain ⟨hin, q, hq, hE⟩ := hF.ok rfl (by omega) hCF hS va er
    have hG' := hG (F c) C (S ++ [a]) (by omega) (fun i hi => hCG i (by omega)) (hS.snoc (okv_of hin)) va er
    cases rb with
    | error e =>
      obtain ⟨q', hq', hE'⟩ := hG'
      exact ⟨_, by simp only; omega, hE.ends hE'⟩
    | ok b =>
      obtain ⟨hin', q', hq', hE'⟩ := hG'
      have hEE := hE.trans hE'
      obtain ⟨m1, m2, m3⟩ := bin_two (sh := sh) (args := args) hop hin hin'
      have := run_two (va := va) (er := er) (vs := vs) ⟨m1, m2⟩ hi hS hin hin'
      have hb : (bindX (.ok a) fun a => bindX (.ok b) fun b => binX op ((args.take 2).any sh) a b) = binX op ((args.take 2).any sh) a b := rfl
      rw [hb]
      split at m3
      · rename_i hz
        rw [if_pos hz] at this
        rw [m3]
        exact ⟨_, by first | omega | (simp only; omega), hEE.ends this⟩
      · rename_i hz
        rw [if_neg hz] at this
        split at m3
        · rename_i ho
          rw [if_pos ho] at this
          rw [m3]
          exact ⟨okv_out ho, q + q' + 1, by first | omega | (simp only; omega), by (first | rw [h2] | (simp only; rw [h2])); exact hEE.trans this⟩
        · rename_i ho
          rw [if_neg ho] at this
          rw [m3]
          exact ⟨_, by first | omega | (simp only; omega), hEE.ends this⟩
theorem genN_at {nm sh} : ∀ {l : List Exp} {i : Nat} {e : Exp}, l[i]? = some e → genN nm sh l i = genT nm sh e
  | [], _, _, h => by simp at h
  | a :: r, 0, e, h => by simp at h; subst h; rw [genN]
  | a :: r, i + 1, e, h => by rw [genN]; exact genN_at (by simpa using h)
/-- What is compiled of a right expression does what it says. -/
theorem gen_does {vs : List Vm.Var} {nm : List UInt8 → Code → Code} {np : List UInt8 → TM} {sh : Exp → Bool} (hp : ∀ s, (np s).Pure) (hn : ∀ s, Pre (nm s)) (hN : ∀ s, Does vs (nm s) (np s []).1) :
    ∀ (d : Nat) (e : Exp), rightB d e = true → Does vs (genT nm sh e) (valT np sh e []).1
  | 0, e, h => by simp [rightB] at h
  | d + 1, e, h => by
    obtain ⟨h1, h2, h3, h4⟩ := right_args h
    have hfun : genT nm sh e = fun c => genT nm sh e c := rfl
    have hpure := fun x => valT_pure (nm := np) (sh := sh) hp x
    have hpre := fun x => genT_pre (nm := nm) (sh := sh) hn x
    rw [valT_eq]
    -- the guard
    suffices hs : ∀ (r : Except Int Int) (F : Code → Code), (∀ c : Code, c.length ≤ 2000 → genT nm sh e c = F c) → Does vs F r → Does vs (genT nm sh e) r by
      by_cases h0 : e.op = 0
      · rw [if_pos h0]
        refine hs _ _ (fun c hc => ?_) (Does.num e.n)
        rw [genT_eq, if_neg (by omega), if_pos h0]
      rw [if_neg h0]
      by_cases hnm : e.op = 1
      · rw [if_pos hnm]
        refine hs _ _ (fun c hc => ?_) (hN e.s)
        rw [genT_eq, if_neg (by omega), if_neg h0, if_pos hnm]
      rw [if_neg hnm]
      have hr := h4 h0 hnm
      by_cases hA : e.op = 10
      · obtain ⟨a, b, hab⟩ : ∃ a b, e.args = [a, b] := by
          have hl : e.args.length = 2 := by rw [hA] at h1; simp [operandsI] at h1; omega
          match hq : e.args, hl with
          | [a, b], _ => exact ⟨a, b, rfl⟩
        have ga := gen_does (sh := sh) hp hn hN d a (hr a (by simp [hab]))
        have gb := gen_does (sh := sh) hp hn hN d b (hr b (by simp [hab]))
        rw [if_pos hA, hab]
        refine hs _ (choiceC (genT nm sh a) (fun c => truthC (genT nm sh b c)) (fun c => putC c ⟨0, 0, []⟩)) (fun c hc => ?_) ?_
        · rw [genT_eq, if_neg (by omega), if_neg h0, if_neg hnm, if_pos hA, hab, genN_at (i := 0) (e := a) rfl, genN_at (i := 1) (e := b) rfl]
        · refine (Does.choice ga (gb.truth (hpre b)) (Does.num 0) (hpre a) ((hpre b).comp Pre.truth) (Pre.put _)).cast ?_
          rw [valN_at (i := 0) (e := a) rfl, valN_at (i := 1) (e := b) rfl, (hpure a).bind1]
          cases (valT np sh a []).1 with
          | error e => rfl
          | ok x =>
            show (if x = 0 then keptX 0 else _) = ((if x = 0 then TM.ret (.ok 0) else _ : TM) []).1
            by_cases hx : x = 0
            · rw [if_pos hx, if_pos hx]; rfl
            · rw [if_neg hx, if_neg hx, (hpure b).bind1]
              cases (valT np sh b []).1 <;> rfl
      rw [if_neg hA]
      by_cases hO : e.op = 11
      · obtain ⟨a, b, hab⟩ : ∃ a b, e.args = [a, b] := by
          have hl : e.args.length = 2 := by rw [hO] at h1; simp [operandsI] at h1; omega
          match hq : e.args, hl with
          | [a, b], _ => exact ⟨a, b, rfl⟩
        have ga := gen_does (sh := sh) hp hn hN d a (hr a (by simp [hab]))
        have gb := gen_does (sh := sh) hp hn hN d b (hr b (by simp [hab]))
        rw [if_pos hO, hab]
        refine hs _ (choiceC (genT nm sh a) (fun c => putC c ⟨0, 1, []⟩) (fun c => truthC (genT nm sh b c))) (fun c hc => ?_) ?_
        · rw [genT_eq, if_neg (by omega), if_neg h0, if_neg hnm, if_neg hA, if_pos hO, hab, genN_at (i := 0) (e := a) rfl, genN_at (i := 1) (e := b) rfl]
        · refine (Does.choice ga (Does.num 1) (gb.truth (hpre b)) (hpre a) (Pre.put _) ((hpre b).comp Pre.truth)).cast ?_
          rw [valN_at (i := 0) (e := a) rfl, valN_at (i := 1) (e := b) rfl, (hpure a).bind1]
          cases (valT np sh a []).1 with
          | error e => rfl
          | ok x =>
            show (if x = 0 then _ else keptX 1) = ((if x ≠ 0 then TM.ret (.ok 1) else _ : TM) []).1
            by_cases hx : x = 0
            · rw [if_pos hx, if_neg (by omega), (hpure b).bind1]
              cases (valT np sh b []).1 <;> rfl
            · rw [if_neg hx, if_pos hx]; rfl
      rw [if_neg hO]
      by_cases hT : e.op = 12
      · obtain ⟨a, hab⟩ : ∃ a, e.args = [a] := by
          have hl : e.args.length = 1 := by rw [hT] at h1; simp [operandsI] at h1; omega
          match hq : e.args, hl with
          | [a], _ => exact ⟨a, rfl⟩
        have ga := gen_does (sh := sh) hp hn hN d a (hr a (by simp [hab]))
        rw [if_pos hT, hab]
        refine hs _ (fun c => putC (genT nm sh a c) ⟨11, 0, []⟩) (fun c hc => ?_) ?_
        · rw [genT_eq, if_neg (by omega), if_neg h0, if_neg hnm, if_neg hA, if_neg hO, if_neg (by omega), hab, genA, genA]
          simp [plainOp, hT]
        · refine (ga.not (hpre a)).cast ?_
          rw [valN_at (i := 0) (e := a) rfl, (hpure a).bind1]
          cases (valT np sh a []).1 <;> rfl
      rw [if_neg hT]
      by_cases hI : e.op = 13
      · obtain ⟨a, b, z, hab⟩ : ∃ a b z, e.args = [a, b, z] := by
          have hl : e.args.length = 3 := by rw [hI] at h1; simp [operandsI] at h1; omega
          match hq : e.args, hl with
          | [a, b, z], _ => exact ⟨a, b, z, rfl⟩
        have ga := gen_does (sh := sh) hp hn hN d a (hr a (by simp [hab]))
        have gb := gen_does (sh := sh) hp hn hN d b (hr b (by simp [hab]))
        have gz := gen_does (sh := sh) hp hn hN d z (hr z (by simp [hab]))
        rw [if_pos hI, hab]
        refine hs _ (choiceC (genT nm sh a) (genT nm sh b) (genT nm sh z)) (fun c hc => ?_) ?_
        · rw [genT_eq, if_neg (by omega), if_neg h0, if_neg hnm, if_neg hA, if_neg hO, if_pos hI, hab, genN_at (i := 0) (e := a) rfl, genN_at (i := 1) (e := b) rfl, genN_at (i := 2) (e := z) rfl]
        · refine (Does.choice ga gb gz (hpre a) (hpre b) (hpre z)).cast ?_
          rw [valN_at (i := 0) (e := a) rfl, valN_at (i := 1) (e := b) rfl, valN_at (i := 2) (e := z) rfl, (hpure a).bind1]
          cases (valT np sh a []).1 with
          | error e => rfl
          | ok x =>
            show (if x = 0 then _ else _) = ((if x ≠ 0 then _ else _ : TM) []).1
            by_cases hx : x = 0
            · rw [if_pos hx, if_neg (by omega)]
            · rw [if_neg hx, if_pos hx]
      rw [if_neg hI]
      have hop : 2 ≤ e.op ∧ e.op ≤ 9 := by omega
      obtain ⟨a, b, hab⟩ : ∃ a b, e.args = [a, b] := by
        have hl : e.args.length = 2 := by
          unfold operandsI at h1
          rw [if_neg (by omega), if_neg hT, if_neg hI, if_neg (by omega)] at h1
          omega
        match hq : e.args, hl with
        | [a, b], _ => exact ⟨a, b, rfl⟩
      have ga := gen_does (sh := sh) hp hn hN d a (hr a (by simp [hab]))
      have gb := gen_does (sh := sh) hp hn hN d b (hr b (by simp [hab]))
      refine hs _ (fun c => putC (genT nm sh b (genT nm sh a c)) ⟨plainOp sh e.op e.args, 0, []⟩) (fun c hc => ?_) ?_
      · rw [genT_eq, if_neg (by omega), if_neg h0, if_neg hnm, if_neg hA, if_neg hO, if_neg hI]
        congr 1
        rw [hab, genA, genA, genA]
      · refine (Does.bin (sh := sh) (args := e.args) ga gb (hpre a) (hpre b) hop).cast ?_
        rw [hab, valN_at (i := 0) (e := a) rfl, valN_at (i := 1) (e := b) rfl, (hpure a).bind1]
        cases (valT np sh a []).1 with
        | error e => rfl
        | ok x =>
          simp only
          rw [(hpure b).bind1]
          cases (valT np sh b []).1 <;> rfl
    intro r F hF hD c C S hl hC hS
    obtain ⟨m1, _⟩ := hpre e c
    have := hF c (by omega)
    rw [this] at hl hC ⊢
    exact hD c C S hl hC hS
end Go.Proofs.Ytmoohdpnmkkgpaa
namespace Go.Proofs.Ytmoohdpnmkkgpaa
open Go Go.VL
/-- The last one of the first n lets with a name. -/
def lastI (lets : List Let) : Nat → List UInt8 → Option Nat
  | 0, _ => none
  | n + 1, s => match lets[n]? with
    | none => none
    | some l => if l.name = s then some n else lastI lets n s
theorem lastI_some {lets : List Let} {s : List UInt8} : ∀ {n i : Nat}, lastI lets n s = some i → i < n ∧ ∃ l, lets[i]? = some l ∧ l.name = s
  | 0, i, h => by simp [lastI] at h
  | n + 1, i, h => by
    rw [lastI] at h
    split at h
    · cases h
    · rename_i l hl
      split at h
      · rename_i hn
        cases h
        exact ⟨by omega, l, hl, hn⟩
      · obtain ⟨h1, h2⟩ := lastI_some h
        exact ⟨by omega, h2⟩
def boolsU (l : List Bool) : U := .sl (l.map fun b => [.bool b])
def nmS (lets : List Let) (shs : List Bool) (n : Nat) (s : List UInt8) : Bool := match lastI lets n s with | some i => shs.getD i false | none => false
def ixO : Option Nat → Int | some i => i | none => -1
attribute [local simp] hcons hstep evPure opd uOf putOK St.put St.at getK binD binI binS binB nilD aggD eqUs cmpK lookD lookR rangeD Go.VL.nextD entryD keyD valU keyU lookK mkV entD_nil lookK_entD updK_entD1 updK_entD3 allUE allUE_entD makeMapD mapUpdD mapEff updK valM Key.kk shiftI arith unD convD pickD loadD cellsAt fieldAddrD fieldD indexAddrD indexD sliceD cutD lenD minmaxD nilCheckD buildD fillD cellsD isOne ones setAll mkAgg allU allocD boxD storeD St.add buildSliceD appendD rowsOf makeD setOb getK_setOb getK_del getK_cons stripL strip guardTmp entry chunks zcells valD argsV argsW argW argU1 argU0 argsU0 argsU1 calleeOf scalarD scalarU delAll effD St.effS RK_seq RK_seq_ret RK_seq_exit RK_blk RK_blk_ret RK_blk_exit RK_loop RK_loop_ret RK_loop_exit RK_done vs_seq vs_block vs_cond vs_region vs_loop vs_draw applyW mkD rdIds lentIds callOf calleeOf freeOp D.ids Op.operands Call.operands isEffOp makeIfD typeAssertD conc concs conc1 uOfV panicD IntKind.bits allU2 List.take_of_length_le List.range_succ
attribute [local irreducible] V G H HD HD2 RunK Eff CallP CallV EndOK Fun Ret FinOK LoopI LoopW EndW
theorem clet_fun (lets : List Let) (y z : U) (n : Nat) (s : List UInt8) (hn' : n ≤ lets.length) (hn2 : n ≤ 1000) : Fun Try.prog 27 [.u (.row [letsU lets, y, z] 0), .u (.int .i64 n), .u (.str s)] (· = .u (.int .i64 (ixO (lastI lets n s)))) := by
  generalize hR : lastI lets n s = R
  simp only [letsU]
  (refine Fun.of_body Try.func27 rfl (by simp) fun Γ hn => ?_); simp only [entry, List.zipIdx_cons, List.zipIdx_nil, List.map_cons, List.map_nil, Nat.zero_add, Try.ntmps27]
  repeat' (first
    | (refine H_cons ?_; simp)
    | (refine H_nil ?_; simp)
    | (refine ⟨by omega, ?_⟩)
    | (refine V_sseq ?_; simp)
    | (refine V_sblock ?_; simp)
    | fail)
  refine V_loopF (α := { i : Nat // i ≤ n ∧ lastI lets i s = R }) [0, 2] (fun i => [(7, .u (.int .i64 ((i.1 : Int) - 1)))]) (fun i => i.1) ⟨n, Nat.le_refl _, hR⟩ ?_ ?_
  · exact (Wk.cut rfl (by simp [hn, St.lp]) (by simp [wkO, St.lp, getK_cons, getK, Ob.under, D.under, under_rowsD, under_entD]) (by simp [wkU, St.lp, keepE, getK_cons, getK, D.under]) (by simp [wkE, St.lp, keepE, getK_cons, getK] <;> (try (intros; simp_all; done)) <;> (try (intros; omega)) <;> (try grind)))
  rintro ⟨i, hi, hinv⟩
  simp [St.lp, St.only, keepE, getK_cons, getK]
  cases i with
  | zero =>
    have hinv2 := hinv
    rw [lastI] at hinv2
    subst hinv2
    repeat' (first
    | (refine H_cons ?_; simp)
    | (refine H_nil ?_; simp)
    | (refine V_sseq ?_; simp)
    | (refine V_scond ?_; simp)
    | (refine V_ret ?_; simp only [RunK])
    | (refine V_exit ?_; simp [RunK])
    | fail)
    (refine EndOK.val (.inr rfl) ?_; simp [resD, oneOrTup, pureD, Try.results27])
    rfl
  | succ j =>
    have hj : j < lets.length := by omega
    have hl : lets[j]? = some lets[j] := List.getElem?_eq_getElem hj
    have hsub : ((j + 1 : Nat) : Int) - 1 = (j : Int) := by omega
    have hsub2 : (j : Int) + 1 - 1 = (j : Int) := by omega
    generalize lets[j] = l at hl
    have hinv2 := hinv
    rw [lastI, hl] at hinv2
    simp only at hinv2
    by_cases hnm : l.name = s
    · rw [if_pos hnm] at hinv2
      subst hinv2
      repeat' (first
    | (refine H_cons ?_; simp [hsub, hsub2, hl, hnm])
    | (refine H_nil ?_; simp [hsub, hsub2, hl, hnm])
    | (refine V_sseq ?_; simp [hsub, hsub2, hl, hnm])
    | (refine V_scond ?_; simp [hsub, hsub2, hl, hnm])
    | (refine V_ret ?_; simp only [RunK])
    | (refine V_skip ?_; simp only [RunK])
    | fail)
      (refine EndOK.val (.inr rfl) ?_; simp [resD, oneOrTup, pureD, Try.results27])
      rfl
    · rw [if_neg hnm] at hinv2
      repeat' (first
    | (refine H_cons ?_; simp [hsub, hsub2, hl, hnm])
    | (refine H_nil ?_; simp [hsub, hsub2, hl, hnm])
    | (refine ⟨by omega, ?_⟩)
    | (refine V_sseq ?_; simp [hsub, hsub2, hl, hnm])
    | (refine V_scond ?_; simp [hsub, hsub2, hl, hnm])
    | (refine V_sregion ?_; simp [hsub, hsub2, hl, hnm])
    | (refine V_skip ?_; simp only [RunK])
    | fail)
      refine LoopW.next ⟨j, by omega, hinv2⟩ (by simp) ?_
      exact (Wk.cut rfl (by simp [hn, St.lp]) (by simp [wkO, St.lp, getK_cons, getK, Ob.under, D.under, under_rowsD, under_entD]) (by simp [wkU, St.lp, keepE, getK_cons, getK, D.under]) (by simp [wkE, St.lp, keepE, getK_cons, getK] <;> (try (intros; simp_all; done)) <;> (try (intros; omega)) <;> (try grind)))
theorem share_fun' (lets : List Let) (shs : List Bool) (z : U) (n : Nat) (hn' : n ≤ lets.length) (hn1 : n ≤ shs.length) (hn2 : n ≤ 1000) : ∀ (d : Nat) (e : Exp), rightB d e = true → Fun Try.prog 18 [.u (.row [letsU lets, boolsU shs, z] 0), .u (.int .i64 n), eagg e] (· = .u (.bool (shareS (nmS lets shs n) e)))
  | 0, e, h => by simp [rightB] at h
  | d + 1, e, h => by
    obtain ⟨h1, h2, h3, h4⟩ := right_args h
    rw [shareS_eq]
    by_cases h0 : e.op = 0
    · rw [if_pos h0]
      (refine Fun.of_body Try.func18 rfl (by simp) fun Γ hn => ?_); simp only [entry, List.zipIdx_cons, List.zipIdx_nil, List.map_cons, List.map_nil, Nat.zero_add, Try.ntmps18]
      simp only [eagg]
      repeat' (first
    | (refine H_cons ?_; simp [h0])
    | (refine H_nil ?_; simp [h0])
    | (refine V_sseq ?_; simp [h0])
    | (refine V_scond ?_; simp [h0])
    | (refine V_sblock ?_; simp [h0])
    | (refine V_ret ?_; simp only [RunK])
    | fail)
      (refine EndOK.val (.inr rfl) ?_; simp [resD, oneOrTup, pureD, Try.results18])
    rw [if_neg h0]
    by_cases hnm : e.op = 1
    · rw [if_pos hnm]
      have hlet := clet_fun lets (boolsU shs) z n e.s hn' hn2
      cases hi : lastI lets n e.s with
      | none =>
        rw [hi] at hlet
        simp only [ixO, boolsU, letsU] at hlet
        (refine Fun.of_body Try.func18 rfl (by simp) fun Γ hn => ?_); simp only [entry, List.zipIdx_cons, List.zipIdx_nil, List.map_cons, List.map_nil, Nat.zero_add, Try.ntmps18]
        simp only [eagg, boolsU, letsU]
        repeat' (first
    | (refine H_cons ?_; simp [h0, hnm])
    | (refine H_nil ?_; simp [h0, hnm])
    | (refine V_sseq ?_; simp [h0, hnm])
    | (refine V_scond ?_; simp [h0, hnm])
    | (refine V_sblock ?_; simp [h0, hnm])
    | (refine V_ret ?_; simp only [RunK])
    | (refine CallP.fun_ (hlet) (by first | rfl | fail) (by first | assumption | (simp; done) | fail) (by first | (simp [h0, hnm]; done) | (simp [h0, hnm]; rfl) | fail) (by first | (simp; done) | fail) (fun d hd => ?_); subst hd; (try simp [h0, hnm]))
    | fail)
        (refine EndOK.val (.inr rfl) ?_; simp [resD, oneOrTup, pureD, Try.results18])
        simp [nmS, hi]
      | some i =>
        rw [hi] at hlet
        simp only [ixO, boolsU, letsU] at hlet
        obtain ⟨q1, _⟩ := lastI_some hi
        have q2 : i < shs.length := by omega
        have q3 : shs[i]? = some shs[i] := List.getElem?_eq_getElem q2
        have q4 : shs.getD i false = shs[i] := by rw [List.getD_eq_getElem?_getD, q3]; rfl
        have q5 : (i : Int) < shs.length := by omega
        have q6 : ¬ (i : Int) < 0 := by omega
        (refine Fun.of_body Try.func18 rfl (by simp) fun Γ hn => ?_); simp only [entry, List.zipIdx_cons, List.zipIdx_nil, List.map_cons, List.map_nil, Nat.zero_add, Try.ntmps18]
        simp only [eagg, boolsU, letsU]
        repeat' (first
    | (refine H_cons ?_; simp [h0, hnm, q2, q6])
    | (refine H_nil ?_; simp [h0, hnm, q2, q6])
    | (refine V_sseq ?_; simp [h0, hnm, q2, q6])
    | (refine V_scond ?_; simp [h0, hnm, q2, q6])
    | (refine V_sblock ?_; simp [h0, hnm, q2, q6])
    | (refine V_ret ?_; simp only [RunK])
    | (refine CallP.fun_ (hlet) (by first | rfl | fail) (by first | assumption | (simp; done) | fail) (by first | (simp [h0, hnm, q2, q6]; done) | (simp [h0, hnm, q2, q6]; rfl) | fail) (by first | (simp; done) | fail) (fun d hd => ?_); subst hd; (try simp [h0, hnm, q2, q6]))
    | fail)
        (refine EndOK.val (.inr rfl) ?_; simp [resD, oneOrTup, pureD, Try.results18])
        simp [nmS, hi, q2]
    rw [if_neg hnm]
    have hr := h4 h0 hnm
    by_cases hA : e.op = 2 ∨ e.op = 3 ∨ e.op = 6 ∨ e.op = 7
    · rw [if_pos hA]
      have hl : e.args.length = 2 := by
        rcases hA with ha | ha | ha | ha <;> rw [ha] at h1 <;> simp [operandsI] at h1 <;> omega
      obtain ⟨a, b, hab⟩ : ∃ a b, e.args = [a, b] := by
        match hq : e.args, hl with
        | [a, b], _ => exact ⟨a, b, rfl⟩
      have h5 := share_fun' lets shs z n hn' hn1 hn2 d a (hr a (by simp [hab]))
      simp only [eagg, boolsU, letsU] at h5
      rw [hab, shareN]
      rcases hA with ha | ha | ha | ha
      all_goals
        (refine Fun.of_body Try.func18 rfl (by simp) fun Γ hn => ?_); simp only [entry, List.zipIdx_cons, List.zipIdx_nil, List.map_cons, List.map_nil, Nat.zero_add, Try.ntmps18]
        simp only [eagg, boolsU, letsU]
        repeat' (first
    | (refine H_cons ?_; simp [ha, hab, a.row_eq, b.row_eq])
    | (refine H_nil ?_; simp [ha, hab, a.row_eq, b.row_eq])
    | (refine V_sseq ?_; simp [ha, hab, a.row_eq, b.row_eq])
    | (refine V_scond ?_; simp [ha, hab, a.row_eq, b.row_eq])
    | (refine V_sblock ?_; simp [ha, hab, a.row_eq, b.row_eq])
    | (refine V_sregion ?_; simp [ha, hab, a.row_eq, b.row_eq])
    | (refine V_ret ?_; simp only [RunK])
    | (refine V_skip ?_; simp only [RunK])
    | (refine CallP.fun_ (h5) (by first | rfl | fail) (by first | assumption | (simp; done) | fail) (by first | (simp [ha, hab, a.row_eq, b.row_eq]; done) | (simp [ha, hab, a.row_eq, b.row_eq]; rfl) | fail) (by first | (simp; done) | fail) (fun d hd => ?_); subst hd; (try simp [ha, hab, a.row_eq, b.row_eq]))
    | fail)
        (refine EndOK.val (.inr rfl) ?_; simp [resD, oneOrTup, pureD, Try.results18])
    rw [if_neg hA]
    by_cases hB : e.op = 4
    · rw [if_pos hB]
      have hl : e.args.length = 2 := by rw [hB] at h1; simp [operandsI] at h1; omega
      obtain ⟨a, b, hab⟩ : ∃ a b, e.args = [a, b] := by
        match hq : e.args, hl with
        | [a, b], _ => exact ⟨a, b, rfl⟩
      have h5 := share_fun' lets shs z n hn' hn1 hn2 d a (hr a (by simp [hab]))
      have h6 := share_fun' lets shs z n hn' hn1 hn2 d b (hr b (by simp [hab]))
      simp only [eagg, boolsU, letsU] at h5 h6
      rw [hab, shareN, shareN, shareN]
      generalize shareS (nmS lets shs n) a = x1 at h5 ⊢
      generalize shareS (nmS lets shs n) b = x2 at h6 ⊢
      (refine Fun.of_body Try.func18 rfl (by simp) fun Γ hn => ?_); simp only [entry, List.zipIdx_cons, List.zipIdx_nil, List.map_cons, List.map_nil, Nat.zero_add, Try.ntmps18]
      simp only [eagg, boolsU, letsU]
      repeat' (first
    | (refine H_cons ?_; simp [hB, hab, a.row_eq, b.row_eq])
    | (refine H_nil ?_; simp [hB, hab, a.row_eq, b.row_eq])
    | (refine V_sseq ?_; simp [hB, hab, a.row_eq, b.row_eq])
    | (refine V_scond ?_; simp [hB, hab, a.row_eq, b.row_eq])
    | (refine V_sblock ?_; simp [hB, hab, a.row_eq, b.row_eq])
    | (refine V_sregion ?_; simp [hB, hab, a.row_eq, b.row_eq])
    | (refine V_ret ?_; simp only [RunK])
    | (refine ⟨fun hc => ?_, fun hc => ?_⟩ <;> (try (exfalso; omega)))
    | (refine CallP.fun_ (h5) (by first | rfl | fail) (by first | assumption | (simp; done) | fail) (by first | (simp [hB, hab, a.row_eq, b.row_eq]; done) | (simp [hB, hab, a.row_eq, b.row_eq]; rfl) | fail) (by first | (simp; done) | fail) (fun d hd => ?_); subst hd; (try simp [hB, hab, a.row_eq, b.row_eq]))
    | (refine CallP.fun_ (h6) (by first | rfl | fail) (by first | assumption | (simp; done) | fail) (by first | (simp [hB, hab, a.row_eq, b.row_eq]; done) | (simp [hB, hab, a.row_eq, b.row_eq]; rfl) | fail) (by first | (simp; done) | fail) (fun d hd => ?_); subst hd; (try simp [hB, hab, a.row_eq, b.row_eq]))
    | fail)
      all_goals
        (refine EndOK.val (.inr rfl) ?_; simp [resD, oneOrTup, pureD, Try.results18])
      all_goals (simp_all; done)
    rw [if_neg hB]
    by_cases hC' : e.op = 13
    · rw [if_pos hC']
      have hl : e.args.length = 3 := by rw [hC'] at h1; simp [operandsI] at h1; omega
      obtain ⟨a, b, c, hab⟩ : ∃ a b c, e.args = [a, b, c] := by
        match hq : e.args, hl with
        | [a, b, c], _ => exact ⟨a, b, c, rfl⟩
      have h5 := share_fun' lets shs z n hn' hn1 hn2 d b (hr b (by simp [hab]))
      simp only [eagg, boolsU, letsU] at h5
      rw [hab, shareN, shareN]
      (refine Fun.of_body Try.func18 rfl (by simp) fun Γ hn => ?_); simp only [entry, List.zipIdx_cons, List.zipIdx_nil, List.map_cons, List.map_nil, Nat.zero_add, Try.ntmps18]
      simp only [eagg, boolsU, letsU]
      repeat' (first
    | (refine H_cons ?_; simp [hC', hab, a.row_eq, b.row_eq, c.row_eq])
    | (refine H_nil ?_; simp [hC', hab, a.row_eq, b.row_eq, c.row_eq])
    | (refine V_sseq ?_; simp [hC', hab, a.row_eq, b.row_eq, c.row_eq])
    | (refine V_scond ?_; simp [hC', hab, a.row_eq, b.row_eq, c.row_eq])
    | (refine V_sblock ?_; simp [hC', hab, a.row_eq, b.row_eq, c.row_eq])
    | (refine V_sregion ?_; simp [hC', hab, a.row_eq, b.row_eq, c.row_eq])
    | (refine V_ret ?_; simp only [RunK])
    | (refine CallP.fun_ (h5) (by first | rfl | fail) (by first | assumption | (simp; done) | fail) (by first | (simp [hC', hab, a.row_eq, b.row_eq, c.row_eq]; done) | (simp [hC', hab, a.row_eq, b.row_eq, c.row_eq]; rfl) | fail) (by first | (simp; done) | fail) (fun d hd => ?_); subst hd; (try simp [hC', hab, a.row_eq, b.row_eq, c.row_eq]))
    | fail)
      (refine EndOK.val (.inr rfl) ?_; simp [resD, oneOrTup, pureD, Try.results18])
    rw [if_neg hC']
    have hD : ¬ e.op = 2 ∧ ¬ e.op = 3 ∧ ¬ e.op = 6 ∧ ¬ e.op = 7 := by omega
    obtain ⟨g1, g2, g3, g4⟩ := hD
    (refine Fun.of_body Try.func18 rfl (by simp) fun Γ hn => ?_); simp only [entry, List.zipIdx_cons, List.zipIdx_nil, List.map_cons, List.map_nil, Nat.zero_add, Try.ntmps18]
    simp only [eagg, boolsU, letsU]
    repeat' (first
    | (refine H_cons ?_; simp [h0, hnm, g1, g2, g3, g4, hB, hC'])
    | (refine H_nil ?_; simp [h0, hnm, g1, g2, g3, g4, hB, hC'])
    | (refine V_sseq ?_; simp [h0, hnm, g1, g2, g3, g4, hB, hC'])
    | (refine V_scond ?_; simp [h0, hnm, g1, g2, g3, g4, hB, hC'])
    | (refine V_sblock ?_; simp [h0, hnm, g1, g2, g3, g4, hB, hC'])
    | (refine V_sregion ?_; simp [h0, hnm, g1, g2, g3, g4, hB, hC'])
    | (refine V_ret ?_; simp only [RunK])
    | (refine V_skip ?_; simp only [RunK])
    | fail)
    (refine EndOK.val (.inr rfl) ?_; simp [resD, oneOrTup, pureD, Try.results18])
theorem plain_fun (lets : List Let) (shs : List Bool) (z : U) (n : Nat) (hn' : n ≤ lets.length) (hn1 : n ≤ shs.length) (hn2 : n ≤ 1000) (d : Nat) (e : Exp) (h : rightB (d + 1) e = true) (hop : 2 ≤ e.op ∧ e.op ≤ 9 ∨ e.op = 12) :
    Fun Try.prog 29 [.u (.row [letsU lets, boolsU shs, z] 0), .u (.int .i64 n), eagg e] (· = .u (.int .i64 (plainOp (shareS (nmS lets shs n)) e.op e.args))) := by
  obtain ⟨h1, h2, h3, h4⟩ := right_args h
  have hr := h4 (by omega) (by omega)
  by_cases hB : e.op = 4
  · have hl : e.args.length = 2 := by rw [hB] at h1; simp [operandsI] at h1; omega
    obtain ⟨a, b, hab⟩ : ∃ a b, e.args = [a, b] := by
      match hq : e.args, hl with
      | [a, b], _ => exact ⟨a, b, rfl⟩
    have h5 := share_fun' lets shs z n hn' hn1 hn2 d a (hr a (by simp [hab]))
    have h6 := share_fun' lets shs z n hn' hn1 hn2 d b (hr b (by simp [hab]))
    simp only [eagg, boolsU, letsU] at h5 h6
    have hp : plainOp (shareS (nmS lets shs n)) e.op e.args = if (shareS (nmS lets shs n) a || shareS (nmS lets shs n) b) = true then 6 else 4 := by simp [plainOp, hB, hab]
    rw [hp]
    generalize shareS (nmS lets shs n) a = x1 at h5 ⊢
    generalize shareS (nmS lets shs n) b = x2 at h6 ⊢
    (refine Fun.of_body Try.func29 rfl (by simp) fun Γ hn => ?_); simp only [entry, List.zipIdx_cons, List.zipIdx_nil, List.map_cons, List.map_nil, Nat.zero_add, Try.ntmps29]
    simp only [eagg, boolsU, letsU]
    repeat' (first
    | (refine H_cons ?_; simp [hB, hab, a.row_eq, b.row_eq])
    | (refine H_nil ?_; simp [hB, hab, a.row_eq, b.row_eq])
    | (refine V_sseq ?_; simp [hB, hab, a.row_eq, b.row_eq])
    | (refine V_scond ?_; simp [hB, hab, a.row_eq, b.row_eq])
    | (refine V_sblock ?_; simp [hB, hab, a.row_eq, b.row_eq])
    | (refine V_ret ?_; simp only [RunK])
    | (refine V_skip ?_; simp only [RunK])
    | (refine ⟨fun hc => ?_, fun hc => ?_⟩ <;> (try (exfalso; omega)))
    | (refine CallP.fun_ (h5) (by first | rfl | fail) (by first | assumption | (simp; done) | fail) (by first | (simp [hB, hab, a.row_eq, b.row_eq]; done) | (simp [hB, hab, a.row_eq, b.row_eq]; rfl) | fail) (by first | (simp; done) | fail) (fun d hd => ?_); subst hd; (try simp [hB, hab, a.row_eq, b.row_eq]))
    | (refine CallP.fun_ (h6) (by first | rfl | fail) (by first | assumption | (simp; done) | fail) (by first | (simp [hB, hab, a.row_eq, b.row_eq]; done) | (simp [hB, hab, a.row_eq, b.row_eq]; rfl) | fail) (by first | (simp; done) | fail) (fun d hd => ?_); subst hd; (try simp [hB, hab, a.row_eq, b.row_eq]))
    | fail)
    all_goals
      (refine EndOK.val (.inr rfl) ?_; simp [resD, oneOrTup, pureD, Try.results29])
    all_goals (simp_all; done)
  · rcases (show e.op = 2 ∨ e.op = 3 ∨ e.op = 5 ∨ e.op = 6 ∨ e.op = 7 ∨ e.op = 8 ∨ e.op = 9 ∨ e.op = 12 by omega) with ho | ho | ho | ho | ho | ho | ho | ho
    all_goals
      have hp : ∃ r, plainOp (shareS (nmS lets shs n)) e.op e.args = r ∧ r = plainOp (shareS (nmS lets shs n)) e.op [] := ⟨_, rfl, by simp [plainOp, ho]⟩
      obtain ⟨r, hp1, hp2⟩ := hp
      rw [hp1]
      rw [ho] at hp2
      simp only [plainOp, if_true, if_false, if_pos, if_neg, Int.reduceEq] at hp2
      subst hp2
      (refine Fun.of_body Try.func29 rfl (by simp) fun Γ hn => ?_); simp only [entry, List.zipIdx_cons, List.zipIdx_nil, List.map_cons, List.map_nil, Nat.zero_add, Try.ntmps29]
      simp only [eagg, boolsU, letsU]
      repeat' (first
    | (refine H_cons ?_; simp [ho])
    | (refine H_nil ?_; simp [ho])
    | (refine V_sseq ?_; simp [ho])
    | (refine V_scond ?_; simp [ho])
    | (refine V_sblock ?_; simp [ho])
    | (refine V_ret ?_; simp only [RunK])
    | fail)
      (refine EndOK.val (.inr rfl) ?_; simp [resD, oneOrTup, pureD, Try.results29])
theorem full_fun (x y : U) (code : Code) : Fun Try.prog 20 [.u (.row [x, y, Vm.inss code] 0)] (· = .u (.bool (decide (2000 ≤ code.length)))) := by
  simp only [Vm.inss]
  (refine Fun.of_body Try.func20 rfl (by simp) fun Γ hn => ?_); simp only [entry, List.zipIdx_cons, List.zipIdx_nil, List.map_cons, List.map_nil, Nat.zero_add, Try.ntmps20]
  repeat' (first
    | (refine H_cons ?_; simp)
    | (refine H_nil ?_; simp)
    | (refine V_sseq ?_; simp)
    | (refine V_ret ?_; simp only [RunK])
    | fail)
  all_goals
    (refine EndOK.val (.inr rfl) ?_; simp [resD, oneOrTup, pureD, Try.results20])
  all_goals first | omega | (simp; omega)
end Go.Proofs.Ytmoohdpnmkkgpaa
namespace Go.Proofs.Ytmoohdpnmkkgpaa
open Go Go.VL
def vsV (vars : List Var) : List Vm.Var := vars.map fun v => ⟨v.name, v.unit, v.n⟩
theorem gV_find : ∀ (vars : List Var) (g : GM) (s : List UInt8), asc (vars.foldl gst g) s = match asc g s with | some v => some v | none => (vars.find? fun v => decide (v.name = s)).map (·.n)
  | [], g, s => by cases h : asc g s <;> simp [h]
  | v :: l, g, s => by
    rw [List.foldl_cons, gV_find l, List.find?_cons]
    unfold gst
    by_cases hv : v.name = s
    · subst hv
      cases h : asc g v.name with
      | some x => simp [h]
      | none => simp [asc_put]
    · have e : asc (if asc g v.name = none then ascPut g v.name v.n else g) s = asc g s := by
        split
        · rw [asc_put, if_neg (fun e => hv e.symm)]
        · rfl
      rw [e]
      simp [hv]
theorem given_find (vars : List Var) (s : List UInt8) : gF (gV vars) s = ((vsV vars).find? fun v => decide (v.name = s)).map (·.n) := by
  have h := gV_find vars [] s
  rw [show asc ([] : GM) s = none from rfl] at h
  unfold gF gV
  rw [show (vars.foldl (fun g v => if asc g v.name = none then ascPut g v.name v.n else g) []) = vars.foldl gst [] from rfl, h]
  simp only [vsV, List.find?_map]
  have : ((fun v : Vm.Var => decide (v.name = s)) ∘ fun v : Var => (⟨v.name, v.unit, v.n⟩ : Vm.Var)) = fun v : Var => decide (v.name = s) := rfl
  rw [this]
  cases hf : vars.find? fun v => decide (v.name = s) <;> simp_all
/-- The shares among the lets. -/
def shsL (lets : List Let) : Nat → List Bool
  | 0 => []
  | n + 1 => match lets[n]? with
    | none => shsL lets n
    | some l => shsL lets n ++ [shareS (sF (mOf [] (lets.take n))) l.body]
theorem shsL_len {lets : List Let} : ∀ {n : Nat}, n ≤ lets.length → (shsL lets n).length = n
  | 0, _ => rfl
  | n + 1, h => by
    have hn : n < lets.length := by omega
    rw [shsL, List.getElem?_eq_getElem hn]
    simp [shsL_len (lets := lets) (n := n) (by omega)]
theorem shsL_at {lets : List Let} {i : Nat} {l : Let} (hl : lets[i]? = some l) : ∀ {n : Nat}, i < n → n ≤ lets.length → (shsL lets n)[i]? = some (shareS (sF (mOf [] (lets.take i))) l.body)
  | 0, h, _ => by omega
  | n + 1, h, hn => by
    have hn2 : n < lets.length := by omega
    have hlen := shsL_len (lets := lets) (n := n) (by omega)
    rw [shsL, List.getElem?_eq_getElem hn2]
    simp only
    rcases Nat.lt_or_ge i n with h2 | h2
    · rw [List.getElem?_append_left (by omega)]
      exact shsL_at hl h2 (by omega)
    · obtain rfl : i = n := by omega
      rw [List.getElem?_append_right (by omega), hlen]
      rw [List.getElem?_eq_getElem hn2] at hl
      cases hl
      simp
theorem nmS_eq {lets : List Let} {m : Nat} (hm : m ≤ lets.length) : ∀ {n : Nat}, n ≤ m → ∀ s, nmS lets (shsL lets m) n s = sF (mOf [] (lets.take n)) s
  | 0, _, s => by simp [nmS, lastI, mOf, sF, asc]
  | n + 1, hn, s => by
    have hnl : n < lets.length := by omega
    have hl : lets[n]? = some lets[n] := List.getElem?_eq_getElem hnl
    have ih := nmS_eq hm (n := n) (by omega) s
    rw [mOf_succ hl]
    unfold nmS at ih ⊢
    rw [lastI, hl]
    simp only
    unfold sF
    rw [asc_put]
    by_cases hs : lets[n].name = s
    · rw [if_pos hs, if_pos hs.symm]
      have := shsL_at hl (n := m) (by omega) hm
      simp [List.getD_eq_getElem?_getD, this]
      rfl
    · rw [if_neg hs, if_neg (fun e => hs e.symm)]
      exact ih
theorem shareP_take {lets : List Let} (hr : ∀ l ∈ lets, rightB 12 l.body = true) (hl : lets.length ≤ 20) {n m : Nat} (hn : n ≤ m) (hm : m ≤ lets.length) {e : Exp} (he : rightB 12 e = true) : shareP (lets.take n) e = shareS (nmS lets (shsL lets m) n) e := by
  have h1 : rightAll (lets.take n) e = true := by
    simp only [rightAll, Bool.and_eq_true, decide_eq_true_eq, Bool.not_eq_true', List.any_eq_false, Bool.not_eq_true]
    refine ⟨⟨by simp; omega, he⟩, fun l h => ?_⟩
    rw [hr l (List.mem_of_mem_take h)]
    simp
  rw [shareP, h1, Bool.true_and, show nmS lets (shsL lets m) n = sF (mOf [] (lets.take n)) from funext fun s => nmS_eq hm hn s]
theorem rightB_up : ∀ (d : Nat) (e : Exp), rightB d e = true → rightB (d + 1) e = true
  | 0, e, h => by simp [rightB] at h
  | d + 1, e, h => by
    have ih := fun x => rightB_up d x
    rw [rightB] at h ⊢
    by_cases h0 : e.op = 0
    · simpa [h0] using h
    · by_cases h1 : e.op = 1
      · simpa [h0, h1] using h
      · simp only [h0, h1, if_false, Bool.and_eq_true, decide_eq_true_eq] at h ⊢
        refine ⟨h.1, ?_⟩
        have h2 := h.2
        split at h2
        · cases h2
        · rename_i hz
          rw [if_neg hz]
          simp only [Bool.and_eq_true, decide_eq_true_eq, Bool.not_eq_true', List.any_eq_false] at h2 ⊢
          exact ⟨h2.1, fun x hx => by simpa using ih x (by simpa using h2.2 x hx)⟩
theorem rightB_le {d d' : Nat} (h : d ≤ d') {e : Exp} (he : rightB d e = true) : rightB d' e = true := by
  induction h with
  | refl => exact he
  | step _ ih => exact rightB_up _ _ ih
theorem plainOp_eq {lets : List Let} (hr : ∀ l ∈ lets, rightB 12 l.body = true) (hl : lets.length ≤ 20) {n m d : Nat} (hn : n ≤ m) (hm : m ≤ lets.length) {e : Exp} (he : rightB (d + 1) e = true) (hd : d ≤ 11) (h0 : ¬ e.op = 0) (h1 : ¬ e.op = 1) :
    plainOp (shareS (nmS lets (shsL lets m) n)) e.op e.args = plainOp (shareP (lets.take n)) e.op e.args := by
  have ha := (right_args he).2.2.2 h0 h1
  have : (e.args.take 2).any (shareS (nmS lets (shsL lets m) n)) = (e.args.take 2).any (shareP (lets.take n)) := by
    rw [Bool.eq_iff_iff, List.any_eq_true, List.any_eq_true]
    constructor
    · rintro ⟨x, hx, h⟩
      exact ⟨x, hx, by rw [shareP_take hr hl hn hm (rightB_le (by omega) (ha x (List.mem_of_mem_take hx)))]; exact h⟩
    · rintro ⟨x, hx, h⟩
      exact ⟨x, hx, by rw [← shareP_take hr hl hn hm (rightB_le (by omega) (ha x (List.mem_of_mem_take hx)))]; exact h⟩
  unfold plainOp
  rw [this]
abbrev shF (lets : List Let) (n : Nat) : Exp → Bool := shareP (lets.take n)
/-- What is compiled of a name does what it says. -/
theorem nm_does {lets : List Let} {vars : List Var} (hr : ∀ l ∈ lets, rightB 12 l.body = true) (hv : ∀ v ∈ vars, inC v.n) (hd : ∀ l ∈ lets, ∀ v ∈ vars, l.name ≠ v.name) :
    ∀ (n : Nat), n ≤ lets.length → ∀ s, Does (vsV vars) (nmC lets (shF lets) n s) (nmP lets (gF (gV vars)) n s []).1
  | 0, _, s => by
    rw [nmC, nmP]
    refine (Does.name s (fun v h => ?_)).cast ?_
    · obtain ⟨w, hw, rfl⟩ := List.mem_map.1 h
      exact hv w hw
    · rw [given_find]
      cases (vsV vars).find? fun v => decide (v.name = s) <;> rfl
  | n + 1, hn, s => by
    have hl : lets[n]? = some lets[n] := List.getElem?_eq_getElem (by omega)
    have ih := nm_does hr hv hd n (by omega)
    have hmem := List.mem_of_getElem? hl
    rw [nmC, nmP, hl]
    generalize lets[n] = l at *
    simp only
    cases hg : gF (gV vars) s with
    | some v =>
      have hne : l.name ≠ s := by
        rw [given_find] at hg
        simp only [vsV, List.find?_map, Option.map_eq_some_iff] at hg
        obtain ⟨_, ⟨w, hw, _⟩, _⟩ := hg
        have h1 := List.find?_some hw
        have h2 := List.mem_of_find?_eq_some hw
        simp at h1
        intro e
        exact hd l hmem w h2 (e.trans h1.symm)
      rw [if_neg hne]
      refine (ih s).cast ?_
      cases n <;> rw [nmP, hg]
    | none =>
      simp only
      split
      · exact (gen_does (fun t => nmP_pure n t) (fun t => nmC_pre n t) ih 12 l.body (hr l hmem))
      · exact ih s
/-- The code of an expression, without its end. -/
def compL (lets : List Let) (e : Exp) : Code := genT (nmC lets (shF lets) lets.length) (shF lets lets.length) e []
def compP (lets : List Let) (e : Exp) : Code × Int := if rightAll lets e = true then (if 2000 ≤ (compL lets e).length then ([], 6) else (compL lets e ++ [⟨14, 0, []⟩], 0)) else ([], 1)
theorem run_compiled {lets : List Let} {vars : List Var} {e : Exp} (hr : rightAll lets e = true) (hv : vars.all inCB = true) (hd : ∀ l ∈ lets, ∀ v ∈ vars, l.name ≠ v.name) (hl : (compL lets e).length < 2000) :
    ∃ q : Int, q ≤ (compL lets e ++ [⟨14, 0, []⟩] : Code).length ∧ Vm.runM (compL lets e ++ [⟨14, 0, []⟩]) (vsV vars) (min ((compL lets e ++ [⟨14, 0, []⟩] : Code).length : Int) 100000) = ((valueP lets vars e).1, q, (valueP lets vars e).2) := by
  obtain ⟨h1, h2, h3⟩ := rights_out hr
  have hvs : ∀ v ∈ vars, inC v.n := fun v h => by
    have := List.all_eq_true.1 hv v h
    simp only [inCB, Bool.and_eq_true, decide_eq_true_eq] at this
    unfold inC; omega
  have hD := gen_does (nm := nmC lets (shF lets) lets.length) (np := nmP lets (gF (gV vars)) lets.length) (sh := shF lets lets.length) (nmP_pure lets.length) (nmC_pre lets.length) (nm_does h3 hvs hd lets.length (Nat.le_refl _)) 12 e h2
  have hres := hD [] (compL lets e ++ [⟨14, 0, []⟩]) [] (Nat.le_of_lt hl) (fun i _ hi => List.getElem?_append_left hi) (fun x hx => by cases hx) 0 0
  have hlen : (compL lets e ++ [⟨14, 0, []⟩] : Code).length = (compL lets e).length + 1 := by simp
  rw [valueP_eq, if_pos ⟨hr, hv⟩]
  have hend : (compL lets e ++ [⟨14, 0, []⟩] : Code)[(compL lets e).length]? = some ⟨14, 0, []⟩ := by simp
  have hC : (genT (nmC lets (shF lets) lets.length) (shF lets lets.length) e []) = compL lets e := rfl
  rw [hC] at hres
  generalize compL lets e = L at *
  generalize hCC : (L ++ [⟨14, 0, []⟩] : Code) = CC at *
  have hv2 : valX lets (gF (gV vars)) lets.length e = (valT (nmP lets (gF (gV vars)) lets.length) (shF lets lets.length) e []).1 := by unfold valX; rfl
  rw [hv2]
  have hfuel : min (CC.length : Int) 100000 = (CC.length : Int) := by omega
  rw [hfuel]
  unfold Vm.runM
  rw [if_neg (by omega), Int.toNat_natCast]
  have h0 : Vm.run0 = at_ 0 [] 0 0 := rfl
  rw [h0]
  simp only [List.length_nil, Nat.sub_zero] at hres
  cases hx : (valT (nmP lets (gF (gV vars)) lets.length) (shF lets lets.length) e []).1 with
  | error er =>
    rw [hx] at hres
    obtain ⟨q, hq, hE⟩ := hres
    have := hE (CC.length : Int) (CC.length - q) 0
    rw [show q + (CC.length - q) = CC.length by omega] at this
    refine ⟨q, by omega, ?_⟩
    rw [this]
    simp [entX]
  | ok v =>
    rw [hx] at hres
    obtain ⟨hin, q, hq, hE⟩ := hres
    have hfin := hE.ends (run_end (vs := vsV vars) (va := 0) (er := 0) hend hin)
    have := hfin (CC.length : Int) (CC.length - (q + 1)) 0
    rw [show q + 1 + (CC.length - (q + 1)) = CC.length by omega] at this
    refine ⟨q + 1, by omega, ?_⟩
    rw [this]
    simp [entX]
end Go.Proofs.Ytmoohdpnmkkgpaa
namespace Go.Proofs.Ytmoohdpnmkkgpaa
open Go Go.VL
abbrev insR (c : Code) : List (List D) := c.map fun i => [.u (.int .i64 i.op), .u (.int .i64 i.a), .u (.str i.s)]
abbrev cOb (lets : List Let) (shs : List Bool) (q : Nat) (c : Code) : Ob := .box [.u (letsU lets), .u (boolsU shs), .vec q c.length]
abbrev kOb (c : Code) : Ob := .vec 45 3 (insR c)
theorem insR_lenR (c : Code) : lenR 3 (insR c) := by intro r hr; obtain ⟨i, _, rfl⟩ := List.mem_map.1 hr; rfl
theorem pure_insR (c : Code) : pureRows (insR c) := by
  induction c with
  | nil => simp [insR, pureRows]
  | cons a l ih => simp only [insR] at ih; simp [insR, pureRows, pureRow, ih]
theorem insR_set (c : Code) (j : Nat) (x : Ins) : (insR c).set j [.u (.int .i64 x.op), .u (.int .i64 x.a), .u (.str x.s)] = insR (c.set j x) := by simp [insR]
theorem insR_at {c : Code} {j : Nat} {x : Ins} (h : c[j]? = some x) : (insR c)[j]? = some [.u (.int .i64 x.op), .u (.int .i64 x.a), .u (.str x.s)] := by simp [insR, h]
theorem insR_len (c : Code) : (insR c).length = c.length := by simp [insR]
attribute [local simp] HS hcons hstep evPure opd uOf putOK St.put St.at getK binD binI binS binB nilD aggD eqUs cmpK lookD lookR rangeD Go.VL.nextD entryD keyD valU keyU lookK mkV entD_nil lookK_entD updK_entD1 updK_entD3 allUE allUE_entD makeMapD mapUpdD mapEff updK valM Key.kk shiftI arith unD convD pickD loadD cellsAt fieldAddrD fieldD indexAddrD indexD sliceD cutD lenD minmaxD nilCheckD buildD fillD cellsD isOne ones setAll mkAgg allU allocD boxD storeD St.add buildSliceD appendD rowsOf makeD setOb getK_setOb getK_del getK_cons stripL strip guardTmp entry chunks zcells valD argsV argsW argW argU1 argU0 argsU0 argsU1 calleeOf scalarD scalarU delAll effD St.effS RK_seq RK_seq_ret RK_seq_exit RK_blk RK_blk_ret RK_blk_exit RK_loop RK_loop_ret RK_loop_exit RK_done vs_seq vs_block vs_cond vs_region vs_loop vs_draw applyW mkD rdIds lentIds callOf calleeOf freeOp D.ids Op.operands Call.operands isEffOp makeIfD typeAssertD conc concs conc1 uOfV panicD IntKind.bits allU2 List.take_of_length_le List.range_succ
attribute [local irreducible] V G H HD HD2 HD4 HD4h RetX RunK Eff CallP CallV EndOK Fun Ret FinOK LoopI LoopW EndW
theorem put_x (lets : List Let) (shs : List Bool) (c : Code) (i : Ins) (m q nx : Nat) (hm : m < nx) (hq : q < nx) (hmq : m ≠ q) (hl : c.length ≤ 100000) : RetX Try.prog 21 [.ptr m 0, .u (.agg [.int .i64 i.op, .int .i64 i.a, .str i.s])] [(m, cOb lets shs q c), (q, kOb c)] nx
    fun r o n' => r = .val (.u (.int .i64 (((putC c i).length : Int) - 1))) ∧ o = [(m, cOb lets shs nx (putC c i)), (nx, kOb (putC c i))] ∧ n' = nx + 1 := by
  have hne := nef hm
  have hne2 := nef hq
  have hlr := insR_lenR c
  have hm1 : m < nx + 1 := by omega
  unfold cOb kOb
  generalize boolsU shs = y
  simp only [letsU]
  unfold putC
  by_cases hc2 : c.length ≤ 2000
  · rw [if_pos hc2]
    (refine RetX.of_bodyW Try.func21 rfl (by simp) fun Γ hn hpan => ?_); simp only [entry, List.zipIdx_cons, List.zipIdx_nil, List.map_cons, List.map_nil, Nat.zero_add, Try.ntmps21]
    repeat' (first
    | (refine H_cons ?_; simp [hne, hne2, hmq, Ne.symm hmq, hc2, Nat.add_assoc, del])
    | (refine HD4_val rfl ?_; simp [hne, hne2, hmq, Ne.symm hmq, hc2, Nat.add_assoc, del])
    | (refine HD4_chg rfl ?_; simp [hne, hne2, hmq, Ne.symm hmq, hc2, Nat.add_assoc, del])
    | (refine H_nil ?_; simp [hne, hne2, hmq, Ne.symm hmq, hc2, Nat.add_assoc, del])
    | (refine ⟨by omega, ?_⟩)
    | (refine V_sseq ?_; simp [hne, hne2, hmq, Ne.symm hmq, hc2, Nat.add_assoc, del])
    | (refine V_scond ?_; simp [hne, hne2, hmq, Ne.symm hmq, hc2, Nat.add_assoc, del])
    | (refine HD4_nil (hC _ (okP4_ren [m, q] nx (by simp <;> omega) (by simp <;> omega) (by apply Exists.intro; apply And.intro; (focus (repeat' (first | exact KF.nil | exact KL.nil | apply KF.cons | apply KL.cons 0 rfl | apply KL.cons 1 rfl | apply KL.cons 2 rfl | apply KL.cons 3 rfl | apply KL.cons 4 rfl | apply KL.cons 5 rfl | apply KL.cons 6 rfl | apply KL.cons 7 rfl | apply KL.cons 8 rfl | apply KL.cons 9 rfl))); kernel_rfl))) (hk _ ?_); clear hC hk C k; simp only [RunK])
    | (refine V_drawX rfl (by kernel_rfl) (by first | (simp [hn]; done) | (simp [hn]; omega) | fail) fun C k hC hk => ?_; simp [hne, hne2, hmq, Ne.symm hmq, hc2, Nat.add_assoc, del])
    | (refine V_ret ?_; simp only [RunK])
    | (refine ⟨?_, by omega⟩)
    | (intro hc <;> (try (exfalso; omega)))
    | fail)
    refine EndW.wk { n := _, env := [(4, .u (.int .i64 c.length))], obs := [(m, .box [.u (.sl (lets.map fun l => [.str l.name, .int .i64 l.body.op, .int .i64 l.body.n, .int .i64 l.body.unit, .str l.body.s, .sl (l.body.args.map Exp.row)])), .u y, .vec nx (c.length + 1)]), (nx, .vec 45 3 (insR c ++ [[.u (.int .i64 i.op), .u (.int .i64 i.a), .u (.str i.s)]]))], next := nx + 1 } (Wk.ren ((fun i => if i = nx then nx + 2 else i)) rfl (by first | (simp [hn]; done) | (intro i hi; rw [hn] at hi; constructor <;> (try simp) <;> (try (intro _)) <;> omega)) (by simp [wkER, St.lp, keepE, getK_cons, getK, getK_del, getK_setOb, D.under, D.le, D.ren, hne, hne2, hmq, Ne.symm hmq, hm1, pure_insR] <;> (try (intros; simp_all; done)) <;> (try omega)) (by simp [wkR, St.lp, getK_cons, getK, getK_del, getK_setOb, obR, leU, pureRow, pureRows, Ob.under, D.under, D.le, D.ren, hne, hne2, hmq, Ne.symm hmq, hm1, pure_insR] <;> (try (intros; simp_all; done)) <;> (try omega)) (by simp [hne, hne2, hmq, Ne.symm hmq, hm1, pure_insR])) ?_
    (refine EndW.here ?_; (first | (refine EndOK.fin (.inr rfl) ?_) | (refine EndOK.fin (.inl rfl) ?_)); simp [resD, oneOrTup, Try.results21]; refine FinOK.here (by simp) ?_; try simp)
  · rw [if_neg hc2]
    (refine RetX.of_bodyW Try.func21 rfl (by simp) fun Γ hn hpan => ?_); simp only [entry, List.zipIdx_cons, List.zipIdx_nil, List.map_cons, List.map_nil, Nat.zero_add, Try.ntmps21]
    repeat' (first
    | (refine H_cons ?_; simp [hne, hne2, hmq, Ne.symm hmq, hc2, Nat.add_assoc, del])
    | (refine H_nil ?_; simp [hne, hne2, hmq, Ne.symm hmq, hc2, Nat.add_assoc, del])
    | (refine ⟨by omega, ?_⟩)
    | (refine V_sseq ?_; simp [hne, hne2, hmq, Ne.symm hmq, hc2, Nat.add_assoc, del])
    | (refine V_scond ?_; simp [hne, hne2, hmq, Ne.symm hmq, hc2, Nat.add_assoc, del])
    | (refine V_ret ?_; simp only [RunK])
    | (refine V_skip ?_; simp only [RunK])
    | (intro hc <;> (try (exfalso; omega)))
    | fail)
    refine EndW.wk { n := _, env := [(4, .u (.int .i64 ((c.length : Int) - 1)))], obs := [(m, .box [.u (.sl (lets.map fun l => [.str l.name, .int .i64 l.body.op, .int .i64 l.body.n, .int .i64 l.body.unit, .str l.body.s, .sl (l.body.args.map Exp.row)])), .u y, .vec nx c.length]), (nx, .vec 45 3 (insR c))], next := nx + 1 } (Wk.ren ((fun i => if i = nx then q else i)) rfl (by first | (simp [hn]; done) | (intro i hi; rw [hn] at hi; constructor <;> (try simp) <;> (try (intro _)) <;> omega)) (by simp [wkER, St.lp, keepE, getK_cons, getK, getK_del, getK_setOb, D.under, D.le, D.ren, hne, hne2, hmq, Ne.symm hmq, hm1, pure_insR] <;> (try (intros; simp_all; done)) <;> (try omega)) (by simp [wkR, St.lp, getK_cons, getK, getK_del, getK_setOb, obR, leU, pureRow, pureRows, Ob.under, D.under, D.le, D.ren, hne, hne2, hmq, Ne.symm hmq, hm1, pure_insR] <;> (try (intros; simp_all; done)) <;> (try omega)) (by simp [hne, hne2, hmq, Ne.symm hmq, hm1, pure_insR])) ?_
    (refine EndW.here ?_; (first | (refine EndOK.fin (.inr rfl) ?_) | (refine EndOK.fin (.inl rfl) ?_)); simp [resD, oneOrTup, Try.results21]; refine FinOK.here (by simp) ?_; try simp)
theorem land_x (lets : List Let) (shs : List Bool) (c : Code) (j : Nat) (m q nx : Nat) (hm : m < nx) (hq : q < nx) (hmq : m ≠ q) (hl : c.length ≤ 100000) (hj : j < c.length) : RetX Try.prog 51 [.ptr m 0, .u (.int .i64 j)] [(m, cOb lets shs q c), (q, kOb c)] nx
    fun r o n' => r = .val (.tup []) ∧ o = [(m, cOb lets shs nx (landC c j)), (nx, kOb (landC c j))] ∧ n' = nx + 1 := by
  have hne := nef hm
  have hne2 := nef hq
  have hm1 : m < nx + 1 := by omega
  have hx : c[j]? = some c[j] := List.getElem?_eq_getElem hj
  have hxr := insR_at hx
  have hlen := landC_len c j
  have hset := insR_set c j { c[j] with a := c.length }
  have hland : landC c j = c.set j { c[j] with a := c.length } := by unfold landC; rw [hx]
  have hp := pure_insR (landC c j)
  rw [hland] at hlen hp ⊢
  generalize c.set j { c[j] with a := c.length } = c2 at *
  generalize c[j] = x at *
  have hij := insR_len c
  have hj2 : j < (insR c).length := by omega
  unfold cOb kOb
  rw [hlen]
  generalize boolsU shs = y
  generalize hR : insR c = R at *
  generalize insR c2 = R2 at *
  have hxe : R[j] = [.u (.int .i64 x.op), .u (.int .i64 x.a), .u (.str x.s)] := by
    rw [List.getElem?_eq_getElem hj2] at hxr
    exact Option.some.inj hxr
  simp only at hset
  clear hland hx hR hxr
  simp only [letsU]
  (refine RetX.of_bodyW Try.func51 rfl (by simp) fun Γ hn hpan => ?_); simp only [entry, List.zipIdx_cons, List.zipIdx_nil, List.map_cons, List.map_nil, Nat.zero_add, Try.ntmps51]
  repeat' (first
    | (refine HD4_val rfl ?_; simp [hne, hne2, hmq, Ne.symm hmq, Nat.add_assoc, del, hij, hj, hxe, hset])
    | (refine HD4_chg rfl ?_; simp [hne, hne2, hmq, Ne.symm hmq, Nat.add_assoc, del, hij, hj, hxe, hset])
    | (refine HD4_nil (hC _ (okP4_ren [m, q] nx (by simp <;> omega) (by simp <;> omega) (by apply Exists.intro; apply And.intro; (focus (repeat' (first | exact KF.nil | exact KL.nil | apply KF.cons | apply KL.cons 0 rfl | apply KL.cons 1 rfl | apply KL.cons 2 rfl | apply KL.cons 3 rfl | apply KL.cons 4 rfl | apply KL.cons 5 rfl | apply KL.cons 6 rfl | apply KL.cons 7 rfl | apply KL.cons 8 rfl | apply KL.cons 9 rfl))); kernel_rfl))) (hk _ ?_); clear hC hk C k; simp only [RunK])
    | (refine V_drawX rfl (by kernel_rfl) (by first | (simp [hn]; done) | (simp [hn]; omega) | fail) fun C k hC hk => ?_; simp [hne, hne2, hmq, Ne.symm hmq, Nat.add_assoc, del, hij, hj, hxe, hset])
    | fail)
  refine EndW.wk { n := _, env := [], obs := [(m, .box [.u (.sl (lets.map fun l => [.str l.name, .int .i64 l.body.op, .int .i64 l.body.n, .int .i64 l.body.unit, .str l.body.s, .sl (l.body.args.map Exp.row)])), .u y, .vec nx c.length]), (nx, .vec 45 3 R2)], next := nx + 1 } (Wk.ren ((fun i => if i = nx then q else i)) rfl (by first | (simp [hn]; done) | (intro i hi; rw [hn] at hi; constructor <;> (try simp) <;> (try (intro _)) <;> omega)) (by simp [wkER, St.lp, keepE, getK_cons, getK, getK_del, getK_setOb, D.under, D.le, D.ren, hne, hne2, hmq, Ne.symm hmq, hm1, hp] <;> (try (intros; simp_all; done)) <;> (try omega)) (by simp [wkR, St.lp, getK_cons, getK, getK_del, getK_setOb, obR, leU, pureRow, pureRows, Ob.under, D.under, D.le, D.ren, hne, hne2, hmq, Ne.symm hmq, hm1, hp] <;> (try (intros; simp_all; done)) <;> (try omega)) (by simp [hne, hne2, hmq, Ne.symm hmq, hm1, hp])) ?_
  (refine EndW.here ?_; (first | (refine EndOK.fin (.inr rfl) ?_) | (refine EndOK.fin (.inl rfl) ?_)); simp [resD, oneOrTup, Try.results51]; refine FinOK.here (by simp) ?_; try simp)
theorem truth_x (lets : List Let) (shs : List Bool) (c : Code) (m q nx : Nat) (hm : m < nx) (hq : q < nx) (hmq : m ≠ q) (hl : c.length ≤ 100000) : RetX Try.prog 50 [.ptr m 0] [(m, cOb lets shs q c), (q, kOb c)] nx
    fun r o n' => r = .val (.tup []) ∧ o = [(m, cOb lets shs nx (truthC c)), (nx, kOb (truthC c))] ∧ n' = nx + 1 := by
  have hne := nef hm
  have hne2 := nef hq
  have hm1 : m < nx + 1 := by omega
  have hp := pure_insR (truthC c)
  have hlc := putC_len c ⟨11, 0, []⟩
  have h1 := put_x lets shs c ⟨11, 0, []⟩ m q nx hm hq hmq hl
  have h2 := put_x lets shs (putC c ⟨11, 0, []⟩) ⟨11, 0, []⟩ m nx (nx + 1) (by omega) (by omega) (by omega) (by split at hlc <;> omega)
  unfold truthC at hp ⊢
  simp only [letsU] at h1 h2 ⊢
  generalize putC c ⟨11, 0, []⟩ = c1 at *
  generalize putC c1 ⟨11, 0, []⟩ = c2 at *
  (refine RetX.of_bodyW Try.func50 rfl (by simp) fun Γ hn hpan => ?_); simp only [entry, List.zipIdx_cons, List.zipIdx_nil, List.map_cons, List.map_nil, Nat.zero_add, Try.ntmps50]
  repeat' (first
    | (refine H_cons ?_; simp [hne, hne2, hmq, Ne.symm hmq, Nat.add_assoc, del])
    | (refine H_nil ?_; simp [hne, hne2, hmq, Ne.symm hmq, Nat.add_assoc, del])
    | (refine V_sseq ?_; simp [hne, hne2, hmq, Ne.symm hmq, Nat.add_assoc, del])
    | (refine V_sregion ?_; simp [hne, hne2, hmq, Ne.symm hmq, Nat.add_assoc, del])
    | (refine CallP.okL (h1) (by first | (simp [hne, hne2, hmq, Ne.symm hmq, Nat.add_assoc, del, getK_cons, getK, getK_append, getK_del, getK_setOb, applyW, del]; done) | fail) (by rfl) (by first | assumption | (simp; done) | fail) (by rfl) (by simp) ?_; (try simp [hne, hne2, hmq, Ne.symm hmq, Nat.add_assoc, del, delL, del]))
    | (refine CallP.okL (h2) (by first | (simp [hne, hne2, hmq, Ne.symm hmq, Nat.add_assoc, del, getK_cons, getK, getK_append, getK_del, getK_setOb, applyW, del]; done) | fail) (by rfl) (by first | assumption | (simp; done) | fail) (by rfl) (by simp) ?_; (try simp [hne, hne2, hmq, Ne.symm hmq, Nat.add_assoc, del, delL, del]))
    | fail)
  refine EndW.wk { n := _, env := [], obs := [(m, cOb lets shs nx c2), (nx, kOb c2)], next := nx + 1 } (Wk.ren ((fun i => if i = nx then nx + 1 else i)) rfl (by first | (simp [hn]; done) | (intro i hi; rw [hn] at hi; constructor <;> (try simp) <;> (try (intro _)) <;> omega)) (by simp [wkER, St.lp, keepE, getK_cons, getK, getK_del, getK_setOb, D.under, D.le, D.ren, hne, hne2, hmq, Ne.symm hmq, hm1, hp, cOb, kOb] <;> (try (intros; simp_all; done)) <;> (try omega)) (by simp [wkR, St.lp, getK_cons, getK, getK_del, getK_setOb, obR, leU, pureRow, pureRows, Ob.under, D.under, D.le, D.ren, hne, hne2, hmq, Ne.symm hmq, hm1, hp, cOb, kOb] <;> (try (intros; simp_all; done)) <;> (try omega)) (by simp [hne, hne2, hmq, Ne.symm hmq, hm1, hp, cOb, kOb])) ?_
  (refine EndW.here ?_; (first | (refine EndOK.fin (.inr rfl) ?_) | (refine EndOK.fin (.inl rfl) ?_)); simp [resD, oneOrTup, Try.results50]; refine FinOK.here (by simp) ?_; try simp)
end Go.Proofs.Ytmoohdpnmkkgpaa
