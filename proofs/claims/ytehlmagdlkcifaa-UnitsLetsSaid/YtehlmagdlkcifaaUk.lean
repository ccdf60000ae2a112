/- The reference's units of expressions. -/
import Derived.Test.YtehlmagdlkcifaaUh
import Derived.Test.YtehlmagdlkcifaaUi
import Derived.Test.YtehlmagdlkcifaaUj
set_option linter.all false
set_option maxRecDepth 100000
set_option maxHeartbeats 8000000
namespace Go.Proofs.Ytehlmagdlkcifaa
open Go Go.VL
attribute [local simp] hcons hstep evPure opd uOf putOK St.put St.at getK binD binI binS binB nilD aggD eqUs cmpK lookD lookR rangeD nextD entryD keyD valU keyU lookK mkV entD_nil lookK_entD updK_entD1 updK_entD2 updK_entD3 allUE allUE_entD makeMapD mapUpdD mapEff updK valM Key.kk shiftI arith unD convD pickD loadD cellsAt fieldAddrD fieldD indexAddrD indexD sliceD cutD lenD minmaxD nilCheckD buildD fillD cellsD isOne ones setAll mkAgg allU allocD boxD storeD St.add buildSliceD appendD rowsOf makeD setOb getK_setOb getK_del getK_cons stripL strip guardTmp entry chunks zcells valD argsV argsW argW argU1 argU0 argsU0 argsU1 calleeOf scalarD scalarU delAll effD St.effS RK_seq RK_seq_ret RK_seq_exit RK_blk RK_blk_ret RK_blk_exit RK_loop RK_loop_ret RK_loop_exit RK_done vs_seq vs_block vs_skip vs_label vs_exit vs_ret vs_cond vs_region vs_loop vs_draw vs_range vs_scope applyW mkD rdIds lentIds callOf calleeOf freeOp D.ids Op.operands Call.operands isEffOp IntKind.bits allU2 allU2_append List.take_of_length_le List.range_succ
attribute [local irreducible] V G H HD HD2 RunK Eff CallP CallV EndOK Fun Ret FinOK LoopI LoopW EndW
def firstG : List Var → List UInt8 → Option Int
  | [], _ => none
  | v :: l, n => if v.name = n then some v.unit else firstG l n
theorem firstG_at {l : List Var} {i : Nat} {v : Var} {n : List UInt8} (h : ∀ x ∈ l.take i, ¬ x.name = n) (hx : l[i]? = some v) (hn : v.name = n) : firstG l n = some v.unit := by
  induction l generalizing i with
  | nil => simp at hx
  | cons a l ih =>
    cases i with
    | zero => simp at hx; subst hx; simp [firstG, hn]
    | succ i => rw [firstG, if_neg (h a (by simp))]; exact ih (i := i) (fun x hx => h x (by simp [hx])) (by simpa using hx)
theorem firstG_none {l : List Var} {n : List UInt8} (h : ∀ x ∈ l, ¬ x.name = n) : firstG l n = none := by
  induction l with
  | nil => rfl
  | cons a l ih => rw [firstG, if_neg (h a (by simp))]; exact ih fun x hx => h x (by simp [hx])
def lastA {β : Type} : List (List UInt8 × β) → List UInt8 → Option β
  | [], _ => none
  | p :: l, n => match lastA l n with | some r => some r | none => if p.1 = n then some p.2 else none
theorem lastA_none {β : Type} {l : List (List UInt8 × β)} {n : List UInt8} (h : ∀ x ∈ l, ¬ x.1 = n) : lastA l n = none := by
  induction l with
  | nil => rfl
  | cons a l ih => rw [lastA, ih fun x hx => h x (by simp [hx])]; simp only; rw [if_neg (h a (by simp))]
theorem lastA_at {β : Type} {l : List (List UInt8 × β)} {i : Nat} {p : List UInt8 × β} {n : List UInt8} (h : ∀ x ∈ l.drop (i + 1), ¬ x.1 = n) (hx : l[i]? = some p) (hn : p.1 = n) : lastA l n = some p.2 := by
  induction l generalizing i with
  | nil => simp at hx
  | cons a l ih =>
    cases i with
    | zero =>
      simp at hx; subst hx
      rw [lastA, lastA_none (by simpa using h)]
      simp [hn]
    | succ i => rw [lastA, ih (i := i) (by simpa using h) (by simpa using hx)]
abbrev SC := List (List UInt8 × Int × Int)
def scU (given : List Var) (sc : SC) : U := .row [.sl (given.map fun v => [.str v.name, .int .i64 v.unit, .int .i64 v.n]), .sl (sc.map fun p => [.str p.1]), .sl (sc.map fun p => [.int .i64 p.2.1]), .sl (sc.map fun p => [.int .i64 p.2.2])] 0
def nameR (given : List Var) (sc : SC) (n : List UInt8) : Int × Int := match firstG given n with | some u => (u, 0) | none => match lastA sc n with | some r => r | none => (0, 13)
theorem drop_pred {α : Type} {p : α → Prop} {l : List α} {k : Nat} {x : α} (hx : l[k]? = some x) (h : ∀ c ∈ l.drop (k + 1), p c) (hp : p x) : ∀ c ∈ l.drop k, p c := by
  obtain ⟨hi, rfl⟩ := List.getElem?_eq_some_iff.1 hx
  rw [List.drop_eq_getElem_cons hi]
  intro c hc
  rcases List.mem_cons.1 hc with rfl | hc
  · exact hp
  · exact h c hc
theorem rname2_fun (given : List Var) (sc : SC) (n : List UInt8) (hlen : sc.length ≤ 1000) (hlg : given.length ≤ 9223372036854775807) : Fun Try.prog 56 [.u (scU given sc), .u (.str n)] (· = .tup [.u (.int .i64 (nameR given sc n).1), .u (.int .i64 (nameR given sc n).2)]) := by
  (refine Fun.of_body Try.func56 rfl (by simp) fun Γ hn => ?_); simp only [entry, List.zipIdx_cons, List.zipIdx_nil, List.map_cons, List.map_nil, Nat.zero_add, Try.ntmps56]
  simp only [scU]
  repeat' (first
    | (refine H_cons ?_; simp)
    | (refine H_nil ?_; simp)
    | (refine V_sseq ?_; simp)
    | (refine V_sblock ?_; simp)
    | fail)
  refine V_loopF (α := { i : Nat // i ≤ given.length ∧ ∀ x ∈ given.take i, ¬ x.name = n }) [0, 1] (fun i => [(6, .u (.int .i64 i.1))]) (fun i => given.length - i.1) ⟨0, by omega, by simp⟩ ?_ ?_
  · exact (Wk.env rfl rfl rfl (by simp [wkE, St.lp, keepE, getK_cons, getK] <;> (try (intros; simp_all; done)) <;> (try (intros; omega)) <;> (try grind)))
  rintro ⟨i, hi, hb⟩
  simp [St.lp, St.only, keepE, getK_cons, getK]
  rcases hx : given[i]? with _ | v
  · have hge : given.length ≤ i := by simpa using hx
    obtain rfl : i = given.length := by omega
    rw [List.take_length] at hb
    have hf := firstG_none hb
    repeat' (first
    | (refine H_cons ?_; simp [hx])
    | (refine H_nil ?_; simp [hx])
    | (refine ⟨by omega, ?_⟩)
    | (refine V_sseq ?_; simp [hx])
    | (refine V_scond ?_; simp [hx])
    | (refine V_sblock ?_; simp [hx])
    | (refine V_exit ?_; simp [RK_seq, RK_seq_ret, RK_seq_exit, RK_blk, RK_blk_ret, RK_blk_exit, RK_loop, RK_loop_ret, RK_loop_exit, RK_done])
    | fail)
    refine V_loopF (α := { k : Nat // k ≤ sc.length ∧ ∀ x ∈ sc.drop k, ¬ x.1 = n }) [0, 1] (fun k => [(7, .u (.int .i64 ((k.1 : Int) - 1)))]) (fun k => k.1) ⟨sc.length, by omega, by simp⟩ ?_ ?_
    · exact (Wk.env rfl rfl rfl (by simp [wkE, St.lp, keepE, getK_cons, getK] <;> (try (intros; simp_all; done)) <;> (try (intros; omega)) <;> (try grind)))
    rintro ⟨k, hk, hd⟩
    simp [St.lp, St.only, keepE, getK_cons, getK]
    cases k with
    | zero =>
      rw [List.drop_zero] at hd
      have hl := lastA_none hd
      repeat' (first
    | (refine H_cons ?_; simp)
    | (refine H_nil ?_; simp)
    | (refine V_sseq ?_; simp)
    | (refine V_scond ?_; simp)
    | (refine V_ret ?_; simp only [RK_seq, RK_seq_ret, RK_seq_exit, RK_blk, RK_blk_ret, RK_blk_exit, RK_loop, RK_loop_ret, RK_loop_exit, RK_done])
    | (refine V_exit ?_; simp [RK_seq, RK_seq_ret, RK_seq_exit, RK_blk, RK_blk_ret, RK_blk_exit, RK_loop, RK_loop_ret, RK_loop_exit, RK_done])
    | fail)
      (refine EndOK.val (.inr rfl) ?_; simp [resD, oneOrTup, pureD, Try.results56])
      simp [nameR, hf, hl]
    | succ k =>
      obtain ⟨p, hp⟩ : ∃ p, sc[k]? = some p := ⟨sc[k], List.getElem?_eq_getElem (by omega)⟩
      have e : ((k + 1 : Nat) : Int) - 1 = k := by omega
      rw [e]
      by_cases hpn : p.1 = n
      · have hl := lastA_at hd hp hpn
        repeat' (first
    | (refine H_cons ?_; simp [hp, hpn])
    | (refine HD_cons ?_; simp [hp, hpn])
    | (refine H_nil ?_; simp [hp, hpn])
    | (refine V_sseq ?_; simp [hp, hpn])
    | (refine V_scond ?_; simp [hp, hpn])
    | (refine HD_nil ?_)
    | (refine hk _ ?_; clear hk k; simp only [RK_seq, RK_seq_ret, RK_seq_exit, RK_blk, RK_blk_ret, RK_blk_exit, RK_loop, RK_loop_ret, RK_loop_exit, RK_done])
    | (refine V_drawV rfl (by kernel_rfl) (by kernel_rfl) fun k hk => ?_; simp [hp, hpn])
    | (refine V_ret ?_; simp only [RK_seq, RK_seq_ret, RK_seq_exit, RK_blk, RK_blk_ret, RK_blk_exit, RK_loop, RK_loop_ret, RK_loop_exit, RK_done])
    | (refine V_skip ?_; simp only [RK_seq, RK_seq_ret, RK_seq_exit, RK_blk, RK_blk_ret, RK_blk_exit, RK_loop, RK_loop_ret, RK_loop_exit, RK_done])
    | fail)
        (refine EndOK.val (.inr rfl) ?_; simp [resD, oneOrTup, pureD, Try.results56])
        simp [nameR, hf, hl]
      · repeat' (first
    | (refine H_cons ?_; simp [hp, hpn])
    | (refine H_nil ?_; simp [hp, hpn])
    | (refine ⟨by omega, ?_⟩)
    | (refine V_sseq ?_; simp [hp, hpn])
    | (refine V_scond ?_; simp [hp, hpn])
    | (refine V_sregion ?_; simp [hp, hpn])
    | (refine V_skip ?_; simp only [RK_seq, RK_seq_ret, RK_seq_exit, RK_blk, RK_blk_ret, RK_blk_exit, RK_loop, RK_loop_ret, RK_loop_exit, RK_done])
    | fail)
        refine LoopW.next ⟨k, by omega, drop_pred hp hd hpn⟩ (by simp) ?_
        exact (Wk.env rfl rfl rfl (by simp [wkE, St.lp, keepE, getK_cons, getK] <;> (try (intros; simp_all; done)) <;> (try (intros; omega)) <;> (try grind)))
  · have hlt : i < given.length := (List.getElem?_eq_some_iff.1 hx).1
    by_cases hvn : v.name = n
    · have hf := firstG_at hb hx hvn
      repeat' (first
    | (refine H_cons ?_; simp [hx, hvn])
    | (refine H_nil ?_; simp [hx, hvn])
    | (refine V_sseq ?_; simp [hx, hvn])
    | (refine V_scond ?_; simp [hx, hvn])
    | (refine V_ret ?_; simp only [RK_seq, RK_seq_ret, RK_seq_exit, RK_blk, RK_blk_ret, RK_blk_exit, RK_loop, RK_loop_ret, RK_loop_exit, RK_done])
    | (refine V_skip ?_; simp only [RK_seq, RK_seq_ret, RK_seq_exit, RK_blk, RK_blk_ret, RK_blk_exit, RK_loop, RK_loop_ret, RK_loop_exit, RK_done])
    | (refine ⟨?_, by omega⟩)
    | (intro hc <;> (try (exfalso; omega)))
    | fail)
      (refine EndOK.val (.inr rfl) ?_; simp [resD, oneOrTup, pureD, Try.results56])
      simp [nameR, hf]
    · repeat' (first
    | (refine H_cons ?_; simp [hx, hvn])
    | (refine H_nil ?_; simp [hx, hvn])
    | (refine ⟨by omega, ?_⟩)
    | (refine V_sseq ?_; simp [hx, hvn])
    | (refine V_scond ?_; simp [hx, hvn])
    | (refine V_sregion ?_; simp [hx, hvn])
    | (refine V_skip ?_; simp only [RK_seq, RK_seq_ret, RK_seq_exit, RK_blk, RK_blk_ret, RK_blk_exit, RK_loop, RK_loop_ret, RK_loop_exit, RK_done])
    | (refine ⟨?_, by omega⟩)
    | (intro hc <;> (try (exfalso; omega)))
    | fail)
      refine LoopW.next ⟨i + 1, by omega, take_succ_all hx hb hvn⟩ (by simp; omega) ?_
      exact (Wk.env rfl rfl rfl (by simp [wkE, St.lp, keepE, getK_cons, getK] <;> (try (intros; simp_all; done)) <;> (try (intros; omega)) <;> (try grind)))
def inR (u : Int) : Prop := 0 ≤ u ∧ u < 5
theorem own_comb {op : Int} {l : List Int} (hop : 2 ≤ op ∧ op < 14) (hl : (l.length : Int) = operandsI op) (hr : ∀ u ∈ l, inR u) : ownR op l = if (combS op l).2 = true then ((combS op l).1, 0) else (0, 14) := by
  have h12 : (op = 10 ∨ op = 11 ∨ op = 12) ∨ op = 13 ∨ op = 2 ∨ op = 3 ∨ op = 4 ∨ op = 5 ∨ op = 6 ∨ op = 7 ∨ op = 8 ∨ op = 9 := by omega
  rcases h12 with h12 | rfl | h12
  · have e : ownR op l = okR (l.all fun n => decide (n = 0)) 0 := by rcases h12 with rfl | rfl | rfl <;> rfl
    have e2 : combS op l = (0, onlyB 0 l) := by rcases h12 with rfl | rfl | rfl <;> rfl
    have e3 : onlyB 0 l = l.all fun n => decide (n = 0) := by simp [onlyB, List.all_eq_not_any_not]
    rw [e, e2, e3]
    rfl
  · obtain ⟨a, b, c, rfl⟩ := len3 (hl.trans rfl)
    simp [ownR, combS, okR]
  · obtain ⟨a, b, rfl⟩ := len2 (l := l) (by rw [hl]; rcases h12 with rfl | rfl | rfl | rfl | rfl | rfl | rfl | rfl <;> rfl)
    have ha := hr a (by simp)
    have hb := hr b (by simp)
    unfold inR at ha hb
    have h5 : a = 0 ∨ a = 1 ∨ a = 2 ∨ a = 3 ∨ a = 4 := by omega
    have h6 : b = 0 ∨ b = 1 ∨ b = 2 ∨ b = 3 ∨ b = 4 := by omega
    clear hr ha hb hl hop
    rcases h12 with rfl | rfl | rfl | rfl | rfl | rfl | rfl | rfl <;> rcases h5 with rfl | rfl | rfl | rfl | rfl <;> rcases h6 with rfl | rfl | rfl | rfl | rfl <;> rfl
theorem comb_range {op : Int} {l : List Int} (hop : 2 ≤ op ∧ op < 14) (hl : (l.length : Int) = operandsI op) (hr : ∀ u ∈ l, inR u) : inR (combS op l).1 := by
  have hg : ∀ i, inR (l0 l i) := fun i => by
    unfold l0
    rw [List.getD_eq_getElem?_getD]
    cases hi : l[i]? with
    | none => exact ⟨by simp, by simp⟩
    | some x => exact hr x (List.mem_of_getElem? hi)
  have z : inR 0 := ⟨by omega, by omega⟩
  have o : inR 1 := ⟨by omega, by omega⟩
  have hp : ∀ a b, inR a → inR b → inR (prodS a b).1 := fun a b ha hb => by
    unfold prodS
    repeat' split
    all_goals first | exact z | exact ha | exact hb
  unfold combS
  repeat' split
  all_goals first | exact z | exact o | exact hg _ | exact hp _ _ (hg _) (hg _)
theorem unit_range {g : List UInt8 → Option Int} {m : List UInt8 → Option (Int × Int)} (hg : ∀ n u, g n = some u → inR u) (hm : ∀ n r, m n = some r → inR r.1) : ∀ (d : Nat) (e : Exp), rightB d e = true → inR (unitS g m e).1
  | 0, e, h => by simp [rightB] at h
  | d + 1, e, h => by
    obtain ⟨h1, h2, h3, h4⟩ := right_args h
    have z : inR 0 := ⟨by omega, by omega⟩
    rw [unitS_eq]
    split
    · rename_i h0
      rw [rightB, h0] at h
      simp only [Bool.and_eq_true, if_true, numB, decide_eq_true_eq] at h
      exact ⟨h.2.1.1.1.2, h.2.1.1.2⟩
    · rename_i h0
      split
      · split
        · rename_i u hu; exact hg _ _ hu
        · split
          · rename_i r hr; exact hm _ _ hr
          · exact z
      · rename_i hn
        split
        · exact z
        · rename_i l hl
          split
          · have hal : ∀ x ∈ e.args, (unitS g m x).2 = 0 := by
              intro x hx
              obtain ⟨i, hi⟩ := List.getElem?_of_mem hx
              by_cases hz : ∀ y ∈ e.args, (unitS g m y).2 = 0
              · exact hz x hx
              · exfalso
                have : ∃ (j : Nat) (y : Exp), e.args[j]? = some y ∧ (unitS g m y).2 ≠ 0 ∧ ∀ z ∈ e.args.take j, (unitS g m z).2 = 0 := by
                  have hex : ∃ y ∈ e.args, (unitS g m y).2 ≠ 0 := by
                    obtain ⟨y, hy⟩ := Classical.not_forall.1 hz
                    obtain ⟨hy, hne⟩ := Classical.not_imp.1 hy
                    exact ⟨y, hy, hne⟩
                  clear hz hi hx hl h4 h1 h
                  generalize e.args = L at hex
                  induction L with
                  | nil => obtain ⟨y, hy, _⟩ := hex; simp at hy
                  | cons a L ih =>
                    by_cases ha : (unitS g m a).2 = 0
                    · obtain ⟨y, hy, hne⟩ := hex
                      rcases List.mem_cons.1 hy with rfl | hy
                      · exact absurd ha hne
                      · obtain ⟨j, y', h1, h2, h3⟩ := ih ⟨y, hy, hne⟩
                        exact ⟨j + 1, y', by simpa using h1, h2, fun z hz => by simp at hz; rcases hz with rfl | hz; exact ha; exact h3 z hz⟩
                    · exact ⟨0, a, by simp, ha, by simp⟩
                obtain ⟨j, y, hy, hne, hpre⟩ := this
                rw [unitsS_err hy hpre hne] at hl
                cases hl
            rw [unitsS_ok hal] at hl
            cases hl
            refine comb_range ⟨by omega, h3⟩ (by simpa using h1) fun u hu => ?_
            obtain ⟨x, hx, rfl⟩ := List.mem_map.1 hu
            exact unit_range hg hm d x (h4 h0 hn x hx)
          · exact z
theorem firstG_range {given : List Var} (h : ∀ v ∈ given, unitOK v = true) : ∀ n u, firstG given n = some u → inR u := by
  induction given with
  | nil => intro n u h; cases h
  | cons v l ih =>
    intro n u hu
    rw [firstG] at hu
    split at hu
    · cases hu
      have := h v (by simp)
      simp [unitOK] at this
      exact this
    · exact ih (fun x hx => h x (by simp [hx])) n u hu
theorem lastA_range {sc : SC} (h : ∀ p ∈ sc, inR p.2.1) : ∀ n r, lastA sc n = some r → inR r.1 := by
  induction sc with
  | nil => intro n u h; cases h
  | cons v l ih =>
    intro n u hu
    rw [lastA] at hu
    split at hu
    · rename_i r hr
      cases hu
      exact ih (fun x hx => h x (by simp [hx])) n _ hr
    · split at hu
      · cases hu; exact h v (by simp)
      · cases hu
theorem runit_fun (given : List Var) (sc : SC) (hlen : sc.length ≤ 1000) (hlg : given.length ≤ 9223372036854775807) (hg : ∀ v ∈ given, unitOK v = true) (hsc : ∀ p ∈ sc, inR p.2.1) : ∀ (d : Nat) (e : Exp), rightB d e = true → Fun Try.prog 37 [.u (scU given sc), eagg e] (· = .tup [.u (.int .i64 (unitS (firstG given) (lastA sc) e).1), .u (.int .i64 (unitS (firstG given) (lastA sc) e).2)])
  | 0, e, h => by simp [rightB] at h
  | d + 1, e, h => by
    obtain ⟨h1, h2, h3, h4⟩ := right_args h
    by_cases h0 : e.op = 0
    · rw [unitS_eq, if_pos h0]
      (refine Fun.of_body Try.func37 rfl (by simp) fun Γ hn => ?_); simp only [entry, List.zipIdx_cons, List.zipIdx_nil, List.map_cons, List.map_nil, Nat.zero_add, Try.ntmps37]
      simp only [eagg, scU]
      repeat' (first
    | (refine H_cons ?_; simp [h0])
    | (refine H_nil ?_; simp [h0])
    | (refine V_sseq ?_; simp [h0])
    | (refine V_scond ?_; simp [h0])
    | (refine V_ret ?_; simp only [RK_seq, RK_seq_ret, RK_seq_exit, RK_blk, RK_blk_ret, RK_blk_exit, RK_loop, RK_loop_ret, RK_loop_exit, RK_done])
    | fail)
      (refine EndOK.val (.inr rfl) ?_; simp [resD, oneOrTup, pureD, Try.results37])
    by_cases hnm : e.op = 1
    · have h5 := rname2_fun given sc e.s hlen hlg
      simp only [scU] at h5
      have hs : unitS (firstG given) (lastA sc) e = nameR given sc e.s := by
        rw [unitS_eq, if_neg h0, if_pos hnm]
        unfold nameR
        cases firstG given e.s with
        | some u => rfl
        | none => cases lastA sc e.s <;> rfl
      rw [hs]
      generalize nameR given sc e.s = r at h5 ⊢
      (refine Fun.of_body Try.func37 rfl (by simp) fun Γ hn => ?_); simp only [entry, List.zipIdx_cons, List.zipIdx_nil, List.map_cons, List.map_nil, Nat.zero_add, Try.ntmps37]
      simp only [eagg, scU]
      repeat' (first
    | (refine H_cons ?_; simp [h0, hnm])
    | (refine H_nil ?_; simp [h0, hnm])
    | (refine V_sseq ?_; simp [h0, hnm])
    | (refine V_scond ?_; simp [h0, hnm])
    | (refine V_ret ?_; simp only [RK_seq, RK_seq_ret, RK_seq_exit, RK_blk, RK_blk_ret, RK_blk_exit, RK_loop, RK_loop_ret, RK_loop_exit, RK_done])
    | (refine V_skip ?_; simp only [RK_seq, RK_seq_ret, RK_seq_exit, RK_blk, RK_blk_ret, RK_blk_exit, RK_loop, RK_loop_ret, RK_loop_exit, RK_done])
    | (refine CallP.fun_ (h5) (by first | rfl | fail) (by first | assumption | (simp; done) | fail) (by first | (simp [h0, hnm]; done) | (simp [h0, hnm]; rfl) | fail) (by first | (simp; done) | fail) (fun d hd => ?_); subst hd; (try simp [h0, hnm]))
    | fail)
      (refine EndOK.val (.inr rfl) ?_; simp [resD, oneOrTup, pureD, Try.results37])
    have hr := h4 h0 hnm
    rw [unitS_eq, if_neg h0, if_neg hnm]
    (refine Fun.of_body Try.func37 rfl (by simp) fun Γ hn => ?_); simp only [entry, List.zipIdx_cons, List.zipIdx_nil, List.map_cons, List.map_nil, Nat.zero_add, Try.ntmps37]
    simp only [eagg, scU]
    repeat' (first
    | (refine H_cons ?_; simp [h0, hnm])
    | (refine H_nil ?_; simp [h0, hnm])
    | (refine V_sseq ?_; simp [h0, hnm])
    | (refine V_scond ?_; simp [h0, hnm])
    | (refine V_sblock ?_; simp [h0, hnm])
    | (refine V_skip ?_; simp only [RK_seq, RK_seq_ret, RK_seq_exit, RK_blk, RK_blk_ret, RK_blk_exit, RK_loop, RK_loop_ret, RK_loop_exit, RK_done])
    | fail)
    refine V_wk _ (Wk.own 8 3 1 (by decide) rfl) ?_
    simp [St.own]
    refine V_loopO (α := { p : Nat × List Int // p.1 ≤ e.args.length ∧ p.2 = (e.args.take p.1).map (fun x => (unitS (firstG given) (lastA sc) x).1) ∧ ∀ x ∈ e.args.take p.1, (unitS (firstG given) (lastA sc) x).2 = 0 }) [0, 3]
      (fun p => [(8, .vec 1 p.1.2.length), (9, .u (.int .i64 p.1.1))]) (fun p => [(1, .vec 3 1 (rowsD (p.1.2.map fun n => [U.int .i64 n]))), (0, .box [.u (.int .i64 e.op), .u (.int .i64 e.n), .u (.int .i64 e.unit), .u (.str e.s), .u (.sl (e.args.map Exp.row))])]) 2
      (fun p => e.args.length - p.1.1) ⟨(0, []), by simp, by simp, by simp⟩ ?_ ?_
    · exact (Wk.cut rfl (by simp [hn]) (by simp [wkO, St.lp, getK_cons, getK, Ob.under, D.under, under_rowsD, under_entD]) (by simp [wkU, St.lp, keepE, getK_cons, getK, D.under]) (by simp [wkE, St.lp, keepE, getK_cons, getK] <;> (try (intros; simp_all; done)) <;> (try (intros; omega)) <;> (try grind)))
    rintro ⟨⟨i, acc⟩, hi, hacc, hb⟩
    simp only at hi hacc hb
    simp [St.lp, St.only, keepE, getK_cons, getK]
    have h3a : e.args.length ≤ 3 := by
      have : operandsI e.op ≤ 3 := by unfold operandsI; repeat' split
                                      all_goals omega
      omega
    rcases hx : e.args[i]? with _ | x
    · have hge : e.args.length ≤ i := by simpa using hx
      rw [List.take_of_length_le hge] at hacc hb
      have hok := unitsS_ok hb
      rw [← hacc] at hok
      have hal : (acc.length : Int) = operandsI e.op := by rw [hacc]; simpa using h1
      have h5 := own_fun e.op acc (by omega) hal
      have hoc := own_comb (op := e.op) (l := acc) (by omega) hal (fun u hu => by
        rw [hacc] at hu
        obtain ⟨x, hx, rfl⟩ := List.mem_map.1 hu
        exact unit_range (firstG_range hg) (lastA_range hsc) d x (hr x hx))
      simp only [ints] at h5
      repeat' (first
    | (refine H_cons ?_; simp [hx, h0, hnm])
    | (refine H_nil ?_; simp [hx, h0, hnm])
    | (refine ⟨by omega, ?_⟩)
    | (refine V_sseq ?_; simp [hx, h0, hnm])
    | (refine V_scond ?_; simp [hx, h0, hnm])
    | (refine V_ret ?_; simp only [RK_seq, RK_seq_ret, RK_seq_exit, RK_blk, RK_blk_ret, RK_blk_exit, RK_loop, RK_loop_ret, RK_loop_exit, RK_done])
    | (refine V_exit ?_; simp [RK_seq, RK_seq_ret, RK_seq_exit, RK_blk, RK_blk_ret, RK_blk_exit, RK_loop, RK_loop_ret, RK_loop_exit, RK_done])
    | (intro hc <;> (try (exfalso; omega)))
    | (refine CallP.fun_ (h5) (by first | rfl | fail) (by first | assumption | (simp; done) | fail) (by first | (simp [hx, h0, hnm]; done) | (simp [hx, h0, hnm]; rfl) | fail) (by first | (simp; done) | fail) (fun d hd => ?_); subst hd; (try simp [hx, h0, hnm]))
    | fail)
      (refine EndOK.val (.inr rfl) ?_; simp [resD, oneOrTup, pureD, Try.results37])
      rw [hok, hoc]
      simp
    · have hlt : i < e.args.length := (List.getElem?_eq_some_iff.1 hx).1
      have h5 := runit_fun given sc hlen hlg hg hsc d x (hr x (List.mem_of_getElem? hx))
      simp only [eagg, scU] at h5
      have hal : acc.length = i := by rw [hacc]; simp; omega
      have her := fun h => unitsS_err (g := firstG given) (m := lastA sc) hx hb h
      generalize hun : unitS (firstG given) (lastA sc) x = un at h5 her
      obtain ⟨u, er⟩ := un
      repeat' (first
    | (refine H_cons ?_; simp [hx, x.row_eq, h0, hnm])
    | (refine H_nil ?_; simp [hx, x.row_eq, h0, hnm])
    | (refine ⟨by omega, ?_⟩)
    | (refine V_sseq ?_; simp [hx, x.row_eq, h0, hnm])
    | (refine V_scond ?_; simp [hx, x.row_eq, h0, hnm])
    | (refine V_sregion ?_; simp [hx, x.row_eq, h0, hnm])
    | (refine V_ret ?_; simp only [RK_seq, RK_seq_ret, RK_seq_exit, RK_blk, RK_blk_ret, RK_blk_exit, RK_loop, RK_loop_ret, RK_loop_exit, RK_done])
    | (refine V_skip ?_; simp only [RK_seq, RK_seq_ret, RK_seq_exit, RK_blk, RK_blk_ret, RK_blk_exit, RK_loop, RK_loop_ret, RK_loop_exit, RK_done])
    | (refine ⟨?_, by omega⟩)
    | (refine ⟨fun hc => ?_, fun hc => ?_⟩ <;> (try (exfalso; omega)))
    | (intro hc <;> (try (exfalso; omega)))
    | (refine CallP.fun_ (h5) (by first | rfl | fail) (by first | assumption | (simp; done) | fail) (by first | (simp [hx, x.row_eq, h0, hnm]; done) | (simp [hx, x.row_eq, h0, hnm]; rfl) | fail) (by first | (simp; done) | fail) (fun d hd => ?_); subst hd; (try simp [hx, x.row_eq, h0, hnm]))
    | fail)
      · (refine EndOK.val (.inr rfl) ?_; simp [resD, oneOrTup, pureD, Try.results37])
        rw [her (by simpa using (by assumption : ¬ er = 0))]
        simp
      · refine LoopW.next ⟨(i + 1, acc ++ [u]), (by omega : i + 1 ≤ e.args.length), (?_ : acc ++ [u] = _), ?_⟩ (by simp; omega) ?_
        · rw [List.take_succ_eq_append_getElem hlt, List.map_append, ← hacc, (List.getElem?_eq_some_iff.1 hx).2]
          simp [hun]
        · exact take_succ_all hx hb (by simp_all)
        · exact (Wk.ren ((fun i => if i = 1 then 3 else i)) rfl (by simp [hn]) (by simp [wkER, St.lp, keepE, getK_cons, getK, getK_del, getK_setOb, D.under, D.le, D.ren] <;> (try (intros; simp_all; done)) <;> (try omega)) (by simp [wkR, St.lp, getK_cons, getK, getK_del, getK_setOb, obR, leU, pureRow, pureRows, Ob.under, D.under, D.le, D.ren] <;> (try (intros; simp_all; done)) <;> (try omega)) (by simp))
theorem rights_fun (lets : List Let) (e : Exp) : Fun Try.prog 36 [.u (letsU lets), eagg e] (· = .u (.bool (rightAll lets e))) := by
  have h1 := rrightExp_fun e
  simp only [eagg] at h1 ⊢
  unfold rightAll
  generalize hre : rightB 12 e = re at h1 ⊢
  generalize hrl : (lets.any fun l => !rightB 12 l.body) = rl
  (refine Fun.of_body Try.func36 rfl (by simp) fun Γ hn => ?_); simp only [entry, List.zipIdx_cons, List.zipIdx_nil, List.map_cons, List.map_nil, Nat.zero_add, Try.ntmps36]
  simp only [letsU]
  repeat' (first
    | (refine H_cons ?_; simp)
    | (refine H_nil ?_; simp)
    | (refine V_sseq ?_; simp)
    | (refine V_scond ?_; simp)
    | (refine V_sblock ?_; simp)
    | (refine V_ret ?_; simp only [RK_seq, RK_seq_ret, RK_seq_exit, RK_blk, RK_blk_ret, RK_blk_exit, RK_loop, RK_loop_ret, RK_loop_exit, RK_done])
    | (refine V_skip ?_; simp only [RK_seq, RK_seq_ret, RK_seq_exit, RK_blk, RK_blk_ret, RK_blk_exit, RK_loop, RK_loop_ret, RK_loop_exit, RK_done])
    | (refine ⟨fun hc => ?_, fun hc => ?_⟩ <;> (try (exfalso; omega)))
    | fail)
  all_goals try ((refine EndOK.val (.inr rfl) ?_; simp [resD, oneOrTup, pureD, Try.results36]); have h20 : ¬ lets.length ≤ 20 := (by first | omega | fail); simp [h20]; done)
  refine V_loopF (α := { i : Nat // i ≤ lets.length ∧ ∀ x ∈ lets.take i, rightB 12 x.body = true }) [0, 3] (fun i => [(5, .u (.int .i64 i.1))]) (fun i => lets.length - i.1) ⟨0, by omega, by simp⟩ ?_ ?_
  · exact (Wk.cut rfl (by simp [hn]) (by simp [wkO, St.lp, getK_cons, getK, Ob.under, D.under, under_rowsD, under_entD]) (by simp [wkU, St.lp, keepE, getK_cons, getK, D.under]) (by simp [wkE, St.lp, keepE, getK_cons, getK] <;> (try (intros; simp_all; done)) <;> (try (intros; omega)) <;> (try grind)))
  rintro ⟨i, hi, hb⟩
  simp [St.lp, St.only, keepE, getK_cons, getK]
  rcases hx : lets[i]? with _ | l
  · have hge : lets.length ≤ i := by simpa using hx
    obtain rfl : i = lets.length := by omega
    rw [List.take_length] at hb
    have hall : rl = false := by
      rw [← hrl, List.any_eq_false]
      intro x hx
      simp [hb x hx]
    have h20 : lets.length ≤ 20 := by omega
    repeat' (first
    | (refine H_cons ?_; simp [hx])
    | (refine H_nil ?_; simp [hx])
    | (refine V_sseq ?_; simp [hx])
    | (refine V_scond ?_; simp [hx])
    | (refine V_ret ?_; simp only [RK_seq, RK_seq_ret, RK_seq_exit, RK_blk, RK_blk_ret, RK_blk_exit, RK_loop, RK_loop_ret, RK_loop_exit, RK_done])
    | (refine V_exit ?_; simp [RK_seq, RK_seq_ret, RK_seq_exit, RK_blk, RK_blk_ret, RK_blk_exit, RK_loop, RK_loop_ret, RK_loop_exit, RK_done])
    | (refine CallP.fun_ (h1) (by first | rfl | fail) (by first | assumption | (simp; done) | fail) (by first | (simp [hx]; done) | (simp [hx]; rfl) | fail) (by first | (simp; done) | fail) (fun d hd => ?_); subst hd; (try simp [hx]))
    | fail)
    (refine EndOK.val (.inr rfl) ?_; simp [resD, oneOrTup, pureD, Try.results36])
    simp [hall, h20]
  · have hlt : i < lets.length := (List.getElem?_eq_some_iff.1 hx).1
    have h5 := rrightExp_fun l.body
    simp only [eagg] at h5
    cases hrx : rightB 12 l.body
    · rw [hrx] at h5
      have hall : rl = true := by
        rw [← hrl, List.any_eq_true]
        exact ⟨l, List.mem_of_getElem? hx, by simp [hrx]⟩
      repeat' (first
    | (refine H_cons ?_; simp [hx])
    | (refine H_nil ?_; simp [hx])
    | (refine V_sseq ?_; simp [hx])
    | (refine V_scond ?_; simp [hx])
    | (refine V_ret ?_; simp only [RK_seq, RK_seq_ret, RK_seq_exit, RK_blk, RK_blk_ret, RK_blk_exit, RK_loop, RK_loop_ret, RK_loop_exit, RK_done])
    | (refine V_skip ?_; simp only [RK_seq, RK_seq_ret, RK_seq_exit, RK_blk, RK_blk_ret, RK_blk_exit, RK_loop, RK_loop_ret, RK_loop_exit, RK_done])
    | (refine ⟨?_, by omega⟩)
    | (intro hc <;> (try (exfalso; omega)))
    | (refine CallP.fun_ (h5) (by first | rfl | fail) (by first | assumption | (simp; done) | fail) (by first | (simp [hx]; done) | (simp [hx]; rfl) | fail) (by first | (simp; done) | fail) (fun d hd => ?_); subst hd; (try simp [hx]))
    | fail)
      (refine EndOK.val (.inr rfl) ?_; simp [resD, oneOrTup, pureD, Try.results36])
      simp [hall]
    · rw [hrx] at h5
      repeat' (first
    | (refine H_cons ?_; simp [hx])
    | (refine H_nil ?_; simp [hx])
    | (refine ⟨by omega, ?_⟩)
    | (refine V_sseq ?_; simp [hx])
    | (refine V_scond ?_; simp [hx])
    | (refine V_sregion ?_; simp [hx])
    | (refine V_skip ?_; simp only [RK_seq, RK_seq_ret, RK_seq_exit, RK_blk, RK_blk_ret, RK_blk_exit, RK_loop, RK_loop_ret, RK_loop_exit, RK_done])
    | (refine ⟨?_, by omega⟩)
    | (intro hc <;> (try (exfalso; omega)))
    | (refine CallP.fun_ (h5) (by first | rfl | fail) (by first | assumption | (simp; done) | fail) (by first | (simp [hx]; done) | (simp [hx]; rfl) | fail) (by first | (simp; done) | fail) (fun d hd => ?_); subst hd; (try simp [hx]))
    | fail)
      refine LoopW.next ⟨i + 1, by omega, take_succ_all hx hb hrx⟩ (by simp; omega) ?_
      exact (Wk.cut rfl (by simp [hn]) (by simp [wkO, St.lp, getK_cons, getK, Ob.under, D.under, under_rowsD, under_entD]) (by simp [wkU, St.lp, keepE, getK_cons, getK, D.under]) (by simp [wkE, St.lp, keepE, getK_cons, getK] <;> (try (intros; simp_all; done)) <;> (try (intros; omega)) <;> (try grind)))
def scOf (given : List Var) (lets : List Let) : SC := lets.foldl (fun sc l => sc ++ [(l.name, unitS (firstG given) (lastA sc) l.body)]) []
theorem scOf_succ {given : List Var} {lets : List Let} {i : Nat} {l : Let} (h : lets[i]? = some l) : scOf given (lets.take (i + 1)) = scOf given (lets.take i) ++ [(l.name, unitS (firstG given) (lastA (scOf given (lets.take i))) l.body)] := foldl_succ _ _ h
theorem scOf_len (given : List Var) (lets : List Let) : (scOf given lets).length = lets.length := by
  unfold scOf
  have : ∀ (l : List Let) (s : SC), (l.foldl (fun sc l => sc ++ [(l.name, unitS (firstG given) (lastA sc) l.body)]) s).length = s.length + l.length := by
    intro l
    induction l with
    | nil => intro s; simp
    | cons a l ih => intro s; rw [List.foldl_cons, ih]; simp; omega
  simpa using this lets []
def unitR (lets : List Let) (given : List Var) (e : Exp) : Int × Int :=
  if (rightAll lets e && given.all unitOK) = true then (if (unitS (firstG given) (lastA (scOf given lets)) e).2 ≠ 0 then (0, (unitS (firstG given) (lastA (scOf given lets)) e).2) else ((unitS (firstG given) (lastA (scOf given lets)) e).1, 0)) else (0, 1)
theorem rUnitOf_fun (lets : List Let) (given : List Var) (e : Exp) : Fun Try.prog 11 [.u (letsU lets), .u (varsU given), eagg e] (· = .tup [.u (.int .i64 (unitR lets given e).1), .u (.int .i64 (unitR lets given e).2)]) := by
  have h1 := rights_fun lets e
  have hra : rightAll lets e = true → lets.length ≤ 20 ∧ rightB 12 e = true ∧ ∀ l ∈ lets, rightB 12 l.body = true := fun h => by
    simp only [rightAll, Bool.and_eq_true, decide_eq_true_eq, Bool.not_eq_true', List.any_eq_false] at h
    exact ⟨h.1.1, h.1.2, fun l hl => by simpa using h.2 l hl⟩
  simp only [eagg, letsU] at h1 ⊢
  unfold unitR
  generalize rightAll lets e = ra at h1 hra ⊢
  generalize hK : given.all unitOK = K
  (refine Fun.of_body Try.func11 rfl (by simp) fun Γ hn => ?_); simp only [entry, List.zipIdx_cons, List.zipIdx_nil, List.map_cons, List.map_nil, Nat.zero_add, Try.ntmps11]
  simp only [varsU]
  refine V_len (x := 1) rfl fun hl1 => ?_
  simp only [List.length_map] at hl1
  cases ra
  · repeat' (first
    | (refine H_cons ?_; simp)
    | (refine H_nil ?_; simp)
    | (refine V_sseq ?_; simp)
    | (refine V_scond ?_; simp)
    | (refine V_ret ?_; simp only [RK_seq, RK_seq_ret, RK_seq_exit, RK_blk, RK_blk_ret, RK_blk_exit, RK_loop, RK_loop_ret, RK_loop_exit, RK_done])
    | (refine CallP.fun_ (h1) (by first | rfl | fail) (by first | assumption | (simp; done) | fail) (by first | (simp; done) | (simp; rfl) | fail) (by first | (simp; done) | fail) (fun d hd => ?_); subst hd; (try simp))
    | fail)
    (refine EndOK.val (.inr rfl) ?_; simp [resD, oneOrTup, pureD, Try.results11])
  obtain ⟨h20, hre, hrl⟩ := hra rfl
  repeat' (first
    | (refine H_cons ?_; simp)
    | (refine H_nil ?_; simp)
    | (refine V_sseq ?_; simp)
    | (refine V_scond ?_; simp)
    | (refine V_sblock ?_; simp)
    | (refine V_skip ?_; simp only [RK_seq, RK_seq_ret, RK_seq_exit, RK_blk, RK_blk_ret, RK_blk_exit, RK_loop, RK_loop_ret, RK_loop_exit, RK_done])
    | (refine CallP.fun_ (h1) (by first | rfl | fail) (by first | assumption | (simp; done) | fail) (by first | (simp; done) | (simp; rfl) | fail) (by first | (simp; done) | fail) (fun d hd => ?_); subst hd; (try simp))
    | fail)
  refine V_loopF (α := { i : Nat // i ≤ given.length ∧ ∀ v ∈ given.take i, unitOK v = true }) [0, 1, 5] (fun i => [(8, .u (.int .i64 i.1))]) (fun i => given.length - i.1) ⟨0, by omega, by simp⟩ ?_ ?_
  · exact (Wk.cut rfl (by simp [hn]) (by simp [wkO, St.lp, getK_cons, getK, Ob.under, D.under, under_rowsD, under_entD]) (by simp [wkU, St.lp, keepE, getK_cons, getK, D.under]) (by simp [wkE, St.lp, keepE, getK_cons, getK] <;> (try (intros; simp_all; done)) <;> (try (intros; omega)) <;> (try grind)))
  rintro ⟨i, hi, hb⟩
  simp [St.lp, St.only, keepE, getK_cons, getK]
  rcases hx : given[i]? with _ | v
  · have hge : given.length ≤ i := by simpa using hx
    obtain rfl : i = given.length := by omega
    rw [List.take_length] at hb
    have hall : K = true := by rw [← hK]; simpa [List.all_eq_true] using hb
    subst hall
    repeat' (first
    | (refine H_cons ?_; simp [hx])
    | (refine H_nil ?_; simp [hx])
    | (refine V_sseq ?_; simp [hx])
    | (refine V_scond ?_; simp [hx])
    | (refine V_sblock ?_; simp [hx])
    | (refine V_exit ?_; simp [RK_seq, RK_seq_ret, RK_seq_exit, RK_blk, RK_blk_ret, RK_blk_exit, RK_loop, RK_loop_ret, RK_loop_exit, RK_done])
    | fail)
    refine V_wk _ (Wk.ownC 1 _ 1 9 1 (by decide) rfl rfl) ?_
    simp [St.ownC]
    refine V_wk _ (Wk.ownC 1 _ 2 3 1 (by decide) rfl rfl) ?_
    simp [St.ownC]
    refine V_wk _ (Wk.ownC 1 _ 3 32 1 (by decide) rfl rfl) ?_
    simp [St.ownC]
    have hin : ∀ (l : List Let), (∀ x ∈ l, rightB 12 x.body = true) → ∀ p ∈ scOf given l, inR p.2.1 := by
      intro l hl
      have : ∀ (l : List Let) (s : SC), (∀ x ∈ l, rightB 12 x.body = true) → (∀ p ∈ s, inR p.2.1) → ∀ p ∈ l.foldl (fun sc l => sc ++ [(l.name, unitS (firstG given) (lastA sc) l.body)]) s, inR p.2.1 := by
        intro l
        induction l with
        | nil => intro s _ h; exact h
        | cons a l ih =>
          intro s h1 h2
          rw [List.foldl_cons]
          refine ih _ (fun x hx => h1 x (by simp [hx])) fun p hp => ?_
          rcases List.mem_append.1 hp with hp | hp
          · exact h2 p hp
          · simp at hp
            subst hp
            exact unit_range (firstG_range hb) (lastA_range h2) 12 a.body (h1 a (by simp))
      exact this l [] hl (by simp)
    refine V_loopO (α := { i : Nat // i ≤ lets.length }) [0, 5, 9] (fun i => [(10, .u (.int .i64 i.1))])
      (fun i => [(1, .box [.u (.sl (given.map fun v => [.str v.name, .int .i64 v.unit, .int .i64 v.n])), .vec 2 i.1, .vec 3 i.1, .vec 4 i.1]), (2, .vec 9 1 (rowsD ((scOf given (lets.take i.1)).map fun p => [U.str p.1]))), (3, .vec 3 1 (rowsD ((scOf given (lets.take i.1)).map fun p => [U.int .i64 p.2.1]))), (4, .vec 32 1 (rowsD ((scOf given (lets.take i.1)).map fun p => [U.int .i64 p.2.2]))), (0, .box [.u (.int .i64 e.op), .u (.int .i64 e.n), .u (.int .i64 e.unit), .u (.str e.s), .u (.sl (e.args.map Exp.row))])]) 5
      (fun i => lets.length - i.1) ⟨0, by omega⟩ ?_ ?_
    · exact (Wk.ren ((fun i => i)) rfl (by simp [hn]) (by simp [wkER, St.lp, keepE, getK_cons, getK, getK_del, getK_setOb, D.under, D.le, D.ren, scOf] <;> (try (intros; simp_all; done)) <;> (try omega)) (by simp [wkR, St.lp, getK_cons, getK, getK_del, getK_setOb, obR, leU, pureRow, pureRows, Ob.under, D.under, D.le, D.ren, scOf] <;> (try (intros; simp_all; done)) <;> (try omega)) (by simp))
    rintro ⟨k, hk⟩
    simp [St.lp, St.only, keepE, getK_cons, getK]
    have hsl := scOf_len given (lets.take k)
    rw [List.length_take, Nat.min_eq_left hk] at hsl
    rcases hy : lets[k]? with _ | l
    · have hgk : lets.length ≤ k := by simpa using hy
      obtain rfl : k = lets.length := by omega
      have h5 := runit_fun given (scOf given lets) (by rw [scOf_len]; omega) hl1 hb (hin lets hrl) 12 e hre
      simp only [eagg, scU] at h5
      rw [List.take_length] at hsl
      generalize unitS (firstG given) (lastA (scOf given lets)) e = r at h5 ⊢
      repeat' (first
    | (refine H_cons ?_; simp [hy, hsl])
    | (refine H_nil ?_; simp [hy, hsl])
    | (refine V_sseq ?_; simp [hy, hsl])
    | (refine V_scond ?_; simp [hy, hsl])
    | (refine V_ret ?_; simp only [RK_seq, RK_seq_ret, RK_seq_exit, RK_blk, RK_blk_ret, RK_blk_exit, RK_loop, RK_loop_ret, RK_loop_exit, RK_done])
    | (refine V_skip ?_; simp only [RK_seq, RK_seq_ret, RK_seq_exit, RK_blk, RK_blk_ret, RK_blk_exit, RK_loop, RK_loop_ret, RK_loop_exit, RK_done])
    | (refine V_exit ?_; simp [RK_seq, RK_seq_ret, RK_seq_exit, RK_blk, RK_blk_ret, RK_blk_exit, RK_loop, RK_loop_ret, RK_loop_exit, RK_done])
    | (refine ⟨fun hc => ?_, fun hc => ?_⟩ <;> (try (exfalso; omega)))
    | (refine CallP.fun_ (h5) (by first | rfl | fail) (by first | assumption | (simp; done) | fail) (by first | (simp [hy, hsl]; done) | (simp [hy, hsl]; rfl) | fail) (by first | (simp; done) | fail) (fun d hd => ?_); subst hd; (try simp [hy, hsl]))
    | fail)
      all_goals
        (refine EndOK.val (.inr rfl) ?_; simp [resD, oneOrTup, pureD, Try.results11])
      all_goals (clear h5; simp_all; done)
    · have hlk : k < lets.length := (List.getElem?_eq_some_iff.1 hy).1
      have hsu := scOf_succ (given := given) hy
      have h5 := runit_fun given (scOf given (lets.take k)) (by rw [hsl]; omega) hl1 hb (hin _ fun x hx => hrl x (List.mem_of_mem_take hx)) 12 l.body (hrl l (List.mem_of_getElem? hy))
      simp only [eagg, scU] at h5
      generalize unitS (firstG given) (lastA (scOf given (lets.take k))) l.body = r at h5 hsu
      obtain ⟨u, er⟩ := r
      repeat' (first
    | (refine H_cons ?_; simp [hy, hsl])
    | (refine HD2_val rfl ?_; simp [hy, hsl])
    | (refine HD2_chg rfl ?_; simp [hy, hsl])
    | (refine H_nil ?_; simp [hy, hsl])
    | (refine ⟨by omega, ?_⟩)
    | (refine V_sseq ?_; simp [hy, hsl])
    | (refine V_scond ?_; simp [hy, hsl])
    | (refine HD2_nil (hC _ (by kernel_rfl)) (hk _ ?_); clear hC hk C k; simp only [RK_seq, RK_seq_ret, RK_seq_exit, RK_blk, RK_blk_ret, RK_blk_exit, RK_loop, RK_loop_ret, RK_loop_exit, RK_done])
    | (refine V_drawE rfl (by kernel_rfl) (by kernel_rfl) (by simp [hn]) fun C k hC hk => ?_; simp [hy, hsl])
    | (refine V_sregion ?_; simp [hy, hsl])
    | (refine V_skip ?_; simp only [RK_seq, RK_seq_ret, RK_seq_exit, RK_blk, RK_blk_ret, RK_blk_exit, RK_loop, RK_loop_ret, RK_loop_exit, RK_done])
    | (refine ⟨?_, by omega⟩)
    | (intro hc <;> (try (exfalso; omega)))
    | (refine CallP.fun_ (h5) (by first | rfl | fail) (by first | assumption | (simp; done) | fail) (by first | (simp [hy, hsl]; done) | (simp [hy, hsl]; rfl) | fail) (by first | (simp; done) | fail) (fun d hd => ?_); subst hd; (try simp [hy, hsl]))
    | fail)
      refine LoopW.next ⟨k + 1, by omega⟩ (by simp; omega) ?_
      exact (Wk.ren ((fun i => if i = 2 then 6 else if i = 3 then 8 else if i = 4 then 10 else i)) rfl (by simp [hn]) (by simp [wkER, St.lp, keepE, getK_cons, getK, getK_del, getK_setOb, D.under, D.le, D.ren, hsu] <;> (try (intros; simp_all; done)) <;> (try omega)) (by simp [wkR, St.lp, getK_cons, getK, getK_del, getK_setOb, obR, leU, pureRow, pureRows, Ob.under, D.under, D.le, D.ren, hsu] <;> (try (intros; simp_all; done)) <;> (try omega)) (by simp))
  · have hlt : i < given.length := (List.getElem?_eq_some_iff.1 hx).1
    have hok : unitOK v = (decide (0 ≤ v.unit) && decide (v.unit < 5)) := rfl
    have hbad : unitOK v = false → K = false := fun h => by
      rw [← hK, List.all_eq_false]
      exact ⟨v, List.mem_of_getElem? hx, by simp [h]⟩
    repeat' (first
    | (refine H_cons ?_; simp [hx])
    | (refine H_nil ?_; simp [hx])
    | (refine ⟨by omega, ?_⟩)
    | (refine V_sseq ?_; simp [hx])
    | (refine V_scond ?_; simp [hx])
    | (refine V_sregion ?_; simp [hx])
    | (refine V_ret ?_; simp only [RK_seq, RK_seq_ret, RK_seq_exit, RK_blk, RK_blk_ret, RK_blk_exit, RK_loop, RK_loop_ret, RK_loop_exit, RK_done])
    | (refine V_skip ?_; simp only [RK_seq, RK_seq_ret, RK_seq_exit, RK_blk, RK_blk_ret, RK_blk_exit, RK_loop, RK_loop_ret, RK_loop_exit, RK_done])
    | (refine ⟨?_, by omega⟩)
    | (refine ⟨fun hc => ?_, fun hc => ?_⟩ <;> (try (exfalso; omega)))
    | (intro hc <;> (try (exfalso; omega)))
    | fail)
    all_goals first
      | (refine LoopW.next ⟨i + 1, by omega, take_succ_all hx hb (by rw [hok]; simp; omega)⟩ (by simp; omega) ?_; exact (Wk.cut rfl (by simp [hn]) (by simp [wkO, St.lp, getK_cons, getK, Ob.under, D.under, under_rowsD, under_entD]) (by simp [wkU, St.lp, keepE, getK_cons, getK, D.under]) (by simp [wkE, St.lp, keepE, getK_cons, getK] <;> (try (intros; simp_all; done)) <;> (try (intros; omega)) <;> (try grind))))
      | (have hKf : K = false := (by first | (exact hbad (by rw [hok]; simp; omega)) | fail); subst hKf; (refine EndOK.val (.inr rfl) ?_; simp [resD, oneOrTup, pureD, Try.results11]); done)
end Go.Proofs.Ytehlmagdlkcifaa
