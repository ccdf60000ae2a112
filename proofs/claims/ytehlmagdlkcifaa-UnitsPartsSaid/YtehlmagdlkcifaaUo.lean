/- The reference: what is few. -/
import Derived.Test.YtehlmagdlkcifaaUn
set_option linter.all false
set_option maxRecDepth 100000
set_option maxHeartbeats 8000000
namespace Go.VL
/-- A slice within a struct that came in has a length that an int holds. -/
theorem V_lenA {P : Program} {Γ : Ctx} {c : Code} {s : St} {Q : Exit → St → Prop} {x j : Nat} {cells : List U} {rows : List (List U)} (hx : getK s.env x = some (.u (.agg cells))) (hj : cells[j]? = some (.sl rows)) (h : rows.length ≤ 9223372036854775807 → V P Γ c s Q) : V P Γ c s Q :=
  V_know (fun K a w hs => by
    have hr := (hs.getK hx).2
    obtain ⟨vs, hl, _, hr⟩ := rep_uagg hr
    have hr := hr j _ hj
    generalize vs.getD j undef = v at hr
    cases hr with
    | slE => simp
    | sl _ b o sz c f hc hcx => unfold maxLen at hcx; omega) h
end Go.VL
namespace Go.Proofs.Ytehlmagdlkcifaa
open Go Go.VL
attribute [local simp] hcons hstep evPure opd uOf putOK St.put St.at getK binD binI binS binB nilD aggD eqUs cmpK lookD lookR rangeD nextD entryD keyD valU keyU lookK mkV entD_nil lookK_entD updK_entD1 updK_entD2 updK_entD3 allUE allUE_entD makeMapD mapUpdD mapEff updK valM Key.kk shiftI arith unD convD pickD loadD cellsAt fieldAddrD fieldD indexAddrD indexD sliceD cutD lenD minmaxD nilCheckD buildD fillD cellsD isOne ones setAll mkAgg allU allocD boxD storeD St.add buildSliceD appendD rowsOf makeD setOb getK_setOb getK_del getK_cons stripL strip guardTmp entry chunks zcells valD argsV argsW argW argU1 argU0 argsU0 argsU1 calleeOf scalarD scalarU delAll effD St.effS RK_seq RK_seq_ret RK_seq_exit RK_blk RK_blk_ret RK_blk_exit RK_loop RK_loop_ret RK_loop_exit RK_done vs_seq vs_block vs_skip vs_label vs_exit vs_ret vs_cond vs_region vs_loop vs_draw vs_range vs_scope applyW mkD rdIds lentIds callOf calleeOf freeOp D.ids Op.operands Call.operands isEffOp IntKind.bits allU2 allU2_append List.take_of_length_le List.range_succ
attribute [local irreducible] V G H HD HD2 RunK Eff CallP CallV EndOK Fun Ret FinOK LoopI LoopW EndW
def nodesS : Nat → Exp → Int → Int
  | 0, _, most => most + 1
  | L + 1, e, most => if 60 < e.s.length then most + 1 else e.args.foldl (fun n x => if n ≤ most then n + nodesS L x (most - n) else n) 1
theorem nodesS_succ (L : Nat) (e : Exp) (most : Int) : nodesS (L + 1) e most = if 60 < e.s.length then most + 1 else e.args.foldl (fun n x => if n ≤ most then n + nodesS L x (most - n) else n) 1 := by rw [nodesS]
theorem nodes_bound : ∀ (L : Nat) (e : Exp) (most : Int), 0 ≤ most → 1 ≤ nodesS L e most ∧ nodesS L e most ≤ most + 1
  | 0, e, most, h => by rw [nodesS]; omega
  | L + 1, e, most, h => by
    rw [nodesS]
    split
    · omega
    · have : ∀ (l : List Exp) (n : Int), 1 ≤ n → n ≤ most + 1 → 1 ≤ l.foldl (fun n x => if n ≤ most then n + nodesS L x (most - n) else n) n ∧ l.foldl (fun n x => if n ≤ most then n + nodesS L x (most - n) else n) n ≤ most + 1 := by
        intro l
        induction l with
        | nil => intro n h1 h2; exact ⟨h1, h2⟩
        | cons a l ih =>
          intro n h1 h2
          rw [List.foldl_cons]
          split
          · rename_i hn
            have := nodes_bound L a (most - n) (by omega)
            exact ih _ (by omega) (by omega)
          · exact ih n h1 h2
      exact this _ 1 (by omega) (by omega)
theorem foldl_done {L : Nat} {most : Int} : ∀ (l : List Exp) (n : Int), ¬ n ≤ most → l.foldl (fun n x => if n ≤ most then n + nodesS L x (most - n) else n) n = n
  | [], _, _ => rfl
  | a :: l, n, h => by rw [List.foldl_cons, if_neg h]; exact foldl_done l n h
theorem nodes_fun : ∀ (L : Nat) (e : Exp) (most : Int), 0 ≤ most → most ≤ 1000 → (L : Int) ≤ 100 → Fun Try.prog 50 [eagg e, .u (.int .i64 most), .u (.int .i64 L)] (· = .u (.int .i64 (nodesS L e most)))
  | 0, e, most, _, _, _ => by
    rw [nodesS]
    (refine Fun.of_body Try.func50 rfl (by simp) fun Γ hn => ?_); simp only [entry, List.zipIdx_cons, List.zipIdx_nil, List.map_cons, List.map_nil, Nat.zero_add, Try.ntmps50]
    simp only [eagg]
    repeat' (first
    | (refine H_cons ?_; simp)
    | (refine H_nil ?_; simp)
    | (refine ⟨by omega, ?_⟩)
    | (refine V_sseq ?_; simp)
    | (refine V_scond ?_; simp)
    | (refine V_ret ?_; simp only [RK_seq, RK_seq_ret, RK_seq_exit, RK_blk, RK_blk_ret, RK_blk_exit, RK_loop, RK_loop_ret, RK_loop_exit, RK_done])
    | fail)
    (refine EndOK.val (.inr rfl) ?_; simp [resD, oneOrTup, pureD, Try.results50])
  | L + 1, e, most, h0, h1, hL => by
    rw [nodesS_succ]
    by_cases hs : 60 < e.s.length
    · rw [if_pos hs]
      (refine Fun.of_body Try.func50 rfl (by simp) fun Γ hn => ?_); simp only [entry, List.zipIdx_cons, List.zipIdx_nil, List.map_cons, List.map_nil, Nat.zero_add, Try.ntmps50]
      simp only [eagg]
      repeat' (first
    | (refine H_cons ?_; simp)
    | (refine H_nil ?_; simp)
    | (refine ⟨by omega, ?_⟩)
    | (refine V_sseq ?_; simp)
    | (refine V_scond ?_; simp)
    | (refine V_ret ?_; simp only [RK_seq, RK_seq_ret, RK_seq_exit, RK_blk, RK_blk_ret, RK_blk_exit, RK_loop, RK_loop_ret, RK_loop_exit, RK_done])
    | (refine ⟨?_, by omega⟩)
    | (intro hc <;> (try (exfalso; omega)))
    | fail)
      all_goals first
        | (exfalso; omega)
        | ((refine EndOK.val (.inr rfl) ?_; simp [resD, oneOrTup, pureD, Try.results50]); done)
    rw [if_neg hs]
    generalize hg : (e.args.foldl (fun n x => if n ≤ most then n + nodesS L x (most - n) else n) 1) = g
    (refine Fun.of_body Try.func50 rfl (by simp) fun Γ hn => ?_); simp only [entry, List.zipIdx_cons, List.zipIdx_nil, List.map_cons, List.map_nil, Nat.zero_add, Try.ntmps50]
    simp only [eagg]
    refine V_lenA (x := 0) (j := 4) rfl rfl fun hl => ?_
    simp only [List.length_map] at hl
    repeat' (first
    | (refine H_cons ?_; simp)
    | (refine H_nil ?_; simp)
    | (refine ⟨by omega, ?_⟩)
    | (refine V_sseq ?_; simp)
    | (refine V_scond ?_; simp)
    | (refine V_sblock ?_; simp)
    | (refine V_skip ?_; simp only [RK_seq, RK_seq_ret, RK_seq_exit, RK_blk, RK_blk_ret, RK_blk_exit, RK_loop, RK_loop_ret, RK_loop_exit, RK_done])
    | (refine ⟨?_, by omega⟩)
    | (intro hc <;> (try (exfalso; omega)))
    | fail)
    refine V_loopF (α := { p : Nat × Int // p.1 ≤ e.args.length ∧ 1 ≤ p.2 ∧ p.2 ≤ most + 1 ∧ g = (e.args.drop p.1).foldl (fun n x => if n ≤ most then n + nodesS L x (most - n) else n) p.2 }) [1, 2, 3] (fun p => [(7, .u (.int .i64 p.1.2)), (8, .u (.int .i64 p.1.1))]) (fun p => e.args.length - p.1.1) ⟨(0, 1), by simp, by simp, by simp; omega, by simp [hg]⟩ ?_ ?_
    · exact (Wk.cut rfl (by simp [hn]) (by simp [wkO, St.lp, getK_cons, getK, Ob.under, D.under, under_rowsD, under_entD]) (by simp [wkU, St.lp, keepE, getK_cons, getK, D.under]) (by simp [wkE, St.lp, keepE, getK_cons, getK] <;> (try (intros; simp_all; done)) <;> (try (intros; omega)) <;> (try grind)))
    rintro ⟨⟨i, n⟩, hi, hn1, hn2, hgn⟩
    simp only at hi hn1 hn2 hgn
    simp [St.lp, St.only, keepE, getK_cons, getK]
    rcases hx : e.args[i]? with _ | x
    · have hge : e.args.length ≤ i := by simpa using hx
      rw [List.drop_of_length_le hge] at hgn
      repeat' (first
    | (refine H_cons ?_; simp [hx])
    | (refine H_nil ?_; simp [hx])
    | (refine ⟨by omega, ?_⟩)
    | (refine V_sseq ?_; simp [hx])
    | (refine V_scond ?_; simp [hx])
    | (refine V_ret ?_; simp only [RK_seq, RK_seq_ret, RK_seq_exit, RK_blk, RK_blk_ret, RK_blk_exit, RK_loop, RK_loop_ret, RK_loop_exit, RK_done])
    | (refine V_exit ?_; simp [RK_seq, RK_seq_ret, RK_seq_exit, RK_blk, RK_blk_ret, RK_blk_exit, RK_loop, RK_loop_ret, RK_loop_exit, RK_done])
    | (intro hc <;> (try (exfalso; omega)))
    | fail)
      (refine EndOK.val (.inr rfl) ?_; simp [resD, oneOrTup, pureD, Try.results50])
      rw [hgn]; rfl
    · have hlt : i < e.args.length := (List.getElem?_eq_some_iff.1 hx).1
      by_cases hm : n ≤ most
      · have h5 := nodes_fun L x (most - n) (by omega) (by omega) (by omega)
        have hb := nodes_bound L x (most - n) (by omega)
        simp only [eagg] at h5
        rw [List.drop_eq_getElem_cons hlt, List.foldl_cons, if_pos hm, (List.getElem?_eq_some_iff.1 hx).2] at hgn
        generalize nodesS L x (most - n) = y at h5 hb hgn
        repeat' (first
    | (refine H_cons ?_; simp [hx, x.row_eq])
    | (refine H_nil ?_; simp [hx, x.row_eq])
    | (refine ⟨by omega, ?_⟩)
    | (refine V_sseq ?_; simp [hx, x.row_eq])
    | (refine V_scond ?_; simp [hx, x.row_eq])
    | (refine V_sregion ?_; simp [hx, x.row_eq])
    | (refine V_skip ?_; simp only [RK_seq, RK_seq_ret, RK_seq_exit, RK_blk, RK_blk_ret, RK_blk_exit, RK_loop, RK_loop_ret, RK_loop_exit, RK_done])
    | (refine ⟨?_, by omega⟩)
    | (intro hc <;> (try (exfalso; omega)))
    | (refine CallP.fun_ (h5) (by first | rfl | fail) (by first | assumption | (simp; done) | fail) (by first | (simp [hx, x.row_eq]; done) | (simp [hx, x.row_eq]; rfl) | fail) (by first | (simp; done) | fail) (fun d hd => ?_); subst hd; (try simp [hx, x.row_eq]))
    | fail)
        refine LoopW.next ⟨(i + 1, n + y), (by omega : i + 1 ≤ e.args.length), (by omega : 1 ≤ n + y), (by omega : n + y ≤ most + 1), hgn⟩ (by simp; omega) ?_
        exact (Wk.cut rfl (by simp [hn]) (by simp [wkO, St.lp, getK_cons, getK, Ob.under, D.under, under_rowsD, under_entD]) (by simp [wkU, St.lp, keepE, getK_cons, getK, D.under]) (by simp [wkE, St.lp, keepE, getK_cons, getK] <;> (try (intros; simp_all; done)) <;> (try (intros; omega)) <;> (try grind)))
      · rw [foldl_done _ _ hm] at hgn
        repeat' (first
    | (refine H_cons ?_; simp [hx])
    | (refine H_nil ?_; simp [hx])
    | (refine ⟨by omega, ?_⟩)
    | (refine V_sseq ?_; simp [hx])
    | (refine V_scond ?_; simp [hx])
    | (refine V_ret ?_; simp only [RK_seq, RK_seq_ret, RK_seq_exit, RK_blk, RK_blk_ret, RK_blk_exit, RK_loop, RK_loop_ret, RK_loop_exit, RK_done])
    | (refine V_exit ?_; simp [RK_seq, RK_seq_ret, RK_seq_exit, RK_blk, RK_blk_ret, RK_blk_exit, RK_loop, RK_loop_ret, RK_loop_exit, RK_done])
    | (refine ⟨?_, by omega⟩)
    | (intro hc <;> (try (exfalso; omega)))
    | fail)
        (refine EndOK.val (.inr rfl) ?_; simp [resD, oneOrTup, pureD, Try.results50])
        rw [hgn]
def fewE (e : Exp) (n : Int) : Bool := decide (nodesS 16 e n ≤ n)
theorem fewExp_fun (e : Exp) (n : Int) (h0 : 0 ≤ n) (h1 : n ≤ 1000) : Fun Try.prog 24 [eagg e, .u (.int .i64 n)] (· = .u (.bool (fewE e n))) := by
  have h2 := nodes_fun 16 e n h0 h1 (by omega)
  unfold fewE
  simp only [eagg] at h2 ⊢
  generalize nodesS 16 e n = y at h2 ⊢
  (refine Fun.of_body Try.func24 rfl (by simp) fun Γ hn => ?_); simp only [entry, List.zipIdx_cons, List.zipIdx_nil, List.map_cons, List.map_nil, Nat.zero_add, Try.ntmps24]
  repeat' (first
    | (refine H_cons ?_; simp)
    | (refine H_nil ?_; simp)
    | (refine V_sseq ?_; simp)
    | (refine V_ret ?_; simp only [RK_seq, RK_seq_ret, RK_seq_exit, RK_blk, RK_blk_ret, RK_blk_exit, RK_loop, RK_loop_ret, RK_loop_exit, RK_done])
    | (refine CallP.fun_ (h2) (by first | rfl | fail) (by first | assumption | (simp; done) | fail) (by first | (simp; done) | (simp; rfl) | fail) (by first | (simp; done) | fail) (fun d hd => ?_); subst hd; (try simp))
    | fail)
  (refine EndOK.val (.inr rfl) ?_; simp [resD, oneOrTup, pureD, Try.results24])
mutual
def namesN : Exp → Int
  | .mk op _ _ _ args => (if op = 1 then 1 else 0) + namesNL args
def namesNL : List Exp → Int
  | [] => 0
  | e :: r => namesN e + namesNL r
end
theorem namesN_eq (e : Exp) : namesN e = (if e.op = 1 then 1 else 0) + namesNL e.args := by cases e with | mk op n u s args => rw [namesN]; rfl
mutual
theorem namesN_nonneg : ∀ e : Exp, 0 ≤ namesN e
  | .mk op n u s args => by
    rw [namesN]
    have := namesNL_nonneg args
    split <;> omega
theorem namesNL_nonneg : ∀ l : List Exp, 0 ≤ namesNL l
  | [] => by rw [namesNL]; omega
  | e :: r => by
    rw [namesNL]
    have := namesN_nonneg e
    have := namesNL_nonneg r
    omega
end
theorem namesNL_at {l : List Exp} {i : Nat} {x : Exp} (h : l[i]? = some x) : namesNL (l.take (i + 1)) = namesNL (l.take i) + namesN x := by
  induction l generalizing i with
  | nil => simp at h
  | cons a l ih =>
    cases i with
    | zero => simp at h; subst h; simp [namesNL]
    | succ i => rw [List.take_succ_cons, List.take_succ_cons, namesNL, namesNL, ih (i := i) (by simpa using h)]; omega
theorem namesNL_le {l : List Exp} (i : Nat) : namesNL (l.take i) ≤ namesNL l := by
  induction l generalizing i with
  | nil => simp
  | cons a l ih =>
    cases i with
    | zero => rw [List.take_zero]; have := namesNL_nonneg (a :: l); rw [show namesNL [] = 0 by rw [namesNL]]; exact this
    | succ i => rw [List.take_succ_cons, namesNL, namesNL]; have := ih i; omega
/-- Few nodes: few names. -/
theorem few_names : ∀ (L : Nat) (e : Exp) (most : Int), 0 ≤ most → nodesS L e most ≤ most → namesN e ≤ nodesS L e most
  | 0, e, most, _, h => by rw [nodesS] at h; omega
  | L + 1, e, most, h0, h => by
    rw [nodesS_succ] at h ⊢
    by_cases hs : 60 < e.s.length
    · rw [if_pos hs] at h; omega
    rw [if_neg hs] at h ⊢
    have key : ∀ (l : List Exp) (n : Int), 1 ≤ n → l.foldl (fun n x => if n ≤ most then n + nodesS L x (most - n) else n) n ≤ most → n + namesNL l ≤ l.foldl (fun n x => if n ≤ most then n + nodesS L x (most - n) else n) n := by
      intro l
      induction l with
      | nil => intro n _ _; rw [namesNL]; simp
      | cons a l ih =>
        intro n h1 h2
        rw [List.foldl_cons] at h2 ⊢
        by_cases hn : n ≤ most
        · rw [if_pos hn] at h2 ⊢
          have hb := nodes_bound L a (most - n) (by omega)
          have h3 := ih _ (by omega) h2
          have h4 : n + nodesS L a (most - n) ≤ most := by
            rcases Int.lt_or_le most (n + nodesS L a (most - n)) with h5 | h5
            · rw [foldl_done _ _ (by omega)] at h2; omega
            · exact h5
          have h5 := few_names L a (most - n) (by omega) (by omega)
          rw [namesNL]
          omega
        · rw [if_neg hn, foldl_done _ _ hn] at h2; omega
    have h1 := key e.args 1 (by omega) h
    rw [namesN_eq]
    by_cases h3 : e.op = 1
    · rw [if_pos h3]; omega
    · rw [if_neg h3]; omega
theorem rnames_fun : ∀ (m : Nat) (e : Exp), SizeOf.sizeOf e ≤ m → namesN e ≤ 1000000 → Fun Try.prog 52 [eagg e] (· = .u (.int .i64 (namesN e)))
  | 0, e, hm, _ => by cases e; simp at hm
  | m + 1, e, hm, hN => by
    have hch : ∀ x ∈ e.args, SizeOf.sizeOf x ≤ m := fun x hx => by
      cases e with
      | mk op n u s args =>
        have h1 := List.sizeOf_lt_of_mem (show x ∈ args from hx)
        simp at hm
        omega
    rw [namesN_eq] at hN ⊢
    have hnn := namesNL_nonneg e.args
    generalize hk : (if e.op = 1 then (1 : Int) else 0) = k0 at hN ⊢
    have hk01 : 0 ≤ k0 ∧ k0 ≤ 1 := by rw [← hk]; split <;> omega
    (refine Fun.of_body Try.func52 rfl (by simp) fun Γ hn => ?_); simp only [entry, List.zipIdx_cons, List.zipIdx_nil, List.map_cons, List.map_nil, Nat.zero_add, Try.ntmps52]
    simp only [eagg]
    refine V_lenA (x := 0) (j := 4) rfl rfl fun hl => ?_
    simp only [List.length_map] at hl
    repeat' (first
    | (refine H_cons ?_; simp)
    | (refine H_nil ?_; simp)
    | (refine V_sseq ?_; simp)
    | (refine V_scond ?_; simp)
    | (refine V_sblock ?_; simp)
    | (refine V_sregion ?_; simp)
    | (refine V_skip ?_; simp only [RK_seq, RK_seq_ret, RK_seq_exit, RK_blk, RK_blk_ret, RK_blk_exit, RK_loop, RK_loop_ret, RK_loop_exit, RK_done])
    | (refine ⟨fun hc => ?_, fun hc => ?_⟩ <;> (try (exfalso; omega)))
    | fail)
    all_goals
      refine V_loopF (α := { i : Nat // i ≤ e.args.length }) [1] (fun i => [(3, .u (.int .i64 (k0 + namesNL (e.args.take i.1)))), (4, .u (.int .i64 i.1))]) (fun i => e.args.length - i.1) ⟨0, by omega⟩ ?_ ?_
      · exact (Wk.cut rfl (by simp [hn]) (by simp [wkO, St.lp, getK_cons, getK, Ob.under, D.under, under_rowsD, under_entD, namesNL]) (by simp [wkU, St.lp, keepE, getK_cons, getK, D.under, namesNL]) (by simp [wkE, St.lp, keepE, getK_cons, getK, namesNL] <;> (try (intros; simp_all; done)) <;> (try (intros; omega)) <;> (try grind)))
      rintro ⟨i, hi⟩
      simp [St.lp, St.only, keepE, getK_cons, getK]
      rcases hx : e.args[i]? with _ | x
      · have hge : e.args.length ≤ i := by simpa using hx
        obtain rfl : i = e.args.length := by omega
        repeat' (first
    | (refine H_cons ?_; simp [hx])
    | (refine H_nil ?_; simp [hx])
    | (refine V_sseq ?_; simp [hx])
    | (refine V_scond ?_; simp [hx])
    | (refine V_ret ?_; simp only [RK_seq, RK_seq_ret, RK_seq_exit, RK_blk, RK_blk_ret, RK_blk_exit, RK_loop, RK_loop_ret, RK_loop_exit, RK_done])
    | (refine V_exit ?_; simp [RK_seq, RK_seq_ret, RK_seq_exit, RK_blk, RK_blk_ret, RK_blk_exit, RK_loop, RK_loop_ret, RK_loop_exit, RK_done])
    | fail)
        (refine EndOK.val (.inr rfl) ?_; simp [resD, oneOrTup, pureD, Try.results52])
      · have hlt : i < e.args.length := (List.getElem?_eq_some_iff.1 hx).1
        have hat := namesNL_at hx
        have hle := namesNL_le (l := e.args) (i + 1)
        have hn0 := namesNL_nonneg (e.args.take i)
        have hnx := namesN_nonneg x
        have h5 := rnames_fun m x (hch x (List.mem_of_getElem? hx)) (by omega)
        simp only [eagg] at h5
        repeat' (first
    | (refine H_cons ?_; simp [hx, x.row_eq])
    | (refine H_nil ?_; simp [hx, x.row_eq])
    | (refine ⟨by omega, ?_⟩)
    | (refine V_sseq ?_; simp [hx, x.row_eq])
    | (refine V_scond ?_; simp [hx, x.row_eq])
    | (refine V_sregion ?_; simp [hx, x.row_eq])
    | (refine V_skip ?_; simp only [RK_seq, RK_seq_ret, RK_seq_exit, RK_blk, RK_blk_ret, RK_blk_exit, RK_loop, RK_loop_ret, RK_loop_exit, RK_done])
    | (refine ⟨?_, by omega⟩)
    | (intro hc <;> (try (exfalso; omega)))
    | (refine CallP.fun_ (h5) (by first | rfl | fail) (by first | assumption | (simp; done) | fail) (by first | (simp [hx, x.row_eq]; done) | (simp [hx, x.row_eq]; rfl) | fail) (by first | (simp; done) | fail) (fun d hd => ?_); subst hd; (try simp [hx, x.row_eq]))
    | fail)
        all_goals
          refine LoopW.next ⟨i + 1, by omega⟩ (by simp; omega) ?_
          exact (Wk.cut rfl (by simp [hn]) (by simp [wkO, St.lp, getK_cons, getK, Ob.under, D.under, under_rowsD, under_entD, hat, Int.add_assoc]) (by simp [wkU, St.lp, keepE, getK_cons, getK, D.under, hat, Int.add_assoc]) (by simp [wkE, St.lp, keepE, getK_cons, getK, hat, Int.add_assoc] <;> (try (intros; simp_all; done)) <;> (try (intros; omega)) <;> (try grind)))
end Go.Proofs.Ytehlmagdlkcifaa
