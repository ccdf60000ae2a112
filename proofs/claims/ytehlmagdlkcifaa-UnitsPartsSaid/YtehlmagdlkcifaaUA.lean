/- UnitsParts: the walk. -/
import Derived.Test.YtehlmagdlkcifaaUz
import Derived.Test.YtehlmagdlkcifaaUv
import Derived.Test.YtehlmagdlkcifaaUt
set_option linter.all false
set_option maxRecDepth 100000
set_option maxHeartbeats 8000000
namespace Go.Proofs.Ytehlmagdlkcifaa
open Go Go.VL Go.ChangeShapes Go.WideShapes Go.ChangeAt Go.RowKit
theorem eagg_putAt (e : Exp) (k : Nat) (y : Exp) : eagg (putAt e k y) = .u (.agg [.int .i64 e.op, .int .i64 e.n, .int .i64 e.unit, .str e.s, .sl ((e.args.map Exp.row).take k ++ [y.row] ++ (e.args.map Exp.row).drop (k + 1))]) := by
  simp [eagg, putAt, Exp.op, Exp.n, Exp.unit, Exp.s, Exp.args, List.map_take, List.map_drop]
theorem mk_op (o n u : Int) (s : List UInt8) (a : List Exp) : (Exp.mk o n u s a).op = o := rfl
theorem mk_n (o n u : Int) (s : List UInt8) (a : List Exp) : (Exp.mk o n u s a).n = n := rfl
theorem mk_u (o n u : Int) (s : List UInt8) (a : List Exp) : (Exp.mk o n u s a).unit = u := rfl
theorem mk_s (o n u : Int) (s : List UInt8) (a : List Exp) : (Exp.mk o n u s a).s = s := rfl
theorem mk_a (o n u : Int) (s : List UInt8) (a : List Exp) : (Exp.mk o n u s a).args = a := rfl
section
attribute [local simp] hcons hstep evPure opd uOf putOK St.put St.at getK binD binI binS binB nilD aggD eqUs cmpK lookD lookR rangeD nextD entryD keyD valU keyU lookK mkV entD_nil lookK_entD updK_entD1 updK_entD2 updK_entD3 allUE allUE_entD makeMapD mapUpdD mapEff updK valM Key.kk shiftI arith unD convD pickD loadD cellsAt fieldAddrD fieldD indexAddrD indexD sliceD cutD lenD minmaxD nilCheckD buildD fillD cellsD isOne ones setAll mkAgg allU allocD boxD storeD St.add buildSliceD appendD rowsOf makeD setOb getK_setOb getK_del getK_cons stripL strip guardTmp entry chunks zcells valD argsV argsW argW argU1 argU0 argsU0 argsU1 calleeOf scalarD scalarU delAll effD St.effS RK_seq RK_seq_ret RK_seq_exit RK_blk RK_blk_ret RK_blk_exit RK_loop RK_loop_ret RK_loop_exit RK_done vs_seq vs_block vs_skip vs_label vs_exit vs_ret vs_cond vs_region vs_loop vs_draw vs_range vs_scope applyW mkD rdIds lentIds callOf calleeOf freeOp D.ids Op.operands Call.operands isEffOp IntKind.bits allU2 allU2_append List.take_of_length_le List.range_succ
attribute [local irreducible] V G H HD HD2 RunK Eff CallP CallV EndOK Fun Ret FinOK LoopI LoopW EndW
theorem parts_fun (lets : List Let) (given : List Var) (e : Exp) (k : Int) (other : Exp) : Fun Try.prog 5 [.u (letsU lets), .u (varsU given), eagg e, .u (.int .i64 k), eagg other] (· = .u (.bool true)) := by
  have h0 := small_fun
  have h1 := few3_fun lets given e
  have h2 := fewExp_fun other 40 (by decide) (by decide)
  have h3 := unitOf_fun lets given e
  have h4 := unitOf_fun lets given other
  have hrep := fun i z y hz h hy hr => @replace_unit lets given e y z i hz h hy hr
  have hother := @unitP_zero lets given other
  have hthin := @few3_out lets given e
  generalize few3 lets given e = f3 at h1 hthin
  generalize fewE other 40 = f4 at h2
  generalize hue : unitP lets given e = ue at h3 hrep
  generalize huo : unitP lets given other = uo at h4 hother
  obtain ⟨u, bad⟩ := ue
  obtain ⟨v, worse⟩ := uo
  simp only [eagg, letsU, varsU] at h1 h2 h3 h4 ⊢
  (refine Fun.of_body Try.func5 rfl (by simp) fun Γ hn => ?_); simp only [entry, List.zipIdx_cons, List.zipIdx_nil, List.map_cons, List.map_nil, Nat.zero_add, Try.ntmps5]
  repeat' (first
    | (refine H_cons ?_; simp)
    | (refine HD2_val rfl ?_; simp)
    | (refine HD_cons ?_; simp)
    | (refine HD2_chg rfl ?_; simp)
    | (refine H_nil ?_; simp)
    | (refine ⟨by omega, ?_⟩)
    | (refine V_sseq ?_; simp)
    | (refine V_scond ?_; simp)
    | (refine HD2_nil (hC _ (by kernel_rfl)) (hk _ ?_); clear hC hk C k; simp only [RK_seq, RK_seq_ret, RK_seq_exit, RK_blk, RK_blk_ret, RK_blk_exit, RK_loop, RK_loop_ret, RK_loop_exit, RK_done])
    | (refine HD_nil ?_)
    | (refine hk _ ?_; clear hk k; simp only [RK_seq, RK_seq_ret, RK_seq_exit, RK_blk, RK_blk_ret, RK_blk_exit, RK_loop, RK_loop_ret, RK_loop_exit, RK_done])
    | (refine V_drawV rfl (by kernel_rfl) (by kernel_rfl) fun k hk => ?_; simp)
    | (refine V_drawN rfl (by kernel_rfl) (by kernel_rfl) (by simp [hn]) fun C k hC hk => ?_; simp)
    | (refine HD3_val rfl ?_; simp)
    | (refine HD3_put ?_; simp)
    | (refine HD3_chg rfl rfl ?_; simp)
    | (refine HD3_nil (hC _ _ (by kernel_rfl) (by kernel_rfl)) (hk _ ?_); clear hC hk C k; simp only [RK_seq, RK_seq_ret, RK_seq_exit, RK_blk, RK_blk_ret, RK_blk_exit, RK_loop, RK_loop_ret, RK_loop_exit, RK_done]; simp [St.ins, insL, putE, getK_setOb, getK_cons])
    | (refine V_drawE rfl (by kernel_rfl) (by kernel_rfl) (by simp [hn]) fun C k hC hk => ?_; simp)
    | (refine HD_guardU rfl (by simp) ?_; simp)
    | (refine HD_guard rfl (by simp) (fun hc => ?_) (fun hc => ?_) <;> (try simp at hc) <;> (try (exfalso; omega)) <;> (try simp))
    | (refine HD2_guardU rfl (by simp) ?_; simp)
    | (refine HD2_guard rfl (by simp) (fun hc => ?_) (fun hc => ?_) <;> (try simp at hc) <;> (try (exfalso; omega)) <;> (try simp))
    | (refine V_sblock ?_; simp)
    | (refine V_sregion ?_; simp)
    | (refine V_ret ?_; simp only [RK_seq, RK_seq_ret, RK_seq_exit, RK_blk, RK_blk_ret, RK_blk_exit, RK_loop, RK_loop_ret, RK_loop_exit, RK_done])
    | (refine V_skip ?_; simp only [RK_seq, RK_seq_ret, RK_seq_exit, RK_blk, RK_blk_ret, RK_blk_exit, RK_loop, RK_loop_ret, RK_loop_exit, RK_done])
    | (refine V_exit ?_; simp [RK_seq, RK_seq_ret, RK_seq_exit, RK_blk, RK_blk_ret, RK_blk_exit, RK_loop, RK_loop_ret, RK_loop_exit, RK_done])
    | (refine ⟨?_, by omega⟩)
    | (refine ⟨fun hc => ?_, fun hc => ?_⟩ <;> (try (exfalso; omega)))
    | (intro hc <;> (try (exfalso; omega)))
    | (refine CallV.fun_ (h0) (by first | rfl | fail) (by first | assumption | (simp; done) | fail) (by first | (simp; done) | (simp; rfl) | fail) (by first | (simp; done) | fail) ?_ <;> (try simp))
    | (refine CallP.fun_ (h0) (by first | rfl | fail) (by first | assumption | (simp; done) | fail) (by first | (simp; done) | (simp; rfl) | fail) (by first | (simp; done) | fail) (fun d hd => ?_); subst hd; (try simp))
    | (refine CallV.fun_ (h1) (by first | rfl | fail) (by first | assumption | (simp; done) | fail) (by first | (simp; done) | (simp; rfl) | fail) (by first | (simp; done) | fail) ?_ <;> (try simp))
    | (refine CallP.fun_ (h1) (by first | rfl | fail) (by first | assumption | (simp; done) | fail) (by first | (simp; done) | (simp; rfl) | fail) (by first | (simp; done) | fail) (fun d hd => ?_); subst hd; (try simp))
    | (refine CallV.fun_ (h2) (by first | rfl | fail) (by first | assumption | (simp; done) | fail) (by first | (simp; done) | (simp; rfl) | fail) (by first | (simp; done) | fail) ?_ <;> (try simp))
    | (refine CallP.fun_ (h2) (by first | rfl | fail) (by first | assumption | (simp; done) | fail) (by first | (simp; done) | (simp; rfl) | fail) (by first | (simp; done) | fail) (fun d hd => ?_); subst hd; (try simp))
    | (refine CallV.fun_ (h3) (by first | rfl | fail) (by first | assumption | (simp; done) | fail) (by first | (simp; done) | (simp; rfl) | fail) (by first | (simp; done) | fail) ?_ <;> (try simp))
    | (refine CallP.fun_ (h3) (by first | rfl | fail) (by first | assumption | (simp; done) | fail) (by first | (simp; done) | (simp; rfl) | fail) (by first | (simp; done) | fail) (fun d hd => ?_); subst hd; (try simp))
    | (refine CallV.fun_ (h4) (by first | rfl | fail) (by first | assumption | (simp; done) | fail) (by first | (simp; done) | (simp; rfl) | fail) (by first | (simp; done) | fail) ?_ <;> (try simp))
    | (refine CallP.fun_ (h4) (by first | rfl | fail) (by first | assumption | (simp; done) | fail) (by first | (simp; done) | (simp; rfl) | fail) (by first | (simp; done) | fail) (fun d hd => ?_); subst hd; (try simp)))
  all_goals try ((refine EndOK.val (.inr rfl) ?_; simp [resD, oneOrTup, pureD, Try.results5]); done)
  have hk0 : 0 ≤ k := by omega
  have hk1 : k < e.args.length := by omega
  obtain ⟨i, rfl⟩ := Int.eq_ofNat_of_zero_le hk0
  have hi : i < e.args.length := by omega
  obtain ⟨z, hz⟩ : ∃ z, e.args[i]? = some z := ⟨_, List.getElem?_eq_getElem hi⟩
  obtain rfl : bad = 0 := by first | assumption | omega | (simp_all; done)
  obtain rfl : worse = 0 := by first | assumption | omega | (simp_all; done)
  have hlen : e.args.length ≤ 1000 := ((thinS_iff e).1 (hthin (by first | assumption | (simp_all; done))).2.2).1
  have h5 := unitOf_fun lets given z
  have hrep1 := hrep i z (.mk 0 1 (unitP lets given z).1 [] []) hz rfl (by rw [unitF, unitS_eq]; rfl)
  have hrep2 := fun hvw : v = (unitP lets given z).1 => hrep i z other hz rfl (by rw [← (hother rfl).2.2, hvw])
  have h7 := unitOf_fun lets given (putAt e i (.mk 0 1 (unitP lets given z).1 [] []))
  have h8 := rightExp_fun (putAt e i (.mk 0 1 (unitP lets given z).1 [] []))
  have h9 := unitOf_fun lets given (putAt e i other)
  have h10 := rightExp_fun (putAt e i other)
  have h6 := lof_fun 1 (unitP lets given z).1
  generalize unitP lets given (putAt e i (.mk 0 1 (unitP lets given z).1 [] [])) = r1 at h7 hrep1
  generalize rightB 12 (putAt e i (.mk 0 1 (unitP lets given z).1 [] [])) = b1 at h8 hrep1
  generalize unitP lets given (putAt e i other) = r2 at h9 hrep2
  generalize rightB 12 (putAt e i other) = b2 at h10 hrep2
  obtain ⟨one, er1⟩ := r1
  obtain ⟨two, er2⟩ := r2
  rw [eagg_putAt] at h7 h8 h9 h10
  generalize unitP lets given z = w at h5 h6 h7 h8 h9 h10 hrep1 hrep2
  obtain ⟨w, we⟩ := w
  simp only [eagg, letsU, varsU, Exp.row_eq other, Exp.row_eq (.mk 0 1 w [] []), mk_op, mk_n, mk_u, mk_s, mk_a, List.map_nil, List.append_assoc, List.cons_append, List.nil_append] at h5 h6 h7 h8 h9 h10
  have hs1 : i + 1 + (e.args.length - (i + 1)) = e.args.length := by omega
  have hs2 : i + (e.args.length - (i + 1) + 1) = e.args.length := by omega
  have hmin : min i e.args.length = i := by omega
  have hrow : ∀ x ∈ e.args, x.row.length = 5 := fun x _ => by rw [x.row_eq]; rfl
  have hone : onesR (rowsD (e.args.map Exp.row)) := by
    rw [onesR_rowsD_map]
    intro x _
    rw [x.row_eq]; rfl
  have hA1 : lenR 5 ((e.args.map Exp.row).take i) := lenR_take _ _ (by rw [lenR_map]; exact hrow)
  have hA2 : onesR (rowsD ((e.args.map Exp.row).take i)) := onesR_rowsD_take _ _ hone
  have hB1 : lenR 5 ((e.args.map Exp.row).drop (i + 1)) := lenR_drop _ _ (by rw [lenR_map]; exact hrow)
  have hB2 : onesR (rowsD ((e.args.map Exp.row).drop (i + 1))) := onesR_rowsD_drop _ _ hone
  have e1 : b1 = true → one = u ∧ er1 = 0 := fun h => by simpa using hrep1 h
  have e2 : v = w → b2 = true → two = u ∧ er2 = 0 := fun h g => by simpa using hrep2 h g
  simp [hz, z.row_eq]
  repeat' (first
    | (refine H_cons ?_; simp [hz, z.row_eq, other.row_eq, hs1, hs2, hmin, hrow, hA1, hA2, hB1, hB2])
    | (refine HD2_val rfl ?_; simp [hz, z.row_eq, other.row_eq, hs1, hs2, hmin, hrow, hA1, hA2, hB1, hB2])
    | (refine HD_cons ?_; simp [hz, z.row_eq, other.row_eq, hs1, hs2, hmin, hrow, hA1, hA2, hB1, hB2])
    | (refine HD2_chg rfl ?_; simp [hz, z.row_eq, other.row_eq, hs1, hs2, hmin, hrow, hA1, hA2, hB1, hB2])
    | (refine H_nil ?_; simp [hz, z.row_eq, other.row_eq, hs1, hs2, hmin, hrow, hA1, hA2, hB1, hB2])
    | (refine ⟨by omega, ?_⟩)
    | (refine V_sseq ?_; simp [hz, z.row_eq, other.row_eq, hs1, hs2, hmin, hrow, hA1, hA2, hB1, hB2])
    | (refine V_scond ?_; simp [hz, z.row_eq, other.row_eq, hs1, hs2, hmin, hrow, hA1, hA2, hB1, hB2])
    | (refine HD2_nil (hC _ (by kernel_rfl)) (hk _ ?_); clear hC hk C k; simp only [RK_seq, RK_seq_ret, RK_seq_exit, RK_blk, RK_blk_ret, RK_blk_exit, RK_loop, RK_loop_ret, RK_loop_exit, RK_done])
    | (refine HD_nil ?_)
    | (refine hk _ ?_; clear hk k; simp only [RK_seq, RK_seq_ret, RK_seq_exit, RK_blk, RK_blk_ret, RK_blk_exit, RK_loop, RK_loop_ret, RK_loop_exit, RK_done])
    | (refine V_drawV rfl (by kernel_rfl) (by kernel_rfl) fun k hk => ?_; simp [hz, z.row_eq, other.row_eq, hs1, hs2, hmin, hrow, hA1, hA2, hB1, hB2])
    | (refine V_drawN rfl (by kernel_rfl) (by kernel_rfl) (by simp [hn]) fun C k hC hk => ?_; simp [hz, z.row_eq, other.row_eq, hs1, hs2, hmin, hrow, hA1, hA2, hB1, hB2])
    | (refine HD3_val rfl ?_; simp [hz, z.row_eq, other.row_eq, hs1, hs2, hmin, hrow, hA1, hA2, hB1, hB2])
    | (refine HD3_put ?_; simp [hz, z.row_eq, other.row_eq, hs1, hs2, hmin, hrow, hA1, hA2, hB1, hB2])
    | (refine HD3_chg rfl rfl ?_; simp [hz, z.row_eq, other.row_eq, hs1, hs2, hmin, hrow, hA1, hA2, hB1, hB2])
    | (refine HD3_nil (hC _ _ (by kernel_rfl) (by kernel_rfl)) (hk _ ?_); clear hC hk C k; simp only [RK_seq, RK_seq_ret, RK_seq_exit, RK_blk, RK_blk_ret, RK_blk_exit, RK_loop, RK_loop_ret, RK_loop_exit, RK_done]; simp [St.ins, insL, putE, getK_setOb, getK_cons])
    | (refine V_drawE rfl (by kernel_rfl) (by kernel_rfl) (by simp [hn]) fun C k hC hk => ?_; simp [hz, z.row_eq, other.row_eq, hs1, hs2, hmin, hrow, hA1, hA2, hB1, hB2])
    | (refine HD_guardU rfl (by simp [hz, z.row_eq, other.row_eq, hs1, hs2, hmin, hrow, hA1, hA2, hB1, hB2]) ?_; simp [hz, z.row_eq, other.row_eq, hs1, hs2, hmin, hrow, hA1, hA2, hB1, hB2])
    | (refine HD_guard rfl (by simp [hz, z.row_eq, other.row_eq, hs1, hs2, hmin, hrow, hA1, hA2, hB1, hB2]) (fun hc => ?_) (fun hc => ?_) <;> (try simp [hz, z.row_eq, other.row_eq, hs1, hs2, hmin, hrow, hA1, hA2, hB1, hB2] at hc) <;> (try (exfalso; omega)) <;> (try simp [hz, z.row_eq, other.row_eq, hs1, hs2, hmin, hrow, hA1, hA2, hB1, hB2]))
    | (refine HD2_guardU rfl (by simp [hz, z.row_eq, other.row_eq, hs1, hs2, hmin, hrow, hA1, hA2, hB1, hB2]) ?_; simp [hz, z.row_eq, other.row_eq, hs1, hs2, hmin, hrow, hA1, hA2, hB1, hB2])
    | (refine HD2_guard rfl (by simp [hz, z.row_eq, other.row_eq, hs1, hs2, hmin, hrow, hA1, hA2, hB1, hB2]) (fun hc => ?_) (fun hc => ?_) <;> (try simp [hz, z.row_eq, other.row_eq, hs1, hs2, hmin, hrow, hA1, hA2, hB1, hB2] at hc) <;> (try (exfalso; omega)) <;> (try simp [hz, z.row_eq, other.row_eq, hs1, hs2, hmin, hrow, hA1, hA2, hB1, hB2]))
    | (refine V_sblock ?_; simp [hz, z.row_eq, other.row_eq, hs1, hs2, hmin, hrow, hA1, hA2, hB1, hB2])
    | (refine V_sregion ?_; simp [hz, z.row_eq, other.row_eq, hs1, hs2, hmin, hrow, hA1, hA2, hB1, hB2])
    | (refine V_ret ?_; simp only [RK_seq, RK_seq_ret, RK_seq_exit, RK_blk, RK_blk_ret, RK_blk_exit, RK_loop, RK_loop_ret, RK_loop_exit, RK_done])
    | (refine V_skip ?_; simp only [RK_seq, RK_seq_ret, RK_seq_exit, RK_blk, RK_blk_ret, RK_blk_exit, RK_loop, RK_loop_ret, RK_loop_exit, RK_done])
    | (refine V_exit ?_; simp [RK_seq, RK_seq_ret, RK_seq_exit, RK_blk, RK_blk_ret, RK_blk_exit, RK_loop, RK_loop_ret, RK_loop_exit, RK_done])
    | (refine ⟨?_, by omega⟩)
    | (refine ⟨fun hc => ?_, fun hc => ?_⟩ <;> (try (exfalso; omega)))
    | (intro hc <;> (try (exfalso; omega)))
    | (refine CallV.fun_ (h5) (by first | rfl | fail) (by first | assumption | (simp; done) | fail) (by first | (simp [hz, z.row_eq, other.row_eq, hs1, hs2, hmin, hrow, hA1, hA2, hB1, hB2]; done) | (simp [hz, z.row_eq, other.row_eq, hs1, hs2, hmin, hrow, hA1, hA2, hB1, hB2]; rfl) | fail) (by first | (simp; done) | fail) ?_ <;> (try simp [hz, z.row_eq, other.row_eq, hs1, hs2, hmin, hrow, hA1, hA2, hB1, hB2]))
    | (refine CallP.fun_ (h5) (by first | rfl | fail) (by first | assumption | (simp; done) | fail) (by first | (simp [hz, z.row_eq, other.row_eq, hs1, hs2, hmin, hrow, hA1, hA2, hB1, hB2]; done) | (simp [hz, z.row_eq, other.row_eq, hs1, hs2, hmin, hrow, hA1, hA2, hB1, hB2]; rfl) | fail) (by first | (simp; done) | fail) (fun d hd => ?_); subst hd; (try simp [hz, z.row_eq, other.row_eq, hs1, hs2, hmin, hrow, hA1, hA2, hB1, hB2]))
    | (refine CallV.fun_ (h6) (by first | rfl | fail) (by first | assumption | (simp; done) | fail) (by first | (simp [hz, z.row_eq, other.row_eq, hs1, hs2, hmin, hrow, hA1, hA2, hB1, hB2]; done) | (simp [hz, z.row_eq, other.row_eq, hs1, hs2, hmin, hrow, hA1, hA2, hB1, hB2]; rfl) | fail) (by first | (simp; done) | fail) ?_ <;> (try simp [hz, z.row_eq, other.row_eq, hs1, hs2, hmin, hrow, hA1, hA2, hB1, hB2]))
    | (refine CallP.fun_ (h6) (by first | rfl | fail) (by first | assumption | (simp; done) | fail) (by first | (simp [hz, z.row_eq, other.row_eq, hs1, hs2, hmin, hrow, hA1, hA2, hB1, hB2]; done) | (simp [hz, z.row_eq, other.row_eq, hs1, hs2, hmin, hrow, hA1, hA2, hB1, hB2]; rfl) | fail) (by first | (simp; done) | fail) (fun d hd => ?_); subst hd; (try simp [hz, z.row_eq, other.row_eq, hs1, hs2, hmin, hrow, hA1, hA2, hB1, hB2]))
    | (refine CallV.fun_ (h7) (by first | rfl | fail) (by first | assumption | (simp; done) | fail) (by first | (simp [hz, z.row_eq, other.row_eq, hs1, hs2, hmin, hrow, hA1, hA2, hB1, hB2]; done) | (simp [hz, z.row_eq, other.row_eq, hs1, hs2, hmin, hrow, hA1, hA2, hB1, hB2]; rfl) | fail) (by first | (simp; done) | fail) ?_ <;> (try simp [hz, z.row_eq, other.row_eq, hs1, hs2, hmin, hrow, hA1, hA2, hB1, hB2]))
    | (refine CallP.fun_ (h7) (by first | rfl | fail) (by first | assumption | (simp; done) | fail) (by first | (simp [hz, z.row_eq, other.row_eq, hs1, hs2, hmin, hrow, hA1, hA2, hB1, hB2]; done) | (simp [hz, z.row_eq, other.row_eq, hs1, hs2, hmin, hrow, hA1, hA2, hB1, hB2]; rfl) | fail) (by first | (simp; done) | fail) (fun d hd => ?_); subst hd; (try simp [hz, z.row_eq, other.row_eq, hs1, hs2, hmin, hrow, hA1, hA2, hB1, hB2]))
    | (refine CallV.fun_ (h8) (by first | rfl | fail) (by first | assumption | (simp; done) | fail) (by first | (simp [hz, z.row_eq, other.row_eq, hs1, hs2, hmin, hrow, hA1, hA2, hB1, hB2]; done) | (simp [hz, z.row_eq, other.row_eq, hs1, hs2, hmin, hrow, hA1, hA2, hB1, hB2]; rfl) | fail) (by first | (simp; done) | fail) ?_ <;> (try simp [hz, z.row_eq, other.row_eq, hs1, hs2, hmin, hrow, hA1, hA2, hB1, hB2]))
    | (refine CallP.fun_ (h8) (by first | rfl | fail) (by first | assumption | (simp; done) | fail) (by first | (simp [hz, z.row_eq, other.row_eq, hs1, hs2, hmin, hrow, hA1, hA2, hB1, hB2]; done) | (simp [hz, z.row_eq, other.row_eq, hs1, hs2, hmin, hrow, hA1, hA2, hB1, hB2]; rfl) | fail) (by first | (simp; done) | fail) (fun d hd => ?_); subst hd; (try simp [hz, z.row_eq, other.row_eq, hs1, hs2, hmin, hrow, hA1, hA2, hB1, hB2]))
    | (refine CallV.fun_ (h9) (by first | rfl | fail) (by first | assumption | (simp; done) | fail) (by first | (simp [hz, z.row_eq, other.row_eq, hs1, hs2, hmin, hrow, hA1, hA2, hB1, hB2]; done) | (simp [hz, z.row_eq, other.row_eq, hs1, hs2, hmin, hrow, hA1, hA2, hB1, hB2]; rfl) | fail) (by first | (simp; done) | fail) ?_ <;> (try simp [hz, z.row_eq, other.row_eq, hs1, hs2, hmin, hrow, hA1, hA2, hB1, hB2]))
    | (refine CallP.fun_ (h9) (by first | rfl | fail) (by first | assumption | (simp; done) | fail) (by first | (simp [hz, z.row_eq, other.row_eq, hs1, hs2, hmin, hrow, hA1, hA2, hB1, hB2]; done) | (simp [hz, z.row_eq, other.row_eq, hs1, hs2, hmin, hrow, hA1, hA2, hB1, hB2]; rfl) | fail) (by first | (simp; done) | fail) (fun d hd => ?_); subst hd; (try simp [hz, z.row_eq, other.row_eq, hs1, hs2, hmin, hrow, hA1, hA2, hB1, hB2]))
    | (refine CallV.fun_ (h10) (by first | rfl | fail) (by first | assumption | (simp; done) | fail) (by first | (simp [hz, z.row_eq, other.row_eq, hs1, hs2, hmin, hrow, hA1, hA2, hB1, hB2]; done) | (simp [hz, z.row_eq, other.row_eq, hs1, hs2, hmin, hrow, hA1, hA2, hB1, hB2]; rfl) | fail) (by first | (simp; done) | fail) ?_ <;> (try simp [hz, z.row_eq, other.row_eq, hs1, hs2, hmin, hrow, hA1, hA2, hB1, hB2]))
    | (refine CallP.fun_ (h10) (by first | rfl | fail) (by first | assumption | (simp; done) | fail) (by first | (simp [hz, z.row_eq, other.row_eq, hs1, hs2, hmin, hrow, hA1, hA2, hB1, hB2]; done) | (simp [hz, z.row_eq, other.row_eq, hs1, hs2, hmin, hrow, hA1, hA2, hB1, hB2]; rfl) | fail) (by first | (simp; done) | fail) (fun d hd => ?_); subst hd; (try simp [hz, z.row_eq, other.row_eq, hs1, hs2, hmin, hrow, hA1, hA2, hB1, hB2])))
  all_goals first
    | ((refine EndOK.val (.inr rfl) ?_; simp [resD, oneOrTup, pureD, Try.results5]); done)
    | (exfalso
       have h := e1 (by assumption)
       omega)
    | (exfalso
       have h := e2 (by first | assumption | omega) (by assumption)
       omega)
    | (have h := e2 (by first | assumption | omega) (by assumption)
       (refine EndOK.val (.inr rfl) ?_; simp [resD, oneOrTup, pureD, Try.results5])
       omega)
end
theorem parts_lifted (os : Os) (started : os.Started) (H : Type) (enc : TypeId × Value → H) :
    ReturnsInHanded {} Try.checked os 5 .any (Rows.unitsPartsSpec.pre6 enc Try.prog Try.f5 Rows.unitsPartsRow.domain false) (Rows.unitsPartsSpec.post enc Try.prog Try.f5 false true false false) := by
  refine law_lifted (tb := 4) Try.own started (by kernel_rfl) Try.func5
    (ChangeSpec.witness6 (enc := enc) (C := Try.checked) false ⟨#[], #[.slice none 0 0, .slice none 0 0, .agg #[.int .i64 0, .int .i64 0, .int .i64 0, .string ⟨#[]⟩, .slice none 0 0], .int .i64 0, .agg #[.int .i64 0, .int .i64 0, .int .i64 0, .string ⟨#[]⟩, .slice none 0 0]], []⟩ 8 (by kernel_rfl) (by kernel_rfl) (by kernel_rfl) (by kernel_rfl))
    Try.laidOut Try.seqs (by kernel_rfl) rfl (fun ds h => ?_) (by kernel_rfl) (by kernel_rfl) (fun us h => ?_)
  · match ds, h with
    | [_, _, _, _, _], _ => rfl
  · match us, h with
    | [a, b, c, d, f], h =>
      obtain ⟨h1, h2, h3, h4, h5, _⟩ := h
      obtain ⟨l, rfl⟩ := lets_of h1
      obtain ⟨vs, rfl⟩ := vars_of h2
      obtain ⟨r, rfl, h3r⟩ := h3.agg sf26
      obtain ⟨e, rfl⟩ := expU_of h3r
      obtain ⟨k, rfl⟩ := int_of h4
      obtain ⟨r, rfl, h5r⟩ := h5.agg sf26
      obtain ⟨o, rfl⟩ := expU_of h5r
      exact parts_fun l vs e k o
theorem parts_holds : Rows.UnitsPartsSaid :=
  OpenClaim.holds_of_wide 5 Try.f5 rfl rfl rfl rfl rfl rfl rfl ⟨rfl, rfl, rfl, rfl, rfl⟩ rfl rfl rfl rfl rfl (by kernel_rfl) Try.func5 (by kernel_rfl)
    (of_decide_eq_true (by kernel_rfl)) (by unfold Func.isWrapper; first | (rw [if_pos (by decide +kernel)]; kernel_rfl) | (rw [if_neg (by decide +kernel)]; exact ⟨rfl, rfl⟩))
    (fun os started H enc _ => parts_lifted os started H enc)
end Go.Proofs.Ytehlmagdlkcifaa
