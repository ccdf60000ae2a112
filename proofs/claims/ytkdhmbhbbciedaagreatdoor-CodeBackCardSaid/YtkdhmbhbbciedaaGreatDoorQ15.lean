/- Texts joined by a program of mine: Cf#p Cg#p Cm C3 Cj#p C2#p C4#p C5#p Cw#p Fb Fc Fd Fe Ed Ce Cf C4 C5 Ee Ya Yb Yc Yd Ye Yf Yg Yh Yi Yj Ct#p Cx Cy#p Cz#p C0#p Ef Cs Cy Cz C0 Eg Eh Ei El Cu Cv Cw C1#p Ej Ec Cc Cp Cr Cj. -/
import Derived.Test.YtkdhmbhbbciedaaGreatDoorQ14
import Derived.Lib.ItoaNum
import Derived.Lib.AtoiAllCases
import Derived.Lib.Bytealg
import Derived.Lib.ItoaLen
set_option linter.all false
set_option maxRecDepth 100000
set_option maxHeartbeats 8000000
namespace Go.Proofs.YtkdhmbhbbciedaaGreatDoor
open Go Go.VL
def Cap (F : Code → Code) : Prop := ∀ c : Code, c.length ≤ 2001 → (F c).length ≤ 2001
theorem Cap.put (x : Ins) : Cap fun c => putC c x := fun c h => by
 show (putC c x).length ≤ 2001
 rw [putC_len]; split <;> omega
theorem Cap.comp {F G : Code → Code} (hF : Cap F) (hG : Cap G) : Cap fun c => G (F c) := fun c h => hG _ (hF c h)
theorem Cap.truth : Cap truthC := (Cap.put _).comp (Cap.put _)
theorem Cap.choice {A B D : Code → Code} (hA : Cap A) (hB : Cap B) (hD : Cap D) : Cap (choiceC A B D) := fun c h => by
 unfold choiceC
 rw [landC_len]
 refine hD _ ?_
 rw [landC_len]
 exact Cap.put _ _ (hB _ (Cap.put _ _ (hA c h)))
mutual
theorem genT_cap {nm : List UInt8 → Code → Code} {sh : Exp → Bool} (hn : ∀ s, Cap (nm s)) : ∀ e : Exp, Cap (genT nm sh e)
 | .mk op n u s args => fun c hc2 => by
  have h := fun i => genN_cap (sh := sh) hn args i
  have hA := genA_cap (sh := sh) hn args
  rw [genT]
  simp only
  split
  ·exact hc2
  split
  ·exact Cap.put _ c hc2
  split
  ·exact hn s c hc2
  split
  ·exact Cap.choice (h 0) ((h 1).comp Cap.truth) (Cap.put _) c hc2
  split
  ·exact Cap.choice (h 0) (Cap.put _) ((h 1).comp Cap.truth) c hc2
  split
  ·exact Cap.choice (h 0) (h 1) (h 2) c hc2
  ·exact (hA.comp (Cap.put _)) c hc2
theorem genN_cap {nm : List UInt8 → Code → Code} {sh : Exp → Bool} (hn : ∀ s, Cap (nm s)) : ∀ (l : List Exp) (i : Nat), Cap (genN nm sh l i)
 | [], i => by rw [genN]; exact fun _ h => h
 | e :: l, 0 => by rw [genN]; exact genT_cap hn e
 | e :: l, i + 1 => by rw [genN]; exact genN_cap hn l i
theorem genA_cap {nm : List UInt8 → Code → Code} {sh : Exp → Bool} (hn : ∀ s, Cap (nm s)) : ∀ (l : List Exp), Cap (genA nm sh l)
 | [] => by rw [genA]; exact fun _ h => h
 | e :: l => by rw [genA]; exact (genT_cap hn e).comp (genA_cap hn l)
end
theorem nmC_cap {lets sh} : ∀ (n : Nat) (s : List UInt8), Cap (nmC lets sh n s)
 | 0, s => by rw [nmC]; exact Cap.put _
 | n + 1, s => by
  rw [nmC]
  split
  ·exact Cap.put _
  ·split
   ·exact genT_cap (nmC_cap n) _
   ·exact nmC_cap n s
def ExpX (lets : List Let) (shs : List Bool) (m n : Nat) (e : Exp) (F : Code → Code) : Prop := ∀ (c : Code) (q nx : Nat), m < nx → q < nx → m ≠ q → c.length ≤ 2001 → RetX Tryz.prog 36 [.ptr m 0, .u (.int .i64 n), eagg e] [(m, cOb lets shs q c), (q, kOb c)] nx
  fun r o n' => r = .val (.tup []) ∧ o = [(m, cOb lets shs nx (F c)), (nx, kOb (F c))] ∧ n' = nx + 1
def ChoX (lets : List Let) (shs : List Bool) (m n : Nat) (e : Exp) (F : Code → Code) : Prop := ∀ (c : Code) (q nx : Nat), m < nx → q < nx → m ≠ q → c.length ≤ 2001 → RetX Tryz.prog 67 [.ptr m 0, .u (.int .i64 n), eagg e] [(m, cOb lets shs q c), (q, kOb c)] nx
  fun r o n' => r = .val (.tup []) ∧ o = [(m, cOb lets shs nx (F c)), (nx, kOb (F c))] ∧ n' = nx + 1
end Go.Proofs.YtkdhmbhbbciedaaGreatDoor
namespace Go.Proofs.YtkdhmbhbbciedaaGreatDoor
open Go Go.VL
theorem allU2_insR (c : Code) : allU2 (insR c) = some (c.map fun i => [.int .i64 i.op, .int .i64 i.a, .str i.s]) := by
 have : insR c = (c.map fun i => [U.int .i64 i.op, .int .i64 i.a, .str i.s]).map (·.map D.u) := by simp [insR]
 rw [this, allU2_map]
theorem insR_take (c : Code) : (insR c).take c.length = insR c := by rw [← insR_len, List.take_length]
theorem nmC_last {lets : List Let} {sh : Nat → Exp → Bool} (s : List UInt8) : ∀ {n : Nat}, n ≤ lets.length → nmC lets sh n s = match lastI lets n s with | none => fun c => putC c ⟨1, 0, s⟩ | some i => match lets[i]? with | some l => genT (nmC lets sh i) (sh i) l.body | none => fun c => c
 | 0, _ => by rw [nmC]; rfl
 | n + 1, h => by
  have hl : lets[n]? = some lets[n] := List.getElem?_eq_getElem (by omega)
  rw [nmC, lastI, hl]
  simp only
  by_cases hs : lets[n].name = s
  ·rw [if_pos hs, if_pos hs]
   simp only [hl]
  ·rw [if_neg hs, if_neg hs]
   exact nmC_last s (by omega)
end Go.Proofs.YtkdhmbhbbciedaaGreatDoor
namespace Go.Proofs.YtkdhmbhbbciedaaGreatDoor
open Go Go.VL
end Go.Proofs.YtkdhmbhbbciedaaGreatDoor
namespace Go.Proofs.YtkdhmbhbbciedaaGreatDoor
open Go Go.VL
theorem drop_length {m : Vm.Mach} (k : Nat) : (m.drop k).stack.length = m.stack.length - k := by simp [Vm.Mach.drop]
theorem form_op {x : Ins} {i n : Nat} (h : formI x i n = true) : 0 ≤ x.op ∧ x.op < 15 ∧ ((x.op = 12 ∨ x.op = 13) → (i : Int) < x.a) := by
 unfold formI at h
 split at h
 ·rename_i e; rw [e]; omega
 split at h
 ·rename_i e; rw [e]; omega
 split at h
 ·rename_i e; simp at h; exact ⟨by omega, by omega, fun _ => h.1.2⟩
 ·rename_i e; simp at h; exact ⟨h.1.2, h.2, fun e2 => absurd e2 e⟩
end Go.Proofs.YtkdhmbhbbciedaaGreatDoor
namespace Go.Proofs.YtkdhmbhbbciedaaGreatDoor
open Go Go.VL
end Go.Proofs.YtkdhmbhbbciedaaGreatDoor
namespace Go.Proofs.YtkdhmbhbbciedaaGreatDoor
open Go Go.VL
abbrev letR (l : Let) : List U := [.str l.name, .int .i64 l.body.op, .int .i64 l.body.n, .int .i64 l.body.unit, .str l.body.s, .sl (l.body.args.map Exp.row)]
end Go.Proofs.YtkdhmbhbbciedaaGreatDoor
namespace Go.Proofs.YtkdhmbhbbciedaaGreatDoor
open Go Go.VL
end Go.Proofs.YtkdhmbhbbciedaaGreatDoor
namespace Go.Proofs.YtkdhmbhbbciedaaGreatDoor
open Go Go.VL
end Go.Proofs.YtkdhmbhbbciedaaGreatDoor
namespace Go.Proofs.YtkdhmbhbbciedaaGreatDoor
open Go Go.VL
def fewC (l : Code) : Bool := decide (l.length ≤ 100) && l.all fun x => decide (x.s.length ≤ 40)
end Go.Proofs.YtkdhmbhbbciedaaGreatDoor
namespace Go.Proofs.YtkdhmbhbbciedaaGreatDoor
open Go Go.VL
attribute [local simp] HS exS_some hcons hstep evPure opd uOf putOK St.put St.at getK binD binI binS binB nilD aggD eqUs cmpK lookD lookR rangeD rangeS Go.VL.nextD Go.VL.nextS entryD keyD valU keyU lookK mkV entD_nil allUE makeMapD mapUpdD mapEff updK valM Key.kk shiftI arith unD convD pickD loadD cellsAt fieldAddrD fieldD indexAddrD indexSlD arrAddr indexD sliceD cutD lenD minmaxD nilCheckD buildD fillD cellsD isOne ones setAll mkAgg allU allocD boxD storeD St.add buildSliceD appendD rowsOf makeD setOb getK_setOb getK_del getK_cons stripL strip guardTmp entry chunks zcells valD argsV argsW argW argU1 argU0 argsU0 argsU1 calleeOf scalarD scalarU delAll effD St.effS RK_seq RK_seq_ret RK_seq_exit RK_blk RK_blk_ret RK_blk_exit RK_loop RK_loop_ret RK_loop_exit RK_done vs_seq vs_block vs_cond vs_region vs_loop applyW mkD rdIds lentIds callOf calleeOf freeOp D.ids Op.operands Call.operands isEffOp makeIfD makeFuncD typeAssertD conc concs conc1 uOfV panicD IntKind.bits allU2 List.take_of_length_le List.range_succ HR_nil HR_cons HR_grd v2_seq v2_block v2_skip v2_exit v2_ret v2_cond v2_region v2_draw v2_loop RN_0 RN_done RN_seq RN_seq_ret RN_seq_exit RN_blk RN_blk_ret RN_blk_exit RN_loop RN_loop_ret RN_loop_exit Cnd_tf Cnd_ft EndV getK_append frzN frz1 frz_env frz_obs St.frz St.frzS frzS fv fzVec fzMap fzBox frzObS frz_entD frz_rowsD frz frzOb normD normU norm1 normOb St.norm St.lp St.only keepE wkE wkO wkU Ob.under D.under under_rowsD under_entD H4_nil H4_cons H4_grd h4s resD oneOrTup pureD List.zipIdx_cons List.zipIdx_nil List.map_cons List.map_nil Nat.zero_add
attribute [local irreducible] V G H HD HD2 HD4 HD4h RetX RunK Eff CallP CallV EndOK Fun Ret FinOK LoopI LoopW EndW HR vs2 RN Cnd H4
end Go.Proofs.YtkdhmbhbbciedaaGreatDoor
namespace Go.Proofs.YtkdhmbhbbciedaaGreatDoor
open Go Go.VL
section
variable {lets : List Let} {G : List UInt8 → Option Int} {n : Nat} {e x y z : Exp} {t t1 t2 : Tab}
end
attribute [local simp] HS exS_some hcons hstep evPure opd uOf putOK St.put St.at getK binD binI binS binB nilD aggD eqUs cmpK lookD lookR rangeD rangeS Go.VL.nextD Go.VL.nextS entryD keyD valU keyU lookK mkV entD_nil allUE makeMapD mapUpdD mapEff updK valM Key.kk shiftI arith unD convD pickD loadD cellsAt fieldAddrD fieldD indexAddrD indexSlD arrAddr indexD sliceD cutD lenD minmaxD nilCheckD buildD fillD cellsD isOne ones setAll mkAgg allU allocD boxD storeD St.add buildSliceD appendD rowsOf makeD setOb getK_setOb getK_del getK_cons stripL strip guardTmp entry chunks zcells valD argsV argsW argW argU1 argU0 argsU0 argsU1 calleeOf scalarD scalarU delAll effD St.effS RK_seq RK_seq_ret RK_seq_exit RK_blk RK_blk_ret RK_blk_exit RK_loop RK_loop_ret RK_loop_exit RK_done vs_seq vs_block vs_cond vs_region vs_loop applyW mkD rdIds lentIds callOf calleeOf freeOp D.ids Op.operands Call.operands isEffOp makeIfD makeFuncD typeAssertD conc concs conc1 uOfV panicD IntKind.bits allU2 List.take_of_length_le List.range_succ HR_nil HR_cons HR_grd v2_seq v2_block v2_skip v2_exit v2_ret v2_cond v2_region v2_draw v2_loop RN_0 RN_done RN_seq RN_seq_ret RN_seq_exit RN_blk RN_blk_ret RN_blk_exit RN_loop RN_loop_ret RN_loop_exit Cnd_tf Cnd_ft EndV getK_append frzN frz1 frz_env frz_obs St.frz St.frzS frzS fv fzVec fzMap fzBox frzObS frz_entD frz_rowsD frz frzOb normD normU norm1 normOb St.norm St.lp St.only keepE wkE wkO wkU Ob.under D.under under_rowsD under_entD H4_nil H4_cons H4_grd h4s resD oneOrTup pureD List.zipIdx_cons List.zipIdx_nil List.map_cons List.map_nil Nat.zero_add
attribute [local irreducible] V G H HD HD2 HD4 HD4h RetX RunK Eff CallP CallV EndOK Fun Ret FinOK LoopI LoopW EndW HR vs2 RN Cnd H4
end Go.Proofs.YtkdhmbhbbciedaaGreatDoor
namespace Go.Proofs.YtkdhmbhbbciedaaGreatDoor
open Go Go.VL
attribute [local simp] HS exS_some hcons hstep evPure opd uOf putOK St.put St.at getK binD binI binS binB nilD aggD eqUs cmpK lookD lookR rangeD rangeS Go.VL.nextD Go.VL.nextS entryD keyD valU keyU lookK mkV entD_nil allUE makeMapD mapUpdD mapEff updK valM Key.kk shiftI arith unD convD pickD loadD cellsAt fieldAddrD fieldD indexAddrD indexSlD arrAddr indexD sliceD cutD lenD minmaxD nilCheckD buildD fillD cellsD isOne ones setAll mkAgg allU allocD boxD storeD St.add buildSliceD appendD rowsOf makeD setOb getK_setOb getK_del getK_cons stripL strip guardTmp entry chunks zcells valD argsV argsW argW argU1 argU0 argsU0 argsU1 calleeOf scalarD scalarU delAll effD St.effS RK_seq RK_seq_ret RK_seq_exit RK_blk RK_blk_ret RK_blk_exit RK_loop RK_loop_ret RK_loop_exit RK_done vs_seq vs_block vs_cond vs_region vs_loop applyW mkD rdIds lentIds callOf calleeOf freeOp D.ids Op.operands Call.operands isEffOp makeIfD makeFuncD typeAssertD conc concs conc1 uOfV panicD IntKind.bits allU2 List.take_of_length_le List.range_succ HR_nil HR_cons HR_grd v2_seq v2_block v2_skip v2_exit v2_ret v2_cond v2_region v2_draw v2_loop RN_0 RN_done RN_seq RN_seq_ret RN_seq_exit RN_blk RN_blk_ret RN_blk_exit RN_loop RN_loop_ret RN_loop_exit Cnd_tf Cnd_ft EndV getK_append frzN frz1 frz_env frz_obs St.frz St.frzS frzS fv fzVec fzMap fzBox frzObS frz_entD frz_rowsD frz frzOb normD normU norm1 normOb St.norm St.lp St.only keepE wkE wkO wkU Ob.under D.under under_rowsD under_entD H4_nil H4_cons H4_grd h4s resD oneOrTup pureD List.zipIdx_cons List.zipIdx_nil List.map_cons List.map_nil Nat.zero_add
attribute [local irreducible] V G H HD HD2 HD4 HD4h RetX RunK Eff CallP CallV EndOK Fun Ret FinOK LoopI LoopW EndW HR vs2 RN Cnd H4
theorem pnext_fun (l : List Tok) (p : Nat) (t : Tok) (hp : l[p]? = some t) (hl : l.length ≤ 1000000) : Fun Tryz.prog 108 [.u (pRow l p)] (· = .u (.agg [.int .i64 t.kind, .str t.text, .int .i64 t.n, .int .i64 t.pos])) := by
 have hlt := (List.getElem?_eq_some_iff.1 hp).1
 unfold pRow toksU
 refine Fun.run Tryz.func108 Tryz.ntmps108 Tryz.results108 rfl (by simp) fun Γ hn => ?_
 repeat' (first
  | (refine V_run rfl ?_; simp [hp])
  | (refine ⟨hC _ (by kernel_rfl), hk _ (RN_K 8 _ _ _ ?_)⟩; clear hC hk C k; simp [hp])
  | (refine V_dx rfl (by kernel_rfl) (by first | (simp [hn]; done) | (simp [hn]; omega) | fail) fun C k hC hk => ?_; simp [hp])
  | fail)
 (refine Pst.of ?_; simp)
theorem is_fun (l : List Tok) (p : Nat) (w : List UInt8) (hp : p < l.length) (hl : l.length ≤ 1000000) : Fun Tryz.prog 143 [.u (pRow l p), .u (.str w)] (· = .u (.bool (isB l p w))) := by
 obtain ⟨t, ht⟩ : ∃ t, l[p]? = some t := ⟨_, List.getElem?_eq_getElem hp⟩
 have hnx := pnext_fun l p t ht hl
 unfold isB
 rw [ht]
 unfold pRow toksU at *
 by_cases h1 : t.kind = 0
 ·refine Fun.run Tryz.func143 Tryz.ntmps143 Tryz.results143 rfl (by simp) fun Γ hn => ?_
  repeat' (first
  | (refine V_run rfl ?_; simp [h1])
  | (refine CallP.f2 rfl (hnx) (by first | simp [h1] <;> rfl | fail) ?_; simp [h1])
  | fail)
  all_goals
   (refine Pst.of ?_; simp)
  all_goals simp [h1]
 ·refine Fun.run Tryz.func143 Tryz.ntmps143 Tryz.results143 rfl (by simp) fun Γ hn => ?_
  repeat' (first
  | (refine V_run rfl ?_; simp [h1])
  | (refine CallP.f2 rfl (hnx) (by first | simp [h1] <;> rfl | fail) ?_; simp [h1])
  | fail)
  all_goals
   (refine Pst.of ?_; simp)
  all_goals simp [h1]
theorem has_ret (l : List Tok) (p : Nat) (w : List UInt8) (i nx : Nat) (hi : i < nx) (hp : p < l.length) (hl : l.length ≤ 1000000) :
  RetX Tryz.prog 168 [.ptr i 0, .u (.str w)] [(i, pOb l p)] nx (fun r o n => r = .val (.u (.bool (isB l p w))) ∧ o = [(i, pOb l (if isB l p w = true then p + 1 else p))] ∧ n = nx) := by
 have h1 := is_fun l p w hp hl
 unfold pOb pRow toksU at *
 cases hb : isB l p w with
 | false =>
  rw [hb] at h1
  refine RetX.runW Tryz.func168 Tryz.ntmps168 rfl (by simp) fun Γ hn hpan => ?_
  repeat' (first
  | (refine V_run rfl ?_; simp)
  | (refine CallP.f2 rfl (h1) (by first | simp <;> rfl | fail) ?_; simp)
  | fail)
  (refine EndW.h Tryz.results168 ?_; simp)
 | true =>
  rw [hb] at h1
  refine RetX.runW Tryz.func168 Tryz.ntmps168 rfl (by simp) fun Γ hn hpan => ?_
  repeat' (first
  | (refine V_run rfl ?_; simp)
  | (refine And.intro (by omega) ?_)
  | (refine CallP.f2 rfl (h1) (by first | simp <;> rfl | fail) ?_; simp)
  | fail)
  (refine EndW.h Tryz.results168 ?_; simp)
/-- The panic of a stop. -/
def chP (pos e : Int) : List PanicEntry := [{ v := .iface 179 (.agg #[.int .i64 pos, .int .i64 e]), recovered := false }]
def isP (l : List Tok) (ob : Ob) : Prop := ∃ q : Nat, ob = pOb l q
theorem check_ok (l : List Tok) (p : Nat) (e : Int) (i nx : Nat) (hi : i < nx) :
  RetX Tryz.prog 107 [.ptr i 0, .u (.bool true), .u (.int .i64 e)] [(i, pOb l p)] nx (fun r o n => r = .val (.tup []) ∧ o = [(i, pOb l p)] ∧ n = nx) := by
 refine RetX.runW Tryz.func107 Tryz.ntmps107 rfl (by simp) fun Γ hn hpan => ?_
 repeat' (first
  | (refine V_run rfl ?_; simp)
  | fail)
 (refine EndW.h Tryz.results107 ?_; simp)
theorem check_pan (l : List Tok) (p : Nat) (t : Tok) (e : Int) (i nx : Nat) (hi : i < nx) (hp : l[p]? = some t) (hl : l.length ≤ 1000000) :
  RetX Tryz.prog 107 [.ptr i 0, .u (.bool false), .u (.int .i64 e)] [(i, pOb l p)] nx (fun r o n => r = .pan (chP t.pos e) ∧ (∃ ob', isP l ob' ∧ o = [(i, ob')]) ∧ n = nx) := by
 have h1 := pnext_fun l p t hp hl
 refine RetX.runW Tryz.func107 Tryz.ntmps107 rfl (by simp) fun Γ hn hpan => ?_
 repeat' (first
  | (refine V_run rfl ?_; simp)
  | (refine CallP.f2 rfl (h1) (by first | simp <;> rfl | fail) ?_; simp)
  | fail)
 all_goals
  (refine hpan _ _ (PanG.k ([(i, pOb l p)]) (nx) (by simp [hn, hi] <;> omega) ?_); try simp)
  all_goals exact ⟨rfl, p, rfl⟩
inductive PR (α : Type) where
 | ok (a : α) (p : Nat)
 | stop (pos e : Int)
def posAt (l : List Tok) (p : Nat) : Int := match l[p]? with | some t => t.pos | none => 0
def wantP (l : List Tok) : Nat → List (List UInt8) → PR Unit
 | p, [] => .ok () p
 | p, w :: ws => if isB l p w = true then wantP l (p + 1) ws else .stop (posAt l p) 12
def PPost {α : Type} (l : List Tok) (i nx : Nat) (val : α → D) : PR α → Out → List (Nat × Ob) → Nat → Prop
 | .ok a q, o, obs, n => o = .val (val a) ∧ obs = [(i, pOb l q)] ∧ n = nx
 | .stop pos e, o, obs, n => o = .pan (chP pos e) ∧ (∃ ob', isP l ob' ∧ obs = [(i, ob')]) ∧ n = nx
theorem want_ret (l : List Tok) (p : Nat) (ws : List (List UInt8)) (i nx : Nat) (hi : i < nx) (hp : p < l.length) (hl : TokOK l) (hw : ws.length ≤ 100) :
  RetX Tryz.prog 169 [.ptr i 0, .u (.sl (ws.map fun w => [.str w]))] [(i, pOb l p)] nx (PPost l i nx (fun _ => .tup []) (wantP l p ws)) := by
 refine RetX.runW Tryz.func169 Tryz.ntmps169 rfl (by simp) fun Γ hn hpan => ?_
 repeat' (first
  | (refine V_run rfl ?_; simp)
  | fail)
 refine V_loopO (α := { x : Nat × Nat // x.1 ≤ ws.length ∧ x.2 < l.length ∧ wantP l p ws = wantP l x.2 (ws.drop x.1) }) [0, 6, 7] (fun x => [(8, .u (.int .i64 x.1.1))]) (fun x => [(i, pOb l x.1.2)]) nx (fun x => ws.length - x.1.1) ⟨(0, p), by simp, hp, by simp⟩ ?_ ?_
 ·exact (Wk.cut2 (by simp [hn, hi] <;> grind))
 rintro ⟨⟨k, q⟩, h1, h2, h3⟩
 simp only at h1 h2 h3
 simp
 rcases hx : ws[k]? with _ | w
 ·have hge : ws.length ≤ k := by simpa using hx
  obtain rfl : k = ws.length := by omega
  rw [List.drop_length, wantP] at h3
  repeat' (first
  | (refine V_run rfl ?_; simp [hx])
  | fail)
  rw [h3]
  (refine EndW.h Tryz.results169 ?_; simp)
  simp [PPost]
 ·have hlt : k < ws.length := (List.getElem?_eq_some_iff.1 hx).1
  have hd : ws.drop k = w :: ws.drop (k + 1) := by
   obtain ⟨h5, h6⟩ := List.getElem?_eq_some_iff.1 hx
   rw [← h6, List.getElem_cons_drop]
  rw [hd, wantP] at h3
  have hh := has_ret l q w i nx hi h2 hl.len
  by_cases hb : isB l q w = true
  ·rw [if_pos hb] at h3
   rw [hb, if_pos rfl] at hh
   have hq := isB_lt hl hb
   have hck := check_ok l (q + 1) 12 i nx hi
   repeat' (first
  | (refine Cnd.of (fun hc => ?_) (fun hc => ?_) <;> (try (exfalso; omega)) <;> (try simp [hx]))
  | (refine V_run rfl ?_; simp [hx])
  | (refine And.intro (by omega) ?_)
  | (refine CallP.ok1 (hh) (by first | (simp [hx, getK_cons, getK, getK_append, getK_del]; done) | fail) (by rfl) (by first | assumption | (simp; done) | fail) (by rfl) (by simp) ?_; (try simp [hx]))
  | (refine CallP.ok1 (hck) (by first | (simp [hx, getK_cons, getK, getK_append, getK_del]; done) | fail) (by rfl) (by first | assumption | (simp; done) | fail) (by rfl) (by simp) ?_; (try simp [hx]))
  | fail)
   refine LoopW.next ⟨(k + 1, q + 1), by omega, hq, h3⟩ (by simp; omega) ?_
   exact (Wk.cut2 (by simp [hn, hi, getK_append, getK_del, getK_cons, getK] <;> grind))
  ·have hb2 : isB l q w = false := by simpa using hb
   rw [if_neg hb] at h3
   rw [hb2, if_neg (by simp)] at hh
   obtain ⟨t, ht⟩ : ∃ t, l[q]? = some t := ⟨_, List.getElem?_eq_getElem h2⟩
   have hck := check_pan l q t 12 i nx hi ht hl.len
   repeat' (first
  | (refine Cnd.of (fun hc => ?_) (fun hc => ?_) <;> (try (exfalso; omega)) <;> (try simp [hx]))
  | (refine V_run rfl ?_; simp [hx])
  | (refine CallP.ok1 (hh) (by first | (simp [hx, getK_cons, getK, getK_append, getK_del]; done) | fail) (by rfl) (by first | assumption | (simp; done) | fail) (by rfl) (by simp) ?_; (try simp [hx]))
  | (refine CallP.pan1 (hck) (by first | (simp [hx, getK_cons, getK, getK_append, getK_del]; done) | fail) (by rfl) (by first | assumption | (simp; done) | fail) (by rfl) (by simp) ?_; rintro ob' ⟨q', rfl⟩; refine ⟨_, Wk.refl _, ?_⟩)
  | fail)
   rw [h3] at hpan
   (refine hpan _ _ (PanG.k ([(i, pOb l q')]) (nx) (by simp [hn, hi, getK_append, getK_del, getK_cons, getK] <;> omega) ?_); try simp)
   all_goals exact ⟨by simp [posAt, ht], ⟨_, ⟨q', rfl⟩, rfl⟩, rfl⟩
theorem put_x (lets : List Let) (shs : List Bool) (c : Code) (i : Ins) (m q nx : Nat) (hm : m < nx) (hq : q < nx) (hmq : m ≠ q) (hl : c.length ≤ 100000) : RetX Tryz.prog 38 [.ptr m 0, .u (.agg [.int .i64 i.op, .int .i64 i.a, .str i.s])] [(m, cOb lets shs q c), (q, kOb c)] nx
  fun r o n' => r = .val (.u (.int .i64 (((putC c i).length : Int) - 1))) ∧ o = [(m, cOb lets shs nx (putC c i)), (nx, kOb (putC c i))] ∧ n' = nx + 1 := by
 have hne := nef hm
 have hne2 := nef hq
 have hlr := insR_lenR c
 have hm1 : m < nx + 1 := by omega
 unfold cOb kOb
 generalize boolsU shs = y
 simp only [letsU]
 unfold putC
 by_cases hc2 : c.length ≤ 2000
 ·rw [if_pos hc2]
  refine RetX.runW Tryz.func38 Tryz.ntmps38 rfl (by simp) fun Γ hn hpan => ?_
  repeat' (first
  | (refine Cnd.of (fun hc => ?_) (fun hc => ?_) <;> (try (exfalso; omega)) <;> (try simp [hne, hne2, hmq, Ne.symm hmq, hc2, Nat.add_assoc, del]))
  | (refine V_run rfl ?_; simp [hne, hne2, hmq, Ne.symm hmq, hc2, Nat.add_assoc, del])
  | (refine And.intro (by omega) ?_)
  | (refine ⟨hC _ (okP4_ren [m, q] nx (by simp <;> omega) (by simp <;> omega) (by apply Exists.intro; apply And.intro; (focus (repeat' (first | exact KF.nil | exact KL.nil | apply KF.cons | apply KL.cons 0 rfl | apply KL.cons 1 rfl | apply KL.cons 2 rfl | apply KL.cons 3 rfl | apply KL.cons 4 rfl | apply KL.cons 5 rfl | apply KL.cons 6 rfl | apply KL.cons 7 rfl | apply KL.cons 8 rfl | apply KL.cons 9 rfl))); kernel_rfl)), hk _ (RN_K 8 _ _ _ ?_)⟩; clear hC hk C k; simp [hne, hne2, hmq, Ne.symm hmq, hc2, Nat.add_assoc, del])
  | (refine V_dx rfl (by kernel_rfl) (by first | (simp [hn]; done) | (simp [hn]; omega) | fail) fun C k hC hk => ?_; simp [hne, hne2, hmq, Ne.symm hmq, hc2, Nat.add_assoc, del])
  | fail)
  refine EndW.wk { n := _, env := [(4, .u (.int .i64 c.length))], obs := [(m, .box [.u (.sl (lets.map fun l => [.str l.name, .int .i64 l.body.op, .int .i64 l.body.n, .int .i64 l.body.unit, .str l.body.s, .sl (l.body.args.map Exp.row)])), .u y, .vec nx (c.length + 1)]), (nx, .vec 44 3 (insR c ++ [[.u (.int .i64 i.op), .u (.int .i64 i.a), .u (.str i.s)]]))], next := nx + 1 } (Wk.ren ((fun i => if i = nx then nx + 2 else i)) rfl (by first | (simp [hn]; done) | (intro i hi; rw [hn] at hi; constructor <;> (try simp) <;> (try (intro _)) <;> omega)) (by simp [wkER, St.lp, keepE, getK_cons, getK, getK_del, getK_setOb, D.under, D.le, D.ren, hne, hne2, hmq, Ne.symm hmq, hm1, pure_insR] <;> (try (intros; simp_all; done)) <;> (try omega)) (by simp [wkR, St.lp, getK_cons, getK, getK_del, getK_setOb, obR, leU, pureRow, pureRows, Ob.under, D.under, D.le, D.ren, hne, hne2, hmq, Ne.symm hmq, hm1, pure_insR] <;> (try (intros; simp_all; done)) <;> (try omega)) (by simp [hne, hne2, hmq, Ne.symm hmq, hm1, pure_insR])) ?_
  (refine EndW.h Tryz.results38 ?_; simp)
 ·rw [if_neg hc2]
  refine RetX.runW Tryz.func38 Tryz.ntmps38 rfl (by simp) fun Γ hn hpan => ?_
  repeat' (first
  | (refine Cnd.of (fun hc => ?_) (fun hc => ?_) <;> (try (exfalso; omega)) <;> (try simp [hne, hne2, hmq, Ne.symm hmq, hc2, Nat.add_assoc, del]))
  | (refine V_run rfl ?_; simp [hne, hne2, hmq, Ne.symm hmq, hc2, Nat.add_assoc, del])
  | (refine And.intro (by omega) ?_)
  | fail)
  refine EndW.wk { n := _, env := [(4, .u (.int .i64 ((c.length : Int) - 1)))], obs := [(m, .box [.u (.sl (lets.map fun l => [.str l.name, .int .i64 l.body.op, .int .i64 l.body.n, .int .i64 l.body.unit, .str l.body.s, .sl (l.body.args.map Exp.row)])), .u y, .vec nx c.length]), (nx, .vec 44 3 (insR c))], next := nx + 1 } (Wk.ren ((fun i => if i = nx then q else i)) rfl (by first | (simp [hn]; done) | (intro i hi; rw [hn] at hi; constructor <;> (try simp) <;> (try (intro _)) <;> omega)) (by simp [wkER, St.lp, keepE, getK_cons, getK, getK_del, getK_setOb, D.under, D.le, D.ren, hne, hne2, hmq, Ne.symm hmq, hm1, pure_insR] <;> (try (intros; simp_all; done)) <;> (try omega)) (by simp [wkR, St.lp, getK_cons, getK, getK_del, getK_setOb, obR, leU, pureRow, pureRows, Ob.under, D.under, D.le, D.ren, hne, hne2, hmq, Ne.symm hmq, hm1, pure_insR] <;> (try (intros; simp_all; done)) <;> (try omega)) (by simp [hne, hne2, hmq, Ne.symm hmq, hm1, pure_insR])) ?_
  (refine EndW.h Tryz.results38 ?_; simp)
theorem land_x (lets : List Let) (shs : List Bool) (c : Code) (j : Nat) (m q nx : Nat) (hm : m < nx) (hq : q < nx) (hmq : m ≠ q) (hl : c.length ≤ 100000) (hj : j < c.length) : RetX Tryz.prog 111 [.ptr m 0, .u (.int .i64 j)] [(m, cOb lets shs q c), (q, kOb c)] nx
  fun r o n' => r = .val (.tup []) ∧ o = [(m, cOb lets shs nx (landC c j)), (nx, kOb (landC c j))] ∧ n' = nx + 1 := by
 have hne := nef hm
 have hne2 := nef hq
 have hm1 : m < nx + 1 := by omega
 have hx : c[j]? = some c[j] := List.getElem?_eq_getElem hj
 have hxr := insR_at hx
 have hlen := landC_len c j
 have hset := insR_set c j { c[j] with a := c.length }
 have hland : landC c j = c.set j { c[j] with a := c.length } := by unfold landC; rw [hx]
 have hp := pure_insR (landC c j)
 rw [hland] at hlen hp ⊢
 generalize c.set j { c[j] with a := c.length } = c2 at *
 generalize c[j] = x at *
 have hij := insR_len c
 have hj2 : j < (insR c).length := by omega
 unfold cOb kOb
 rw [hlen]
 generalize boolsU shs = y
 generalize hR : insR c = R at *
 generalize insR c2 = R2 at *
 have hxe : R[j] = [.u (.int .i64 x.op), .u (.int .i64 x.a), .u (.str x.s)] := by
  rw [List.getElem?_eq_getElem hj2] at hxr
  exact Option.some.inj hxr
 simp only at hset
 clear hland hx hR hxr
 simp only [letsU]
 refine RetX.runW Tryz.func111 Tryz.ntmps111 rfl (by simp) fun Γ hn hpan => ?_
 repeat' (first
  | (refine ⟨hC _ (okP4_ren [m, q] nx (by simp <;> omega) (by simp <;> omega) (by apply Exists.intro; apply And.intro; (focus (repeat' (first | exact KF.nil | exact KL.nil | apply KF.cons | apply KL.cons 0 rfl | apply KL.cons 1 rfl | apply KL.cons 2 rfl | apply KL.cons 3 rfl | apply KL.cons 4 rfl | apply KL.cons 5 rfl | apply KL.cons 6 rfl | apply KL.cons 7 rfl | apply KL.cons 8 rfl | apply KL.cons 9 rfl))); kernel_rfl)), hk _ (RN_K 8 _ _ _ ?_)⟩; clear hC hk C k; simp [hne, hne2, hmq, Ne.symm hmq, Nat.add_assoc, del, hij, hj, hxe, hset])
  | (refine V_dx rfl (by kernel_rfl) (by first | (simp [hn]; done) | (simp [hn]; omega) | fail) fun C k hC hk => ?_; simp [hne, hne2, hmq, Ne.symm hmq, Nat.add_assoc, del, hij, hj, hxe, hset])
  | fail)
 refine EndW.wk { n := _, env := [], obs := [(m, .box [.u (.sl (lets.map fun l => [.str l.name, .int .i64 l.body.op, .int .i64 l.body.n, .int .i64 l.body.unit, .str l.body.s, .sl (l.body.args.map Exp.row)])), .u y, .vec nx c.length]), (nx, .vec 44 3 R2)], next := nx + 1 } (Wk.ren ((fun i => if i = nx then q else i)) rfl (by first | (simp [hn]; done) | (intro i hi; rw [hn] at hi; constructor <;> (try simp) <;> (try (intro _)) <;> omega)) (by simp [wkER, St.lp, keepE, getK_cons, getK, getK_del, getK_setOb, D.under, D.le, D.ren, hne, hne2, hmq, Ne.symm hmq, hm1, hp] <;> (try (intros; simp_all; done)) <;> (try omega)) (by simp [wkR, St.lp, getK_cons, getK, getK_del, getK_setOb, obR, leU, pureRow, pureRows, Ob.under, D.under, D.le, D.ren, hne, hne2, hmq, Ne.symm hmq, hm1, hp] <;> (try (intros; simp_all; done)) <;> (try omega)) (by simp [hne, hne2, hmq, Ne.symm hmq, hm1, hp])) ?_
 (refine EndW.h Tryz.results111 ?_; simp)
theorem truth_x (lets : List Let) (shs : List Bool) (c : Code) (m q nx : Nat) (hm : m < nx) (hq : q < nx) (hmq : m ≠ q) (hl : c.length ≤ 100000) : RetX Tryz.prog 110 [.ptr m 0] [(m, cOb lets shs q c), (q, kOb c)] nx
  fun r o n' => r = .val (.tup []) ∧ o = [(m, cOb lets shs nx (truthC c)), (nx, kOb (truthC c))] ∧ n' = nx + 1 := by
 have hne := nef hm
 have hne2 := nef hq
 have hm1 : m < nx + 1 := by omega
 have hp := pure_insR (truthC c)
 have hlc := putC_len c ⟨11, 0, []⟩
 have h1 := put_x lets shs c ⟨11, 0, []⟩ m q nx hm hq hmq hl
 have h2 := put_x lets shs (putC c ⟨11, 0, []⟩) ⟨11, 0, []⟩ m nx (nx + 1) (by omega) (by omega) (by omega) (by split at hlc <;> omega)
 unfold truthC at hp ⊢
 simp only [letsU] at h1 h2 ⊢
 generalize putC c ⟨11, 0, []⟩ = c1 at *
 generalize putC c1 ⟨11, 0, []⟩ = c2 at *
 refine RetX.runW Tryz.func110 Tryz.ntmps110 rfl (by simp) fun Γ hn hpan => ?_
 repeat' (first
  | (refine V_run rfl ?_; simp [hne, hne2, hmq, Ne.symm hmq, Nat.add_assoc, del])
  | (refine CallP.okL (h1) (by first | (simp [hne, hne2, hmq, Ne.symm hmq, Nat.add_assoc, del, getK_cons, getK, getK_append, getK_del, getK_setOb, applyW, del]; done) | fail) (by rfl) (by first | assumption | (simp; done) | fail) (by rfl) (by simp) ?_; (try simp [hne, hne2, hmq, Ne.symm hmq, Nat.add_assoc, del, delL, del]))
  | (refine CallP.okL (h2) (by first | (simp [hne, hne2, hmq, Ne.symm hmq, Nat.add_assoc, del, getK_cons, getK, getK_append, getK_del, getK_setOb, applyW, del]; done) | fail) (by rfl) (by first | assumption | (simp; done) | fail) (by rfl) (by simp) ?_; (try simp [hne, hne2, hmq, Ne.symm hmq, Nat.add_assoc, del, delL, del]))
  | fail)
 refine EndW.wk { n := _, env := [], obs := [(m, cOb lets shs nx c2), (nx, kOb c2)], next := nx + 1 } (Wk.ren ((fun i => if i = nx then nx + 1 else i)) rfl (by first | (simp [hn]; done) | (intro i hi; rw [hn] at hi; constructor <;> (try simp) <;> (try (intro _)) <;> omega)) (by simp [wkER, St.lp, keepE, getK_cons, getK, getK_del, getK_setOb, D.under, D.le, D.ren, hne, hne2, hmq, Ne.symm hmq, hm1, hp, cOb, kOb] <;> (try (intros; simp_all; done)) <;> (try omega)) (by simp [wkR, St.lp, getK_cons, getK, getK_del, getK_setOb, obR, leU, pureRow, pureRows, Ob.under, D.under, D.le, D.ren, hne, hne2, hmq, Ne.symm hmq, hm1, hp, cOb, kOb] <;> (try (intros; simp_all; done)) <;> (try omega)) (by simp [hne, hne2, hmq, Ne.symm hmq, hm1, hp, cOb, kOb])) ?_
 (refine EndW.h Tryz.results110 ?_; simp)
theorem choice_and {lets shs m n e a b FA FB} (ho : e.op = 10) (hab : e.args = [a, b]) (hA : ExpX lets shs m n a FA) (cA : Cap FA) (pA : Pre FA) (hB : ExpX lets shs m n b FB) (cB : Cap FB) (pB : Pre FB) : ChoX lets shs m n e (choiceC FA (fun c => truthC (FB c)) (fun c => putC c ⟨0, 0, []⟩)) := by
 intro c q nx hm hq hmq hl
 have hne := nef hm
 have hne2 := nef hq
 have hm1 : m < nx + 1 := by omega
 have hp := pure_insR ((choiceC FA (fun c => truthC (FB c)) (fun c => putC c ⟨0, 0, []⟩)) c)
 unfold choiceC at hp ⊢
 try simp only at hp ⊢
 have l1 := cA c hl
 have w1 := (pA c).1
 have a1 := hA c q (nx + 1) (by omega) (by omega) (by omega) hl
 generalize FA c = k1 at *
 have l2 := Cap.put ⟨13, 0, []⟩ k1 l1
 have w2 := (putC_pre ⟨13, 0, []⟩ k1).1
 have g2 := putC_pos k1 ⟨13, 0, []⟩
 simp only at l2
 have a2 := put_x lets shs k1 ⟨13, 0, []⟩ m (nx + 1) (nx + 2) (by omega) (by omega) (by omega) (by omega)
 generalize putC k1 ⟨13, 0, []⟩ = k2 at *
 have l3 := cB k2 l2
 have w3 := (pB k2).1
 have a3 := hB k2 (nx + 2) (nx + 3) (by omega) (by omega) (by omega) l2
 generalize FB k2 = k3 at *
 have l4 := Cap.truth k3 l3
 have w4 := (Pre.truth k3).1
 have a4 := truth_x lets shs k3 m (nx + 3) (nx + 4) (by omega) (by omega) (by omega) (by omega)
 generalize truthC k3 = k4 at *
 have l5 := Cap.put ⟨12, 0, []⟩ k4 l4
 have w5 := (putC_pre ⟨12, 0, []⟩ k4).1
 have g5 := putC_pos k4 ⟨12, 0, []⟩
 simp only at l5
 have a5 := put_x lets shs k4 ⟨12, 0, []⟩ m (nx + 4) (nx + 5) (by omega) (by omega) (by omega) (by omega)
 generalize putC k4 ⟨12, 0, []⟩ = k5 at *
 have l6 := landC_len k5 (k2.length - 1)
 have a6 := land_x lets shs k5 (k2.length - 1) m (nx + 5) (nx + 6) (by omega) (by omega) (by omega) (by omega) (by omega)
 rw [show ((k2.length - 1 : Nat) : Int) = (k2.length : Int) - 1 by omega] at a6
 generalize landC k5 (k2.length - 1) = k6 at *
 have l6 : k6.length ≤ 2001 := by omega
 have l7 := Cap.put ⟨0, 0, []⟩ k6 l6
 have w7 := (putC_pre ⟨0, 0, []⟩ k6).1
 have g7 := putC_pos k6 ⟨0, 0, []⟩
 simp only at l7
 have a7 := put_x lets shs k6 ⟨0, 0, []⟩ m (nx + 6) (nx + 7) (by omega) (by omega) (by omega) (by omega)
 generalize putC k6 ⟨0, 0, []⟩ = k7 at *
 have l8 := landC_len k7 (k5.length - 1)
 have a8 := land_x lets shs k7 (k5.length - 1) m (nx + 7) (nx + 8) (by omega) (by omega) (by omega) (by omega) (by omega)
 rw [show ((k5.length - 1 : Nat) : Int) = (k5.length : Int) - 1 by omega] at a8
 generalize landC k7 (k5.length - 1) = k8 at *
 have l8 : k8.length ≤ 2001 := by omega
 simp only [eagg, letsU] at a1 a2 a3 a4 a5 a6 a7 a8 ⊢
 have hpp := hp
 refine RetX.runW Tryz.func67 Tryz.ntmps67 rfl (by simp) fun Γ hn hpan => ?_
 repeat' (first
  | (refine V_run rfl ?_; simp [hne, hne2, hmq, Ne.symm hmq, Nat.add_assoc, del, ho, hab, a.row_eq, b.row_eq])
  | (refine CallP.okL (a1) (by first | (simp [hne, hne2, hmq, Ne.symm hmq, Nat.add_assoc, del, ho, hab, a.row_eq, b.row_eq, getK_cons, getK, getK_append, getK_del, getK_setOb, applyW, del]; done) | fail) (by rfl) (by first | assumption | (simp; done) | fail) (by rfl) (by simp) ?_; (try simp [hne, hne2, hmq, Ne.symm hmq, Nat.add_assoc, del, ho, hab, a.row_eq, b.row_eq, delL, del]))
  | (refine CallP.okL (a2) (by first | (simp [hne, hne2, hmq, Ne.symm hmq, Nat.add_assoc, del, ho, hab, a.row_eq, b.row_eq, getK_cons, getK, getK_append, getK_del, getK_setOb, applyW, del]; done) | fail) (by rfl) (by first | assumption | (simp; done) | fail) (by rfl) (by simp) ?_; (try simp [hne, hne2, hmq, Ne.symm hmq, Nat.add_assoc, del, ho, hab, a.row_eq, b.row_eq, delL, del]))
  | (refine CallP.okL (a3) (by first | (simp [hne, hne2, hmq, Ne.symm hmq, Nat.add_assoc, del, ho, hab, a.row_eq, b.row_eq, getK_cons, getK, getK_append, getK_del, getK_setOb, applyW, del]; done) | fail) (by rfl) (by first | assumption | (simp; done) | fail) (by rfl) (by simp) ?_; (try simp [hne, hne2, hmq, Ne.symm hmq, Nat.add_assoc, del, ho, hab, a.row_eq, b.row_eq, delL, del]))
  | (refine CallP.okL (a4) (by first | (simp [hne, hne2, hmq, Ne.symm hmq, Nat.add_assoc, del, ho, hab, a.row_eq, b.row_eq, getK_cons, getK, getK_append, getK_del, getK_setOb, applyW, del]; done) | fail) (by rfl) (by first | assumption | (simp; done) | fail) (by rfl) (by simp) ?_; (try simp [hne, hne2, hmq, Ne.symm hmq, Nat.add_assoc, del, ho, hab, a.row_eq, b.row_eq, delL, del]))
  | (refine CallP.okL (a5) (by first | (simp [hne, hne2, hmq, Ne.symm hmq, Nat.add_assoc, del, ho, hab, a.row_eq, b.row_eq, getK_cons, getK, getK_append, getK_del, getK_setOb, applyW, del]; done) | fail) (by rfl) (by first | assumption | (simp; done) | fail) (by rfl) (by simp) ?_; (try simp [hne, hne2, hmq, Ne.symm hmq, Nat.add_assoc, del, ho, hab, a.row_eq, b.row_eq, delL, del]))
  | (refine CallP.okL (a6) (by first | (simp [hne, hne2, hmq, Ne.symm hmq, Nat.add_assoc, del, ho, hab, a.row_eq, b.row_eq, getK_cons, getK, getK_append, getK_del, getK_setOb, applyW, del]; done) | fail) (by rfl) (by first | assumption | (simp; done) | fail) (by rfl) (by simp) ?_; (try simp [hne, hne2, hmq, Ne.symm hmq, Nat.add_assoc, del, ho, hab, a.row_eq, b.row_eq, delL, del]))
  | (refine CallP.okL (a7) (by first | (simp [hne, hne2, hmq, Ne.symm hmq, Nat.add_assoc, del, ho, hab, a.row_eq, b.row_eq, getK_cons, getK, getK_append, getK_del, getK_setOb, applyW, del]; done) | fail) (by rfl) (by first | assumption | (simp; done) | fail) (by rfl) (by simp) ?_; (try simp [hne, hne2, hmq, Ne.symm hmq, Nat.add_assoc, del, ho, hab, a.row_eq, b.row_eq, delL, del]))
  | (refine CallP.okL (a8) (by first | (simp [hne, hne2, hmq, Ne.symm hmq, Nat.add_assoc, del, ho, hab, a.row_eq, b.row_eq, getK_cons, getK, getK_append, getK_del, getK_setOb, applyW, del]; done) | fail) (by rfl) (by first | assumption | (simp; done) | fail) (by rfl) (by simp) ?_; (try simp [hne, hne2, hmq, Ne.symm hmq, Nat.add_assoc, del, ho, hab, a.row_eq, b.row_eq, delL, del]))
  | fail)
 refine EndW.wk { n := _, env := [], obs := [(m, cOb lets shs nx k8), (nx, kOb k8)], next := nx + 1 } (Wk.ren ((fun i => if i = nx then nx + 8 else i)) rfl (by first | (simp [hn]; done) | (intro i hi; rw [hn] at hi; constructor <;> (try simp) <;> (try (intro _)) <;> omega)) (by simp [wkER, St.lp, keepE, getK_cons, getK, getK_del, getK_setOb, D.under, D.le, D.ren, hne, hne2, hmq, Ne.symm hmq, hm1, hp, cOb, kOb, letsU] <;> (try (intros; simp_all; done)) <;> (try omega)) (by simp [wkR, St.lp, getK_cons, getK, getK_del, getK_setOb, obR, leU, pureRow, pureRows, Ob.under, D.under, D.le, D.ren, hne, hne2, hmq, Ne.symm hmq, hm1, hp, cOb, kOb, letsU] <;> (try (intros; simp_all; done)) <;> (try omega)) (by simp [hne, hne2, hmq, Ne.symm hmq, hm1, hp, cOb, kOb, letsU])) ?_
 (refine EndW.h Tryz.results67 ?_; simp)
theorem choice_or {lets shs m n e a b FA FB} (ho : e.op = 11) (hab : e.args = [a, b]) (hA : ExpX lets shs m n a FA) (cA : Cap FA) (pA : Pre FA) (hB : ExpX lets shs m n b FB) (cB : Cap FB) (pB : Pre FB) : ChoX lets shs m n e (choiceC FA (fun c => putC c ⟨0, 1, []⟩) (fun c => truthC (FB c))) := by
 intro c q nx hm hq hmq hl
 have hne := nef hm
 have hne2 := nef hq
 have hm1 : m < nx + 1 := by omega
 have hp := pure_insR ((choiceC FA (fun c => putC c ⟨0, 1, []⟩) (fun c => truthC (FB c))) c)
 unfold choiceC at hp ⊢
 try simp only at hp ⊢
 have l1 := cA c hl
 have w1 := (pA c).1
 have a1 := hA c q (nx + 1) (by omega) (by omega) (by omega) hl
 generalize FA c = k1 at *
 have l2 := Cap.put ⟨13, 0, []⟩ k1 l1
 have w2 := (putC_pre ⟨13, 0, []⟩ k1).1
 have g2 := putC_pos k1 ⟨13, 0, []⟩
 simp only at l2
 have a2 := put_x lets shs k1 ⟨13, 0, []⟩ m (nx + 1) (nx + 2) (by omega) (by omega) (by omega) (by omega)
 generalize putC k1 ⟨13, 0, []⟩ = k2 at *
 have l3 := Cap.put ⟨0, 1, []⟩ k2 l2
 have w3 := (putC_pre ⟨0, 1, []⟩ k2).1
 have g3 := putC_pos k2 ⟨0, 1, []⟩
 simp only at l3
 have a3 := put_x lets shs k2 ⟨0, 1, []⟩ m (nx + 2) (nx + 3) (by omega) (by omega) (by omega) (by omega)
 generalize putC k2 ⟨0, 1, []⟩ = k3 at *
 have l4 := Cap.put ⟨12, 0, []⟩ k3 l3
 have w4 := (putC_pre ⟨12, 0, []⟩ k3).1
 have g4 := putC_pos k3 ⟨12, 0, []⟩
 simp only at l4
 have a4 := put_x lets shs k3 ⟨12, 0, []⟩ m (nx + 3) (nx + 4) (by omega) (by omega) (by omega) (by omega)
 generalize putC k3 ⟨12, 0, []⟩ = k4 at *
 have l5 := landC_len k4 (k2.length - 1)
 have a5 := land_x lets shs k4 (k2.length - 1) m (nx + 4) (nx + 5) (by omega) (by omega) (by omega) (by omega) (by omega)
 rw [show ((k2.length - 1 : Nat) : Int) = (k2.length : Int) - 1 by omega] at a5
 generalize landC k4 (k2.length - 1) = k5 at *
 have l5 : k5.length ≤ 2001 := by omega
 have l6 := cB k5 l5
 have w6 := (pB k5).1
 have a6 := hB k5 (nx + 5) (nx + 6) (by omega) (by omega) (by omega) l5
 generalize FB k5 = k6 at *
 have l7 := Cap.truth k6 l6
 have w7 := (Pre.truth k6).1
 have a7 := truth_x lets shs k6 m (nx + 6) (nx + 7) (by omega) (by omega) (by omega) (by omega)
 generalize truthC k6 = k7 at *
 have l8 := landC_len k7 (k4.length - 1)
 have a8 := land_x lets shs k7 (k4.length - 1) m (nx + 7) (nx + 8) (by omega) (by omega) (by omega) (by omega) (by omega)
 rw [show ((k4.length - 1 : Nat) : Int) = (k4.length : Int) - 1 by omega] at a8
 generalize landC k7 (k4.length - 1) = k8 at *
 have l8 : k8.length ≤ 2001 := by omega
 simp only [eagg, letsU] at a1 a2 a3 a4 a5 a6 a7 a8 ⊢
 have hpp := hp
 refine RetX.runW Tryz.func67 Tryz.ntmps67 rfl (by simp) fun Γ hn hpan => ?_
 repeat' (first
  | (refine V_run rfl ?_; simp [hne, hne2, hmq, Ne.symm hmq, Nat.add_assoc, del, ho, hab, a.row_eq, b.row_eq])
  | (refine CallP.okL (a1) (by first | (simp [hne, hne2, hmq, Ne.symm hmq, Nat.add_assoc, del, ho, hab, a.row_eq, b.row_eq, getK_cons, getK, getK_append, getK_del, getK_setOb, applyW, del]; done) | fail) (by rfl) (by first | assumption | (simp; done) | fail) (by rfl) (by simp) ?_; (try simp [hne, hne2, hmq, Ne.symm hmq, Nat.add_assoc, del, ho, hab, a.row_eq, b.row_eq, delL, del]))
  | (refine CallP.okL (a2) (by first | (simp [hne, hne2, hmq, Ne.symm hmq, Nat.add_assoc, del, ho, hab, a.row_eq, b.row_eq, getK_cons, getK, getK_append, getK_del, getK_setOb, applyW, del]; done) | fail) (by rfl) (by first | assumption | (simp; done) | fail) (by rfl) (by simp) ?_; (try simp [hne, hne2, hmq, Ne.symm hmq, Nat.add_assoc, del, ho, hab, a.row_eq, b.row_eq, delL, del]))
  | (refine CallP.okL (a3) (by first | (simp [hne, hne2, hmq, Ne.symm hmq, Nat.add_assoc, del, ho, hab, a.row_eq, b.row_eq, getK_cons, getK, getK_append, getK_del, getK_setOb, applyW, del]; done) | fail) (by rfl) (by first | assumption | (simp; done) | fail) (by rfl) (by simp) ?_; (try simp [hne, hne2, hmq, Ne.symm hmq, Nat.add_assoc, del, ho, hab, a.row_eq, b.row_eq, delL, del]))
  | (refine CallP.okL (a4) (by first | (simp [hne, hne2, hmq, Ne.symm hmq, Nat.add_assoc, del, ho, hab, a.row_eq, b.row_eq, getK_cons, getK, getK_append, getK_del, getK_setOb, applyW, del]; done) | fail) (by rfl) (by first | assumption | (simp; done) | fail) (by rfl) (by simp) ?_; (try simp [hne, hne2, hmq, Ne.symm hmq, Nat.add_assoc, del, ho, hab, a.row_eq, b.row_eq, delL, del]))
  | (refine CallP.okL (a5) (by first | (simp [hne, hne2, hmq, Ne.symm hmq, Nat.add_assoc, del, ho, hab, a.row_eq, b.row_eq, getK_cons, getK, getK_append, getK_del, getK_setOb, applyW, del]; done) | fail) (by rfl) (by first | assumption | (simp; done) | fail) (by rfl) (by simp) ?_; (try simp [hne, hne2, hmq, Ne.symm hmq, Nat.add_assoc, del, ho, hab, a.row_eq, b.row_eq, delL, del]))
  | (refine CallP.okL (a6) (by first | (simp [hne, hne2, hmq, Ne.symm hmq, Nat.add_assoc, del, ho, hab, a.row_eq, b.row_eq, getK_cons, getK, getK_append, getK_del, getK_setOb, applyW, del]; done) | fail) (by rfl) (by first | assumption | (simp; done) | fail) (by rfl) (by simp) ?_; (try simp [hne, hne2, hmq, Ne.symm hmq, Nat.add_assoc, del, ho, hab, a.row_eq, b.row_eq, delL, del]))
  | (refine CallP.okL (a7) (by first | (simp [hne, hne2, hmq, Ne.symm hmq, Nat.add_assoc, del, ho, hab, a.row_eq, b.row_eq, getK_cons, getK, getK_append, getK_del, getK_setOb, applyW, del]; done) | fail) (by rfl) (by first | assumption | (simp; done) | fail) (by rfl) (by simp) ?_; (try simp [hne, hne2, hmq, Ne.symm hmq, Nat.add_assoc, del, ho, hab, a.row_eq, b.row_eq, delL, del]))
  | (refine CallP.okL (a8) (by first | (simp [hne, hne2, hmq, Ne.symm hmq, Nat.add_assoc, del, ho, hab, a.row_eq, b.row_eq, getK_cons, getK, getK_append, getK_del, getK_setOb, applyW, del]; done) | fail) (by rfl) (by first | assumption | (simp; done) | fail) (by rfl) (by simp) ?_; (try simp [hne, hne2, hmq, Ne.symm hmq, Nat.add_assoc, del, ho, hab, a.row_eq, b.row_eq, delL, del]))
  | fail)
 refine EndW.wk { n := _, env := [], obs := [(m, cOb lets shs nx k8), (nx, kOb k8)], next := nx + 1 } (Wk.ren ((fun i => if i = nx then nx + 8 else i)) rfl (by first | (simp [hn]; done) | (intro i hi; rw [hn] at hi; constructor <;> (try simp) <;> (try (intro _)) <;> omega)) (by simp [wkER, St.lp, keepE, getK_cons, getK, getK_del, getK_setOb, D.under, D.le, D.ren, hne, hne2, hmq, Ne.symm hmq, hm1, hp, cOb, kOb, letsU] <;> (try (intros; simp_all; done)) <;> (try omega)) (by simp [wkR, St.lp, getK_cons, getK, getK_del, getK_setOb, obR, leU, pureRow, pureRows, Ob.under, D.under, D.le, D.ren, hne, hne2, hmq, Ne.symm hmq, hm1, hp, cOb, kOb, letsU] <;> (try (intros; simp_all; done)) <;> (try omega)) (by simp [hne, hne2, hmq, Ne.symm hmq, hm1, hp, cOb, kOb, letsU])) ?_
 (refine EndW.h Tryz.results67 ?_; simp)
theorem choice_if {lets shs m n e a b d FA FB FD} (ho : e.op = 13) (hab : e.args = [a, b, d]) (hA : ExpX lets shs m n a FA) (cA : Cap FA) (pA : Pre FA) (hB : ExpX lets shs m n b FB) (cB : Cap FB) (pB : Pre FB) (hD : ExpX lets shs m n d FD) (cD : Cap FD) (pD : Pre FD) : ChoX lets shs m n e (choiceC FA FB FD) := by
 intro c q nx hm hq hmq hl
 have hne := nef hm
 have hne2 := nef hq
 have hm1 : m < nx + 1 := by omega
 have hp := pure_insR ((choiceC FA FB FD) c)
 unfold choiceC at hp ⊢
 try simp only at hp ⊢
 have l1 := cA c hl
 have w1 := (pA c).1
 have a1 := hA c q (nx + 1) (by omega) (by omega) (by omega) hl
 generalize FA c = k1 at *
 have l2 := Cap.put ⟨13, 0, []⟩ k1 l1
 have w2 := (putC_pre ⟨13, 0, []⟩ k1).1
 have g2 := putC_pos k1 ⟨13, 0, []⟩
 simp only at l2
 have a2 := put_x lets shs k1 ⟨13, 0, []⟩ m (nx + 1) (nx + 2) (by omega) (by omega) (by omega) (by omega)
 generalize putC k1 ⟨13, 0, []⟩ = k2 at *
 have l3 := cB k2 l2
 have w3 := (pB k2).1
 have a3 := hB k2 (nx + 2) (nx + 3) (by omega) (by omega) (by omega) l2
 generalize FB k2 = k3 at *
 have l4 := Cap.put ⟨12, 0, []⟩ k3 l3
 have w4 := (putC_pre ⟨12, 0, []⟩ k3).1
 have g4 := putC_pos k3 ⟨12, 0, []⟩
 simp only at l4
 have a4 := put_x lets shs k3 ⟨12, 0, []⟩ m (nx + 3) (nx + 4) (by omega) (by omega) (by omega) (by omega)
 generalize putC k3 ⟨12, 0, []⟩ = k4 at *
 have l5 := landC_len k4 (k2.length - 1)
 have a5 := land_x lets shs k4 (k2.length - 1) m (nx + 4) (nx + 5) (by omega) (by omega) (by omega) (by omega) (by omega)
 rw [show ((k2.length - 1 : Nat) : Int) = (k2.length : Int) - 1 by omega] at a5
 generalize landC k4 (k2.length - 1) = k5 at *
 have l5 : k5.length ≤ 2001 := by omega
 have l6 := cD k5 l5
 have w6 := (pD k5).1
 have a6 := hD k5 (nx + 5) (nx + 6) (by omega) (by omega) (by omega) l5
 generalize FD k5 = k6 at *
 have l7 := landC_len k6 (k4.length - 1)
 have a7 := land_x lets shs k6 (k4.length - 1) m (nx + 6) (nx + 7) (by omega) (by omega) (by omega) (by omega) (by omega)
 rw [show ((k4.length - 1 : Nat) : Int) = (k4.length : Int) - 1 by omega] at a7
 generalize landC k6 (k4.length - 1) = k7 at *
 have l7 : k7.length ≤ 2001 := by omega
 simp only [eagg, letsU] at a1 a2 a3 a4 a5 a6 a7 ⊢
 have hpp := hp
 refine RetX.runW Tryz.func67 Tryz.ntmps67 rfl (by simp) fun Γ hn hpan => ?_
 repeat' (first
  | (refine V_run rfl ?_; simp [hne, hne2, hmq, Ne.symm hmq, Nat.add_assoc, del, ho, hab, a.row_eq, b.row_eq, d.row_eq])
  | (refine CallP.okL (a1) (by first | (simp [hne, hne2, hmq, Ne.symm hmq, Nat.add_assoc, del, ho, hab, a.row_eq, b.row_eq, d.row_eq, getK_cons, getK, getK_append, getK_del, getK_setOb, applyW, del]; done) | fail) (by rfl) (by first | assumption | (simp; done) | fail) (by rfl) (by simp) ?_; (try simp [hne, hne2, hmq, Ne.symm hmq, Nat.add_assoc, del, ho, hab, a.row_eq, b.row_eq, d.row_eq, delL, del]))
  | (refine CallP.okL (a2) (by first | (simp [hne, hne2, hmq, Ne.symm hmq, Nat.add_assoc, del, ho, hab, a.row_eq, b.row_eq, d.row_eq, getK_cons, getK, getK_append, getK_del, getK_setOb, applyW, del]; done) | fail) (by rfl) (by first | assumption | (simp; done) | fail) (by rfl) (by simp) ?_; (try simp [hne, hne2, hmq, Ne.symm hmq, Nat.add_assoc, del, ho, hab, a.row_eq, b.row_eq, d.row_eq, delL, del]))
  | (refine CallP.okL (a3) (by first | (simp [hne, hne2, hmq, Ne.symm hmq, Nat.add_assoc, del, ho, hab, a.row_eq, b.row_eq, d.row_eq, getK_cons, getK, getK_append, getK_del, getK_setOb, applyW, del]; done) | fail) (by rfl) (by first | assumption | (simp; done) | fail) (by rfl) (by simp) ?_; (try simp [hne, hne2, hmq, Ne.symm hmq, Nat.add_assoc, del, ho, hab, a.row_eq, b.row_eq, d.row_eq, delL, del]))
  | (refine CallP.okL (a4) (by first | (simp [hne, hne2, hmq, Ne.symm hmq, Nat.add_assoc, del, ho, hab, a.row_eq, b.row_eq, d.row_eq, getK_cons, getK, getK_append, getK_del, getK_setOb, applyW, del]; done) | fail) (by rfl) (by first | assumption | (simp; done) | fail) (by rfl) (by simp) ?_; (try simp [hne, hne2, hmq, Ne.symm hmq, Nat.add_assoc, del, ho, hab, a.row_eq, b.row_eq, d.row_eq, delL, del]))
  | (refine CallP.okL (a5) (by first | (simp [hne, hne2, hmq, Ne.symm hmq, Nat.add_assoc, del, ho, hab, a.row_eq, b.row_eq, d.row_eq, getK_cons, getK, getK_append, getK_del, getK_setOb, applyW, del]; done) | fail) (by rfl) (by first | assumption | (simp; done) | fail) (by rfl) (by simp) ?_; (try simp [hne, hne2, hmq, Ne.symm hmq, Nat.add_assoc, del, ho, hab, a.row_eq, b.row_eq, d.row_eq, delL, del]))
  | (refine CallP.okL (a6) (by first | (simp [hne, hne2, hmq, Ne.symm hmq, Nat.add_assoc, del, ho, hab, a.row_eq, b.row_eq, d.row_eq, getK_cons, getK, getK_append, getK_del, getK_setOb, applyW, del]; done) | fail) (by rfl) (by first | assumption | (simp; done) | fail) (by rfl) (by simp) ?_; (try simp [hne, hne2, hmq, Ne.symm hmq, Nat.add_assoc, del, ho, hab, a.row_eq, b.row_eq, d.row_eq, delL, del]))
  | (refine CallP.okL (a7) (by first | (simp [hne, hne2, hmq, Ne.symm hmq, Nat.add_assoc, del, ho, hab, a.row_eq, b.row_eq, d.row_eq, getK_cons, getK, getK_append, getK_del, getK_setOb, applyW, del]; done) | fail) (by rfl) (by first | assumption | (simp; done) | fail) (by rfl) (by simp) ?_; (try simp [hne, hne2, hmq, Ne.symm hmq, Nat.add_assoc, del, ho, hab, a.row_eq, b.row_eq, d.row_eq, delL, del]))
  | fail)
 refine EndW.wk { n := _, env := [], obs := [(m, cOb lets shs nx k7), (nx, kOb k7)], next := nx + 1 } (Wk.ren ((fun i => if i = nx then nx + 7 else i)) rfl (by first | (simp [hn]; done) | (intro i hi; rw [hn] at hi; constructor <;> (try simp) <;> (try (intro _)) <;> omega)) (by simp [wkER, St.lp, keepE, getK_cons, getK, getK_del, getK_setOb, D.under, D.le, D.ren, hne, hne2, hmq, Ne.symm hmq, hm1, hp, cOb, kOb, letsU] <;> (try (intros; simp_all; done)) <;> (try omega)) (by simp [wkR, St.lp, getK_cons, getK, getK_del, getK_setOb, obR, leU, pureRow, pureRows, Ob.under, D.under, D.le, D.ren, hne, hne2, hmq, Ne.symm hmq, hm1, hp, cOb, kOb, letsU] <;> (try (intros; simp_all; done)) <;> (try omega)) (by simp [hne, hne2, hmq, Ne.symm hmq, hm1, hp, cOb, kOb, letsU])) ?_
 (refine EndW.h Tryz.results67 ?_; simp)
end Go.Proofs.YtkdhmbhbbciedaaGreatDoor
namespace Go.Proofs.YtkdhmbhbbciedaaGreatDoor
open Go Go.VL
def PR.bind {α β : Type} : PR α → (α → Nat → PR β) → PR β
 | .ok a p, f => f a p
 | .stop pos e, _ => .stop pos e
theorem PR.bind_ok {α β : Type} {a : α} {p : Nat} {f : α → Nat → PR β} : (PR.ok a p).bind f = f a p := rfl
theorem PR.bind_out {α β : Type} {r : PR α} {f : α → Nat → PR β} {b : β} {q : Nat} (h : r.bind f = .ok b q) : ∃ a p, r = .ok a p ∧ f a p = .ok b q := by
 cases r with
 | ok a p => exact ⟨a, p, rfl, h⟩
 | stop => cases h
theorem PPost.at_ok {α : Type} {l i nx} {val : α → D} {r : PR α} {a : α} {q : Nat} (h : r = .ok a q) {d : D} (hd : d = val a) {o : List (Nat × Ob)} (ho : o = [(i, pOb l q)]) : PPost l i nx val r (.val d) o nx := by
 subst h; subst hd; subst ho; exact ⟨rfl, rfl, rfl⟩
theorem PPost.at_stop {α : Type} {l i nx} {val : α → D} {r : PR α} {pos e : Int} {q : Nat} (h : r = .stop pos e) : PPost l i nx val r (.pan (chP pos e)) [(i, pOb l q)] nx := by
 subst h; exact ⟨rfl, ⟨_, ⟨q, rfl⟩, rfl⟩, rfl⟩
structure Opr where
 text : List UInt8
 op : Int
 form : Int
def oprs : List Opr := [⟨[111, 114], 11, 1⟩, ⟨[97, 110, 100], 10, 2⟩, ⟨[61, 61], 9, 4⟩, ⟨[60], 8, 4⟩, ⟨[43], 2, 5⟩, ⟨[45], 3, 5⟩, ⟨[42], 4, 6⟩, ⟨[47], 5, 6⟩]
def oprAt (l : List Tok) (p : Nat) : Option Opr := oprs.find? fun o => isB l p o.text
def unitP (l : List Tok) (p : Nat) : PR Int :=
 if isB l p [99, 111, 105, 110, 115] = true then .ok 3 (p + 1)
 else if isB l p [100, 97, 121, 115] = true then .ok 2 (p + 1)
 else if isB l p [112, 101, 114] = true then (wantP l (p + 1) [[109, 105, 108, 108, 101]]).bind fun _ q => .ok 4 q
 else .ok 1 p
mutual
def expP (l : List Tok) : Nat → Nat → Int → PR Exp
 | 0, _, _ => .stop 0 0
 | f + 1, p, form => (prefixP l f p form).bind fun e q => loopP l f form e.1 e.2 q
def loopP (l : List Tok) : Nat → Int → Exp → Int → Nat → PR Exp
 | 0, _, _, _, _ => .stop 0 0
 | f + 1, form, e, own, q => match oprAt l q with
  | none => .ok e q
  | some x => if x.form < form ∨ own < x.form ∨ (own = 4 ∧ x.form = 4) then .ok e q
   else (expP l f (q + 1) (x.form + 1)).bind fun e2 r => loopP l f form (.mk x.op 0 0 [] [e, e2]) x.form r
def prefixP (l : List Tok) : Nat → Nat → Int → PR (Exp × Int)
 | 0, _, _ => .stop 0 0
 | f + 1, p, form =>
  if form = 0 ∧ isB l p [105, 102] = true then
   (expP l f (p + 1) 0).bind fun a q1 => (wantP l q1 [[116, 104, 101, 110]]).bind fun _ q2 => (expP l f q2 0).bind fun b q3 =>
   (wantP l q3 [[101, 108, 115, 101]]).bind fun _ q4 => (expP l f q4 0).bind fun c q5 => .ok (.mk 13 0 0 [] [a, b, c], 0) q5
  else if form ≤ 3 ∧ isB l p [110, 111, 116] = true then (expP l f (p + 1) 3).bind fun a q => .ok (.mk 12 0 0 [] [a], 3) q
  else (primaryP l f p).bind fun e q => .ok (e, 7) q
def primaryP (l : List Tok) : Nat → Nat → PR Exp
 | 0, _ => .stop 0 0
 | f + 1, p => match l[p]? with
  | none => .stop 0 0
  | some t =>
   if t.kind = 2 then (unitP l (p + 1)).bind fun u q => .ok (.mk 0 t.n u [] []) q
   else if isB l p [116, 114, 117, 101] = true then .ok (.mk 0 1 0 [] []) (p + 1)
   else if isB l p [102, 97, 108, 115, 101] = true then .ok (.mk 0 0 0 [] []) (p + 1)
   else if isB l p [109, 105, 110] = true ∨ isB l p [109, 97, 120] = true then
    (wantP l (p + 1) [[40]]).bind fun _ q1 => (expP l f q1 0).bind fun a q2 => (wantP l q2 [[44]]).bind fun _ q3 => (expP l f q3 0).bind fun b q4 =>
    (wantP l q4 [[41]]).bind fun _ q5 => .ok (.mk (if isB l p [109, 97, 120] = true then 7 else 6) 0 0 [] [a, b]) q5
   else if isB l p [40] = true then (expP l f (p + 1) 0).bind fun e q1 => (wantP l q1 [[41]]).bind fun _ q2 => .ok e q2
   else if t.kind = 1 ∧ nameB t.text = true then .ok (.mk 1 0 0 t.text []) (p + 1)
   else .stop t.pos 12
end
theorem wantP_le {l : List Tok} (hl : TokOK l) : ∀ (ws : List (List UInt8)) {p q : Nat}, wantP l p ws = .ok () q → p < l.length → p ≤ q ∧ q < l.length
 | [], p, q, h, hp => by rw [wantP] at h; cases h; exact ⟨Nat.le_refl _, hp⟩
 | w :: ws, p, q, h, hp => by
  rw [wantP] at h
  split at h
  ·rename_i hb
   have := wantP_le hl ws h (isB_lt hl hb)
   exact ⟨by omega, this.2⟩
  ·cases h
theorem unitP_le {l : List Tok} (hl : TokOK l) {p q : Nat} {u : Int} (h : unitP l p = .ok u q) (hp : p < l.length) : p ≤ q ∧ q < l.length := by
 unfold unitP at h
 split at h
 ·rename_i hb; cases h; exact ⟨by omega, isB_lt hl hb⟩
 ·split at h
  ·rename_i hb; cases h; exact ⟨by omega, isB_lt hl hb⟩
  ·split at h
   ·rename_i hb
    obtain ⟨a, r, h1, h2⟩ := PR.bind_out h
    cases h2
    have := wantP_le hl _ h1 (isB_lt hl hb)
    exact ⟨by omega, this.2⟩
   ·cases h; exact ⟨by omega, hp⟩
theorem parse_le {l : List Tok} (hl : TokOK l) : ∀ (f : Nat),
  (∀ p form e q, expP l f p form = .ok e q → p < l.length → p ≤ q ∧ q < l.length) ∧
  (∀ form e own p e' q, loopP l f form e own p = .ok e' q → p < l.length → p ≤ q ∧ q < l.length) ∧
  (∀ p form e q, prefixP l f p form = .ok e q → p < l.length → p ≤ q ∧ q < l.length) ∧
  (∀ p e q, primaryP l f p = .ok e q → p < l.length → p ≤ q ∧ q < l.length)
 | 0 => ⟨fun _ _ _ _ h => by simp [expP] at h, fun _ _ _ _ _ _ h => by simp [loopP] at h, fun _ _ _ _ h => by simp [prefixP] at h, fun _ _ _ h => by simp [primaryP] at h⟩
 | f + 1 => by
  obtain ⟨he, hlo, hpr, hpm⟩ := parse_le hl f
  refine ⟨fun p form e q h hp => ?_, fun form e own p e' q h hp => ?_, fun p form e q h hp => ?_, fun p e q h hp => ?_⟩
  ·rw [expP] at h
   obtain ⟨a, r, h1, h2⟩ := PR.bind_out h
   have g1 := hpr _ _ _ _ h1 hp
   have g2 := hlo _ _ _ _ _ _ h2 g1.2
   exact ⟨by omega, g2.2⟩
  ·rw [loopP] at h
   split at h
   ·cases h; exact ⟨by omega, hp⟩
   ·rename_i x hx
    have hb := List.find?_some hx
    have hp2 := isB_lt hl hb
    split at h
    ·cases h; exact ⟨by omega, hp⟩
    ·obtain ⟨a, r, h1, h2⟩ := PR.bind_out h
     have g1 := he _ _ _ _ h1 hp2
     have g2 := hlo _ _ _ _ _ _ h2 g1.2
     exact ⟨by omega, g2.2⟩
  ·rw [prefixP] at h
   split at h
   ·rename_i hb
    have hp2 := isB_lt hl hb.2
    obtain ⟨a, r, h1, h⟩ := PR.bind_out h
    have g1 := he _ _ _ _ h1 hp2
    obtain ⟨_, r2, h2, h⟩ := PR.bind_out h
    have g2 := wantP_le hl _ h2 g1.2
    obtain ⟨a, r3, h3, h⟩ := PR.bind_out h
    have g3 := he _ _ _ _ h3 g2.2
    obtain ⟨_, r4, h4, h⟩ := PR.bind_out h
    have g4 := wantP_le hl _ h4 g3.2
    obtain ⟨a, r5, h5, h⟩ := PR.bind_out h
    have g5 := he _ _ _ _ h5 g4.2
    cases h
    exact ⟨by omega, g5.2⟩
   ·split at h
    ·rename_i hb
     have hp2 := isB_lt hl hb.2
     obtain ⟨a, r, h1, h⟩ := PR.bind_out h
     have g1 := he _ _ _ _ h1 hp2
     cases h
     exact ⟨by omega, g1.2⟩
    ·obtain ⟨a, r, h1, h⟩ := PR.bind_out h
     have g1 := hpm _ _ _ h1 hp
     cases h
     exact g1
  ·rw [primaryP] at h
   split at h
   ·cases h
   ·rename_i t ht
    split at h
    ·rename_i hk
     have hp2 := hl.fin p t ht (by omega)
     obtain ⟨a, r, h1, h⟩ := PR.bind_out h
     have g1 := unitP_le hl h1 hp2
     cases h
     exact ⟨by omega, g1.2⟩
    split at h
    ·rename_i hb; cases h; exact ⟨by omega, isB_lt hl hb⟩
    split at h
    ·rename_i hb; cases h; exact ⟨by omega, isB_lt hl hb⟩
    split at h
    ·rename_i hb
     have hp2 : p + 1 < l.length := hb.elim (isB_lt hl) (isB_lt hl)
     obtain ⟨_, r2, h2, h⟩ := PR.bind_out h
     have g2 := wantP_le hl _ h2 hp2
     obtain ⟨a, r3, h3, h⟩ := PR.bind_out h
     have g3 := he _ _ _ _ h3 g2.2
     obtain ⟨_, r4, h4, h⟩ := PR.bind_out h
     have g4 := wantP_le hl _ h4 g3.2
     obtain ⟨a, r5, h5, h⟩ := PR.bind_out h
     have g5 := he _ _ _ _ h5 g4.2
     obtain ⟨_, r6, h6, h⟩ := PR.bind_out h
     have g6 := wantP_le hl _ h6 g5.2
     cases h
     exact ⟨by omega, g6.2⟩
    split at h
    ·rename_i hb
     have hp2 := isB_lt hl hb
     obtain ⟨a, r3, h3, h⟩ := PR.bind_out h
     have g3 := he _ _ _ _ h3 hp2
     obtain ⟨_, r4, h4, h⟩ := PR.bind_out h
     have g4 := wantP_le hl _ h4 g3.2
     cases h
     exact ⟨by omega, g4.2⟩
    split at h
    ·rename_i hk
     cases h
     exact ⟨by omega, hl.fin p t ht (by omega)⟩
    ·cases h
end Go.Proofs.YtkdhmbhbbciedaaGreatDoor
namespace Go.Proofs.YtkdhmbhbbciedaaGreatDoor
open Go Go.VL
abbrev W8 := List UInt8
def kindW : W8 → Int
 | [] => 0
 | c :: _ => if isLetter c = true then 1 else if isDigit c = true then 2 else 3
theorem kindW_ne {w : W8} (h : w ≠ []) : kindW w ≠ 0 := by
 cases w with
 | nil => exact absurd rfl h
 | cons c w => rw [kindW]; split <;> (try split) <;> decide
def numW (w : W8) : Int := if kindW w = 2 then (numberO w).getD 0 else 0
def Reads (l : List Tok) (p : Nat) (ws : List W8) : Prop := ∀ i w, ws[i]? = some w → w ≠ [] ∧ ∃ t, l[p + i]? = some t ∧ t.text = w ∧ t.kind = kindW w ∧ t.n = numW w
theorem Reads.left {l p} {a b : List W8} (h : Reads l p (a ++ b)) : Reads l p a := fun i w hi => h i w (by rw [List.getElem?_append_left (List.getElem?_eq_some_iff.1 hi).1]; exact hi)
theorem Reads.right {l p} {a b : List W8} (h : Reads l p (a ++ b)) : Reads l (p + a.length) b := fun i w hi => by
 have := h (a.length + i) w (by rw [List.getElem?_append_right (by omega), Nat.add_sub_cancel_left]; exact hi)
 rwa [← Nat.add_assoc] at this
theorem Reads.head {l p} {w : W8} {b : List W8} (h : Reads l p (w :: b)) : w ≠ [] ∧ ∃ t, l[p]? = some t ∧ t.text = w ∧ t.kind = kindW w ∧ t.n = numW w := h 0 w rfl
theorem Reads.tail {l p} {w : W8} {b : List W8} (h : Reads l p (w :: b)) : Reads l (p + 1) b := Reads.right (a := [w]) h
theorem Reads.isB {l p} {w : W8} {b : List W8} (h : Reads l p (w :: b)) (v : W8) : isB l p v = decide (w = v) := by
 obtain ⟨hw, t, ht, h1, h2, h3⟩ := h.head
 have := kindW_ne hw
 simp [Go.Proofs.YtkdhmbhbbciedaaGreatDoor.isB, ht, h1, h2, this]
theorem Reads.want {l p} {w : W8} {b : List W8} (h : Reads l p (w :: b)) : wantP l p [w] = .ok () (p + 1) := by
 rw [wantP, if_pos (by rw [h.isB]; simp), wantP]
def Ev {α : Type} (g : Nat → PR α) (r : PR α) : Prop := ∃ f0, ∀ f, f0 ≤ f → g f = r
theorem Ev.succ {α : Type} {g : Nat → PR α} {r : PR α} (h : Ev (fun f => g (f + 1)) r) : Ev g r := by
 obtain ⟨f0, h⟩ := h
 refine ⟨f0 + 1, fun f hf => ?_⟩
 obtain ⟨f, rfl⟩ : ∃ k, f = k + 1 := ⟨f - 1, by omega⟩
 exact h f (by omega)
theorem Ev.const {α : Type} {r : PR α} : Ev (fun _ => r) r := ⟨0, fun _ _ => rfl⟩
theorem Ev.of {α : Type} {g : Nat → PR α} {r : PR α} (h : ∀ f, g f = r) : Ev g r := ⟨0, fun f _ => h f⟩
theorem Ev.bind {α β : Type} {g : Nat → PR α} {a : α} {q : Nat} {F : Nat → α → Nat → PR β} {r : PR β} (h : Ev g (.ok a q)) (h2 : Ev (fun f => F f a q) r) : Ev (fun f => (g f).bind (F f)) r := by
 obtain ⟨f0, h⟩ := h
 obtain ⟨f1, h2⟩ := h2
 refine ⟨max f0 f1, fun f hf => ?_⟩
 show (g f).bind (F f) = r
 rw [h f (by omega), PR.bind_ok]
 exact h2 f (by omega)
end Go.Proofs.YtkdhmbhbbciedaaGreatDoor
namespace Go.Proofs.YtkdhmbhbbciedaaGreatDoor
open Go Go.VL
end Go.Proofs.YtkdhmbhbbciedaaGreatDoor
namespace Go.Proofs.YtkdhmbhbbciedaaGreatDoor
open Go Go.VL
theorem decDigits_ne : ∀ n, Lib.decDigits n ≠ [] := fun n => by
 rw [Lib.decDigits]; split <;> simp
theorem decDigits_digit (n : Nat) : ∀ c ∈ Lib.decDigits n, isDigit c = true := by
 induction n using Nat.strongRecOn with
 | _ n ih =>
  intro c hc
  have hd : ∀ k, k < 10 → isDigit (UInt8.ofNat (48 + k)) = true := by decide
  rw [Lib.decDigits] at hc
  split at hc
  ·rename_i h
   simp only [List.mem_singleton] at hc
   subst hc
   exact hd n h
  ·rename_i h
   rw [List.mem_append, List.mem_singleton] at hc
   rcases hc with hc | rfl
   ·exact ih _ (by omega) c hc
   ·exact hd _ (by omega)
theorem decDigits_val (n : Nat) : digitsV (Lib.decDigits n) = n := by
 induction n using Nat.strongRecOn with
 | _ n ih =>
  have hd : ∀ k, k < 10 → ((UInt8.ofNat (48 + k)).toNat : Int) - 48 = k := by decide
  rw [Lib.decDigits]
  split
  ·rename_i h
   simpa [digitsV] using hd n h
  ·rename_i h
   rw [digitsV_snoc, ih _ (by omega), hd _ (by omega)]
   omega
theorem decDigits_len (n : Nat) : ∀ k, n < 10 ^ (k + 1) → (Lib.decDigits n).length ≤ k + 1 := by
 induction n using Nat.strongRecOn with
 | _ n ih =>
  intro k hk
  rw [Lib.decDigits]
  split
  ·simp
  ·rename_i h
   obtain ⟨k, rfl⟩ : ∃ j, k = j + 1 := ⟨k - 1, by cases k with | zero => simp at hk; omega | succ k => rfl⟩
   have := ih (n / 10) (by omega) k (by rw [Nat.pow_succ] at hk; omega)
   simp
   omega
end Go.Proofs.YtkdhmbhbbciedaaGreatDoor
namespace Go.Proofs.YtkdhmbhbbciedaaGreatDoor
open Go Go.VL
end Go.Proofs.YtkdhmbhbbciedaaGreatDoor
namespace Go.Proofs.YtkdhmbhbbciedaaGreatDoor
open Go Go.VL
end Go.Proofs.YtkdhmbhbbciedaaGreatDoor
namespace Go.Proofs.YtkdhmbhbbciedaaGreatDoor
open Go Go.VL
end Go.Proofs.YtkdhmbhbbciedaaGreatDoor
namespace Go.Proofs.YtkdhmbhbbciedaaGreatDoor
open Go Go.VL
/-- What stands behind a word: nothing, or a blank. -/
def Ends8 (r : W8) : Prop := ∀ c t, r = c :: t → isBlank c = true
structure GoodW (w : W8) : Prop where
 next : ∀ r, Ends8 r → nextO (w ++ r) = .ok ⟨kindW w, w, numW w, 0⟩
 ne : w ≠ []
 head : ∀ c t, w = c :: t → isBlank c = false
/-- Words, each with what stands behind it: blanks; behind the last one maybe nothing. -/
def Spaced : List (W8 × W8) → Prop
 | [] => True
 | [x] => GoodW x.1 ∧ ∀ c ∈ x.2, isBlank c = true
 | x :: y :: l => GoodW x.1 ∧ (∀ c ∈ x.2, isBlank c = true) ∧ x.2 ≠ [] ∧ Spaced (y :: l)
theorem Spaced.good {x : W8 × W8} {l : List (W8 × W8)} (h : Spaced (x :: l)) : GoodW x.1 ∧ (∀ c ∈ x.2, isBlank c = true) ∧ (l ≠ [] → x.2 ≠ []) ∧ Spaced l := by
 cases l with
 | nil => exact ⟨h.1, h.2, fun h => absurd rfl h, trivial⟩
 | cons y l => exact ⟨h.1, h.2.1, fun _ => h.2.2.1, h.2.2.2⟩
end Go.Proofs.YtkdhmbhbbciedaaGreatDoor
namespace Go.Proofs.YtkdhmbhbbciedaaGreatDoor
open Go Go.VL
theorem PR.bind_congr {α β : Type} {r : PR α} {F G : α → Nat → PR β} (h : ∀ a q, r = .ok a q → F a q = G a q) : r.bind F = r.bind G := by
 cases r with
 | ok a q => exact h a q rfl
 | stop => rfl
theorem fuel_all {l : List Tok} (hl : TokOK l) : ∀ (f : Nat),
  (∀ p form, p < l.length → 4 * (l.length - p) + 3 ≤ f → expP l (f + 1) p form = expP l f p form) ∧
  (∀ p form e own, p < l.length → 4 * (l.length - p) + 2 ≤ f → loopP l (f + 1) form e own p = loopP l f form e own p) ∧
  (∀ p form, p < l.length → 4 * (l.length - p) + 2 ≤ f → prefixP l (f + 1) p form = prefixP l f p form) ∧
  (∀ p, p < l.length → 4 * (l.length - p) + 1 ≤ f → primaryP l (f + 1) p = primaryP l f p)
 | 0 => ⟨fun _ _ _ h => by omega, fun _ _ _ _ _ h => by omega, fun _ _ _ h => by omega, fun _ _ h => by omega⟩
 | f + 1 => by
  obtain ⟨he, hlo, hpr, hpm⟩ := fuel_all hl f
  obtain ⟨le, llo, lpr, lpm⟩ := parse_le hl f
  refine ⟨fun p form hp hf => ?_, fun p form e own hp hf => ?_, fun p form hp hf => ?_, fun p hp hf => ?_⟩
  ·simp only [expP]
   rw [hpr p form hp (by omega)]
   refine PR.bind_congr fun a q hq => ?_
   have g := lpr _ _ _ _ hq hp
   exact hlo _ _ _ _ g.2 (by omega)
  ·rw [loopP, loopP]
   split
   ·rfl
   ·rename_i x hx
    have hb := List.find?_some hx
    have hp2 := isB_lt hl hb
    split
    ·rfl
    ·rw [he (p + 1) _ hp2 (by omega)]
     refine PR.bind_congr fun a q hq => ?_
     have g := le _ _ _ _ hq hp2
     exact hlo _ _ _ _ g.2 (by omega)
  ·simp only [prefixP]
   split
   ·rename_i hb
    have hp2 := isB_lt hl hb.2
    rw [he (p + 1) _ hp2 (by omega)]
    refine PR.bind_congr fun a q1 hq1 => ?_
    have g1 := le _ _ _ _ hq1 hp2
    refine PR.bind_congr fun _ q2 hq2 => ?_
    have g2 := wantP_le hl _ hq2 g1.2
    rw [he q2 _ g2.2 (by omega)]
    refine PR.bind_congr fun b q3 hq3 => ?_
    have g3 := le _ _ _ _ hq3 g2.2
    refine PR.bind_congr fun _ q4 hq4 => ?_
    have g4 := wantP_le hl _ hq4 g3.2
    rw [he q4 _ g4.2 (by omega)]
   ·split
    ·rename_i hb
     rw [he (p + 1) _ (isB_lt hl hb.2) (by omega)]
    ·rw [hpm p hp (by omega)]
  ·simp only [primaryP]
   split
   ·rfl
   ·split
    ·rfl
    ·split
     ·rfl
     ·split
      ·rfl
      ·split
       ·rename_i hb
        have hp2 : p + 1 < l.length := hb.elim (isB_lt hl) (isB_lt hl)
        refine PR.bind_congr fun _ q1 hq1 => ?_
        have g1 := wantP_le hl _ hq1 hp2
        rw [he q1 _ g1.2 (by omega)]
        refine PR.bind_congr fun a q2 hq2 => ?_
        have g2 := le _ _ _ _ hq2 g1.2
        refine PR.bind_congr fun _ q3 hq3 => ?_
        have g3 := wantP_le hl _ hq3 g2.2
        rw [he q3 _ g3.2 (by omega)]
       ·split
        ·rename_i hb
         rw [he (p + 1) _ (isB_lt hl hb) (by omega)]
        ·rfl
theorem fuel_more {l : List Tok} (hl : TokOK l) {p f : Nat} {form : Int} (hp : p < l.length) (hf : 4 * (l.length - p) + 3 ≤ f) : ∀ g, expP l (f + g) p form = expP l f p form
 | 0 => rfl
 | g + 1 => by rw [← Nat.add_assoc, (fuel_all hl (f + g)).1 p form hp (by omega), fuel_more hl hp hf g]
theorem Ev.fuel {l : List Tok} (hl : TokOK l) {p f : Nat} {form : Int} {r : PR Exp} (h : Ev (fun f => expP l f p form) r) (hp : p < l.length) (hf : 4 * (l.length - p) + 3 ≤ f) : expP l f p form = r := by
 obtain ⟨f0, h⟩ := h
 rw [← fuel_more hl hp hf f0]
 exact h (f + f0) (by omega)
end Go.Proofs.YtkdhmbhbbciedaaGreatDoor
namespace Go.Proofs.YtkdhmbhbbciedaaGreatDoor
open Go Go.VL
def AllGood (ws : List W8) : Prop := ∀ w ∈ ws, GoodW w
theorem AllGood.nil : AllGood [] := fun _ h => by cases h
theorem AllGood.cons {w : W8} {ws : List W8} (h : GoodW w) (h2 : AllGood ws) : AllGood (w :: ws) := fun x hx => by
 rcases List.mem_cons.1 hx with rfl | hx
 ·exact h
 ·exact h2 x hx
theorem AllGood.app {a b : List W8} (h : AllGood a) (h2 : AllGood b) : AllGood (a ++ b) := fun x hx => by
 rcases List.mem_append.1 hx with hx | hx
 ·exact h x hx
 ·exact h2 x hx
end Go.Proofs.YtkdhmbhbbciedaaGreatDoor
namespace Go.Proofs.YtkdhmbhbbciedaaGreatDoor
open Go Go.VL
end Go.Proofs.YtkdhmbhbbciedaaGreatDoor
namespace Go.Proofs.YtkdhmbhbbciedaaGreatDoor
open Go Go.VL
theorem right_item {l : Code} (hr : rightC l = true) {i : Nat} {x : Ins} (hx : l[i]? = some x) : 0 ≤ x.op ∧ x.op < 15 ∧ -1099511627776 ≤ x.a ∧ x.a ≤ 1099511627776 ∧ x.s.length ≤ 1000 := by
 simp only [rightC, Bool.and_eq_true, decide_eq_true_eq] at hr
 have h := forms_at hr.1.2 hx
 have hl := hr.1.1.2
 unfold formI at h
 split at h
 ·simp at h; rw [h.1.1]; simp; omega
 split at h
 ·rename_i h1
  simp at h
  have h3 : x.s.length ≤ 20 := by
   have h := h.2
   simp only [nameB, Bool.and_eq_true] at h
   have h := h.1
   generalize x.s = s at *
   cases s with
   | nil => simp
   | cons c r =>
    simp only [wordB, Bool.and_eq_true, decide_eq_true_eq] at h
    exact h.1.2
  have h4 := h.1
  rw [h1, h4]
  omega
 split at h
 ·simp at h; rw [h.1.1]; simp; omega
 ·simp at h; rw [h.1.1.1]; simp; omega
theorem line_len (x : Ins) (h0 : 0 ≤ x.op ∧ x.op < 15 ∧ -1099511627776 ≤ x.a ∧ x.a ≤ 1099511627776 ∧ x.s.length ≤ 1000) : (lineC x).length ≤ 2000 := by
 have hil := Lib.itoa_length_le x.a (by omega) (by omega)
 have hwl2 : ∀ w ∈ wordsL, w.length ≤ 5 := by decide
 have hu : wordsL[x.op.toNat]? = some (wordC x.op) := by
  rw [wordC, List.getD, List.getElem?_eq_getElem (by have : wordsL.length = 15 := rfl; omega)]; rfl
 have := hwl2 _ (List.mem_of_getElem? hu)
 unfold lineC
 split
 ·simp; omega
 split
 ·simp; omega
 ·simp; omega
theorem list_take {l : Code} {i : Nat} {x : Ins} (h : l[i]? = some x) : listC (l.take (i + 1)) = listC (l.take i) ++ lineC x := by
 obtain ⟨hi, rfl⟩ := List.getElem?_eq_some_iff.1 h
 rw [List.take_succ_eq_append_getElem hi, listC, List.map_append, List.flatten_append]
 simp [listC]
theorem list_len {l : Code} (hr : rightC l = true) : ∀ i, i ≤ l.length → (listC (l.take i)).length ≤ i * 2000
 | 0, _ => by simp [listC]
 | i + 1, h => by
  have hx : l[i]? = some l[i] := List.getElem?_eq_getElem (by omega)
  rw [list_take hx, List.length_append]
  have := list_len hr i (by omega)
  have := line_len _ (right_item hr hx)
  omega
/-- The objects of List, ahead of the i-th line. -/
def listO (T : List UInt8) (i : Nat) : List (Nat × Ob) := if i = 0 then [(0, .nw 88)] else [(0, .box [.ptr 0 0, .vec 1 T.length]), (1, .vec u8T 1 (bytesR T))]
end Go.Proofs.YtkdhmbhbbciedaaGreatDoor
namespace Go.Proofs.YtkdhmbhbbciedaaGreatDoor
open Go Go.VL
/-- A string cut at its first c. -/
def cutB (c : UInt8) : W8 → Option (W8 × W8)
 | [] => none
 | x :: r => if x = c then some ([], r) else (cutB c r).map fun p => (x :: p.1, p.2)
theorem cut_some {c : UInt8} : ∀ {s p q : W8}, cutB c s = some (p, q) → s = p ++ c :: q ∧ c ∉ p
 | [], p, q, h => by simp [cutB] at h
 | x :: r, p, q, h => by
  unfold cutB at h
  split at h
  ·rename_i e
   simp at h
   obtain ⟨rfl, rfl⟩ := h
   simp [e]
  ·rename_i e
   cases hr : cutB c r with
   | none => rw [hr] at h; simp at h
   | some pq =>
    obtain ⟨p', q'⟩ := pq
    rw [hr] at h
    simp at h
    obtain ⟨rfl, rfl⟩ := h
    obtain ⟨h1, h2⟩ := cut_some hr
    exact ⟨by rw [h1]; rfl, by simp [h2, Ne.symm e]⟩
theorem cut_at {c : UInt8} : ∀ {p : W8} (q : W8), c ∉ p → cutB c (p ++ c :: q) = some (p, q)
 | [], q, _ => by simp [cutB]
 | x :: p, q, h => by
  simp at h
  rw [List.cons_append, cutB, if_neg (Ne.symm h.1), cut_at q h.2]
  rfl
theorem cut_not {c : UInt8} : ∀ {s : W8}, c ∉ s → cutB c s = none
 | [], _ => rfl
 | x :: r, h => by
  simp at h
  rw [cutB, if_neg (Ne.symm h.1), cut_not h.2]
  rfl
theorem index_cut {c : UInt8} : ∀ (s : W8), Lib.indexByte s c = match cutB c s with | some p => (p.1.length : Int) | none => -1
 | [] => rfl
 | x :: r => by
  have ih := index_cut (c := c) r
  unfold cutB Lib.indexByte
  by_cases e : x = c
  ·simp [e]
  ·rw [if_neg e, ih]
   have : (x == c) = false := by simpa using e
   rw [this]
   cases cutB c r with
   | none => simp
   | some p => simp
theorem cut_len {c : UInt8} {s p q : W8} (h : cutB c s = some (p, q)) : q.length < s.length := by
 rw [(cut_some h).1]; simp; omega
/-- The parts of a string between the c's. -/
def pieces (c : UInt8) : W8 → List W8
 | [] => [[]]
 | x :: r => if x = c then [] :: pieces c r else match pieces c r with | [] => [[x]] | p :: ps => (x :: p) :: ps
theorem pieces_ne {c : UInt8} : ∀ s : W8, pieces c s ≠ []
 | [] => by simp [pieces]
 | x :: r => by
  unfold pieces
  split
  ·simp
  ·split <;> simp
theorem pieces_cut {c : UInt8} : ∀ s : W8, pieces c s = match cutB c s with | some p => p.1 :: pieces c p.2 | none => [s]
 | [] => rfl
 | x :: r => by
  have ih := pieces_cut (c := c) r
  rw [pieces, cutB]
  by_cases e : x = c
  ·simp [e]
  ·rw [if_neg e, if_neg e, ih]
   cases cutB c r <;> simp
theorem pieces_len {c : UInt8} : ∀ s : W8, ∀ t ∈ pieces c s, t.length ≤ s.length
 | [], t, h => by simp [pieces] at h; simp [h]
 | x :: r, t, h => by
  have ih := pieces_len (c := c) r
  unfold pieces at h
  split at h
  ·rcases List.mem_cons.1 h with rfl | h
   ·simp
   ·have := ih t h; simp; omega
  ·split at h
   ·simp at h; subst h; simp
   ·rename_i p ps hp
    rcases List.mem_cons.1 h with rfl | h
    ·have := ih p (by rw [hp]; simp); simp; omega
    ·have := ih t (by rw [hp]; simp [h]); simp; omega
theorem pieces_num {c : UInt8} : ∀ s : W8, (pieces c s).length ≤ s.length + 1
 | [] => by simp [pieces]
 | x :: r => by
  have ih := pieces_num (c := c) r
  unfold pieces
  split
  ·simp; omega
  ·split
   ·simp
   ·rename_i p ps hp
    rw [hp] at ih
    simp at ih ⊢
    omega
/-- Without a line feed at the end. -/
def trimN (s : W8) : W8 := if s.getLast? = some 10 then s.dropLast else s
theorem trim_app (t : W8) : trimN (t ++ [10]) = t := by simp [trimN]
theorem trim_len (s : W8) : (trimN s).length ≤ s.length := by unfold trimN; split <;> simp
/-- A number, as far as it can be read. -/
def atoiV (s : W8) : Int := match Lib.atoiAll s with | .ok v => v | .range => Lib.atoiSat s | _ => 0
/-- What is read of a line. -/
def insP (t : W8) : Ins :=
 let w := match cutB 32 t with | some p => p.1 | none => t
 let r := match cutB 32 t with | some p => p.2 | none => []
 if idxS wordsL w 0 = 1 then ⟨1, 0, r⟩ else ⟨idxS wordsL w 0, atoiV r, []⟩
def parseL (s : W8) : Code := (pieces 10 (trimN s)).map insP
/-- What Read returns. -/
def readB (s : W8) : Code × Int := if rightC (parseL s) = true ∧ listC (parseL s) = s then (parseL s, 0) else ([], 2)
theorem digits_parse : ∀ (s : W8) (acc : Nat), (∀ c ∈ s, isDigit c = true) → ((acc + 1) * 10 ^ s.length ≤ 10 ^ 18) → Lib.parseUint10 acc s = .ok (s.foldl (fun (n : Int) c => 10 * n + ((c.toNat : Int) - 48)) acc).toNat ∧ 0 ≤ s.foldl (fun (n : Int) c => 10 * n + ((c.toNat : Int) - 48)) acc
 | [], acc, _, _ => by simp [Lib.parseUint10]
 | c :: r, acc, h, hb => by
  have hc := h c (by simp)
  simp only [isDigit, Bool.and_eq_true, decide_eq_true_eq] at hc
  have hpow : 1 ≤ 10 ^ r.length := Nat.one_le_pow _ _ (by decide)
  have e1 : (acc + 1) * 10 ^ (c :: r).length = (10 * (acc + 1)) * 10 ^ r.length := by
   rw [List.length_cons, Nat.pow_succ, Nat.mul_comm (10 ^ r.length) 10, ← Nat.mul_assoc, Nat.mul_comm (acc + 1) 10]
  rw [e1] at hb
  have hle : (acc * 10 + (c.toNat - 48) + 1) * 10 ^ r.length ≤ 10 * (acc + 1) * 10 ^ r.length := Nat.mul_le_mul_right _ (by omega)
  have h18 : 10 * (acc + 1) ≤ 10 ^ 18 := Nat.le_trans (Nat.le_mul_of_pos_right _ hpow) hb
  have ih := digits_parse r (acc * 10 + (c.toNat - 48)) (fun d hd => h d (by simp [hd])) (Nat.le_trans hle hb)
  have e2 : (10 * (acc : Int) + ((c.toNat : Int) - 48)) = ((acc * 10 + (c.toNat - 48) : Nat) : Int) := by omega
  rw [List.foldl_cons, e2]
  refine ⟨?_, ih.2⟩
  rw [← ih.1, Lib.parseUint10, if_pos hc, if_neg (by omega), if_neg (by omega)]
theorem parseMag_dec (n : Nat) (h : n < 10 ^ 17) : Lib.parseMag (Lib.decDigits n) = .ok n := by
 unfold Lib.parseMag
 rw [if_neg (decDigits_ne n)]
 have hl := decDigits_len n 16 (by omega)
 have hpow : 10 ^ (Lib.decDigits n).length ≤ 10 ^ 17 := Nat.pow_le_pow_right (by decide) (by omega)
 have h1 := digits_parse (Lib.decDigits n) 0 (decDigits_digit n) (by omega)
 have h2 := decDigits_val n
 unfold digitsV at h2
 simp only [Int.ofNat_zero, Int.natCast_zero] at h1
 rw [h1.1, h2]
 simp
theorem dec_headNot (n : Nat) {c : UInt8} {r : W8} (h : Lib.decDigits n = c :: r) : isDigit c = true := decDigits_digit n c (by rw [h]; simp)
theorem atoiV_itoa {a : Int} (h0 : -1099511627776 ≤ a) (h1 : a ≤ 1099511627776) : atoiV (Lib.itoa a) = a := by
 unfold Lib.itoa
 split
 ·rename_i hn
  have hm := parseMag_dec a.natAbs (by omega)
  have e : Lib.atoiAll (45 :: Lib.decDigits a.natAbs) = .ok a := by
   rw [Lib.atoiAll_minus, hm, Lib.signed]
   rw [if_neg (by omega)]
   congr 1
   omega
  rw [atoiV, e]
 ·rename_i hn
  have hm := parseMag_dec a.toNat (by omega)
  have e : Lib.atoiAll (Lib.decDigits a.toNat) = .ok a := by
   cases hd : Lib.decDigits a.toNat with
   | nil => exact absurd hd (decDigits_ne _)
   | cons c r =>
    have hc := dec_headNot _ hd
    simp only [isDigit, Bool.and_eq_true, decide_eq_true_eq] at hc
    rw [Lib.atoiAll_plain c r (by omega) (by omega), ← hd, hm, Lib.signless]
    rw [if_neg (by omega)]
    congr 1
    omega
  rw [atoiV, e]
def tailC (x : Ins) : W8 := if x.op = 0 ∨ x.op = 12 ∨ x.op = 13 then 32 :: Lib.itoa x.a else if x.op = 1 then 32 :: x.s else []
theorem lineC_tail (x : Ins) : lineC x = (wordC x.op ++ tailC x) ++ [10] := rfl
theorem words_at : ∀ n : Nat, n < 15 → idxS wordsL (wordsL.getD n []) 0 = n ∧ (32 : UInt8) ∉ wordsL.getD n [] ∧ (10 : UInt8) ∉ wordsL.getD n [] := by decide
theorem nameB_no {s : W8} (h : nameB s = true) : (10 : UInt8) ∉ s := fun hm => by
 simp only [nameB, Bool.and_eq_true] at h
 have h := h.1
 cases s with
 | nil => cases hm
 | cons c r =>
  simp only [wordB, Bool.and_eq_true, decide_eq_true_eq] at h
  have := spanL_all h.2 10 hm
  simp [isLetter, isDigit] at this
theorem itoa_no (a : Int) : (10 : UInt8) ∉ Lib.itoa a := fun hm => by
 have hd : ∀ n, (10 : UInt8) ∉ Lib.decDigits n := fun n h => by
  have := decDigits_digit n 10 h
  simp [isDigit] at this
 unfold Lib.itoa at hm
 split at hm
 ·simp at hm; exact hd _ hm
 ·exact hd _ hm
theorem insP_line {x : Ins} {i n : Nat} (h : formI x i n = true) (hn : n ≤ 1099511627776) : insP (wordC x.op ++ tailC x) = x ∧ (10 : UInt8) ∉ wordC x.op ++ tailC x := by
 obtain ⟨op, a, s⟩ := x
 have hw : ∀ o : Int, 0 ≤ o → o < 15 → idxS wordsL (wordC o) 0 = o ∧ (32 : UInt8) ∉ wordC o ∧ (10 : UInt8) ∉ wordC o := fun o h0 h1 => by
  have := words_at o.toNat (by omega)
  unfold wordC
  refine ⟨?_, this.2⟩
  rw [this.1]
  omega
 unfold formI at h
 simp only at h
 split at h
 ·rename_i e
  subst e
  simp at h
  obtain ⟨⟨rfl, h1⟩, h2⟩ := h
  obtain ⟨w1, w2, w3⟩ := hw 0 (by omega) (by omega)
  have et : tailC ⟨0, a, []⟩ = 32 :: Lib.itoa a := by simp [tailC]
  refine ⟨?_, ?_⟩
  ·rw [et]
   unfold insP
   rw [cut_at _ w2]
   simp only
   rw [w1, if_neg (by omega), atoiV_itoa h1 h2]
  ·rw [et]; simp [w3, itoa_no]
 split at h
 ·rename_i e
  subst e
  simp at h
  obtain ⟨rfl, h2⟩ := h
  obtain ⟨w1, w2, w3⟩ := hw 1 (by omega) (by omega)
  have et : tailC ⟨1, 0, s⟩ = 32 :: s := by simp [tailC]
  refine ⟨?_, ?_⟩
  ·rw [et]
   unfold insP
   rw [cut_at _ w2]
   simp only
   rw [w1, if_pos rfl]
  ·rw [et]; simp [w3, nameB_no h2]
 split at h
 ·rename_i e1 e2 e
  simp at h
  obtain ⟨⟨rfl, h1⟩, h2⟩ := h
  obtain ⟨w1, w2, w3⟩ := hw op (by omega) (by omega)
  have et : tailC ⟨op, a, []⟩ = 32 :: Lib.itoa a := by simp only [tailC]; rw [if_pos (by omega)]
  refine ⟨?_, ?_⟩
  ·rw [et]
   unfold insP
   rw [cut_at _ w2]
   simp only
   rw [w1, if_neg (by omega), atoiV_itoa (by omega) (by omega)]
  ·rw [et]; simp [w3, itoa_no]
 ·rename_i e1 e2 e3
  simp at h
  obtain ⟨⟨⟨rfl, rfl⟩, h1⟩, h2⟩ := h
  obtain ⟨w1, w2, w3⟩ := hw op (by omega) (by omega)
  have et : tailC ⟨op, 0, []⟩ = [] := by simp only [tailC]; rw [if_neg (by omega), if_neg (by omega)]
  refine ⟨?_, ?_⟩
  ·rw [et, List.append_nil]
   unfold insP
   rw [cut_not w2]
   simp only
   rw [w1, if_neg (by omega)]
   rfl
  ·rw [et]; simpa using w3
theorem pieces_app {c : UInt8} {p : W8} (q : W8) (h : c ∉ p) : pieces c (p ++ c :: q) = p :: pieces c q := by rw [pieces_cut, cut_at q h]
theorem pieces_one {c : UInt8} {p : W8} (h : c ∉ p) : pieces c p = [p] := by rw [pieces_cut, cut_not h]
theorem parse_lines : ∀ (l : Code), l ≠ [] → (∀ x ∈ l, insP (wordC x.op ++ tailC x) = x ∧ (10 : UInt8) ∉ wordC x.op ++ tailC x) → ∃ t, listC l = t ++ [10] ∧ (pieces 10 t).map insP = l
 | [], h, _ => absurd rfl h
 | [x], _, h => by
  obtain ⟨h1, h2⟩ := h x (by simp)
  exact ⟨wordC x.op ++ tailC x, by simp [listC, lineC_tail], by rw [pieces_one h2]; simp [h1]⟩
 | x :: y :: r, _, h => by
  obtain ⟨h1, h2⟩ := h x (by simp)
  obtain ⟨t, h3, h4⟩ := parse_lines (y :: r) (by simp) (fun z hz => h z (by simp [List.mem_cons.1 hz]))
  refine ⟨(wordC x.op ++ tailC x) ++ 10 :: t, ?_, ?_⟩
  ·have : listC (x :: y :: r) = lineC x ++ listC (y :: r) := by simp [listC]
   rw [this, h3, lineC_tail]
   simp
  ·rw [pieces_app _ h2, List.map_cons, h1, h4]
theorem right_parts {l : Code} (h : rightC l = true) : 0 < l.length ∧ l.length ≤ 2000 ∧ ∀ i x, l[i]? = some x → formI x i l.length = true := by
 simp only [rightC, Bool.and_eq_true, decide_eq_true_eq] at h
 exact ⟨h.1.1.1, h.1.1.2, fun i x hx => forms_at h.1.2 hx⟩
theorem parse_list {l : Code} (h : rightC l = true) : parseL (listC l) = l := by
 obtain ⟨h1, h2, h3⟩ := right_parts h
 obtain ⟨t, h4, h5⟩ := parse_lines l (fun e => by rw [e] at h1; simp at h1) (fun x hx => by
  obtain ⟨i, hi⟩ := List.getElem?_of_mem hx
  exact insP_line (h3 i x hi) (by omega))
 unfold parseL
 rw [h4, trim_app, h5]
theorem read_list {l : Code} (h : rightC l = true) : readB (listC l) = (l, 0) := by
 unfold readB
 rw [parse_list h, if_pos ⟨h, rfl⟩]
theorem read_cases (s : W8) : (∃ l, rightC l = true ∧ listC l = s ∧ readB s = (l, 0)) ∨ readB s = ([], 2) := by
 unfold readB
 split
 ·rename_i hc; exact .inl ⟨_, hc.1, hc.2, rfl⟩
 ·exact .inr rfl
theorem list_ne {l : Code} (h : rightC l = true) : listC l ≠ [] := fun e => by
 obtain ⟨h1, _⟩ := right_parts h
 cases l with
 | nil => simp at h1
 | cons x r => simp [listC, lineC] at e
theorem read_nil : readB [] = ([], 2) := by
 rcases read_cases [] with ⟨l, h1, h2, _⟩ | h
 ·exact absurd h2 (list_ne h1)
 ·exact h
end Go.Proofs.YtkdhmbhbbciedaaGreatDoor
namespace Go.Proofs.YtkdhmbhbbciedaaGreatDoor
open Go Go.VL Go.Shelf Go.RowKit
theorem indexByte_fun (s : W8) (c : UInt8) : Fun Tryz.prog 145 [.u (.str s), .u (.int .u8 c.toNat)] (· = .u (.int .i64 (Lib.indexByte s c))) :=
 Fun.ofBelow fun k own w vs hsat hrep => by
  obtain ⟨v, u, rfl, hv, hu⟩ := two_args hrep
  have hv := rep_str hv
  have hu := rep_int hu
  subst hv hu
  refine ⟨_, .int _ _, (Tryz.stringslite_IndexByte ⟨s.toArray⟩ c.toNat w).mono ?_⟩
  rintro e w' ⟨h1, rfl⟩
  refine ⟨?_, Below.refl _ _⟩
  rw [h1]
  simp
end Go.Proofs.YtkdhmbhbbciedaaGreatDoor
namespace Go.Proofs.YtkdhmbhbbciedaaGreatDoor
open Go Go.VL
def lastP (c : UInt8) (s : W8) : W8 := (pieces c s).getLast (pieces_ne s)
def splitO (c : UInt8) (s : W8) : List (Nat × Ob) := [(1, .box [.u (.str s)]), (2, .box [.u (.str [c])]), (3, .box [.u (.int .i64 0)])]
theorem lastP_some {c : UInt8} {s p q : W8} (h : cutB c s = some (p, q)) : lastP c s = lastP c q := by
 unfold lastP
 have := pieces_cut (c := c) s
 rw [h] at this
 simp only [this]
 rw [List.getLast_cons (pieces_ne q)]
theorem lastP_none {c : UInt8} {s : W8} (h : cutB c s = none) : lastP c s = s := by
 unfold lastP
 have := pieces_cut (c := c) s
 rw [h] at this
 simp only [this]
 rfl
end Go.Proofs.YtkdhmbhbbciedaaGreatDoor
namespace Go.Proofs.YtkdhmbhbbciedaaGreatDoor
open Go Go.VL Go.Shelf Go.RowKit
/-- A call by value by a contract that keeps all that was there; what it returns is told by a property. -/
theorem Fun.ofB {P : Program} {f : FuncId} {ds : List D} {post : D → Prop} (h : ∀ (k : Kr) (own : Nat → Prop) (w : World) (vs : Array Value), Sat k own [] w → RepL k ds vs →
  Calls P f vs w fun e w' => (∃ v d, e = .returned v ∧ Rep k d v ∧ pureD d = true ∧ post d) ∧ Below w.heap.size w w') : Fun P f ds post := by
 intro k own w vs hsat hhdr hown hrep
 refine (h k own w vs hsat hrep).mono ?_
 rintro e w' ⟨⟨v, d, rfl, hv, hpd, hpo⟩, hb⟩
 refine ⟨v, d, [], 0, k, rfl, ⟨.refl _, fun i hi => hhdr i hi, fun _ _ _ e => .inl e, hown, hb.os, hb.tape, hb.output, hb.size, fun x hx => hb.block x ?_⟩, ⟨fun x o v hm => ?_, fun j ob hj => by simp [getK] at hj, fun x y ox oy g g' b hx => by simp [getK] at hx⟩, hhdr, Nat.le_refl _, hv, hpd, hpo⟩
 ·rcases Nat.lt_or_ge x w.heap.size with h | h
  ·exact h
  ·exact absurd (hown x h) hx
 ·rw [look_heap (hb.block x (hsat.memLt hm))]
  exact hsat.mem x o v hm
theorem err_at {k : Kr} {own obs} {w : World} (h : Sat k own obs w) {g : Nat} (hg : g ∈ ifgs) : ∃ ev, w.cell? ⟨g, 0, none⟩ = some ev ∧ (ev = .nilIface ∨ ∃ te pe, ev = .iface te pe) := by
 obtain ⟨t, v, e⟩ := k.glob.ifc g hg
 exact ⟨_, h.cell e, .inr ⟨t, v, rfl⟩⟩
theorem atoi_fun (s : W8) (hl : s.length ≤ 140737488355328) : Fun Tryz.prog 45 [.u (.str s)] (fun d => ∃ v, d = .tup [.u (.int .i64 (atoiV s)), .u (.oth v)]) :=
 Fun.ofB fun k own w vs hsat hrep => by
  obtain ⟨v, rfl, hv⟩ := one_arg hrep
  have hv := rep_str hv
  subst hv
  have tup : ∀ (n : Int) (u : Value), Rep k (.tup [.u (.int .i64 n), .u (.oth u)]) (.tuple #[.int .i64 n, u]) := fun n u => .tup _ [_, _] rfl fun j d hj => by
   match j, hj with
   | 0, hj => cases hj; exact .u _ _ (.int _ _)
   | 1, hj => cases hj; exact .u _ _ (.oth _)
  have hsz : (⟨s.toArray⟩ : ByteArray).size ≤ 281474976710656 := by
   show s.toArray.size ≤ _
   simp; omega
  unfold atoiV
  cases ha : Lib.atoiAll s with
  | ok n =>
   refine (Tryz.strconv_Atoi_ok ⟨s.toArray⟩ (by omega) n (by simpa using ha) w).mono ?_
   rintro e w' ⟨rfl, h2⟩
   refine ⟨⟨_, _, rfl, tup n .nilIface, by simp [pureD], _, rfl⟩, ?_⟩
   rcases h2 with rfl | ⟨t, rfl⟩
   ·exact Below.refl _ _
   ·exact Lib.bytesWorld_below w _ t
  | range =>
   obtain ⟨ev, h1, h2⟩ := err_at hsat (g := 3) (by simp [ifgs])
   refine (Tryz.strconv_Atoi_range ⟨s.toArray⟩ hsz (by simpa using ha) ev w h1 h2).mono ?_
   rintro e w' ⟨N, rfl, _, _, hb⟩
   refine ⟨⟨_, _, rfl, tup (Lib.atoiSat s) _, by simp [pureD], _, rfl⟩, hb⟩
  | _ =>
   obtain ⟨ev, h1, h2⟩ := err_at hsat (g := 2) (by simp [ifgs])
   refine (Tryz.strconv_Atoi_syntax ⟨s.toArray⟩ hsz (by simp [ha]) ev w h1 h2).mono ?_
   rintro e w' ⟨N, rfl, _, _, hb⟩
   exact ⟨⟨_, _, rfl, tup 0 _, by simp [pureD], _, rfl⟩, hb⟩
end Go.Proofs.YtkdhmbhbbciedaaGreatDoor
namespace Go.Proofs.YtkdhmbhbbciedaaGreatDoor
open Go Go.VL
attribute [local simp] HS exS_some hcons hstep evPure opd uOf putOK St.put St.at getK binD binI binS binB nilD aggD eqUs cmpK lookD lookR rangeD rangeS Go.VL.nextD Go.VL.nextS entryD keyD valU keyU lookK mkV entD_nil allUE makeMapD mapUpdD mapEff updK valM Key.kk shiftI arith unD convD pickD loadD cellsAt fieldAddrD fieldD indexAddrD indexSlD arrAddr indexD sliceD cutD lenD minmaxD nilCheckD buildD fillD cellsD isOne ones setAll mkAgg allU allocD boxD storeD St.add buildSliceD appendD rowsOf makeD setOb getK_setOb getK_del getK_cons stripL strip guardTmp entry chunks zcells valD argsV argsW argW argU1 argU0 argsU0 argsU1 calleeOf scalarD scalarU delAll effD St.effS RK_seq RK_seq_ret RK_seq_exit RK_blk RK_blk_ret RK_blk_exit RK_loop RK_loop_ret RK_loop_exit RK_done vs_seq vs_block vs_cond vs_region vs_loop applyW mkD rdIds lentIds callOf calleeOf freeOp D.ids Op.operands Call.operands isEffOp makeIfD makeFuncD typeAssertD conc concs conc1 uOfV panicD IntKind.bits allU2 List.take_of_length_le List.range_succ HR_nil HR_cons HR_grd v2_seq v2_block v2_skip v2_exit v2_ret v2_cond v2_region v2_draw v2_loop RN_0 RN_done RN_seq RN_seq_ret RN_seq_exit RN_blk RN_blk_ret RN_blk_exit RN_loop RN_loop_ret RN_loop_exit Cnd_tf Cnd_ft EndV getK_append frzN frz1 frz_env frz_obs St.frz St.frzS frzS fv fzVec fzMap fzBox frzObS frz_entD frz_rowsD frz frzOb normD normU norm1 normOb St.norm St.lp St.only keepE wkE wkO wkU Ob.under D.under under_rowsD under_entD H4_nil H4_cons H4_grd h4s resD oneOrTup pureD List.zipIdx_cons List.zipIdx_nil List.map_cons List.map_nil Nat.zero_add
attribute [local irreducible] V G H HD HD2 HD4 HD4h RetX RunK Eff CallP CallV EndOK Fun Ret FinOK LoopI LoopW EndW HR vs2 RN Cnd H4
abbrev expD (e : Exp) : D := .u (.agg e.row)
abbrev intD (n : Int) : D := .u (.int .i64 n)
theorem ne_facts {i nx : Nat} (h : i < nx) : ¬ i = nx ∧ ¬ nx = i ∧ (∀ k, ¬ i = nx + k) ∧ ∀ k, ¬ nx + k = i := ⟨by omega, by omega, fun k => by omega, fun k => by omega⟩
theorem unit_ret (l : List Tok) (p : Nat) (i nx : Nat) (hi : i < nx) (hp : p < l.length) (hl : TokOK l) :
  RetX Tryz.prog 183 [.ptr i 0] [(i, pOb l p)] nx (PPost l i nx intD (unitP l p)) := by
 have hne := ne_facts hi
 have hh1 := fun nx' (h : nx ≤ nx') => has_ret l p [99, 111, 105, 110, 115] i nx' (by omega) hp hl.len
 have hh2 := fun nx' (h : nx ≤ nx') => has_ret l p [100, 97, 121, 115] i nx' (by omega) hp hl.len
 have hh3 := fun nx' (h : nx ≤ nx') => has_ret l p [112, 101, 114] i nx' (by omega) hp hl.len
 unfold unitP
 by_cases h1 : isB l p [99, 111, 105, 110, 115] = true
 ·simp only [h1, if_true] at hh1 ⊢
  refine RetX.runW Tryz.func183 Tryz.ntmps183 rfl (by simp) fun Γ hn hpan => ?_
  repeat' (first
  | (refine V_run rfl ?_; simp [hne])
  | (refine CallP.ok1 (hh1 _ (by first | omega | (simp; done) | (simp; omega) | fail)) (by first | (simp [hne, getK_cons, getK, getK_append, getK_del]; done) | fail) (by rfl) (by first | assumption | (simp; done) | fail) (by rfl) (by simp) ?_; (try simp [hne]))
  | fail)
  (refine EndW.h Tryz.results183 ?_; simp)
  exact PPost.at_ok rfl rfl (by first | rfl | simp [del])
 ·simp only [h1, Bool.false_eq_true, if_false] at hh1 ⊢
  by_cases h2 : isB l p [100, 97, 121, 115] = true
  ·simp only [h2, if_true] at hh2 ⊢
   refine RetX.runW Tryz.func183 Tryz.ntmps183 rfl (by simp) fun Γ hn hpan => ?_
   repeat' (first
  | (refine V_run rfl ?_; simp [hne])
  | (refine CallP.ok1 (hh1 _ (by first | omega | (simp; done) | (simp; omega) | fail)) (by first | (simp [hne, getK_cons, getK, getK_append, getK_del]; done) | fail) (by rfl) (by first | assumption | (simp; done) | fail) (by rfl) (by simp) ?_; (try simp [hne]))
  | (refine CallP.ok1 (hh2 _ (by first | omega | (simp; done) | (simp; omega) | fail)) (by first | (simp [hne, getK_cons, getK, getK_append, getK_del]; done) | fail) (by rfl) (by first | assumption | (simp; done) | fail) (by rfl) (by simp) ?_; (try simp [hne]))
  | fail)
   (refine EndW.h Tryz.results183 ?_; simp)
   exact PPost.at_ok rfl rfl (by first | rfl | simp [del])
  ·simp only [h2, Bool.false_eq_true, if_false] at hh2 ⊢
   by_cases h3 : isB l p [112, 101, 114] = true
   ·simp only [h3, if_true] at hh3 ⊢
    have hw := fun nx' (h : nx ≤ nx') => want_ret l (p + 1) [[109, 105, 108, 108, 101]] i nx' (by omega) (isB_lt hl h3) hl (by simp)
    cases hr : wantP l (p + 1) [[109, 105, 108, 108, 101]] with
    | ok a q =>
     simp only [hr, List.map_cons, List.map_nil] at hw
     refine RetX.runW Tryz.func183 Tryz.ntmps183 rfl (by simp) fun Γ hn hpan => ?_
     repeat' (first
  | (refine V_run rfl ?_; simp [hne])
  | (refine CallP.ok1 (hh1 _ (by first | omega | (simp; done) | (simp; omega) | fail)) (by first | (simp [hne, getK_cons, getK, getK_append, getK_del]; done) | fail) (by rfl) (by first | assumption | (simp; done) | fail) (by rfl) (by simp) ?_; (try simp [hne]))
  | (refine CallP.ok1 (hh2 _ (by first | omega | (simp; done) | (simp; omega) | fail)) (by first | (simp [hne, getK_cons, getK, getK_append, getK_del]; done) | fail) (by rfl) (by first | assumption | (simp; done) | fail) (by rfl) (by simp) ?_; (try simp [hne]))
  | (refine CallP.ok1 (hh3 _ (by first | omega | (simp; done) | (simp; omega) | fail)) (by first | (simp [hne, getK_cons, getK, getK_append, getK_del]; done) | fail) (by rfl) (by first | assumption | (simp; done) | fail) (by rfl) (by simp) ?_; (try simp [hne]))
  | (refine CallP.ok1 (hw _ (by first | omega | (simp; done) | (simp; omega) | fail)) (by first | (simp [hne, getK_cons, getK, getK_append, getK_del]; done) | fail) (by rfl) (by first | assumption | (simp; done) | fail) (by rfl) (by simp) ?_; (try simp [hne]))
  | (refine CallP_frzV (by first | rfl | fail) ?_; simp [hne, frzN, frz1, frz_env, frz_obs, St.frz, St.frzS, frzS, fv, fzVec, fzMap, fzBox, frzObS, frz_entD, frz_rowsD, del, frz, frzOb])
  | fail)
     (refine EndW.wk { n := _, env := [(2, intD 4)], obs := [(i, pOb l q)], next := nx } (Wk.cut rfl (by simp [hn]) (by simp [wkO, getK_cons, getK, getK_append, getK_del, Ob.under, D.under, under_rowsD, under_entD, hne, hi]) (by simp [wkU, keepE, getK_cons, getK, D.under, hne, hi]) (by simp [wkE, keepE, getK_cons, getK, hne, hi])) (EndW.here ?_); (first | (refine EndOK.fin (.inr rfl) ?_) | (refine EndOK.fin (.inl rfl) ?_)); simp [resD, oneOrTup, Tryz.results183]; refine FinOK.here (by simp) ?_; try simp)
     exact PPost.at_ok rfl rfl (by first | rfl | simp [del])
    | stop pos e =>
     simp only [hr, List.map_cons, List.map_nil] at hw
     refine RetX.runW Tryz.func183 Tryz.ntmps183 rfl (by simp) fun Γ hn hpan => ?_
     repeat' (first
  | (refine V_run rfl ?_; simp [hne])
  | (refine CallP.ok1 (hh1 _ (by first | omega | (simp; done) | (simp; omega) | fail)) (by first | (simp [hne, getK_cons, getK, getK_append, getK_del]; done) | fail) (by rfl) (by first | assumption | (simp; done) | fail) (by rfl) (by simp) ?_; (try simp [hne]))
  | (refine CallP.ok1 (hh2 _ (by first | omega | (simp; done) | (simp; omega) | fail)) (by first | (simp [hne, getK_cons, getK, getK_append, getK_del]; done) | fail) (by rfl) (by first | assumption | (simp; done) | fail) (by rfl) (by simp) ?_; (try simp [hne]))
  | (refine CallP.ok1 (hh3 _ (by first | omega | (simp; done) | (simp; omega) | fail)) (by first | (simp [hne, getK_cons, getK, getK_append, getK_del]; done) | fail) (by rfl) (by first | assumption | (simp; done) | fail) (by rfl) (by simp) ?_; (try simp [hne]))
  | (refine CallP.pan1 (hw _ (by first | omega | (simp; done) | (simp; omega) | fail)) (by first | (simp [hne, getK_cons, getK, getK_append, getK_del]; done) | fail) (by rfl) (by first | assumption | (simp; done) | fail) (by rfl) (by simp) ?_; rintro ob' ⟨q', rfl⟩; refine ⟨_, Wk.refl _, ?_⟩)
  | (refine CallP_frzV (by first | rfl | fail) ?_; simp [hne, frzN, frz1, frz_env, frz_obs, St.frz, St.frzS, frzS, fv, fzVec, fzMap, fzBox, frzObS, frz_entD, frz_rowsD, del, frz, frzOb])
  | fail)
     (refine hpan _ _ (PanG.k ([(i, pOb l q')]) (nx) (by simp [hn, hi, getK_append, getK_del, getK_cons, getK] <;> omega) ?_); try simp)
     exact PPost.at_stop rfl
   ·simp only [h3, Bool.false_eq_true, if_false] at hh3 ⊢
    refine RetX.runW Tryz.func183 Tryz.ntmps183 rfl (by simp) fun Γ hn hpan => ?_
    repeat' (first
  | (refine V_run rfl ?_; simp [hne])
  | (refine CallP.ok1 (hh1 _ (by first | omega | (simp; done) | (simp; omega) | fail)) (by first | (simp [hne, getK_cons, getK, getK_append, getK_del]; done) | fail) (by rfl) (by first | assumption | (simp; done) | fail) (by rfl) (by simp) ?_; (try simp [hne]))
  | (refine CallP.ok1 (hh2 _ (by first | omega | (simp; done) | (simp; omega) | fail)) (by first | (simp [hne, getK_cons, getK, getK_append, getK_del]; done) | fail) (by rfl) (by first | assumption | (simp; done) | fail) (by rfl) (by simp) ?_; (try simp [hne]))
  | (refine CallP.ok1 (hh3 _ (by first | omega | (simp; done) | (simp; omega) | fail)) (by first | (simp [hne, getK_cons, getK, getK_append, getK_del]; done) | fail) (by rfl) (by first | assumption | (simp; done) | fail) (by rfl) (by simp) ?_; (try simp [hne]))
  | fail)
    (refine EndW.h Tryz.results183 ?_; simp)
    exact PPost.at_ok rfl rfl (by first | rfl | simp [del])
theorem glob_words : globD 0 = .u (.row (wordsL.map .str) 0) := by
 simp [globD, globs, wordsL, uOf]
theorem line_fun (x : Ins) (h0 : 0 ≤ x.op) (h1 : x.op < 15) (ha : -9223372036854775808 ≤ x.a) (hb : x.a ≤ 9223372036854775807) (hsl : x.s.length ≤ 1000000) : Fun Tryz.prog 50 [.u (.agg [.int .i64 x.op, .int .i64 x.a, .str x.s])] (· = .u (.str (lineC x))) := by
 have hgw := glob_words
 have hwl : wordsL.length = 15 := rfl
 have hu : wordsL[x.op.toNat]? = some (wordC x.op) := by
  rw [wordC, List.getD, List.getElem?_eq_getElem (by omega)]; rfl
 have hu' : ∀ h, wordsL[x.op.toNat]'h = wordC x.op := fun h => (List.getElem?_eq_some_iff.1 hu).2
 have hit := itoa_fun x.a ha hb
 have hkn : ((x.op.toNat : Nat) : Int) = x.op := by omega
 have hs : ∃ W, W = wordC x.op := ⟨_, rfl⟩
 obtain ⟨W, hW⟩ := hs
 unfold lineC
 have hwl2 : ∀ w ∈ wordsL, w.length ≤ 5 := by decide
 have hWl : (wordC x.op).length ≤ 5 := hwl2 _ (List.mem_of_getElem? hu)
 rw [← hW] at hu hu' hWl ⊢
 clear hW hwl2
 have hil := Lib.itoa_length_le x.a ha hb
 generalize Lib.itoa x.a = T at *
 refine Fun.run Tryz.func50 Tryz.ntmps50 Tryz.results50 rfl (by simp) fun Γ hn => ?_; simp only [entry, List.zipIdx_cons, List.zipIdx_nil, List.map_cons, List.map_nil, Nat.zero_add]
 by_cases e0 : x.op = 0
 ·rw [e0] at hu' ⊢
  have hwx : wordsL[0]'(by decide) = W := hu' (by decide)
  clear hu hu' hkn
  repeat' (first
  | (refine V_run rfl ?_; simp [hgw, hwl, hwx])
  | (refine And.intro (by omega) ?_)
  | (refine CallP.f2 rfl (hit) (by first | simp [hgw, hwl, hwx] <;> rfl | fail) ?_; simp [hgw, hwl, hwx])
  | fail)
  (refine Pst.of ?_; simp)
 by_cases e12 : x.op = 12
 ·rw [e12] at hu' ⊢
  have hwx : wordsL[12]'(by decide) = W := hu' (by decide)
  clear hu hu' hkn
  repeat' (first
  | (refine V_run rfl ?_; simp [hgw, hwl, hwx])
  | (refine And.intro (by omega) ?_)
  | (refine CallP.f2 rfl (hit) (by first | simp [hgw, hwl, hwx] <;> rfl | fail) ?_; simp [hgw, hwl, hwx])
  | fail)
  (refine Pst.of ?_; simp)
 by_cases e13 : x.op = 13
 ·rw [e13] at hu' ⊢
  have hwx : wordsL[13]'(by decide) = W := hu' (by decide)
  clear hu hu' hkn
  repeat' (first
  | (refine V_run rfl ?_; simp [hgw, hwl, hwx])
  | (refine And.intro (by omega) ?_)
  | (refine CallP.f2 rfl (hit) (by first | simp [hgw, hwl, hwx] <;> rfl | fail) ?_; simp [hgw, hwl, hwx])
  | fail)
  (refine Pst.of ?_; simp)
 by_cases e1 : x.op = 1
 ·rw [e1] at hu' ⊢
  have hwx : wordsL[1]'(by decide) = W := hu' (by decide)
  clear hu hu' hkn
  repeat' (first
  | (refine V_run rfl ?_; simp [hgw, hwl, hwx])
  | (refine And.intro (by omega) ?_)
  | fail)
  (refine Pst.of ?_; simp)
 repeat' (first
  | (refine V_run rfl ?_; simp [hgw, hwl, hu, hu', h0, h1, hkn, e0, e1, e12, e13])
  | (refine And.intro (by omega) ?_)
  | fail)
 (refine Pst.of ?_; simp)
end Go.Proofs.YtkdhmbhbbciedaaGreatDoor
namespace Go.Proofs.YtkdhmbhbbciedaaGreatDoor
open Go Go.VL Go.Shelf Go.RowKit
attribute [local simp] HS exS_some hcons hstep evPure opd uOf putOK St.put St.at getK binD binI binS binB nilD aggD eqUs cmpK lookD lookR rangeD rangeS Go.VL.nextD Go.VL.nextS entryD keyD valU keyU lookK mkV entD_nil allUE makeMapD mapUpdD mapEff updK valM Key.kk shiftI arith unD convD pickD loadD cellsAt fieldAddrD fieldD indexAddrD indexSlD arrAddr indexD sliceD cutD lenD minmaxD nilCheckD buildD fillD cellsD isOne ones setAll mkAgg allU allocD boxD storeD St.add buildSliceD appendD rowsOf makeD setOb getK_setOb getK_del getK_cons stripL strip guardTmp entry chunks zcells valD argsV argsW argW argU1 argU0 argsU0 argsU1 calleeOf scalarD scalarU delAll effD St.effS RK_seq RK_seq_ret RK_seq_exit RK_blk RK_blk_ret RK_blk_exit RK_loop RK_loop_ret RK_loop_exit RK_done vs_seq vs_block vs_cond vs_region vs_loop applyW mkD rdIds lentIds callOf calleeOf freeOp D.ids Op.operands Call.operands isEffOp makeIfD makeFuncD typeAssertD conc concs conc1 uOfV panicD IntKind.bits allU2 List.take_of_length_le List.range_succ HR_nil HR_cons HR_grd v2_seq v2_block v2_skip v2_exit v2_ret v2_cond v2_region v2_draw v2_loop RN_0 RN_done RN_seq RN_seq_ret RN_seq_exit RN_blk RN_blk_ret RN_blk_exit RN_loop RN_loop_ret RN_loop_exit Cnd_tf Cnd_ft EndV getK_append frzN frz1 frz_env frz_obs St.frz St.frzS frzS fv fzVec fzMap fzBox frzObS frz_entD frz_rowsD frz frzOb normD normU norm1 normOb St.norm St.lp St.only keepE wkE wkO wkU Ob.under D.under under_rowsD under_entD H4_nil H4_cons H4_grd h4s resD oneOrTup pureD List.zipIdx_cons List.zipIdx_nil List.map_cons List.map_nil Nat.zero_add
attribute [local irreducible] V G H HD HD2 HD4 HD4h RetX RunK Eff CallP CallV EndOK Fun Ret FinOK LoopI LoopW EndW HR vs2 RN Cnd H4
theorem index1_fun (s : W8) (c : UInt8) : Fun Tryz.prog 119 [.u (.str s), .u (.str [c])] (· = .u (.int .i64 (Lib.indexByte s c))) := by
 have hib := indexByte_fun s c
 by_cases he : s = [c]
 ·subst he
  have e : Lib.indexByte [c] c = 0 := by simp [Lib.indexByte]
  rw [e]
  refine Fun.run Tryz.func119 Tryz.ntmps119 Tryz.results119 rfl (by simp) fun Γ hn => ?_
  repeat' (first
  | (refine V_run rfl ?_; simp)
  | fail)
  (refine Pst.of ?_; simp)
 ·generalize Lib.indexByte s c = n at hib ⊢
  have he' : ¬ [c] = s := fun e => he e.symm
  refine Fun.run Tryz.func119 Tryz.ntmps119 Tryz.results119 rfl (by simp) fun Γ hn => ?_
  repeat' (first
  | (refine V_run rfl ?_; simp [he', he])
  | (refine CallP.f2 rfl (hib) (by first | simp [he', he] <;> rfl | fail) ?_; simp [he', he])
  | fail)
  (refine Pst.of ?_; simp)
theorem index_fun (s : W8) (c : UInt8) : Fun Tryz.prog 117 [.u (.str s), .u (.str [c])] (· = .u (.int .i64 (Lib.indexByte s c))) := by
 have hib := index1_fun s c
 refine Fun.run Tryz.func117 Tryz.ntmps117 Tryz.results117 rfl (by simp) fun Γ hn => ?_
 repeat' (first
  | (refine V_run rfl ?_; simp)
  | (refine CallP.f2 rfl (hib) (by first | simp <;> rfl | fail) ?_; simp)
  | fail)
 (refine Pst.of ?_; simp)
/-- What Cut returns. -/
def cutU (c : UInt8) (s : W8) : D := match cutB c s with
 | some p => .tup [.u (.str p.1), .u (.str p.2), .u (.bool true)]
 | none => .tup [.u (.str s), .u (.str []), .u (.bool false)]
theorem cut1_fun (s : W8) (c : UInt8) (hl : s.length ≤ 140737488355328) : Fun Tryz.prog 77 [.u (.str s), .u (.str [c])] (· = cutU c s) := by
 have hib := index1_fun s c
 have hix := index_cut (c := c) s
 unfold cutU
 cases hc : cutB c s with
 | none =>
  rw [hc] at hix
  simp only at hix
  rw [hix] at hib
  refine Fun.run Tryz.func77 Tryz.ntmps77 Tryz.results77 rfl (by simp) fun Γ hn => ?_
  repeat' (first
  | (refine V_run rfl ?_; simp)
  | (refine CallP.f2 rfl (hib) (by first | simp <;> rfl | fail) ?_; simp)
  | fail)
  (refine Pst.of ?_; simp)
 | some pq =>
  obtain ⟨p, q⟩ := pq
  rw [hc] at hix
  simp only at hix ⊢
  rw [hix] at hib
  obtain ⟨rfl, _⟩ := cut_some hc
  simp at hl
  have e1 : List.drop (p.length + 1) (p ++ c :: q) = q := by simp [List.drop_append]
  have e2 : List.take p.length (p ++ c :: q) = p := by simp
  have b1 : p.length ≤ (p ++ c :: q).length := by simp
  have b2 : p.length + 1 ≤ (p ++ c :: q).length := by simp
  refine Fun.run Tryz.func77 Tryz.ntmps77 Tryz.results77 rfl (by simp) fun Γ hn => ?_
  repeat' (first
  | (refine V_run rfl ?_; simp [e1, e2, b1, b2])
  | (refine And.intro (by omega) ?_)
  | (refine ⟨hC _ (by kernel_rfl), hk _ (RN_K 8 _ _ _ ?_)⟩; clear hC hk C k; simp [e1, e2, b1, b2])
  | (refine V_dx rfl (by kernel_rfl) (by first | (simp [hn]; done) | (simp [hn]; omega) | fail) fun C k hC hk => ?_; simp [e1, e2, b1, b2])
  | (refine CallP.f2 rfl (hib) (by first | simp [e1, e2, b1, b2] <;> rfl | fail) ?_; simp [e1, e2, b1, b2])
  | fail)
  (refine Pst.of ?_; simp)
theorem cut_fun (s : W8) (c : UInt8) (hl : s.length ≤ 140737488355328) : Fun Tryz.prog 43 [.u (.str s), .u (.str [c])] (· = cutU c s) := by
 have hib := cut1_fun s c hl
 unfold cutU at hib ⊢
 cases hc : cutB c s <;> rw [hc] at hib <;> simp only at hib ⊢
 all_goals
  refine Fun.run Tryz.func43 Tryz.ntmps43 Tryz.results43 rfl (by simp) fun Γ hn => ?_
  repeat' (first
  | (refine V_run rfl ?_; simp)
  | (refine CallP.f2 rfl (hib) (by first | simp <;> rfl | fail) ?_; simp)
  | fail)
  (refine Pst.of ?_; simp)
theorem hasSuffix_fun (s : W8) (hl : s.length ≤ 140737488355328) : Fun Tryz.prog 118 [.u (.str s), .u (.str [10])] (· = .u (.bool (decide (s.getLast? = some 10)))) := by
 rcases List.eq_nil_or_concat s with rfl | ⟨t, c, rfl⟩
 ·refine Fun.run Tryz.func118 Tryz.ntmps118 Tryz.results118 rfl (by simp) fun Γ hn => ?_
  repeat' (first
  | (refine V_run rfl ?_; simp)
  | fail)
  (refine Pst.of ?_; simp)
 ·rw [List.concat_eq_append] at hl ⊢
  have e1 : List.drop t.length (t ++ [c]) = [c] := by simp
  have e2 : (t ++ [c]).getLast? = some c := by simp
  simp at hl
  rw [e2]
  refine Fun.run Tryz.func118 Tryz.ntmps118 Tryz.results118 rfl (by simp) fun Γ hn => ?_
  repeat' (first
  | (refine Cnd.of (fun hc => ?_) (fun hc => ?_) <;> (try (exfalso; omega)) <;> (try simp [e1]))
  | (refine V_run rfl ?_; simp [e1])
  | (refine And.intro (by omega) ?_)
  | fail)
  (refine Pst.of ?_; simp)
theorem trim1_fun (s : W8) (hl : s.length ≤ 140737488355328) : Fun Tryz.prog 76 [.u (.str s), .u (.str [10])] (· = .u (.str (trimN s))) := by
 have hsf := hasSuffix_fun s hl
 unfold trimN
 by_cases hb : s.getLast? = some 10
 ·rw [decide_eq_true hb] at hsf
  rw [if_pos hb]
  obtain ⟨t, rfl⟩ : ∃ t, s = t ++ [10] := List.getLast?_eq_some_iff.1 hb
  have e1 : List.take t.length (t ++ [10]) = t := by simp
  simp at hl
  refine Fun.run Tryz.func76 Tryz.ntmps76 Tryz.results76 rfl (by simp) fun Γ hn => ?_
  repeat' (first
  | (refine V_run rfl ?_; simp [e1])
  | (refine And.intro (by omega) ?_)
  | (refine CallP.f2 rfl (hsf) (by first | simp [e1] <;> rfl | fail) ?_; simp [e1])
  | fail)
  (refine Pst.of ?_; simp)
 ·rw [decide_eq_false hb] at hsf
  rw [if_neg hb]
  refine Fun.run Tryz.func76 Tryz.ntmps76 Tryz.results76 rfl (by simp) fun Γ hn => ?_
  repeat' (first
  | (refine V_run rfl ?_; simp)
  | (refine CallP.f2 rfl (hsf) (by first | simp <;> rfl | fail) ?_; simp)
  | fail)
  (refine Pst.of ?_; simp)
theorem trim_fun (s : W8) (hl : s.length ≤ 140737488355328) : Fun Tryz.prog 42 [.u (.str s), .u (.str [10])] (· = .u (.str (trimN s))) := by
 have hsf := trim1_fun s hl
 refine Fun.run Tryz.func42 Tryz.ntmps42 Tryz.results42 rfl (by simp) fun Γ hn => ?_
 repeat' (first
  | (refine V_run rfl ?_; simp)
  | (refine CallP.f2 rfl (hsf) (by first | simp <;> rfl | fail) ?_; simp)
  | fail)
 (refine Pst.of ?_; simp)
end Go.Proofs.YtkdhmbhbbciedaaGreatDoor
namespace Go.Proofs.YtkdhmbhbbciedaaGreatDoor
open Go Go.VL
attribute [local simp] HS exS_some hcons hstep evPure opd uOf putOK St.put St.at getK binD binI binS binB nilD aggD eqUs cmpK lookD lookR rangeD rangeS Go.VL.nextD Go.VL.nextS entryD keyD valU keyU lookK mkV entD_nil allUE makeMapD mapUpdD mapEff updK valM Key.kk shiftI arith unD convD pickD loadD cellsAt fieldAddrD fieldD indexAddrD indexSlD arrAddr indexD sliceD cutD lenD minmaxD nilCheckD buildD fillD cellsD isOne ones setAll mkAgg allU allocD boxD storeD St.add buildSliceD appendD rowsOf makeD setOb getK_setOb getK_del getK_cons stripL strip guardTmp entry chunks zcells valD argsV argsW argW argU1 argU0 argsU0 argsU1 calleeOf scalarD scalarU delAll effD St.effS RK_seq RK_seq_ret RK_seq_exit RK_blk RK_blk_ret RK_blk_exit RK_loop RK_loop_ret RK_loop_exit RK_done vs_seq vs_block vs_cond vs_region vs_loop applyW mkD rdIds lentIds callOf calleeOf freeOp D.ids Op.operands Call.operands isEffOp makeIfD makeFuncD typeAssertD conc concs conc1 uOfV panicD IntKind.bits allU2 List.take_of_length_le List.range_succ HR_nil HR_cons HR_grd v2_seq v2_block v2_skip v2_exit v2_ret v2_cond v2_region v2_draw v2_loop RN_0 RN_done RN_seq RN_seq_ret RN_seq_exit RN_blk RN_blk_ret RN_blk_exit RN_loop RN_loop_ret RN_loop_exit Cnd_tf Cnd_ft EndV getK_append frzN frz1 frz_env frz_obs St.frz St.frzS frzS fv fzVec fzMap fzBox frzObS frz_entD frz_rowsD frz frzOb normD normU norm1 normOb St.norm St.lp St.only keepE wkE wkO wkU Ob.under D.under under_rowsD under_entD H4_nil H4_cons H4_grd h4s resD oneOrTup pureD List.zipIdx_cons List.zipIdx_nil List.map_cons List.map_nil Nat.zero_add
attribute [local irreducible] V G H HD HD2 HD4 HD4h RetX RunK Eff CallP CallV EndOK Fun Ret FinOK LoopI LoopW EndW HR vs2 RN Cnd H4
theorem split_iter (c : UInt8) (s : W8) (hl : s.length ≤ 140737488355328) : Iter Tryz.prog 115 [.ptr 2 0, .ptr 1 0, .ptr 3 0] (splitO c s) (splitO c (lastP c s)) ((pieces c s).map fun t => .u (.str t)) := by
 intro k0 l L A N hdis hN hY
 have hNle : ∀ i, N 0 ≤ N i := fun i => by
  induction i with
  | zero => omega
  | succ i ih => exact Nat.le_trans ih (hN i)
 simp only [splitO] at hdis ⊢
 have hdis1 : ∀ i j ob, getK [(1, Ob.box [D.u (.str s)]), (2, Ob.box [D.u (.str [c])]), (3, Ob.box [D.u (.int .i64 0)])] j = some ob → getK (A i) j = none := hdis
 have hdis2 : ∀ (t : W8) i j ob, getK [(1, Ob.box [D.u (.str t)]), (2, Ob.box [D.u (.str [c])]), (3, Ob.box [D.u (.int .i64 0)])] j = some ob → getK (A i) j = none := fun t i j ob h => by
  simp only [getK_cons] at h hdis1
  by_cases h1 : j = 1
  ·exact hdis1 i j _ (if_pos h1)
  ·rw [if_neg h1] at h
   exact hdis1 i j ob (by rw [if_neg h1]; exact h)
 generalize hls : lastP c s = ls
 refine RetI.of_body Tryz.func115 Tryz.ntmps115 rfl (by simp) fun Γ hn hyc hpan => ?_; simp only [entry, List.zipIdx_cons, List.zipIdx_nil, List.map_cons, List.map_nil, Nat.zero_add]
 rw [hold_at 8, hold_end 10]
 repeat' (first
  | (refine V_runH rfl ?_; simp)
  | fail)
 refine V_loopN (α := { p : Nat × W8 // (pieces c s).drop p.1 = pieces c p.2 ∧ p.2.length ≤ s.length ∧ ls = lastP c p.2 }) [0, 1, 2, 3] (fun _ => []) (fun p => [(1, .box [.u (.str p.1.2)]), (2, .box [.u (.str [c])]), (3, .box [.u (.int .i64 0)])] ++ A p.1.1) (fun p => N p.1.1) (fun p => p.1.2.length) ⟨(0, s), by simp, by simp, hls.symm⟩ ?_ ?_
 ·exact (Wk.env rfl rfl rfl (by simp [wkE, St.lp, keepE, getK_cons, getK] <;> (try (intros; simp_all; done)) <;> (try (intros; omega)) <;> (try grind)))
 rintro ⟨⟨i, t⟩, h1, h2, h3⟩
 simp
 have hix := index_fun t c
 rw [index_cut] at hix
 have hpc := pieces_cut (c := c) t
 simp only at h1 h2 h3
 have hN0 := hNle i
 have hlt : i < (pieces c s).length := by
  rcases Nat.lt_or_ge i (pieces c s).length with h | h
  ·exact h
  ·rw [List.drop_eq_nil_of_le h] at h1
   exact absurd h1.symm (pieces_ne t)
 cases hc : cutB c t with
 | none =>
  rw [hc] at hix hpc
  simp only at hix hpc
  have h3' : ls = t := h3.trans (lastP_none hc)
  have hlen : (pieces c s).length = i + 1 := by
   have := congrArg List.length h1
   rw [hpc] at this
   simp at this
   omega
  have hget : ((pieces c s).map fun t => D.u (.str t))[i]? = some (.u (.str t)) := by
   have : ((pieces c s).drop i)[0]? = some t := by rw [h1, hpc]; rfl
   rw [List.getElem?_drop] at this
   simp only [Nat.add_zero] at this
   rw [List.getElem?_map, this]
   rfl
  repeat' (first
  | (refine V_runH rfl ?_; simp)
  | (refine CallP.f2 rfl (hix) (by first | simp <;> rfl | fail) ?_; simp)
  | fail)
  refine V_yield0 2 hpan hyc rfl rfl ?_
  simp
  refine YS.of [(1, .box [.u (.str t)]), (2, .box [.u (.str [c])]), (3, .box [.u (.int .i64 0)])] (hY i _ hget) rfl (fun _ => rfl) (hdis2 t i) rfl (by simp) ?_
  rintro d o n hn2 ⟨rfl, rfl, rfl⟩
  simp
  repeat' (first | fail)
  (refine EndW.h Tryz.results115 ?_; simp)
  rw [hlen, h3']
  exact ⟨hNle _, ⟨rfl, rfl⟩, rfl⟩
 | some pq =>
  obtain ⟨p, q⟩ := pq
  rw [hc] at hix hpc
  simp only at hix hpc
  have hget : ((pieces c s).map fun t => D.u (.str t))[i]? = some (.u (.str p)) := by
   have : ((pieces c s).drop i)[0]? = some p := by rw [h1, hpc]; rfl
   rw [List.getElem?_drop] at this
   simp only [Nat.add_zero] at this
   rw [List.getElem?_map, this]
   rfl
  have hdrop : (pieces c s).drop (i + 1) = pieces c q := by
   have : ((pieces c s).drop i).drop 1 = pieces c q := by rw [h1, hpc]; rfl
   rw [List.drop_drop] at this
   exact this
  have hlp := lastP_some hc
  obtain ⟨rfl, _⟩ := cut_some hc
  simp at h2
  have e1 : List.drop (p.length + 1) (p ++ c :: q) = q := by simp [List.drop_append]
  have e2 : List.take p.length (p ++ c :: q) = p := by simp
  repeat' (first
  | (refine Cnd.of (fun hc => ?_) (fun hc => ?_) <;> (try (exfalso; omega)) <;> (try simp [e1, e2]))
  | (refine V_runH rfl ?_; simp [e1, e2])
  | (refine And.intro (by omega) ?_)
  | (refine CallP.f2 rfl (hix) (by first | simp [e1, e2] <;> rfl | fail) ?_; simp [e1, e2])
  | fail)
  refine V_seq ?_
  refine V_yield 2 hpan hyc rfl rfl ?_
  simp
  refine YS.of [(1, .box [.u (.str (p ++ c :: q))]), (2, .box [.u (.str [c])]), (3, .box [.u (.int .i64 0)])] (hY i _ hget) rfl (fun _ => rfl) (hdis2 (p ++ c :: q) i) rfl (by simp) ?_
  rintro d o n hn2 ⟨rfl, rfl, rfl⟩
  simp
  repeat' (first
  | (refine V_runH rfl ?_; simp [e1, e2])
  | (refine And.intro (by omega) ?_)
  | fail)
  refine LoopW.next ⟨(i + 1, q), hdrop, by simp; omega, h3.trans hlp⟩ (by simp; omega) ?_
  exact (Wk.env rfl rfl rfl (by simp [wkE, St.lp, keepE, getK_cons, getK] <;> (try (intros; simp_all; done)) <;> (try (intros; omega)) <;> (try grind)))
end Go.Proofs.YtkdhmbhbbciedaaGreatDoor
namespace Go.Proofs.YtkdhmbhbbciedaaGreatDoor
open Go Go.VL Go.Shelf Go.RowKit
attribute [local simp] HS exS_some hcons hstep evPure opd uOf putOK St.put St.at getK binD binI binS binB nilD aggD eqUs cmpK lookD lookR rangeD rangeS Go.VL.nextD Go.VL.nextS entryD keyD valU keyU lookK mkV entD_nil allUE makeMapD mapUpdD mapEff updK valM Key.kk shiftI arith unD convD pickD loadD cellsAt fieldAddrD fieldD indexAddrD indexSlD arrAddr indexD sliceD cutD lenD minmaxD nilCheckD buildD fillD cellsD isOne ones setAll mkAgg allU allocD boxD storeD St.add buildSliceD appendD rowsOf makeD setOb getK_setOb getK_del getK_cons stripL strip guardTmp entry chunks zcells valD argsV argsW argW argU1 argU0 argsU0 argsU1 calleeOf scalarD scalarU delAll effD St.effS RK_seq RK_seq_ret RK_seq_exit RK_blk RK_blk_ret RK_blk_exit RK_loop RK_loop_ret RK_loop_exit RK_done vs_seq vs_block vs_cond vs_region vs_loop applyW mkD rdIds lentIds callOf calleeOf freeOp D.ids Op.operands Call.operands isEffOp makeIfD makeFuncD typeAssertD conc concs conc1 uOfV panicD IntKind.bits allU2 List.take_of_length_le List.range_succ HR_nil HR_cons HR_grd v2_seq v2_block v2_skip v2_exit v2_ret v2_cond v2_region v2_draw v2_loop RN_0 RN_done RN_seq RN_seq_ret RN_seq_exit RN_blk RN_blk_ret RN_blk_exit RN_loop RN_loop_ret RN_loop_exit Cnd_tf Cnd_ft EndV getK_append frzN frz1 frz_env frz_obs St.frz St.frzS frzS fv fzVec fzMap fzBox frzObS frz_entD frz_rowsD frz frzOb normD normU norm1 normOb St.norm St.lp St.only keepE wkE wkO wkU Ob.under D.under under_rowsD under_entD H4_nil H4_cons H4_grd h4s resD oneOrTup pureD List.zipIdx_cons List.zipIdx_nil List.map_cons List.map_nil Nat.zero_add
attribute [local irreducible] V G H HD HD2 HD4 HD4h RetX RunK Eff CallP CallV EndOK Fun Ret FinOK LoopI LoopW EndW HR vs2 RN Cnd H4
theorem splitSeq1_ret (s : W8) (c : UInt8) : Ret Tryz.prog 75 [.u (.str s), .u (.str [c]), .u (.int .i64 0)] [] 1
  (fun d o n => d = .fnc (.func 115) [.ptr 2 0, .ptr 1 0, .ptr 3 0] ∧ o = [(3, .box [.u (.int .i64 0)]), (2, .box [.u (.str [c])]), (1, .box [.u (.str s)])] ∧ n = 4) := by
 refine Ret.runW Tryz.func75 Tryz.ntmps75 rfl (by simp) fun Γ hn => ?_
 repeat' (first
  | (refine V_run rfl ?_; simp)
  | fail)
 (refine EndW.h Tryz.results75 ?_; simp)
theorem splitSeq_ret (s : W8) (c : UInt8) : Ret Tryz.prog 41 [.u (.str s), .u (.str [c])] [] 1
  (fun d o n => d = .fnc (.func 115) [.ptr 2 0, .ptr 1 0, .ptr 3 0] ∧ o = [(3, .box [.u (.int .i64 0)]), (2, .box [.u (.str [c])]), (1, .box [.u (.str s)])] ∧ n = 4) := by
 have h1 := splitSeq1_ret s c
 have hca : callable Tryz.prog 75 = true := by kernel_rfl
 refine Ret.runW Tryz.func41 Tryz.ntmps41 rfl (by simp) fun Γ hn => ?_
 repeat' (first
  | (refine V_run rfl ?_; simp [hca])
  | (refine CallP.ret0 (h1) (by rfl) (by first | assumption | simp) (by rfl) (by simp) ?_; rintro d o n' hn' ⟨rfl, rfl, rfl⟩; (try simp at hn'); (try simp [hca]))
  | fail)
 (refine EndW.h Tryz.results41 ?_; simp)
end Go.Proofs.YtkdhmbhbbciedaaGreatDoor
namespace Go.Proofs.YtkdhmbhbbciedaaGreatDoor
open Go Go.VL
attribute [local simp] HS exS_some hcons hstep evPure opd uOf putOK St.put St.at getK binD binI binS binB nilD aggD eqUs cmpK lookD lookR rangeD rangeS Go.VL.nextD Go.VL.nextS entryD keyD valU keyU lookK mkV entD_nil allUE makeMapD mapUpdD mapEff updK valM Key.kk shiftI arith unD convD pickD loadD cellsAt fieldAddrD fieldD indexAddrD indexSlD arrAddr indexD sliceD cutD lenD minmaxD nilCheckD buildD fillD cellsD isOne ones setAll mkAgg allU allocD boxD storeD St.add buildSliceD appendD rowsOf makeD setOb getK_setOb getK_del getK_cons stripL strip guardTmp entry chunks zcells valD argsV argsW argW argU1 argU0 argsU0 argsU1 calleeOf scalarD scalarU delAll effD St.effS RK_seq RK_seq_ret RK_seq_exit RK_blk RK_blk_ret RK_blk_exit RK_loop RK_loop_ret RK_loop_exit RK_done vs_seq vs_block vs_cond vs_region vs_loop applyW mkD rdIds lentIds callOf calleeOf freeOp D.ids Op.operands Call.operands isEffOp makeIfD makeFuncD typeAssertD conc concs conc1 uOfV panicD IntKind.bits allU2 List.take_of_length_le List.range_succ HR_nil HR_cons HR_grd v2_seq v2_block v2_skip v2_exit v2_ret v2_cond v2_region v2_draw v2_loop RN_0 RN_done RN_seq RN_seq_ret RN_seq_exit RN_blk RN_blk_ret RN_blk_exit RN_loop RN_loop_ret RN_loop_exit Cnd_tf Cnd_ft EndV getK_append frzN frz1 frz_env frz_obs St.frz St.frzS frzS fv fzVec fzMap fzBox frzObS frz_entD frz_rowsD frz frzOb normD normU norm1 normOb St.norm St.lp St.only keepE wkE wkO wkU Ob.under D.under under_rowsD under_entD H4_nil H4_cons H4_grd h4s resD oneOrTup pureD List.zipIdx_cons List.zipIdx_nil List.map_cons List.map_nil Nat.zero_add
attribute [local irreducible] V G H HD HD2 HD4 HD4h RetX RunK Eff CallP CallV EndOK Fun Ret FinOK LoopI LoopW EndW HR vs2 RN Cnd H4
abbrev pairD (e : Exp × Int) : D := .tup [.u (.agg e.1.row), .u (.int .i64 e.2)]
def ExpOK (l : List Tok) (f : Nat) : Prop := ∀ (p : Nat) (form : Int) (i nx : Nat), i < nx → p < l.length → 4 * (l.length - p) + 3 ≤ f → 0 ≤ form → form ≤ 7 →
 RetX Tryz.prog 106 [.ptr i 0, intD form] [(i, pOb l p)] nx (PPost l i nx expD (expP l f p form))
def PreOK (l : List Tok) (f : Nat) : Prop := ∀ (p : Nat) (form : Int) (i nx : Nat), i < nx → p < l.length → 4 * (l.length - p) + 2 ≤ f → 0 ≤ form → form ≤ 7 →
 RetX Tryz.prog 139 [.ptr i 0, intD form] [(i, pOb l p)] nx (PPost l i nx pairD (prefixP l f p form))
def PrimOK (l : List Tok) (f : Nat) : Prop := ∀ (p : Nat) (i nx : Nat), i < nx → p < l.length → 4 * (l.length - p) + 1 ≤ f →
 RetX Tryz.prog 170 [.ptr i 0] [(i, pOb l p)] nx (PPost l i nx expD (primaryP l f p))
theorem want1 {l : List Tok} (hl : TokOK l) (w : List UInt8) {q i nx : Nat} (hi : i < nx) (hq : q < l.length) :
  RetX Tryz.prog 169 [.ptr i 0, .u (.sl [[.str w]])] [(i, pOb l q)] nx (PPost l i nx (fun _ => .tup []) (wantP l q [w])) := want_ret l q [w] i nx hi hq hl (by simp)
theorem primary_num {l : List Tok} (hl : TokOK l) {f p : Nat} {t : Tok} (ht : l[p]? = some t) (hk : t.kind = 2) {i nx : Nat} (hi : i < nx) :
  RetX Tryz.prog 170 [.ptr i 0] [(i, pOb l p)] nx (PPost l i nx expD (primaryP l (f + 1) p)) := by
 have hne := ne_facts hi
 have hp := (List.getElem?_eq_some_iff.1 ht).1
 have hnx := pnext_fun l p t ht hl.len
 have hp2 := hl.fin p t ht (by omega)
 have hll := hl.len
 rw [primaryP, ht]
 simp only [hk, if_true] at hnx ⊢
 have hu := fun nx' (h : nx ≤ nx') => unit_ret l (p + 1) i nx' (by omega) hp2 hl
 cases hr : unitP l (p + 1) with
 | ok a q =>
  simp only [hr] at hu
  refine RetX.runW Tryz.func170 Tryz.ntmps170 rfl (by simp) fun Γ hn hpan => ?_
  repeat' (first
  | (refine HD4_ok1 (fun nx' h' => hu nx' (by simp at h'; omega)) (by first | (simp [hne, getK_cons, getK, getK_append, getK_del, getK_setOb, applyW]; done) | fail) (by rfl) (by first | assumption | simp) (by rfl) (by simp [D.under, Ob.under]) (by simp) ?_; (try simp [hne]))
  | (refine V_run rfl ?_; simp [hne])
  | (refine And.intro (by omega) ?_)
  | (refine ⟨hC _ (okP4_ren [i] nx (by simp <;> omega) (by simp <;> omega) (by apply Exists.intro; apply And.intro; (focus (repeat' (first | exact KF.nil | exact KL.nil | apply KF.cons | apply KL.cons 0 rfl | apply KL.cons 1 rfl | apply KL.cons 2 rfl | apply KL.cons 3 rfl | apply KL.cons 4 rfl | apply KL.cons 5 rfl | apply KL.cons 6 rfl | apply KL.cons 7 rfl | apply KL.cons 8 rfl | apply KL.cons 9 rfl))); kernel_rfl)), hk _ (RN_K 8 _ _ _ ?_)⟩; clear hC hk C k; simp [hne])
  | (refine V_dx rfl (by kernel_rfl) (by first | (simp [hn]; done) | (simp [hn]; omega) | fail) fun C k hC hk => ?_; simp [hne])
  | (refine H4_HD4 rfl ?_; simp [hne])
  | (refine CallP.f2 rfl (hnx) (by first | simp [hne] <;> rfl | fail) ?_; simp [hne])
  | fail)
  refine EndW.norm ?_
  simp [St.norm, normOb, normD, normU, norm1, hne]
  (refine EndW.z ([(i, pOb l q)]) (N := nx) Tryz.results170 (by simp [hne, hi] <;> omega) ?_; simp [hne, hi])
  exact PPost.at_ok rfl (by simp [Exp.row]) rfl
 | stop pos e =>
  simp only [hr] at hu
  refine RetX.runW Tryz.func170 Tryz.ntmps170 rfl (by simp) fun Γ hn hpan => ?_
  repeat' (first
  | (refine HD4_pan1 (fun nx' h' => hu nx' (by simp at h'; omega)) (by first | (simp [hne, getK_cons, getK, getK_append, getK_del, getK_setOb, applyW]; done) | fail) (by rfl) (by first | assumption | simp) (by rfl) (by simp) ?_ ?_; rintro env' ob' n' hn' ⟨q', rfl⟩; refine ⟨_, Wk.refl _, ?_⟩)
  | (refine HD4_skipS rfl (by simp) ?_; simp)
  | (refine V_run rfl ?_; simp [hne])
  | (refine And.intro (by omega) ?_)
  | (refine HD4_nilS (hC _ (okP4_ren [i] nx (by simp <;> omega) (by simp <;> omega) (by apply Exists.intro; apply And.intro; (focus (repeat' (first | exact KF.nil | exact KL.nil | apply KF.cons | apply KL.cons 0 rfl | apply KL.cons 1 rfl | apply KL.cons 2 rfl | apply KL.cons 3 rfl | apply KL.cons 4 rfl | apply KL.cons 5 rfl | apply KL.cons 6 rfl | apply KL.cons 7 rfl | apply KL.cons 8 rfl | apply KL.cons 9 rfl))); kernel_rfl))) rfl; done)
  | (refine V_dx rfl (by kernel_rfl) (by first | (simp [hn]; done) | (simp [hn]; omega) | fail) fun C k hC hk => ?_; simp [hne])
  | (refine CallP.f2 rfl (hnx) (by first | simp [hne] <;> rfl | fail) ?_; simp [hne])
  | fail)
  (refine hpan _ _ (PanG.k ([(i, pOb l q')]) (nx) (by simp [hn, hi, hne, getK_append, getK_del, getK_cons, getK] <;> omega) ?_); try simp)
  exact PPost.at_stop (by simp [PR.bind])
theorem primary_true {l : List Tok} (hl : TokOK l) {f p : Nat} {t : Tok} (ht : l[p]? = some t) (hk : ¬ t.kind = 2) (h1 : isB l p [116, 114, 117, 101] = true) {i nx : Nat} (hi : i < nx) :
  RetX Tryz.prog 170 [.ptr i 0] [(i, pOb l p)] nx (PPost l i nx expD (primaryP l (f + 1) p)) := by
 have hne := ne_facts hi
 have hp := (List.getElem?_eq_some_iff.1 ht).1
 have hnx := pnext_fun l p t ht hl.len
 have hll := hl.len
 rw [primaryP, ht]
 have hh1 := fun nx' (h : nx ≤ nx') => has_ret l p [116, 114, 117, 101] i nx' (by omega) hp hl.len
 simp only [hk, h1, if_false, if_true] at hh1 ⊢
 refine RetX.runW Tryz.func170 Tryz.ntmps170 rfl (by simp) fun Γ hn hpan => ?_
 repeat' (first
  | (refine V_run rfl ?_; simp [hne, hk, del])
  | (refine CallP.f2 rfl (hnx) (by first | simp [hne, hk, del] <;> rfl | fail) ?_; simp [hne, hk, del])
  | (refine CallP.ok1 (hh1 _ (by first | omega | (simp; done) | (simp; omega) | fail)) (by first | (simp [hne, hk, del, getK_cons, getK, getK_append, getK_del]; done) | fail) (by rfl) (by first | assumption | (simp; done) | fail) (by rfl) (by simp) ?_; (try simp [hne, hk, del]))
  | fail)
 refine EndW.norm ?_
 simp [St.norm, normOb, normD, normU, norm1, hne]
 (refine EndW.z ([(i, pOb l (p + 1))]) (N := nx) Tryz.results170 (by simp [hne, hi] <;> omega) ?_; simp [hne, hi])
 exact PPost.at_ok rfl (by simp [Exp.row]) rfl
theorem primary_false {l : List Tok} (hl : TokOK l) {f p : Nat} {t : Tok} (ht : l[p]? = some t) (hk : ¬ t.kind = 2) (h1 : isB l p [116, 114, 117, 101] = false) (h2 : isB l p [102, 97, 108, 115, 101] = true) {i nx : Nat} (hi : i < nx) :
  RetX Tryz.prog 170 [.ptr i 0] [(i, pOb l p)] nx (PPost l i nx expD (primaryP l (f + 1) p)) := by
 have hne := ne_facts hi
 have hp := (List.getElem?_eq_some_iff.1 ht).1
 have hnx := pnext_fun l p t ht hl.len
 have hll := hl.len
 rw [primaryP, ht]
 have hh1 := fun nx' (h : nx ≤ nx') => has_ret l p [116, 114, 117, 101] i nx' (by omega) hp hl.len
 have hh2 := fun nx' (h : nx ≤ nx') => has_ret l p [102, 97, 108, 115, 101] i nx' (by omega) hp hl.len
 simp only [hk, h1, h2, if_false, if_true, Bool.false_eq_true] at hh1 hh2 ⊢
 refine RetX.runW Tryz.func170 Tryz.ntmps170 rfl (by simp) fun Γ hn hpan => ?_
 repeat' (first
  | (refine V_run rfl ?_; simp [hne, hk, del])
  | (refine CallP.f2 rfl (hnx) (by first | simp [hne, hk, del] <;> rfl | fail) ?_; simp [hne, hk, del])
  | (refine CallP.ok1 (hh1 _ (by first | omega | (simp; done) | (simp; omega) | fail)) (by first | (simp [hne, hk, del, getK_cons, getK, getK_append, getK_del]; done) | fail) (by rfl) (by first | assumption | (simp; done) | fail) (by rfl) (by simp) ?_; (try simp [hne, hk, del]))
  | (refine CallP.ok1 (hh2 _ (by first | omega | (simp; done) | (simp; omega) | fail)) (by first | (simp [hne, hk, del, getK_cons, getK, getK_append, getK_del]; done) | fail) (by rfl) (by first | assumption | (simp; done) | fail) (by rfl) (by simp) ?_; (try simp [hne, hk, del]))
  | fail)
 refine EndW.norm ?_
 simp [St.norm, normOb, normD, normU, norm1, hne]
 (refine EndW.z ([(i, pOb l (p + 1))]) (N := nx) Tryz.results170 (by simp [hne, hi] <;> omega) ?_; simp [hne, hi])
 exact PPost.at_ok rfl (by simp [Exp.row]) rfl
theorem exp_ok {l : List Tok} {F : FuncId} {r : PR Exp} {e : Exp} {q i nx : Nat} {ds : List D} {obs : List (Nat × Ob)} (h : RetX Tryz.prog F ds obs nx (PPost l i nx expD r)) (hr : r = .ok e q) :
  RetX Tryz.prog F ds obs nx fun r o n => r = .val (.u (.agg [.int .i64 e.op, .int .i64 e.n, .int .i64 e.unit, .str e.s, .sl (e.args.map Exp.row)])) ∧ o = [(i, pOb l q)] ∧ n = nx := by
 subst hr
 rw [← Exp.row_eq]
 exact h
theorem primary_paren {l : List Tok} (hl : TokOK l) {f p : Nat} (hE : ExpOK l f) (hf : 4 * (l.length - p) ≤ f) {t : Tok} (ht : l[p]? = some t) (hk : ¬ t.kind = 2) (h1 : isB l p [116, 114, 117, 101] = false) (h2 : isB l p [102, 97, 108, 115, 101] = false)
  (h3 : isB l p [109, 105, 110] = false) (h4 : isB l p [109, 97, 120] = false) (h5 : isB l p [40] = true) {i nx : Nat} (hi : i < nx) :
  RetX Tryz.prog 170 [.ptr i 0] [(i, pOb l p)] nx (PPost l i nx expD (primaryP l (f + 1) p)) := by
 have hne := ne_facts hi
 have hp := (List.getElem?_eq_some_iff.1 ht).1
 have hnx := pnext_fun l p t ht hl.len
 have hll := hl.len
 have hp2 := isB_lt hl h5
 rw [primaryP, ht]
 have hh1 := fun nx' (h : nx ≤ nx') => has_ret l p [116, 114, 117, 101] i nx' (by omega) hp hl.len
 have hh2 := fun nx' (h : nx ≤ nx') => has_ret l p [102, 97, 108, 115, 101] i nx' (by omega) hp hl.len
 have hm1 := is_fun l p [109, 105, 110] hp hl.len
 have hm2 := is_fun l p [109, 97, 120] hp hl.len
 have hh3 := fun nx' (h : nx ≤ nx') => has_ret l p [40] i nx' (by omega) hp hl.len
 simp only [hk, h1, h2, h3, h4, h5, if_false, if_true, Bool.false_eq_true, or_self] at hh1 hh2 hm1 hm2 hh3 ⊢
 have he := fun nx' (h : nx ≤ nx') => hE (p + 1) 0 i nx' (by omega) hp2 (by omega) (by omega) (by omega)
 cases hr : expP l f (p + 1) 0 with
 | stop pos e =>
  simp only [hr] at he
  refine RetX.runW Tryz.func170 Tryz.ntmps170 rfl (by simp) fun Γ hn hpan => ?_
  repeat' (first
  | (refine V_run rfl ?_; simp [hne, hk, del, Nat.add_assoc])
  | ((first | refine CallP.f2 rfl (hnx) (by first | simp [hne, hk, del, Nat.add_assoc] <;> rfl | fail) ?_ | refine CallP.f2 rfl (hm1) (by first | simp [hne, hk, del, Nat.add_assoc] <;> rfl | fail) ?_ | refine CallP.f2 rfl (hm2) (by first | simp [hne, hk, del, Nat.add_assoc] <;> rfl | fail) ?_ | fail); simp [hne, hk, del, Nat.add_assoc])
  | (refine CallP.ok1 (hh1 _ (by first | omega | (simp; done) | (simp; omega) | fail)) (by first | (simp [hne, hk, del, Nat.add_assoc, getK_cons, getK, getK_append, getK_del]; done) | fail) (by rfl) (by first | assumption | (simp; done) | fail) (by rfl) (by simp) ?_; (try simp [hne, hk, del, Nat.add_assoc]))
  | (refine CallP.ok1 (hh2 _ (by first | omega | (simp; done) | (simp; omega) | fail)) (by first | (simp [hne, hk, del, Nat.add_assoc, getK_cons, getK, getK_append, getK_del]; done) | fail) (by rfl) (by first | assumption | (simp; done) | fail) (by rfl) (by simp) ?_; (try simp [hne, hk, del, Nat.add_assoc]))
  | (refine CallP.ok1 (hh3 _ (by first | omega | (simp; done) | (simp; omega) | fail)) (by first | (simp [hne, hk, del, Nat.add_assoc, getK_cons, getK, getK_append, getK_del]; done) | fail) (by rfl) (by first | assumption | (simp; done) | fail) (by rfl) (by simp) ?_; (try simp [hne, hk, del, Nat.add_assoc]))
  | (refine CallP.pan1 (he _ (by first | omega | (simp; done) | (simp; omega) | fail)) (by first | (simp [hne, hk, del, Nat.add_assoc, getK_cons, getK, getK_append, getK_del]; done) | fail) (by rfl) (by first | assumption | (simp; done) | fail) (by rfl) (by simp) ?_; rintro ob' ⟨q', rfl⟩; refine ⟨_, Wk.refl _, ?_⟩)
  | fail)
  (refine hpan _ _ (PanG.k ([(i, pOb l q')]) (nx) (by simp [hn, hi, hne, getK_append, getK_del, getK_cons, getK] <;> omega) ?_); try simp)
  exact PPost.at_stop (by simp [PR.bind, *])
 | ok e1 q1 =>
  have he := fun nx' h => exp_ok (he nx' h) hr
  obtain ⟨g1, g2⟩ := (parse_le hl f).1 _ _ _ _ hr hp2
  have hw := fun nx' (h : nx ≤ nx') => want1 hl [41] (q := q1) (i := i) (nx := nx') (by omega) g2
  cases hr2 : wantP l q1 [[41]] with
  | stop pos e =>
   simp only [hr2] at hw
   refine RetX.runW Tryz.func170 Tryz.ntmps170 rfl (by simp) fun Γ hn hpan => ?_
   repeat' (first
  | (refine V_run rfl ?_; simp [hne, hk, del, Nat.add_assoc])
  | ((first | refine CallP.f2 rfl (hnx) (by first | simp [hne, hk, del, Nat.add_assoc] <;> rfl | fail) ?_ | refine CallP.f2 rfl (hm1) (by first | simp [hne, hk, del, Nat.add_assoc] <;> rfl | fail) ?_ | refine CallP.f2 rfl (hm2) (by first | simp [hne, hk, del, Nat.add_assoc] <;> rfl | fail) ?_ | fail); simp [hne, hk, del, Nat.add_assoc])
  | (refine CallP.ok1 (hh1 _ (by first | omega | (simp; done) | (simp; omega) | fail)) (by first | (simp [hne, hk, del, Nat.add_assoc, getK_cons, getK, getK_append, getK_del]; done) | fail) (by rfl) (by first | assumption | (simp; done) | fail) (by rfl) (by simp) ?_; (try simp [hne, hk, del, Nat.add_assoc]))
  | (refine CallP.ok1 (hh2 _ (by first | omega | (simp; done) | (simp; omega) | fail)) (by first | (simp [hne, hk, del, Nat.add_assoc, getK_cons, getK, getK_append, getK_del]; done) | fail) (by rfl) (by first | assumption | (simp; done) | fail) (by rfl) (by simp) ?_; (try simp [hne, hk, del, Nat.add_assoc]))
  | (refine CallP.ok1 (hh3 _ (by first | omega | (simp; done) | (simp; omega) | fail)) (by first | (simp [hne, hk, del, Nat.add_assoc, getK_cons, getK, getK_append, getK_del]; done) | fail) (by rfl) (by first | assumption | (simp; done) | fail) (by rfl) (by simp) ?_; (try simp [hne, hk, del, Nat.add_assoc]))
  | (refine CallP.ok1 (he _ (by first | omega | (simp; done) | (simp; omega) | fail)) (by first | (simp [hne, hk, del, Nat.add_assoc, getK_cons, getK, getK_append, getK_del]; done) | fail) (by rfl) (by first | assumption | (simp; done) | fail) (by rfl) (by simp) ?_; (try simp [hne, hk, del, Nat.add_assoc]))
  | (refine CallP.pan1 (hw _ (by first | omega | (simp; done) | (simp; omega) | fail)) (by first | (simp [hne, hk, del, Nat.add_assoc, getK_cons, getK, getK_append, getK_del]; done) | fail) (by rfl) (by first | assumption | (simp; done) | fail) (by rfl) (by simp) ?_; rintro ob' ⟨q', rfl⟩; refine ⟨_, Wk.refl _, ?_⟩)
  | (refine CallP_frzV (by first | rfl | fail) ?_; simp [hne, hk, del, Nat.add_assoc, frzN, frz1, frz_env, frz_obs, St.frz, St.frzS, frzS, fv, fzVec, fzMap, fzBox, frzObS, frz_entD, frz_rowsD, del, frz, frzOb])
  | fail)
   (refine hpan _ _ (PanG.k ([(i, pOb l q')]) (nx) (by simp [hn, hi, hne, getK_append, getK_del, getK_cons, getK] <;> omega) ?_); try simp)
   exact PPost.at_stop (by simp [PR.bind, *])
  | ok u2 q =>
   simp only [hr2] at hw
   refine RetX.runW Tryz.func170 Tryz.ntmps170 rfl (by simp) fun Γ hn hpan => ?_
   repeat' (first
  | (refine V_run rfl ?_; simp [hne, hk, del, Nat.add_assoc])
  | ((first | refine CallP.f2 rfl (hnx) (by first | simp [hne, hk, del, Nat.add_assoc] <;> rfl | fail) ?_ | refine CallP.f2 rfl (hm1) (by first | simp [hne, hk, del, Nat.add_assoc] <;> rfl | fail) ?_ | refine CallP.f2 rfl (hm2) (by first | simp [hne, hk, del, Nat.add_assoc] <;> rfl | fail) ?_ | fail); simp [hne, hk, del, Nat.add_assoc])
  | (refine CallP.ok1 (hh1 _ (by first | omega | (simp; done) | (simp; omega) | fail)) (by first | (simp [hne, hk, del, Nat.add_assoc, getK_cons, getK, getK_append, getK_del]; done) | fail) (by rfl) (by first | assumption | (simp; done) | fail) (by rfl) (by simp) ?_; (try simp [hne, hk, del, Nat.add_assoc]))
  | (refine CallP.ok1 (hh2 _ (by first | omega | (simp; done) | (simp; omega) | fail)) (by first | (simp [hne, hk, del, Nat.add_assoc, getK_cons, getK, getK_append, getK_del]; done) | fail) (by rfl) (by first | assumption | (simp; done) | fail) (by rfl) (by simp) ?_; (try simp [hne, hk, del, Nat.add_assoc]))
  | (refine CallP.ok1 (hh3 _ (by first | omega | (simp; done) | (simp; omega) | fail)) (by first | (simp [hne, hk, del, Nat.add_assoc, getK_cons, getK, getK_append, getK_del]; done) | fail) (by rfl) (by first | assumption | (simp; done) | fail) (by rfl) (by simp) ?_; (try simp [hne, hk, del, Nat.add_assoc]))
  | (refine CallP.ok1 (he _ (by first | omega | (simp; done) | (simp; omega) | fail)) (by first | (simp [hne, hk, del, Nat.add_assoc, getK_cons, getK, getK_append, getK_del]; done) | fail) (by rfl) (by first | assumption | (simp; done) | fail) (by rfl) (by simp) ?_; (try simp [hne, hk, del, Nat.add_assoc]))
  | (refine CallP.ok1 (hw _ (by first | omega | (simp; done) | (simp; omega) | fail)) (by first | (simp [hne, hk, del, Nat.add_assoc, getK_cons, getK, getK_append, getK_del]; done) | fail) (by rfl) (by first | assumption | (simp; done) | fail) (by rfl) (by simp) ?_; (try simp [hne, hk, del, Nat.add_assoc]))
  | (refine CallP_frzV (by first | rfl | fail) ?_; simp [hne, hk, del, Nat.add_assoc, frzN, frz1, frz_env, frz_obs, St.frz, St.frzS, frzS, fv, fzVec, fzMap, fzBox, frzObS, frz_entD, frz_rowsD, del, frz, frzOb])
  | fail)
   refine EndW.norm ?_
   simp [St.norm, normOb, normD, normU, norm1, hne]
   (refine EndW.z ([(i, pOb l q)]) (N := nx) Tryz.results170 (by simp [hne, hi] <;> omega) ?_; simp [hne, hi])
   exact PPost.at_ok (by simp [PR.bind, *]; rfl) (by simp [Exp.row_eq]) rfl
theorem primary_mm {l : List Tok} (hl : TokOK l) {f p : Nat} (hE : ExpOK l f) (hf : 4 * (l.length - p) ≤ f) {t : Tok} (ht : l[p]? = some t) (hk : ¬ t.kind = 2) (h1 : isB l p [116, 114, 117, 101] = false) (h2 : isB l p [102, 97, 108, 115, 101] = false)
  (hm : isB l p [109, 105, 110] = false ∧ isB l p [109, 97, 120] = true ∨ isB l p [109, 105, 110] = true ∧ isB l p [109, 97, 120] = false) {i nx : Nat} (hi : i < nx) :
  RetX Tryz.prog 170 [.ptr i 0] [(i, pOb l p)] nx (PPost l i nx expD (primaryP l (f + 1) p)) := by
 have hne := ne_facts hi
 have hp := (List.getElem?_eq_some_iff.1 ht).1
 have hnx := pnext_fun l p t ht hl.len
 have hll := hl.len
 have hp2 : p + 1 < l.length := hm.elim (fun h => isB_lt hl h.2) (fun h => isB_lt hl h.1)
 rw [primaryP, ht]
 have hh1 := fun nx' (h : nx ≤ nx') => has_ret l p [116, 114, 117, 101] i nx' (by omega) hp hl.len
 have hh2 := fun nx' (h : nx ≤ nx') => has_ret l p [102, 97, 108, 115, 101] i nx' (by omega) hp hl.len
 have hm1 := is_fun l p [109, 105, 110] hp hl.len
 have hm2 := is_fun l p [109, 97, 120] hp hl.len
 rcases hm with ⟨h3, h4⟩ | ⟨h3, h4⟩
 all_goals
  simp only [hk, h1, h2, h3, h4, if_false, if_true, Bool.false_eq_true, or_true, true_or] at hh1 hh2 hm1 hm2 ⊢
  have hw1 := fun nx' (h : nx ≤ nx') => want1 hl [40] (q := (p + 1)) (i := i) (nx := nx') (by omega) hp2
  cases hr0 : wantP l (p + 1) [[40]] with
  | stop pos e =>
   simp only [hr0] at hw1
   refine RetX.runW Tryz.func170 Tryz.ntmps170 rfl (by simp) fun Γ hn hpan => ?_
   repeat' (first
  | (refine V_run rfl ?_; simp [hne, hk, del, Nat.add_assoc])
  | (refine And.intro (by omega) ?_)
  | ((first | refine CallP.f2 rfl (hnx) (by first | simp [hne, hk, del, Nat.add_assoc] <;> rfl | fail) ?_ | refine CallP.f2 rfl (hm1) (by first | simp [hne, hk, del, Nat.add_assoc] <;> rfl | fail) ?_ | refine CallP.f2 rfl (hm2) (by first | simp [hne, hk, del, Nat.add_assoc] <;> rfl | fail) ?_ | fail); simp [hne, hk, del, Nat.add_assoc])
  | (refine CallP.ok1 (hh1 _ (by first | omega | (simp; done) | (simp; omega) | fail)) (by first | (simp [hne, hk, del, Nat.add_assoc, getK_cons, getK, getK_append, getK_del]; done) | fail) (by rfl) (by first | assumption | (simp; done) | fail) (by rfl) (by simp) ?_; (try simp [hne, hk, del, Nat.add_assoc]))
  | (refine CallP.ok1 (hh2 _ (by first | omega | (simp; done) | (simp; omega) | fail)) (by first | (simp [hne, hk, del, Nat.add_assoc, getK_cons, getK, getK_append, getK_del]; done) | fail) (by rfl) (by first | assumption | (simp; done) | fail) (by rfl) (by simp) ?_; (try simp [hne, hk, del, Nat.add_assoc]))
  | (refine CallP.pan1 (hw1 _ (by first | omega | (simp; done) | (simp; omega) | fail)) (by first | (simp [hne, hk, del, Nat.add_assoc, getK_cons, getK, getK_append, getK_del]; done) | fail) (by rfl) (by first | assumption | (simp; done) | fail) (by rfl) (by simp) ?_; rintro ob' ⟨q', rfl⟩; refine ⟨_, Wk.refl _, ?_⟩)
  | (refine CallP_frzV (by first | rfl | fail) ?_; simp [hne, hk, del, Nat.add_assoc, frzN, frz1, frz_env, frz_obs, St.frz, St.frzS, frzS, fv, fzVec, fzMap, fzBox, frzObS, frz_entD, frz_rowsD, del, frz, frzOb])
  | fail)
   (refine hpan _ _ (PanG.k ([(i, pOb l q')]) (nx) (by simp [hn, hi, hne, getK_append, getK_del, getK_cons, getK] <;> omega) ?_); try simp)
   exact PPost.at_stop (by simp [PR.bind, *])
  | ok v0 q0 =>
   simp only [hr0] at hw1
   obtain ⟨g0a, g0b⟩ := wantP_le hl _ hr0 hp2
   have ha := fun nx' (h : nx ≤ nx') => hE q0 0 i nx' (by omega) g0b (by omega) (by omega) (by omega)
   cases hr1 : expP l f q0 0 with
   | stop pos e =>
    simp only [hr1] at ha
    refine RetX.runW Tryz.func170 Tryz.ntmps170 rfl (by simp) fun Γ hn hpan => ?_
    repeat' (first
  | (refine V_run rfl ?_; simp [hne, hk, del, Nat.add_assoc])
  | (refine And.intro (by omega) ?_)
  | ((first | refine CallP.f2 rfl (hnx) (by first | simp [hne, hk, del, Nat.add_assoc] <;> rfl | fail) ?_ | refine CallP.f2 rfl (hm1) (by first | simp [hne, hk, del, Nat.add_assoc] <;> rfl | fail) ?_ | refine CallP.f2 rfl (hm2) (by first | simp [hne, hk, del, Nat.add_assoc] <;> rfl | fail) ?_ | fail); simp [hne, hk, del, Nat.add_assoc])
  | (refine CallP.ok1 (hh1 _ (by first | omega | (simp; done) | (simp; omega) | fail)) (by first | (simp [hne, hk, del, Nat.add_assoc, getK_cons, getK, getK_append, getK_del]; done) | fail) (by rfl) (by first | assumption | (simp; done) | fail) (by rfl) (by simp) ?_; (try simp [hne, hk, del, Nat.add_assoc]))
  | (refine CallP.ok1 (hh2 _ (by first | omega | (simp; done) | (simp; omega) | fail)) (by first | (simp [hne, hk, del, Nat.add_assoc, getK_cons, getK, getK_append, getK_del]; done) | fail) (by rfl) (by first | assumption | (simp; done) | fail) (by rfl) (by simp) ?_; (try simp [hne, hk, del, Nat.add_assoc]))
  | (refine CallP.ok1 (hw1 _ (by first | omega | (simp; done) | (simp; omega) | fail)) (by first | (simp [hne, hk, del, Nat.add_assoc, getK_cons, getK, getK_append, getK_del]; done) | fail) (by rfl) (by first | assumption | (simp; done) | fail) (by rfl) (by simp) ?_; (try simp [hne, hk, del, Nat.add_assoc]))
  | (refine CallP.pan1 (ha _ (by first | omega | (simp; done) | (simp; omega) | fail)) (by first | (simp [hne, hk, del, Nat.add_assoc, getK_cons, getK, getK_append, getK_del]; done) | fail) (by rfl) (by first | assumption | (simp; done) | fail) (by rfl) (by simp) ?_; rintro ob' ⟨q', rfl⟩; refine ⟨_, Wk.refl _, ?_⟩)
  | (refine CallP_frzV (by first | rfl | fail) ?_; simp [hne, hk, del, Nat.add_assoc, frzN, frz1, frz_env, frz_obs, St.frz, St.frzS, frzS, fv, fzVec, fzMap, fzBox, frzObS, frz_entD, frz_rowsD, del, frz, frzOb])
  | fail)
    (refine hpan _ _ (PanG.k ([(i, pOb l q')]) (nx) (by simp [hn, hi, hne, getK_append, getK_del, getK_cons, getK] <;> omega) ?_); try simp)
    exact PPost.at_stop (by simp [PR.bind, *])
   | ok v1 q1 =>
    have ha := fun nx' h => exp_ok (ha nx' h) hr1
    obtain ⟨g1a, g1b⟩ := (parse_le hl f).1 _ _ _ _ hr1 g0b
    have hw2 := fun nx' (h : nx ≤ nx') => want1 hl [44] (q := q1) (i := i) (nx := nx') (by omega) g1b
    cases hr2 : wantP l q1 [[44]] with
    | stop pos e =>
     simp only [hr2] at hw2
     refine RetX.runW Tryz.func170 Tryz.ntmps170 rfl (by simp) fun Γ hn hpan => ?_
     repeat' (first
  | (refine V_run rfl ?_; simp [hne, hk, del, Nat.add_assoc])
  | (refine And.intro (by omega) ?_)
  | ((first | refine CallP.f2 rfl (hnx) (by first | simp [hne, hk, del, Nat.add_assoc] <;> rfl | fail) ?_ | refine CallP.f2 rfl (hm1) (by first | simp [hne, hk, del, Nat.add_assoc] <;> rfl | fail) ?_ | refine CallP.f2 rfl (hm2) (by first | simp [hne, hk, del, Nat.add_assoc] <;> rfl | fail) ?_ | fail); simp [hne, hk, del, Nat.add_assoc])
  | (refine CallP.ok1 (hh1 _ (by first | omega | (simp; done) | (simp; omega) | fail)) (by first | (simp [hne, hk, del, Nat.add_assoc, getK_cons, getK, getK_append, getK_del]; done) | fail) (by rfl) (by first | assumption | (simp; done) | fail) (by rfl) (by simp) ?_; (try simp [hne, hk, del, Nat.add_assoc]))
  | (refine CallP.ok1 (hh2 _ (by first | omega | (simp; done) | (simp; omega) | fail)) (by first | (simp [hne, hk, del, Nat.add_assoc, getK_cons, getK, getK_append, getK_del]; done) | fail) (by rfl) (by first | assumption | (simp; done) | fail) (by rfl) (by simp) ?_; (try simp [hne, hk, del, Nat.add_assoc]))
  | (refine CallP.ok1 (hw1 _ (by first | omega | (simp; done) | (simp; omega) | fail)) (by first | (simp [hne, hk, del, Nat.add_assoc, getK_cons, getK, getK_append, getK_del]; done) | fail) (by rfl) (by first | assumption | (simp; done) | fail) (by rfl) (by simp) ?_; (try simp [hne, hk, del, Nat.add_assoc]))
  | (refine CallP.ok1 (ha _ (by first | omega | (simp; done) | (simp; omega) | fail)) (by first | (simp [hne, hk, del, Nat.add_assoc, getK_cons, getK, getK_append, getK_del]; done) | fail) (by rfl) (by first | assumption | (simp; done) | fail) (by rfl) (by simp) ?_; (try simp [hne, hk, del, Nat.add_assoc]))
  | (refine CallP.pan1 (hw2 _ (by first | omega | (simp; done) | (simp; omega) | fail)) (by first | (simp [hne, hk, del, Nat.add_assoc, getK_cons, getK, getK_append, getK_del]; done) | fail) (by rfl) (by first | assumption | (simp; done) | fail) (by rfl) (by simp) ?_; rintro ob' ⟨q', rfl⟩; refine ⟨_, Wk.refl _, ?_⟩)
  | (refine CallP_frzV (by first | rfl | fail) ?_; simp [hne, hk, del, Nat.add_assoc, frzN, frz1, frz_env, frz_obs, St.frz, St.frzS, frzS, fv, fzVec, fzMap, fzBox, frzObS, frz_entD, frz_rowsD, del, frz, frzOb])
  | fail)
     (refine hpan _ _ (PanG.k ([(i, pOb l q')]) (nx) (by simp [hn, hi, hne, getK_append, getK_del, getK_cons, getK] <;> omega) ?_); try simp)
     exact PPost.at_stop (by simp [PR.bind, *])
    | ok v2 q2 =>
     simp only [hr2] at hw2
     obtain ⟨g2a, g2b⟩ := wantP_le hl _ hr2 g1b
     have hb := fun nx' (h : nx ≤ nx') => hE q2 0 i nx' (by omega) g2b (by omega) (by omega) (by omega)
     cases hr3 : expP l f q2 0 with
     | stop pos e =>
      simp only [hr3] at hb
      refine RetX.runW Tryz.func170 Tryz.ntmps170 rfl (by simp) fun Γ hn hpan => ?_
      repeat' (first
  | (refine V_run rfl ?_; simp [hne, hk, del, Nat.add_assoc])
  | (refine And.intro (by omega) ?_)
  | ((first | refine CallP.f2 rfl (hnx) (by first | simp [hne, hk, del, Nat.add_assoc] <;> rfl | fail) ?_ | refine CallP.f2 rfl (hm1) (by first | simp [hne, hk, del, Nat.add_assoc] <;> rfl | fail) ?_ | refine CallP.f2 rfl (hm2) (by first | simp [hne, hk, del, Nat.add_assoc] <;> rfl | fail) ?_ | fail); simp [hne, hk, del, Nat.add_assoc])
  | (refine CallP.ok1 (hh1 _ (by first | omega | (simp; done) | (simp; omega) | fail)) (by first | (simp [hne, hk, del, Nat.add_assoc, getK_cons, getK, getK_append, getK_del]; done) | fail) (by rfl) (by first | assumption | (simp; done) | fail) (by rfl) (by simp) ?_; (try simp [hne, hk, del, Nat.add_assoc]))
  | (refine CallP.ok1 (hh2 _ (by first | omega | (simp; done) | (simp; omega) | fail)) (by first | (simp [hne, hk, del, Nat.add_assoc, getK_cons, getK, getK_append, getK_del]; done) | fail) (by rfl) (by first | assumption | (simp; done) | fail) (by rfl) (by simp) ?_; (try simp [hne, hk, del, Nat.add_assoc]))
  | (refine CallP.ok1 (hw1 _ (by first | omega | (simp; done) | (simp; omega) | fail)) (by first | (simp [hne, hk, del, Nat.add_assoc, getK_cons, getK, getK_append, getK_del]; done) | fail) (by rfl) (by first | assumption | (simp; done) | fail) (by rfl) (by simp) ?_; (try simp [hne, hk, del, Nat.add_assoc]))
  | (refine CallP.ok1 (ha _ (by first | omega | (simp; done) | (simp; omega) | fail)) (by first | (simp [hne, hk, del, Nat.add_assoc, getK_cons, getK, getK_append, getK_del]; done) | fail) (by rfl) (by first | assumption | (simp; done) | fail) (by rfl) (by simp) ?_; (try simp [hne, hk, del, Nat.add_assoc]))
  | (refine CallP.ok1 (hw2 _ (by first | omega | (simp; done) | (simp; omega) | fail)) (by first | (simp [hne, hk, del, Nat.add_assoc, getK_cons, getK, getK_append, getK_del]; done) | fail) (by rfl) (by first | assumption | (simp; done) | fail) (by rfl) (by simp) ?_; (try simp [hne, hk, del, Nat.add_assoc]))
  | (refine CallP.pan1 (hb _ (by first | omega | (simp; done) | (simp; omega) | fail)) (by first | (simp [hne, hk, del, Nat.add_assoc, getK_cons, getK, getK_append, getK_del]; done) | fail) (by rfl) (by first | assumption | (simp; done) | fail) (by rfl) (by simp) ?_; rintro ob' ⟨q', rfl⟩; refine ⟨_, Wk.refl _, ?_⟩)
  | (refine CallP_frzV (by first | rfl | fail) ?_; simp [hne, hk, del, Nat.add_assoc, frzN, frz1, frz_env, frz_obs, St.frz, St.frzS, frzS, fv, fzVec, fzMap, fzBox, frzObS, frz_entD, frz_rowsD, del, frz, frzOb])
  | fail)
      (refine hpan _ _ (PanG.k ([(i, pOb l q')]) (nx) (by simp [hn, hi, hne, getK_append, getK_del, getK_cons, getK] <;> omega) ?_); try simp)
      exact PPost.at_stop (by simp [PR.bind, *])
     | ok v3 q3 =>
      have hb := fun nx' h => exp_ok (hb nx' h) hr3
      obtain ⟨g3a, g3b⟩ := (parse_le hl f).1 _ _ _ _ hr3 g2b
      have hw3 := fun nx' (h : nx ≤ nx') => want1 hl [41] (q := q3) (i := i) (nx := nx') (by omega) g3b
      cases hr4 : wantP l q3 [[41]] with
      | stop pos e =>
       simp only [hr4] at hw3
       refine RetX.runW Tryz.func170 Tryz.ntmps170 rfl (by simp) fun Γ hn hpan => ?_
       repeat' (first
  | (refine V_run rfl ?_; simp [hne, hk, del, Nat.add_assoc])
  | (refine And.intro (by omega) ?_)
  | ((first | refine CallP.f2 rfl (hnx) (by first | simp [hne, hk, del, Nat.add_assoc] <;> rfl | fail) ?_ | refine CallP.f2 rfl (hm1) (by first | simp [hne, hk, del, Nat.add_assoc] <;> rfl | fail) ?_ | refine CallP.f2 rfl (hm2) (by first | simp [hne, hk, del, Nat.add_assoc] <;> rfl | fail) ?_ | fail); simp [hne, hk, del, Nat.add_assoc])
  | (refine CallP.ok1 (hh1 _ (by first | omega | (simp; done) | (simp; omega) | fail)) (by first | (simp [hne, hk, del, Nat.add_assoc, getK_cons, getK, getK_append, getK_del]; done) | fail) (by rfl) (by first | assumption | (simp; done) | fail) (by rfl) (by simp) ?_; (try simp [hne, hk, del, Nat.add_assoc]))
  | (refine CallP.ok1 (hh2 _ (by first | omega | (simp; done) | (simp; omega) | fail)) (by first | (simp [hne, hk, del, Nat.add_assoc, getK_cons, getK, getK_append, getK_del]; done) | fail) (by rfl) (by first | assumption | (simp; done) | fail) (by rfl) (by simp) ?_; (try simp [hne, hk, del, Nat.add_assoc]))
  | (refine CallP.ok1 (hw1 _ (by first | omega | (simp; done) | (simp; omega) | fail)) (by first | (simp [hne, hk, del, Nat.add_assoc, getK_cons, getK, getK_append, getK_del]; done) | fail) (by rfl) (by first | assumption | (simp; done) | fail) (by rfl) (by simp) ?_; (try simp [hne, hk, del, Nat.add_assoc]))
  | (refine CallP.ok1 (ha _ (by first | omega | (simp; done) | (simp; omega) | fail)) (by first | (simp [hne, hk, del, Nat.add_assoc, getK_cons, getK, getK_append, getK_del]; done) | fail) (by rfl) (by first | assumption | (simp; done) | fail) (by rfl) (by simp) ?_; (try simp [hne, hk, del, Nat.add_assoc]))
  | (refine CallP.ok1 (hw2 _ (by first | omega | (simp; done) | (simp; omega) | fail)) (by first | (simp [hne, hk, del, Nat.add_assoc, getK_cons, getK, getK_append, getK_del]; done) | fail) (by rfl) (by first | assumption | (simp; done) | fail) (by rfl) (by simp) ?_; (try simp [hne, hk, del, Nat.add_assoc]))
  | (refine CallP.ok1 (hb _ (by first | omega | (simp; done) | (simp; omega) | fail)) (by first | (simp [hne, hk, del, Nat.add_assoc, getK_cons, getK, getK_append, getK_del]; done) | fail) (by rfl) (by first | assumption | (simp; done) | fail) (by rfl) (by simp) ?_; (try simp [hne, hk, del, Nat.add_assoc]))
  | (refine CallP.pan1 (hw3 _ (by first | omega | (simp; done) | (simp; omega) | fail)) (by first | (simp [hne, hk, del, Nat.add_assoc, getK_cons, getK, getK_append, getK_del]; done) | fail) (by rfl) (by first | assumption | (simp; done) | fail) (by rfl) (by simp) ?_; rintro ob' ⟨q', rfl⟩; refine ⟨_, Wk.refl _, ?_⟩)
  | (refine CallP_frzV (by first | rfl | fail) ?_; simp [hne, hk, del, Nat.add_assoc, frzN, frz1, frz_env, frz_obs, St.frz, St.frzS, frzS, fv, fzVec, fzMap, fzBox, frzObS, frz_entD, frz_rowsD, del, frz, frzOb])
  | fail)
       (refine hpan _ _ (PanG.k ([(i, pOb l q')]) (nx) (by simp [hn, hi, hne, getK_append, getK_del, getK_cons, getK] <;> omega) ?_); try simp)
       exact PPost.at_stop (by simp [PR.bind, *])
      | ok v4 q4 =>
       simp only [hr4] at hw3
       obtain ⟨g4a, g4b⟩ := wantP_le hl _ hr4 g3b
       refine RetX.runW Tryz.func170 Tryz.ntmps170 rfl (by simp) fun Γ hn hpan => ?_
       repeat' (first
  | (refine V_run rfl ?_; simp [hne, hk, del, Nat.add_assoc])
  | (refine And.intro (by omega) ?_)
  | ((first | refine CallP.f2 rfl (hnx) (by first | simp [hne, hk, del, Nat.add_assoc] <;> rfl | fail) ?_ | refine CallP.f2 rfl (hm1) (by first | simp [hne, hk, del, Nat.add_assoc] <;> rfl | fail) ?_ | refine CallP.f2 rfl (hm2) (by first | simp [hne, hk, del, Nat.add_assoc] <;> rfl | fail) ?_ | fail); simp [hne, hk, del, Nat.add_assoc])
  | (refine CallP.ok1 (hh1 _ (by first | omega | (simp; done) | (simp; omega) | fail)) (by first | (simp [hne, hk, del, Nat.add_assoc, getK_cons, getK, getK_append, getK_del]; done) | fail) (by rfl) (by first | assumption | (simp; done) | fail) (by rfl) (by simp) ?_; (try simp [hne, hk, del, Nat.add_assoc]))
  | (refine CallP.ok1 (hh2 _ (by first | omega | (simp; done) | (simp; omega) | fail)) (by first | (simp [hne, hk, del, Nat.add_assoc, getK_cons, getK, getK_append, getK_del]; done) | fail) (by rfl) (by first | assumption | (simp; done) | fail) (by rfl) (by simp) ?_; (try simp [hne, hk, del, Nat.add_assoc]))
  | (refine CallP.ok1 (hw1 _ (by first | omega | (simp; done) | (simp; omega) | fail)) (by first | (simp [hne, hk, del, Nat.add_assoc, getK_cons, getK, getK_append, getK_del]; done) | fail) (by rfl) (by first | assumption | (simp; done) | fail) (by rfl) (by simp) ?_; (try simp [hne, hk, del, Nat.add_assoc]))
  | (refine CallP.ok1 (ha _ (by first | omega | (simp; done) | (simp; omega) | fail)) (by first | (simp [hne, hk, del, Nat.add_assoc, getK_cons, getK, getK_append, getK_del]; done) | fail) (by rfl) (by first | assumption | (simp; done) | fail) (by rfl) (by simp) ?_; (try simp [hne, hk, del, Nat.add_assoc]))
  | (refine CallP.ok1 (hw2 _ (by first | omega | (simp; done) | (simp; omega) | fail)) (by first | (simp [hne, hk, del, Nat.add_assoc, getK_cons, getK, getK_append, getK_del]; done) | fail) (by rfl) (by first | assumption | (simp; done) | fail) (by rfl) (by simp) ?_; (try simp [hne, hk, del, Nat.add_assoc]))
  | (refine CallP.ok1 (hb _ (by first | omega | (simp; done) | (simp; omega) | fail)) (by first | (simp [hne, hk, del, Nat.add_assoc, getK_cons, getK, getK_append, getK_del]; done) | fail) (by rfl) (by first | assumption | (simp; done) | fail) (by rfl) (by simp) ?_; (try simp [hne, hk, del, Nat.add_assoc]))
  | (refine CallP.ok1 (hw3 _ (by first | omega | (simp; done) | (simp; omega) | fail)) (by first | (simp [hne, hk, del, Nat.add_assoc, getK_cons, getK, getK_append, getK_del]; done) | fail) (by rfl) (by first | assumption | (simp; done) | fail) (by rfl) (by simp) ?_; (try simp [hne, hk, del, Nat.add_assoc]))
  | (refine CallP_frzV (by first | rfl | fail) ?_; simp [hne, hk, del, Nat.add_assoc, frzN, frz1, frz_env, frz_obs, St.frz, St.frzS, frzS, fv, fzVec, fzMap, fzBox, frzObS, frz_entD, frz_rowsD, del, frz, frzOb])
  | fail)
       (refine EndW.frzN 1 ?_; simp [del, hne, Nat.add_assoc])
       refine EndW.norm ?_
       simp [St.norm, normOb, normD, normU, norm1, hne, Nat.add_assoc]
       (refine EndW.z ([(i, pOb l q4)]) (N := nx) Tryz.results170 (by simp [hne, hi] <;> omega) ?_; simp [hne, hi])
       exact PPost.at_ok (by simp [PR.bind, *]; rfl) (by simp [Exp.row_eq, Exp.op, Exp.n, Exp.unit, Exp.s, Exp.args]) rfl
theorem primary_max {l : List Tok} (hl : TokOK l) {f p : Nat} (hE : ExpOK l f) (hf : 4 * (l.length - p) ≤ f) {t : Tok} (ht : l[p]? = some t) (hk : ¬ t.kind = 2) (h1 : isB l p [116, 114, 117, 101] = false) (h2 : isB l p [102, 97, 108, 115, 101] = false)
  (h3 : isB l p [109, 105, 110] = false) (h4 : isB l p [109, 97, 120] = true) {i nx : Nat} (hi : i < nx) :
  RetX Tryz.prog 170 [.ptr i 0] [(i, pOb l p)] nx (PPost l i nx expD (primaryP l (f + 1) p)) := primary_mm hl hE hf ht hk h1 h2 (.inl ⟨h3, h4⟩) hi
theorem prefix_if {l : List Tok} (hl : TokOK l) {f p : Nat} {form : Int} (hE : ExpOK l f) (hp : p < l.length) (hf : 4 * (l.length - p) + 1 ≤ f)
  (hf0 : form = 0) (h1 : isB l p [105, 102] = true) {i nx : Nat} (hi : i < nx) :
  RetX Tryz.prog 139 [.ptr i 0, intD form] [(i, pOb l p)] nx (PPost l i nx pairD (prefixP l (f + 1) p form)) := by
 have hne := ne_facts hi
 have hll := hl.len
 rw [prefixP]
 have hp2 := isB_lt hl h1
 subst hf0
 have hf0 : (0 : Int) = 0 := rfl
 have hf3 : (0 : Int) ≤ 3 := by omega
 have hh1 := fun nx' (h : nx ≤ nx') => has_ret l p [105, 102] i nx' (by omega) hp hl.len
 simp only [h1, if_true] at hh1
 rw [if_pos ⟨rfl, h1⟩]
 have ha := fun nx' (h : nx ≤ nx') => hE (p + 1) 0 i nx' (by omega) hp2 (by omega) (by omega) (by omega)
 cases hr0 : expP l f (p + 1) 0 with
 | stop pos e =>
  simp only [hr0] at ha
  refine RetX.runW Tryz.func139 Tryz.ntmps139 rfl (by simp) fun Γ hn hpan => ?_
  repeat' (first
  | (refine V_run rfl ?_; simp [hne, hf0, hf3, del, Nat.add_assoc])
  | (refine CallP.ok1 (hh1 _ (by first | omega | (simp; done) | (simp; omega) | fail)) (by first | (simp [hne, hf0, hf3, del, Nat.add_assoc, getK_cons, getK, getK_append, getK_del]; done) | fail) (by rfl) (by first | assumption | (simp; done) | fail) (by rfl) (by simp) ?_; (try simp [hne, hf0, hf3, del, Nat.add_assoc]))
  | (refine CallP.pan1 (ha _ (by first | omega | (simp; done) | (simp; omega) | fail)) (by first | (simp [hne, hf0, hf3, del, Nat.add_assoc, getK_cons, getK, getK_append, getK_del]; done) | fail) (by rfl) (by first | assumption | (simp; done) | fail) (by rfl) (by simp) ?_; rintro ob' ⟨q', rfl⟩; refine ⟨_, Wk.refl _, ?_⟩)
  | fail)
  (refine hpan _ _ (PanG.k ([(i, pOb l q')]) (nx) (by simp [hn, hi, hne, getK_append, getK_del, getK_cons, getK] <;> omega) ?_); try simp)
  exact PPost.at_stop (by simp [PR.bind, *])
 | ok v0 q0 =>
  have ha := fun nx' h => exp_ok (ha nx' h) hr0
  obtain ⟨g0a, g0b⟩ := (parse_le hl f).1 _ _ _ _ hr0 hp2
  have hw1 := fun nx' (h : nx ≤ nx') => want1 hl [116, 104, 101, 110] (q := q0) (i := i) (nx := nx') (by omega) g0b
  cases hr1 : wantP l q0 [[116, 104, 101, 110]] with
  | stop pos e =>
   simp only [hr1] at hw1
   refine RetX.runW Tryz.func139 Tryz.ntmps139 rfl (by simp) fun Γ hn hpan => ?_
   repeat' (first
  | (refine V_run rfl ?_; simp [hne, hf0, hf3, del, Nat.add_assoc])
  | (refine CallP.ok1 (hh1 _ (by first | omega | (simp; done) | (simp; omega) | fail)) (by first | (simp [hne, hf0, hf3, del, Nat.add_assoc, getK_cons, getK, getK_append, getK_del]; done) | fail) (by rfl) (by first | assumption | (simp; done) | fail) (by rfl) (by simp) ?_; (try simp [hne, hf0, hf3, del, Nat.add_assoc]))
  | (refine CallP.ok1 (ha _ (by first | omega | (simp; done) | (simp; omega) | fail)) (by first | (simp [hne, hf0, hf3, del, Nat.add_assoc, getK_cons, getK, getK_append, getK_del]; done) | fail) (by rfl) (by first | assumption | (simp; done) | fail) (by rfl) (by simp) ?_; (try simp [hne, hf0, hf3, del, Nat.add_assoc]))
  | (refine CallP.pan1 (hw1 _ (by first | omega | (simp; done) | (simp; omega) | fail)) (by first | (simp [hne, hf0, hf3, del, Nat.add_assoc, getK_cons, getK, getK_append, getK_del]; done) | fail) (by rfl) (by first | assumption | (simp; done) | fail) (by rfl) (by simp) ?_; rintro ob' ⟨q', rfl⟩; refine ⟨_, Wk.refl _, ?_⟩)
  | (refine CallP_frzV (by first | rfl | fail) ?_; simp [hne, hf0, hf3, del, Nat.add_assoc, frzN, frz1, frz_env, frz_obs, St.frz, St.frzS, frzS, fv, fzVec, fzMap, fzBox, frzObS, frz_entD, frz_rowsD, del, frz, frzOb])
  | fail)
   (refine hpan _ _ (PanG.k ([(i, pOb l q')]) (nx) (by simp [hn, hi, hne, getK_append, getK_del, getK_cons, getK] <;> omega) ?_); try simp)
   exact PPost.at_stop (by simp [PR.bind, *])
  | ok v1 q1 =>
   simp only [hr1] at hw1
   obtain ⟨g1a, g1b⟩ := wantP_le hl _ hr1 g0b
   have hb := fun nx' (h : nx ≤ nx') => hE q1 0 i nx' (by omega) g1b (by omega) (by omega) (by omega)
   cases hr2 : expP l f q1 0 with
   | stop pos e =>
    simp only [hr2] at hb
    refine RetX.runW Tryz.func139 Tryz.ntmps139 rfl (by simp) fun Γ hn hpan => ?_
    repeat' (first
  | (refine V_run rfl ?_; simp [hne, hf0, hf3, del, Nat.add_assoc])
  | (refine CallP.ok1 (hh1 _ (by first | omega | (simp; done) | (simp; omega) | fail)) (by first | (simp [hne, hf0, hf3, del, Nat.add_assoc, getK_cons, getK, getK_append, getK_del]; done) | fail) (by rfl) (by first | assumption | (simp; done) | fail) (by rfl) (by simp) ?_; (try simp [hne, hf0, hf3, del, Nat.add_assoc]))
  | (refine CallP.ok1 (ha _ (by first | omega | (simp; done) | (simp; omega) | fail)) (by first | (simp [hne, hf0, hf3, del, Nat.add_assoc, getK_cons, getK, getK_append, getK_del]; done) | fail) (by rfl) (by first | assumption | (simp; done) | fail) (by rfl) (by simp) ?_; (try simp [hne, hf0, hf3, del, Nat.add_assoc]))
  | (refine CallP.ok1 (hw1 _ (by first | omega | (simp; done) | (simp; omega) | fail)) (by first | (simp [hne, hf0, hf3, del, Nat.add_assoc, getK_cons, getK, getK_append, getK_del]; done) | fail) (by rfl) (by first | assumption | (simp; done) | fail) (by rfl) (by simp) ?_; (try simp [hne, hf0, hf3, del, Nat.add_assoc]))
  | (refine CallP.pan1 (hb _ (by first | omega | (simp; done) | (simp; omega) | fail)) (by first | (simp [hne, hf0, hf3, del, Nat.add_assoc, getK_cons, getK, getK_append, getK_del]; done) | fail) (by rfl) (by first | assumption | (simp; done) | fail) (by rfl) (by simp) ?_; rintro ob' ⟨q', rfl⟩; refine ⟨_, Wk.refl _, ?_⟩)
  | (refine CallP_frzV (by first | rfl | fail) ?_; simp [hne, hf0, hf3, del, Nat.add_assoc, frzN, frz1, frz_env, frz_obs, St.frz, St.frzS, frzS, fv, fzVec, fzMap, fzBox, frzObS, frz_entD, frz_rowsD, del, frz, frzOb])
  | fail)
    (refine hpan _ _ (PanG.k ([(i, pOb l q')]) (nx) (by simp [hn, hi, hne, getK_append, getK_del, getK_cons, getK] <;> omega) ?_); try simp)
    exact PPost.at_stop (by simp [PR.bind, *])
   | ok v2 q2 =>
    have hb := fun nx' h => exp_ok (hb nx' h) hr2
    obtain ⟨g2a, g2b⟩ := (parse_le hl f).1 _ _ _ _ hr2 g1b
    have hw2 := fun nx' (h : nx ≤ nx') => want1 hl [101, 108, 115, 101] (q := q2) (i := i) (nx := nx') (by omega) g2b
    cases hr3 : wantP l q2 [[101, 108, 115, 101]] with
    | stop pos e =>
     simp only [hr3] at hw2
     refine RetX.runW Tryz.func139 Tryz.ntmps139 rfl (by simp) fun Γ hn hpan => ?_
     repeat' (first
  | (refine V_run rfl ?_; simp [hne, hf0, hf3, del, Nat.add_assoc])
  | (refine CallP.ok1 (hh1 _ (by first | omega | (simp; done) | (simp; omega) | fail)) (by first | (simp [hne, hf0, hf3, del, Nat.add_assoc, getK_cons, getK, getK_append, getK_del]; done) | fail) (by rfl) (by first | assumption | (simp; done) | fail) (by rfl) (by simp) ?_; (try simp [hne, hf0, hf3, del, Nat.add_assoc]))
  | (refine CallP.ok1 (ha _ (by first | omega | (simp; done) | (simp; omega) | fail)) (by first | (simp [hne, hf0, hf3, del, Nat.add_assoc, getK_cons, getK, getK_append, getK_del]; done) | fail) (by rfl) (by first | assumption | (simp; done) | fail) (by rfl) (by simp) ?_; (try simp [hne, hf0, hf3, del, Nat.add_assoc]))
  | (refine CallP.ok1 (hw1 _ (by first | omega | (simp; done) | (simp; omega) | fail)) (by first | (simp [hne, hf0, hf3, del, Nat.add_assoc, getK_cons, getK, getK_append, getK_del]; done) | fail) (by rfl) (by first | assumption | (simp; done) | fail) (by rfl) (by simp) ?_; (try simp [hne, hf0, hf3, del, Nat.add_assoc]))
  | (refine CallP.ok1 (hb _ (by first | omega | (simp; done) | (simp; omega) | fail)) (by first | (simp [hne, hf0, hf3, del, Nat.add_assoc, getK_cons, getK, getK_append, getK_del]; done) | fail) (by rfl) (by first | assumption | (simp; done) | fail) (by rfl) (by simp) ?_; (try simp [hne, hf0, hf3, del, Nat.add_assoc]))
  | (refine CallP.pan1 (hw2 _ (by first | omega | (simp; done) | (simp; omega) | fail)) (by first | (simp [hne, hf0, hf3, del, Nat.add_assoc, getK_cons, getK, getK_append, getK_del]; done) | fail) (by rfl) (by first | assumption | (simp; done) | fail) (by rfl) (by simp) ?_; rintro ob' ⟨q', rfl⟩; refine ⟨_, Wk.refl _, ?_⟩)
  | (refine CallP_frzV (by first | rfl | fail) ?_; simp [hne, hf0, hf3, del, Nat.add_assoc, frzN, frz1, frz_env, frz_obs, St.frz, St.frzS, frzS, fv, fzVec, fzMap, fzBox, frzObS, frz_entD, frz_rowsD, del, frz, frzOb])
  | fail)
     (refine hpan _ _ (PanG.k ([(i, pOb l q')]) (nx) (by simp [hn, hi, hne, getK_append, getK_del, getK_cons, getK] <;> omega) ?_); try simp)
     exact PPost.at_stop (by simp [PR.bind, *])
    | ok v3 q3 =>
     simp only [hr3] at hw2
     obtain ⟨g3a, g3b⟩ := wantP_le hl _ hr3 g2b
     have hc := fun nx' (h : nx ≤ nx') => hE q3 0 i nx' (by omega) g3b (by omega) (by omega) (by omega)
     cases hr4 : expP l f q3 0 with
     | stop pos e =>
      simp only [hr4] at hc
      refine RetX.runW Tryz.func139 Tryz.ntmps139 rfl (by simp) fun Γ hn hpan => ?_
      repeat' (first
  | (refine HD4_pan1 (fun nx' h' => hc nx' (by simp at h'; omega)) (by first | (simp [hne, hf0, hf3, del, Nat.add_assoc, getK_cons, getK, getK_append, getK_del, getK_setOb, applyW]; done) | fail) (by rfl) (by first | assumption | simp) (by rfl) (by simp) ?_ ?_; rintro env' ob' n' hn' ⟨q', rfl⟩; refine ⟨_, Wk.refl _, ?_⟩)
  | (refine HD4_skipS rfl (by simp) ?_; simp)
  | (refine V_run rfl ?_; simp [hne, hf0, hf3, del, Nat.add_assoc])
  | (refine HD4_nilS (hC _ (okP4_ren [i] nx (by simp <;> omega) (by simp <;> omega) (by apply Exists.intro; apply And.intro; (focus (repeat' (first | exact KF.nil | exact KL.nil | apply KF.cons | apply KL.cons 0 rfl | apply KL.cons 1 rfl | apply KL.cons 2 rfl | apply KL.cons 3 rfl | apply KL.cons 4 rfl | apply KL.cons 5 rfl | apply KL.cons 6 rfl | apply KL.cons 7 rfl | apply KL.cons 8 rfl | apply KL.cons 9 rfl))); kernel_rfl))) rfl; done)
  | (refine V_dx rfl (by kernel_rfl) (by first | (simp [hn]; done) | (simp [hn]; omega) | fail) fun C k hC hk => ?_; simp [hne, hf0, hf3, del, Nat.add_assoc])
  | (refine CallP.ok1 (hh1 _ (by first | omega | (simp; done) | (simp; omega) | fail)) (by first | (simp [hne, hf0, hf3, del, Nat.add_assoc, getK_cons, getK, getK_append, getK_del]; done) | fail) (by rfl) (by first | assumption | (simp; done) | fail) (by rfl) (by simp) ?_; (try simp [hne, hf0, hf3, del, Nat.add_assoc]))
  | (refine CallP.ok1 (ha _ (by first | omega | (simp; done) | (simp; omega) | fail)) (by first | (simp [hne, hf0, hf3, del, Nat.add_assoc, getK_cons, getK, getK_append, getK_del]; done) | fail) (by rfl) (by first | assumption | (simp; done) | fail) (by rfl) (by simp) ?_; (try simp [hne, hf0, hf3, del, Nat.add_assoc]))
  | (refine CallP.ok1 (hw1 _ (by first | omega | (simp; done) | (simp; omega) | fail)) (by first | (simp [hne, hf0, hf3, del, Nat.add_assoc, getK_cons, getK, getK_append, getK_del]; done) | fail) (by rfl) (by first | assumption | (simp; done) | fail) (by rfl) (by simp) ?_; (try simp [hne, hf0, hf3, del, Nat.add_assoc]))
  | (refine CallP.ok1 (hb _ (by first | omega | (simp; done) | (simp; omega) | fail)) (by first | (simp [hne, hf0, hf3, del, Nat.add_assoc, getK_cons, getK, getK_append, getK_del]; done) | fail) (by rfl) (by first | assumption | (simp; done) | fail) (by rfl) (by simp) ?_; (try simp [hne, hf0, hf3, del, Nat.add_assoc]))
  | (refine CallP.ok1 (hw2 _ (by first | omega | (simp; done) | (simp; omega) | fail)) (by first | (simp [hne, hf0, hf3, del, Nat.add_assoc, getK_cons, getK, getK_append, getK_del]; done) | fail) (by rfl) (by first | assumption | (simp; done) | fail) (by rfl) (by simp) ?_; (try simp [hne, hf0, hf3, del, Nat.add_assoc]))
  | (refine CallP_frzV (by first | rfl | fail) ?_; simp [hne, hf0, hf3, del, Nat.add_assoc, frzN, frz1, frz_env, frz_obs, St.frz, St.frzS, frzS, fv, fzVec, fzMap, fzBox, frzObS, frz_entD, frz_rowsD, del, frz, frzOb])
  | fail)
      (refine hpan _ _ (PanG.k ([(i, pOb l q')]) (nx) (by simp [hn, hi, hne, getK_append, getK_del, getK_cons, getK] <;> omega) ?_); try simp)
      exact PPost.at_stop (by simp [PR.bind, *])
     | ok v4 q4 =>
      have hc := fun nx' h => exp_ok (hc nx' h) hr4
      obtain ⟨g4a, g4b⟩ := (parse_le hl f).1 _ _ _ _ hr4 g3b
      refine RetX.runW Tryz.func139 Tryz.ntmps139 rfl (by simp) fun Γ hn hpan => ?_
      repeat' (first
  | (refine HD4_ok1 (fun nx' h' => hc nx' (by simp at h'; omega)) (by first | (simp [hne, hf0, hf3, del, Nat.add_assoc, getK_cons, getK, getK_append, getK_del, getK_setOb, applyW]; done) | fail) (by rfl) (by first | assumption | simp) (by rfl) (by simp [D.under, Ob.under]) (by simp) ?_; (try simp [hne, hf0, hf3, del, Nat.add_assoc]))
  | (refine V_run rfl ?_; simp [hne, hf0, hf3, del, Nat.add_assoc])
  | (refine ⟨hC _ (okP4_ren [i] nx (by simp <;> omega) (by simp <;> omega) (by apply Exists.intro; apply And.intro; (focus (repeat' (first | exact KF.nil | exact KL.nil | apply KF.cons | apply KL.cons 0 rfl | apply KL.cons 1 rfl | apply KL.cons 2 rfl | apply KL.cons 3 rfl | apply KL.cons 4 rfl | apply KL.cons 5 rfl | apply KL.cons 6 rfl | apply KL.cons 7 rfl | apply KL.cons 8 rfl | apply KL.cons 9 rfl))); kernel_rfl)), hk _ (RN_K 8 _ _ _ ?_)⟩; clear hC hk C k; simp [hne, hf0, hf3, del, Nat.add_assoc])
  | (refine V_dx rfl (by kernel_rfl) (by first | (simp [hn]; done) | (simp [hn]; omega) | fail) fun C k hC hk => ?_; simp [hne, hf0, hf3, del, Nat.add_assoc])
  | (refine H4_HD4 rfl ?_; simp [hne, hf0, hf3, del, Nat.add_assoc])
  | (refine CallP.ok1 (hh1 _ (by first | omega | (simp; done) | (simp; omega) | fail)) (by first | (simp [hne, hf0, hf3, del, Nat.add_assoc, getK_cons, getK, getK_append, getK_del]; done) | fail) (by rfl) (by first | assumption | (simp; done) | fail) (by rfl) (by simp) ?_; (try simp [hne, hf0, hf3, del, Nat.add_assoc]))
  | (refine CallP.ok1 (ha _ (by first | omega | (simp; done) | (simp; omega) | fail)) (by first | (simp [hne, hf0, hf3, del, Nat.add_assoc, getK_cons, getK, getK_append, getK_del]; done) | fail) (by rfl) (by first | assumption | (simp; done) | fail) (by rfl) (by simp) ?_; (try simp [hne, hf0, hf3, del, Nat.add_assoc]))
  | (refine CallP.ok1 (hw1 _ (by first | omega | (simp; done) | (simp; omega) | fail)) (by first | (simp [hne, hf0, hf3, del, Nat.add_assoc, getK_cons, getK, getK_append, getK_del]; done) | fail) (by rfl) (by first | assumption | (simp; done) | fail) (by rfl) (by simp) ?_; (try simp [hne, hf0, hf3, del, Nat.add_assoc]))
  | (refine CallP.ok1 (hb _ (by first | omega | (simp; done) | (simp; omega) | fail)) (by first | (simp [hne, hf0, hf3, del, Nat.add_assoc, getK_cons, getK, getK_append, getK_del]; done) | fail) (by rfl) (by first | assumption | (simp; done) | fail) (by rfl) (by simp) ?_; (try simp [hne, hf0, hf3, del, Nat.add_assoc]))
  | (refine CallP.ok1 (hw2 _ (by first | omega | (simp; done) | (simp; omega) | fail)) (by first | (simp [hne, hf0, hf3, del, Nat.add_assoc, getK_cons, getK, getK_append, getK_del]; done) | fail) (by rfl) (by first | assumption | (simp; done) | fail) (by rfl) (by simp) ?_; (try simp [hne, hf0, hf3, del, Nat.add_assoc]))
  | (refine CallP_frzV (by first | rfl | fail) ?_; simp [hne, hf0, hf3, del, Nat.add_assoc, frzN, frz1, frz_env, frz_obs, St.frz, St.frzS, frzS, fv, fzVec, fzMap, fzBox, frzObS, frz_entD, frz_rowsD, del, frz, frzOb])
  | fail)
      (refine EndW.frzN 1 ?_; simp [del, hne, Nat.add_assoc])
      refine EndW.norm ?_
      simp [St.norm, normOb, normD, normU, norm1, hne, Nat.add_assoc]
      (refine EndW.z ([(i, pOb l q4)]) (N := nx) Tryz.results139 (by simp [hne, hi] <;> omega) ?_; simp [hne, hi])
      exact PPost.at_ok (by simp [PR.bind, *]; rfl) (by simp [Exp.row_eq, Exp.op, Exp.n, Exp.unit, Exp.s, Exp.args]) rfl
theorem prefix_not0 {l : List Tok} (hl : TokOK l) {f p : Nat} {form : Int} (hE : ExpOK l f) (hp : p < l.length) (hf : 4 * (l.length - p) + 1 ≤ f)
  (hf0 : form = 0) (hf3 : form ≤ 3) (h1 : isB l p [105, 102] = false) (h2 : isB l p [110, 111, 116] = true) {i nx : Nat} (hi : i < nx) :
  RetX Tryz.prog 139 [.ptr i 0, intD form] [(i, pOb l p)] nx (PPost l i nx pairD (prefixP l (f + 1) p form)) := by
 have hne := ne_facts hi
 have hll := hl.len
 rw [prefixP]
 have hh1 := fun nx' (h : nx ≤ nx') => has_ret l p [105, 102] i nx' (by omega) hp hl.len
 rw [h1] at hh1
 simp only [if_true, Bool.false_eq_true, if_false] at hh1
 have hp2 := isB_lt hl h2
 have hh2 := fun nx' (h : nx ≤ nx') => has_ret l p [110, 111, 116] i nx' (by omega) hp hl.len
 rw [h2] at hh2
 simp only [if_true, Bool.false_eq_true, if_false] at hh2
 rw [if_neg (by simp [*]), if_pos ⟨hf3, h2⟩]
 have ha := fun nx' (h : nx ≤ nx') => hE (p + 1) 3 i nx' (by omega) hp2 (by omega) (by omega) (by omega)
 cases hr0 : expP l f (p + 1) 3 with
 | stop pos e =>
  simp only [hr0] at ha
  refine RetX.runW Tryz.func139 Tryz.ntmps139 rfl (by simp) fun Γ hn hpan => ?_
  repeat' (first
  | (refine V_run rfl ?_; simp [hne, hf0, hf3, del, Nat.add_assoc])
  | (refine CallP.ok1 (hh1 _ (by first | omega | (simp; done) | (simp; omega) | fail)) (by first | (simp [hne, hf0, hf3, del, Nat.add_assoc, getK_cons, getK, getK_append, getK_del]; done) | fail) (by rfl) (by first | assumption | (simp; done) | fail) (by rfl) (by simp) ?_; (try simp [hne, hf0, hf3, del, Nat.add_assoc]))
  | (refine CallP.ok1 (hh2 _ (by first | omega | (simp; done) | (simp; omega) | fail)) (by first | (simp [hne, hf0, hf3, del, Nat.add_assoc, getK_cons, getK, getK_append, getK_del]; done) | fail) (by rfl) (by first | assumption | (simp; done) | fail) (by rfl) (by simp) ?_; (try simp [hne, hf0, hf3, del, Nat.add_assoc]))
  | (refine CallP.pan1 (ha _ (by first | omega | (simp; done) | (simp; omega) | fail)) (by first | (simp [hne, hf0, hf3, del, Nat.add_assoc, getK_cons, getK, getK_append, getK_del]; done) | fail) (by rfl) (by first | assumption | (simp; done) | fail) (by rfl) (by simp) ?_; rintro ob' ⟨q', rfl⟩; refine ⟨_, Wk.refl _, ?_⟩)
  | fail)
  (refine hpan _ _ (PanG.k ([(i, pOb l q')]) (nx) (by simp [hn, hi, hne, getK_append, getK_del, getK_cons, getK] <;> omega) ?_); try simp)
  exact PPost.at_stop (by simp [PR.bind, *])
 | ok v0 q0 =>
  have ha := fun nx' h => exp_ok (ha nx' h) hr0
  refine RetX.runW Tryz.func139 Tryz.ntmps139 rfl (by simp) fun Γ hn hpan => ?_
  repeat' (first
  | (refine V_run rfl ?_; simp [hne, hf0, hf3, del, Nat.add_assoc])
  | (refine CallP.ok1 (hh1 _ (by first | omega | (simp; done) | (simp; omega) | fail)) (by first | (simp [hne, hf0, hf3, del, Nat.add_assoc, getK_cons, getK, getK_append, getK_del]; done) | fail) (by rfl) (by first | assumption | (simp; done) | fail) (by rfl) (by simp) ?_; (try simp [hne, hf0, hf3, del, Nat.add_assoc]))
  | (refine CallP.ok1 (hh2 _ (by first | omega | (simp; done) | (simp; omega) | fail)) (by first | (simp [hne, hf0, hf3, del, Nat.add_assoc, getK_cons, getK, getK_append, getK_del]; done) | fail) (by rfl) (by first | assumption | (simp; done) | fail) (by rfl) (by simp) ?_; (try simp [hne, hf0, hf3, del, Nat.add_assoc]))
  | (refine CallP.ok1 (ha _ (by first | omega | (simp; done) | (simp; omega) | fail)) (by first | (simp [hne, hf0, hf3, del, Nat.add_assoc, getK_cons, getK, getK_append, getK_del]; done) | fail) (by rfl) (by first | assumption | (simp; done) | fail) (by rfl) (by simp) ?_; (try simp [hne, hf0, hf3, del, Nat.add_assoc]))
  | fail)
  (refine EndW.frzN 1 ?_; simp [del, hne, Nat.add_assoc])
  refine EndW.norm ?_
  simp [St.norm, normOb, normD, normU, norm1, hne, Nat.add_assoc]
  (refine EndW.z ([(i, pOb l q0)]) (N := nx) Tryz.results139 (by simp [hne, hi] <;> omega) ?_; simp [hne, hi])
  exact PPost.at_ok (by simp [PR.bind, *]; rfl) (by simp [Exp.row_eq, Exp.op, Exp.n, Exp.unit, Exp.s, Exp.args]) rfl
theorem prefix_not1 {l : List Tok} (hl : TokOK l) {f p : Nat} {form : Int} (hE : ExpOK l f) (hp : p < l.length) (hf : 4 * (l.length - p) + 1 ≤ f)
  (hf0 : ¬ form = 0) (hf3 : form ≤ 3) (h2 : isB l p [110, 111, 116] = true) {i nx : Nat} (hi : i < nx) :
  RetX Tryz.prog 139 [.ptr i 0, intD form] [(i, pOb l p)] nx (PPost l i nx pairD (prefixP l (f + 1) p form)) := by
 have hne := ne_facts hi
 have hll := hl.len
 rw [prefixP]
 have hp2 := isB_lt hl h2
 have hh2 := fun nx' (h : nx ≤ nx') => has_ret l p [110, 111, 116] i nx' (by omega) hp hl.len
 rw [h2] at hh2
 simp only [if_true, Bool.false_eq_true, if_false] at hh2
 rw [if_neg (by simp [*]), if_pos ⟨hf3, h2⟩]
 have ha := fun nx' (h : nx ≤ nx') => hE (p + 1) 3 i nx' (by omega) hp2 (by omega) (by omega) (by omega)
 cases hr0 : expP l f (p + 1) 3 with
 | stop pos e =>
  simp only [hr0] at ha
  refine RetX.runW Tryz.func139 Tryz.ntmps139 rfl (by simp) fun Γ hn hpan => ?_
  repeat' (first
  | (refine V_run rfl ?_; simp [hne, hf0, hf3, del, Nat.add_assoc])
  | (refine CallP.ok1 (hh2 _ (by first | omega | (simp; done) | (simp; omega) | fail)) (by first | (simp [hne, hf0, hf3, del, Nat.add_assoc, getK_cons, getK, getK_append, getK_del]; done) | fail) (by rfl) (by first | assumption | (simp; done) | fail) (by rfl) (by simp) ?_; (try simp [hne, hf0, hf3, del, Nat.add_assoc]))
  | (refine CallP.pan1 (ha _ (by first | omega | (simp; done) | (simp; omega) | fail)) (by first | (simp [hne, hf0, hf3, del, Nat.add_assoc, getK_cons, getK, getK_append, getK_del]; done) | fail) (by rfl) (by first | assumption | (simp; done) | fail) (by rfl) (by simp) ?_; rintro ob' ⟨q', rfl⟩; refine ⟨_, Wk.refl _, ?_⟩)
  | fail)
  (refine hpan _ _ (PanG.k ([(i, pOb l q')]) (nx) (by simp [hn, hi, hne, getK_append, getK_del, getK_cons, getK] <;> omega) ?_); try simp)
  exact PPost.at_stop (by simp [PR.bind, *])
 | ok v0 q0 =>
  have ha := fun nx' h => exp_ok (ha nx' h) hr0
  refine RetX.runW Tryz.func139 Tryz.ntmps139 rfl (by simp) fun Γ hn hpan => ?_
  repeat' (first
  | (refine V_run rfl ?_; simp [hne, hf0, hf3, del, Nat.add_assoc])
  | (refine CallP.ok1 (hh2 _ (by first | omega | (simp; done) | (simp; omega) | fail)) (by first | (simp [hne, hf0, hf3, del, Nat.add_assoc, getK_cons, getK, getK_append, getK_del]; done) | fail) (by rfl) (by first | assumption | (simp; done) | fail) (by rfl) (by simp) ?_; (try simp [hne, hf0, hf3, del, Nat.add_assoc]))
  | (refine CallP.ok1 (ha _ (by first | omega | (simp; done) | (simp; omega) | fail)) (by first | (simp [hne, hf0, hf3, del, Nat.add_assoc, getK_cons, getK, getK_append, getK_del]; done) | fail) (by rfl) (by first | assumption | (simp; done) | fail) (by rfl) (by simp) ?_; (try simp [hne, hf0, hf3, del, Nat.add_assoc]))
  | fail)
  (refine EndW.frzN 1 ?_; simp [del, hne, Nat.add_assoc])
  refine EndW.norm ?_
  simp [St.norm, normOb, normD, normU, norm1, hne, Nat.add_assoc]
  (refine EndW.z ([(i, pOb l q0)]) (N := nx) Tryz.results139 (by simp [hne, hi] <;> omega) ?_; simp [hne, hi])
  exact PPost.at_ok (by simp [PR.bind, *]; rfl) (by simp [Exp.row_eq, Exp.op, Exp.n, Exp.unit, Exp.s, Exp.args]) rfl
theorem prefix_prim0 {l : List Tok} (hl : TokOK l) {f p : Nat} {form : Int} (hP : PrimOK l f) (hp : p < l.length) (hf : 4 * (l.length - p) + 1 ≤ f)
  (hf0 : form = 0) (hf3 : form ≤ 3) (h1 : isB l p [105, 102] = false) (h2 : isB l p [110, 111, 116] = false) {i nx : Nat} (hi : i < nx) :
  RetX Tryz.prog 139 [.ptr i 0, intD form] [(i, pOb l p)] nx (PPost l i nx pairD (prefixP l (f + 1) p form)) := by
 have hne := ne_facts hi
 have hll := hl.len
 rw [prefixP]
 have hh1 := fun nx' (h : nx ≤ nx') => has_ret l p [105, 102] i nx' (by omega) hp hl.len
 rw [h1] at hh1
 simp only [if_true, Bool.false_eq_true, if_false] at hh1
 have hh2 := fun nx' (h : nx ≤ nx') => has_ret l p [110, 111, 116] i nx' (by omega) hp hl.len
 rw [h2] at hh2
 simp only [if_true, Bool.false_eq_true, if_false] at hh2
 rw [if_neg (by simp [*]), if_neg (by simp [*])]
 have ha := fun nx' (h : nx ≤ nx') => hP p i nx' (by omega) hp (by omega)
 cases hr0 : primaryP l f p with
 | stop pos e =>
  simp only [hr0] at ha
  refine RetX.runW Tryz.func139 Tryz.ntmps139 rfl (by simp) fun Γ hn hpan => ?_
  repeat' (first
  | (refine V_run rfl ?_; simp [hne, hf0, hf3, del, Nat.add_assoc])
  | (refine CallP.ok1 (hh1 _ (by first | omega | (simp; done) | (simp; omega) | fail)) (by first | (simp [hne, hf0, hf3, del, Nat.add_assoc, getK_cons, getK, getK_append, getK_del]; done) | fail) (by rfl) (by first | assumption | (simp; done) | fail) (by rfl) (by simp) ?_; (try simp [hne, hf0, hf3, del, Nat.add_assoc]))
  | (refine CallP.ok1 (hh2 _ (by first | omega | (simp; done) | (simp; omega) | fail)) (by first | (simp [hne, hf0, hf3, del, Nat.add_assoc, getK_cons, getK, getK_append, getK_del]; done) | fail) (by rfl) (by first | assumption | (simp; done) | fail) (by rfl) (by simp) ?_; (try simp [hne, hf0, hf3, del, Nat.add_assoc]))
  | (refine CallP.pan1 (ha _ (by first | omega | (simp; done) | (simp; omega) | fail)) (by first | (simp [hne, hf0, hf3, del, Nat.add_assoc, getK_cons, getK, getK_append, getK_del]; done) | fail) (by rfl) (by first | assumption | (simp; done) | fail) (by rfl) (by simp) ?_; rintro ob' ⟨q', rfl⟩; refine ⟨_, Wk.refl _, ?_⟩)
  | fail)
  (refine hpan _ _ (PanG.k ([(i, pOb l q')]) (nx) (by simp [hn, hi, hne, getK_append, getK_del, getK_cons, getK] <;> omega) ?_); try simp)
  exact PPost.at_stop (by simp [PR.bind, *])
 | ok v0 q0 =>
  have ha := fun nx' h => exp_ok (ha nx' h) hr0
  refine RetX.runW Tryz.func139 Tryz.ntmps139 rfl (by simp) fun Γ hn hpan => ?_
  repeat' (first
  | (refine V_run rfl ?_; simp [hne, hf0, hf3, del, Nat.add_assoc])
  | (refine CallP.ok1 (hh1 _ (by first | omega | (simp; done) | (simp; omega) | fail)) (by first | (simp [hne, hf0, hf3, del, Nat.add_assoc, getK_cons, getK, getK_append, getK_del]; done) | fail) (by rfl) (by first | assumption | (simp; done) | fail) (by rfl) (by simp) ?_; (try simp [hne, hf0, hf3, del, Nat.add_assoc]))
  | (refine CallP.ok1 (hh2 _ (by first | omega | (simp; done) | (simp; omega) | fail)) (by first | (simp [hne, hf0, hf3, del, Nat.add_assoc, getK_cons, getK, getK_append, getK_del]; done) | fail) (by rfl) (by first | assumption | (simp; done) | fail) (by rfl) (by simp) ?_; (try simp [hne, hf0, hf3, del, Nat.add_assoc]))
  | (refine CallP.ok1 (ha _ (by first | omega | (simp; done) | (simp; omega) | fail)) (by first | (simp [hne, hf0, hf3, del, Nat.add_assoc, getK_cons, getK, getK_append, getK_del]; done) | fail) (by rfl) (by first | assumption | (simp; done) | fail) (by rfl) (by simp) ?_; (try simp [hne, hf0, hf3, del, Nat.add_assoc]))
  | fail)
  refine EndW.norm ?_
  simp [St.norm, normOb, normD, normU, norm1, hne, Nat.add_assoc]
  (refine EndW.z ([(i, pOb l q0)]) (N := nx) Tryz.results139 (by simp [hne, hi] <;> omega) ?_; simp [hne, hi])
  exact PPost.at_ok (by simp [PR.bind, *]; rfl) (by simp [Exp.row_eq, Exp.op, Exp.n, Exp.unit, Exp.s, Exp.args]) rfl
theorem prefix_prim1 {l : List Tok} (hl : TokOK l) {f p : Nat} {form : Int} (hP : PrimOK l f) (hp : p < l.length) (hf : 4 * (l.length - p) + 1 ≤ f)
  (hf0 : ¬ form = 0) (hf3 : form ≤ 3) (h2 : isB l p [110, 111, 116] = false) {i nx : Nat} (hi : i < nx) :
  RetX Tryz.prog 139 [.ptr i 0, intD form] [(i, pOb l p)] nx (PPost l i nx pairD (prefixP l (f + 1) p form)) := by
 have hne := ne_facts hi
 have hll := hl.len
 rw [prefixP]
 have hh2 := fun nx' (h : nx ≤ nx') => has_ret l p [110, 111, 116] i nx' (by omega) hp hl.len
 rw [h2] at hh2
 simp only [if_true, Bool.false_eq_true, if_false] at hh2
 rw [if_neg (by simp [*]), if_neg (by simp [*])]
 have ha := fun nx' (h : nx ≤ nx') => hP p i nx' (by omega) hp (by omega)
 cases hr0 : primaryP l f p with
 | stop pos e =>
  simp only [hr0] at ha
  refine RetX.runW Tryz.func139 Tryz.ntmps139 rfl (by simp) fun Γ hn hpan => ?_
  repeat' (first
  | (refine V_run rfl ?_; simp [hne, hf0, hf3, del, Nat.add_assoc])
  | (refine CallP.ok1 (hh2 _ (by first | omega | (simp; done) | (simp; omega) | fail)) (by first | (simp [hne, hf0, hf3, del, Nat.add_assoc, getK_cons, getK, getK_append, getK_del]; done) | fail) (by rfl) (by first | assumption | (simp; done) | fail) (by rfl) (by simp) ?_; (try simp [hne, hf0, hf3, del, Nat.add_assoc]))
  | (refine CallP.pan1 (ha _ (by first | omega | (simp; done) | (simp; omega) | fail)) (by first | (simp [hne, hf0, hf3, del, Nat.add_assoc, getK_cons, getK, getK_append, getK_del]; done) | fail) (by rfl) (by first | assumption | (simp; done) | fail) (by rfl) (by simp) ?_; rintro ob' ⟨q', rfl⟩; refine ⟨_, Wk.refl _, ?_⟩)
  | fail)
  (refine hpan _ _ (PanG.k ([(i, pOb l q')]) (nx) (by simp [hn, hi, hne, getK_append, getK_del, getK_cons, getK] <;> omega) ?_); try simp)
  exact PPost.at_stop (by simp [PR.bind, *])
 | ok v0 q0 =>
  have ha := fun nx' h => exp_ok (ha nx' h) hr0
  refine RetX.runW Tryz.func139 Tryz.ntmps139 rfl (by simp) fun Γ hn hpan => ?_
  repeat' (first
  | (refine V_run rfl ?_; simp [hne, hf0, hf3, del, Nat.add_assoc])
  | (refine CallP.ok1 (hh2 _ (by first | omega | (simp; done) | (simp; omega) | fail)) (by first | (simp [hne, hf0, hf3, del, Nat.add_assoc, getK_cons, getK, getK_append, getK_del]; done) | fail) (by rfl) (by first | assumption | (simp; done) | fail) (by rfl) (by simp) ?_; (try simp [hne, hf0, hf3, del, Nat.add_assoc]))
  | (refine CallP.ok1 (ha _ (by first | omega | (simp; done) | (simp; omega) | fail)) (by first | (simp [hne, hf0, hf3, del, Nat.add_assoc, getK_cons, getK, getK_append, getK_del]; done) | fail) (by rfl) (by first | assumption | (simp; done) | fail) (by rfl) (by simp) ?_; (try simp [hne, hf0, hf3, del, Nat.add_assoc]))
  | fail)
  refine EndW.norm ?_
  simp [St.norm, normOb, normD, normU, norm1, hne, Nat.add_assoc]
  (refine EndW.z ([(i, pOb l q0)]) (N := nx) Tryz.results139 (by simp [hne, hi] <;> omega) ?_; simp [hne, hi])
  exact PPost.at_ok (by simp [PR.bind, *]; rfl) (by simp [Exp.row_eq, Exp.op, Exp.n, Exp.unit, Exp.s, Exp.args]) rfl
theorem prefix_prim2 {l : List Tok} (hl : TokOK l) {f p : Nat} {form : Int} (hP : PrimOK l f) (hp : p < l.length) (hf : 4 * (l.length - p) + 1 ≤ f)
  (hf0 : ¬ form = 0) (hf3 : ¬ form ≤ 3) {i nx : Nat} (hi : i < nx) :
  RetX Tryz.prog 139 [.ptr i 0, intD form] [(i, pOb l p)] nx (PPost l i nx pairD (prefixP l (f + 1) p form)) := by
 have hne := ne_facts hi
 have hll := hl.len
 rw [prefixP]
 rw [if_neg (by simp [*]), if_neg (by simp [*])]
 have ha := fun nx' (h : nx ≤ nx') => hP p i nx' (by omega) hp (by omega)
 cases hr0 : primaryP l f p with
 | stop pos e =>
  simp only [hr0] at ha
  refine RetX.runW Tryz.func139 Tryz.ntmps139 rfl (by simp) fun Γ hn hpan => ?_
  repeat' (first
  | (refine V_run rfl ?_; simp [hne, hf0, hf3, del, Nat.add_assoc])
  | (refine CallP.pan1 (ha _ (by first | omega | (simp; done) | (simp; omega) | fail)) (by first | (simp [hne, hf0, hf3, del, Nat.add_assoc, getK_cons, getK, getK_append, getK_del]; done) | fail) (by rfl) (by first | assumption | (simp; done) | fail) (by rfl) (by simp) ?_; rintro ob' ⟨q', rfl⟩; refine ⟨_, Wk.refl _, ?_⟩)
  | fail)
  (refine hpan _ _ (PanG.k ([(i, pOb l q')]) (nx) (by simp [hn, hi, hne, getK_append, getK_del, getK_cons, getK] <;> omega) ?_); try simp)
  exact PPost.at_stop (by simp [PR.bind, *])
 | ok v0 q0 =>
  have ha := fun nx' h => exp_ok (ha nx' h) hr0
  refine RetX.runW Tryz.func139 Tryz.ntmps139 rfl (by simp) fun Γ hn hpan => ?_
  repeat' (first
  | (refine V_run rfl ?_; simp [hne, hf0, hf3, del, Nat.add_assoc])
  | (refine CallP.ok1 (ha _ (by first | omega | (simp; done) | (simp; omega) | fail)) (by first | (simp [hne, hf0, hf3, del, Nat.add_assoc, getK_cons, getK, getK_append, getK_del]; done) | fail) (by rfl) (by first | assumption | (simp; done) | fail) (by rfl) (by simp) ?_; (try simp [hne, hf0, hf3, del, Nat.add_assoc]))
  | fail)
  refine EndW.norm ?_
  simp [St.norm, normOb, normD, normU, norm1, hne, Nat.add_assoc]
  (refine EndW.z ([(i, pOb l q0)]) (N := nx) Tryz.results139 (by simp [hne, hi] <;> omega) ?_; simp [hne, hi])
  exact PPost.at_ok (by simp [PR.bind, *]; rfl) (by simp [Exp.row_eq, Exp.op, Exp.n, Exp.unit, Exp.s, Exp.args]) rfl
theorem prefix_step {l : List Tok} (hl : TokOK l) {f : Nat} (hE : ExpOK l f) (hP : PrimOK l f) : PreOK l (f + 1) := by
 intro p form i nx hi hp hf hm0 hm7
 have hf' : 4 * (l.length - p) + 1 ≤ f := by omega
 by_cases hf0 : form = 0
 ·have hf3 : form ≤ 3 := by omega
  cases h1 : isB l p [105, 102] with
  | true => exact prefix_if hl hE hp hf' hf0 h1 hi
  | false =>
   cases h2 : isB l p [110, 111, 116] with
   | true => exact prefix_not0 hl hE hp hf' hf0 hf3 h1 h2 hi
   | false => exact prefix_prim0 hl hP hp hf' hf0 hf3 h1 h2 hi
 ·by_cases hf3 : form ≤ 3
  ·cases h2 : isB l p [110, 111, 116] with
   | true => exact prefix_not1 hl hE hp hf' hf0 hf3 h2 hi
   | false => exact prefix_prim1 hl hP hp hf' hf0 hf3 h2 hi
  ·exact prefix_prim2 hl hP hp hf' hf0 hf3 hi
theorem eqC_fun (A B : Code) : Fun Tryz.prog 54 [.u (Vm.inss A), .u (Vm.inss B)] (· = .u (.bool (decide (A = B)))) := by
 simp only [Vm.inss]
 by_cases hl : A.length = B.length
 ·have hl' : (A.length : Int) = B.length := by omega
  refine Fun.run Tryz.func54 Tryz.ntmps54 Tryz.results54 rfl (by simp) fun Γ hn => ?_; simp only [entry, List.zipIdx_cons, List.zipIdx_nil, List.map_cons, List.map_nil, Nat.zero_add]
  refine V_len (x := 0) rfl fun hll => ?_
  simp at hll
  repeat' (first
  | (refine V_run rfl ?_; simp [hl, hl'])
  | fail)
  refine V_loopO (α := { i : Nat // i ≤ A.length ∧ A.take i = B.take i }) [0, 1, 11, 12] (fun i => [(13, .u (.int .i64 i.1))]) (fun i => []) 0 (fun i => A.length - i.1) ⟨0, by omega, rfl⟩ ?_ ?_
  ·exact (Wk.cut2 (by simp [hn, hl] <;> grind))
  rintro ⟨i, hi, hb⟩
  simp
  rcases hx : A[i]? with _ | a
  ·have hge : A.length ≤ i := by simpa using hx
   obtain rfl : i = A.length := by omega
   rw [List.take_of_length_le (Nat.le_refl _), List.take_of_length_le (by omega)] at hb
   subst hb
   repeat' (first
  | (refine V_run rfl ?_; simp [hx, hl])
  | fail)
   (refine Pst.of ?_; simp)
  ·have hlt : i < A.length := (List.getElem?_eq_some_iff.1 hx).1
   have hlt2 : i < B.length := by omega
   obtain ⟨b, hy⟩ : ∃ b, B[i]? = some b := ⟨_, List.getElem?_eq_getElem hlt2⟩
   have hi2 : (i : Int) < B.length := by omega
   by_cases hab : a = b
   ·have hsn : A.take (i + 1) = B.take (i + 1) := by
     rw [List.take_succ_eq_append_getElem hlt, List.take_succ_eq_append_getElem hlt2, hb, (List.getElem?_eq_some_iff.1 hx).2, (List.getElem?_eq_some_iff.1 hy).2, hab]
    subst hab
    have hax : A[i]'hlt = a := (List.getElem?_eq_some_iff.1 hx).2
    have hbx : B[i]'hlt2 = a := (List.getElem?_eq_some_iff.1 hy).2
    repeat' (first
  | (refine V_run rfl ?_; simp [hx, hy, hi2, hax, hbx])
  | (refine And.intro (by omega) ?_)
  | (refine ⟨hC _ (by kernel_rfl), hk _ (RN_K 8 _ _ _ ?_)⟩; clear hC hk C k; simp [hx, hy, hi2, hax, hbx])
  | (refine V_dx rfl (by kernel_rfl) (by first | (simp [hn]; done) | (simp [hn]; omega) | fail) fun C k hC hk => ?_; simp [hx, hy, hi2, hax, hbx])
  | fail)
    refine LoopW.next ⟨i + 1, by omega, hsn⟩ (by simp; omega) ?_
    exact (Wk.cut2 (by simp [hn, hl] <;> grind))
   ·have hne : A ≠ B := fun e => by subst e; rw [hx] at hy; cases hy; exact hab rfl
    have hax : A[i]'hlt = a := (List.getElem?_eq_some_iff.1 hx).2
    have hbx : B[i]'hlt2 = b := (List.getElem?_eq_some_iff.1 hy).2
    rw [decide_eq_false hne]
    have hfa : ¬ (a.op = b.op ∧ a.a = b.a ∧ a.s = b.s) := fun ⟨h1, h2, h3⟩ => hab (by cases a; cases b; simp_all)
    repeat' (first
  | (refine Cnd.of (fun hc => ?_) (fun hc => ?_) <;> (try (exfalso; omega)) <;> (try simp [hx, hy, hi2, hax, hbx]))
  | (refine V_run rfl ?_; simp [hx, hy, hi2, hax, hbx])
  | (refine And.intro (by omega) ?_)
  | (refine ⟨hC _ (by kernel_rfl), hk _ (RN_K 8 _ _ _ ?_)⟩; clear hC hk C k; simp [hx, hy, hi2, hax, hbx])
  | (refine V_dx rfl (by kernel_rfl) (by first | (simp [hn]; done) | (simp [hn]; omega) | fail) fun C k hC hk => ?_; simp [hx, hy, hi2, hax, hbx])
  | fail)
    (refine Pst.of ?_; simp)
    exact absurd (by assumption) hfa
 ·have hl' : ¬ (A.length : Int) = B.length := by omega
  have hne : ¬ A = B := fun e => hl (by rw [e])
  refine Fun.run Tryz.func54 Tryz.ntmps54 Tryz.results54 rfl (by simp) fun Γ hn => ?_
  repeat' (first
  | (refine V_run rfl ?_; simp [hl, hl'])
  | fail)
  (refine Pst.of ?_; simp)
  simp [hne]
theorem csame_fun (A B : Code) : Fun Tryz.prog 21 [.u (Vm.inss A), .u (Vm.inss B)] (· = .u (.bool (decide (A = B)))) := by
 have h := eqC_fun A B
 refine Fun.run Tryz.func21 Tryz.ntmps21 Tryz.results21 rfl (by simp) fun Γ hn => ?_
 repeat' (first
  | (refine V_run rfl ?_; simp)
  | (refine CallP.f2 rfl (h) (by first | simp <;> rfl | fail) ?_; simp)
  | fail)
 (refine Pst.of ?_; simp)
theorem rsameC_fun (A B : Code) : Fun Tryz.prog 16 [.u (Vm.inss A), .u (Vm.inss B)] (· = .u (.bool (decide (A = B)))) := by
 simp only [Vm.inss]
 by_cases hl : A.length = B.length
 ·have hl' : (A.length : Int) = B.length := by omega
  refine Fun.run Tryz.func16 Tryz.ntmps16 Tryz.results16 rfl (by simp) fun Γ hn => ?_; simp only [entry, List.zipIdx_cons, List.zipIdx_nil, List.map_cons, List.map_nil, Nat.zero_add]
  refine V_len (x := 0) rfl fun hll => ?_
  simp at hll
  repeat' (first
  | (refine V_run rfl ?_; simp [hl, hl'])
  | fail)
  refine V_loopO (α := { i : Nat // i ≤ A.length ∧ A.take i = B.take i }) [0, 1] (fun i => [(5, .u (.int .i64 i.1))]) (fun i => []) 0 (fun i => A.length - i.1) ⟨0, by omega, rfl⟩ ?_ ?_
  ·exact (Wk.cut2 (by simp [hn, hl] <;> grind))
  rintro ⟨i, hi, hb⟩
  simp
  rcases hx : A[i]? with _ | a
  ·have hge : A.length ≤ i := by simpa using hx
   obtain rfl : i = A.length := by omega
   rw [List.take_of_length_le (Nat.le_refl _), List.take_of_length_le (by omega)] at hb
   subst hb
   repeat' (first
  | (refine V_run rfl ?_; simp [hx, hl])
  | fail)
   (refine Pst.of ?_; simp)
  ·have hlt : i < A.length := (List.getElem?_eq_some_iff.1 hx).1
   have hlt2 : i < B.length := by omega
   obtain ⟨b, hy⟩ : ∃ b, B[i]? = some b := ⟨_, List.getElem?_eq_getElem hlt2⟩
   have hi2 : (i : Int) < B.length := by omega
   by_cases hab : a = b
   ·have hsn : A.take (i + 1) = B.take (i + 1) := by
     rw [List.take_succ_eq_append_getElem hlt, List.take_succ_eq_append_getElem hlt2, hb, (List.getElem?_eq_some_iff.1 hx).2, (List.getElem?_eq_some_iff.1 hy).2, hab]
    subst hab
    have hax : A[i]'hlt = a := (List.getElem?_eq_some_iff.1 hx).2
    have hbx : B[i]'hlt2 = a := (List.getElem?_eq_some_iff.1 hy).2
    repeat' (first
  | (refine Cnd.of (fun hc => ?_) (fun hc => ?_) <;> (try (exfalso; omega)) <;> (try simp [hx, hy, hi2, hax, hbx]))
  | (refine V_run rfl ?_; simp [hx, hy, hi2, hax, hbx])
  | (refine And.intro (by omega) ?_)
  | (refine ⟨hC _ (by kernel_rfl), hk _ (RN_K 8 _ _ _ ?_)⟩; clear hC hk C k; simp [hx, hy, hi2, hax, hbx])
  | (refine V_dx rfl (by kernel_rfl) (by first | (simp [hn]; done) | (simp [hn]; omega) | fail) fun C k hC hk => ?_; simp [hx, hy, hi2, hax, hbx])
  | fail)
    refine LoopW.next ⟨i + 1, by omega, hsn⟩ (by simp; omega) ?_
    exact (Wk.cut2 (by simp [hn, hl] <;> grind))
   ·have hne : A ≠ B := fun e => by subst e; rw [hx] at hy; cases hy; exact hab rfl
    have hax : A[i]'hlt = a := (List.getElem?_eq_some_iff.1 hx).2
    have hbx : B[i]'hlt2 = b := (List.getElem?_eq_some_iff.1 hy).2
    rw [decide_eq_false hne]
    have hfa : ¬ (a.op = b.op ∧ a.a = b.a ∧ a.s = b.s) := fun ⟨h1, h2, h3⟩ => hab (by cases a; cases b; simp_all)
    repeat' (first
  | (refine Cnd.of (fun hc => ?_) (fun hc => ?_) <;> (try (exfalso; omega)) <;> (try simp [hx, hy, hi2, hax, hbx]))
  | (refine V_run rfl ?_; simp [hx, hy, hi2, hax, hbx])
  | (refine And.intro (by omega) ?_)
  | (refine ⟨hC _ (by kernel_rfl), hk _ (RN_K 8 _ _ _ ?_)⟩; clear hC hk C k; simp [hx, hy, hi2, hax, hbx])
  | (refine V_dx rfl (by kernel_rfl) (by first | (simp [hn]; done) | (simp [hn]; omega) | fail) fun C k hC hk => ?_; simp [hx, hy, hi2, hax, hbx])
  | fail)
    (refine Pst.of ?_; simp)
    exact absurd (by assumption) hfa
 ·have hl' : ¬ (A.length : Int) = B.length := by omega
  have hne : ¬ A = B := fun e => hl (by rw [e])
  refine Fun.run Tryz.func16 Tryz.ntmps16 Tryz.results16 rfl (by simp) fun Γ hn => ?_
  repeat' (first
  | (refine V_run rfl ?_; simp [hl, hl'])
  | fail)
  (refine Pst.of ?_; simp)
  simp [hne]
theorem fewCode_fun (l : Code) : Fun Tryz.prog 11 [.u (Vm.inss l)] (· = .u (.bool (fewC l))) := by
 simp only [Vm.inss]
 refine Fun.run Tryz.func11 Tryz.ntmps11 Tryz.results11 rfl (by simp) fun Γ hn => ?_; simp only [entry, List.zipIdx_cons, List.zipIdx_nil, List.map_cons, List.map_nil, Nat.zero_add]
 refine V_len (x := 0) rfl fun hll => ?_
 simp at hll
 repeat' (first
  | (refine V_run rfl ?_; simp)
  | fail)
 refine V_loopO (α := { i : Nat // i ≤ l.length ∧ i ≤ 101 ∧ ∀ j y, j < i → l[j]? = some y → y.s.length ≤ 40 }) [0] (fun i => [(3, .u (.int .i64 i.1))]) (fun i => []) 0 (fun i => l.length - i.1) ⟨0, by omega, by omega, by omega⟩ ?_ ?_
 ·exact (Wk.cut2 (by simp [hn] <;> grind))
 rintro ⟨i, hi, hi2, hb⟩
 simp
 have hfin : (¬ i < l.length ∨ ¬ i < 101) → fewC l = decide (l.length ≤ 100) := fun h => by
  by_cases h1 : l.length ≤ 100
  ·have : l.all (fun x => decide (x.s.length ≤ 40)) = true := List.all_eq_true.2 fun x hx => by
    obtain ⟨j, hj⟩ := List.getElem?_of_mem hx
    exact decide_eq_true (hb j x (by have := (List.getElem?_eq_some_iff.1 hj).1; omega) hj)
   simp [fewC, this]
  ·simp [fewC, h1]
 rcases hx : l[i]? with _ | x
 ·have hge : l.length ≤ i := by simpa using hx
  have hlt : ¬ i < l.length := by omega
  have hlt' : ¬ (i : Int) < l.length := by omega
  rw [hfin (.inl hlt)]
  repeat' (first
  | (refine V_run rfl ?_; simp [hx, hlt, hlt'])
  | fail)
  (refine Pst.of ?_; simp)
  omega
 ·have hlt : i < l.length := (List.getElem?_eq_some_iff.1 hx).1
  have hxe : l[i]'hlt = x := (List.getElem?_eq_some_iff.1 hx).2
  by_cases h1 : i < 101
  ·have h1' : (i : Int) < 101 := by omega
   by_cases h4 : x.s.length ≤ 40
   ·have h4' : ¬ (40 : Int) < x.s.length := by omega
    have h4'' : ¬ 40 < x.s.length := by omega
    repeat' (first
  | (refine V_run rfl ?_; simp [hx, hlt, h1, h1', hxe, h4', h4''])
  | (refine And.intro (by omega) ?_)
  | fail)
    refine LoopW.next ⟨i + 1, by omega, by omega, fun j y hj hy => by
     by_cases e : j = i
     ·subst e; rw [hx] at hy; cases hy; exact h4
     ·exact hb j y (by omega) hy⟩ (by simp; omega) ?_
    exact (Wk.cut2 (by simp [hn] <;> grind))
   ·have h4' : (40 : Int) < x.s.length := by omega
    have h4'' : 40 < x.s.length := by omega
    have hf : fewC l = false := by
     have : ¬ l.all (fun x => decide (x.s.length ≤ 40)) = true := fun e => h4 (by simpa using List.all_eq_true.1 e x (List.mem_of_getElem? hx))
     simp [fewC, this]
    rw [hf]
    repeat' (first
  | (refine V_run rfl ?_; simp [hx, hlt, h1, h1', hxe, h4', h4''])
  | fail)
    (refine Pst.of ?_; simp)
  ·have h1' : ¬ (i : Int) < 101 := by omega
   rw [hfin (.inr h1)]
   repeat' (first
  | (refine V_run rfl ?_; simp [hx, hlt, h1, h1'])
  | fail)
   (refine Pst.of ?_; simp)
   omega
end Go.Proofs.YtkdhmbhbbciedaaGreatDoor
namespace Go.Proofs.YtkdhmbhbbciedaaGreatDoor
open Go Go.VL Go.Shelf Go.RowKit
/-- The objects of Read ahead of a round. -/
def readO (L : Code) (i : Nat) : List (Nat × Ob) := [(0, .box [.vec (i + 4) i]), (i + 4, .vec 44 3 (insR (L.take i)))]
theorem cutU_eq (t : W8) : ∃ (w r : W8) (b : Bool), cutU 32 t = .tup [.u (.str w), .u (.str r), .u (.bool b)] ∧ insP t = (if idxS wordsL w 0 = 1 then ⟨1, 0, r⟩ else ⟨idxS wordsL w 0, atoiV r, []⟩) ∧ r.length ≤ t.length := by
 cases hc : cutB 32 t with
 | none => exact ⟨t, [], false, by simp [cutU, hc], by simp [insP, hc], by simp⟩
 | some p => exact ⟨p.1, p.2, true, by simp [cutU, hc], by simp [insP, hc], Nat.le_of_lt (cut_len (p := p.1) hc)⟩
end Go.Proofs.YtkdhmbhbbciedaaGreatDoor
namespace Go.Proofs.YtkdhmbhbbciedaaGreatDoor
open Go Go.VL
theorem primary_min {l : List Tok} (hl : TokOK l) {f p : Nat} (hE : ExpOK l f) (hf : 4 * (l.length - p) ≤ f) {t : Tok} (ht : l[p]? = some t) (hk : ¬ t.kind = 2) (h1 : isB l p [116, 114, 117, 101] = false) (h2 : isB l p [102, 97, 108, 115, 101] = false)
  (h3 : isB l p [109, 105, 110] = true) (h4 : isB l p [109, 97, 120] = false) {i nx : Nat} (hi : i < nx) :
  RetX Tryz.prog 170 [.ptr i 0] [(i, pOb l p)] nx (PPost l i nx expD (primaryP l (f + 1) p)) := primary_mm hl hE hf ht hk h1 h2 (.inr ⟨h3, h4⟩) hi
end Go.Proofs.YtkdhmbhbbciedaaGreatDoor
namespace Go.Proofs.YtkdhmbhbbciedaaGreatDoor
open Go Go.VL
attribute [local simp] exS_some hcons hstep evPure opd uOf putOK St.put St.at getK binD binI binS binB nilD aggD eqUs cmpK lookD lookR rangeD rangeS Go.VL.nextD Go.VL.nextS entryD keyD valU keyU lookK mkV entD_nil allUE makeMapD mapUpdD mapEff updK valM Key.kk shiftI arith unD convD pickD loadD cellsAt fieldAddrD fieldD indexAddrD indexSlD arrAddr indexD sliceD cutD lenD minmaxD nilCheckD buildD fillD cellsD isOne ones setAll mkAgg allU allocD boxD storeD St.add buildSliceD appendD rowsOf makeD setOb getK_setOb getK_del getK_cons stripL strip guardTmp entry chunks zcells valD argsV argsW argW argU1 argU0 argsU0 argsU1 calleeOf scalarD scalarU delAll effD St.effS RK_seq RK_seq_ret RK_seq_exit RK_blk RK_blk_ret RK_blk_exit RK_loop RK_loop_ret RK_loop_exit RK_done vs_seq vs_block vs_cond vs_region vs_loop applyW mkD rdIds lentIds callOf calleeOf freeOp D.ids Op.operands Call.operands isEffOp makeIfD makeFuncD typeAssertD conc concs conc1 uOfV panicD IntKind.bits allU2 List.take_of_length_le List.range_succ HR_nil HR_cons HR_grd v2_seq v2_block v2_skip v2_exit v2_ret v2_cond v2_region v2_draw v2_loop RN_0 RN_done RN_seq RN_seq_ret RN_seq_exit RN_blk RN_blk_ret RN_blk_exit RN_loop RN_loop_ret RN_loop_exit Cnd_tf Cnd_ft EndV getK_append frzN frz1 frz_env frz_obs St.frz St.frzS frzS fv fzVec fzMap fzBox frzObS frz_entD frz_rowsD frz frzOb normD normU norm1 normOb St.norm St.lp St.only keepE wkE wkO wkU Ob.under D.under under_rowsD under_entD H4_nil H4_cons H4_grd h4s resD oneOrTup pureD List.zipIdx_cons List.zipIdx_nil List.map_cons List.map_nil Nat.zero_add
attribute [local irreducible] V G H HD HD2 RunK Eff CallP CallV EndOK Fun Ret FinOK LoopI LoopW EndW HR vs2 RN Cnd H4
theorem lex_fun (s : List UInt8) : Fun Tryz.prog 138 [.u (.str s)] (· = lexOut (lexL s)) := by
 unfold lexL
 by_cases hlong : 2000 < s.length
 ·have hlong2 : 2000 < (s.length : Int) := by omega
  rw [if_pos hlong]
  refine Fun.runW Tryz.func138 Tryz.ntmps138 rfl (by simp) fun Γ hn => ?_
  repeat' (first
  | (refine V_run rfl ?_; simp [hlong, hlong2])
  | fail)
  refine EndW.norm (EndW.here ?_)
  (refine EndOK.val (.inr rfl) ?_; simp [Tryz.results138])
  simp [lexOut]
 rw [if_neg hlong]
 have hlong2 : ¬ 2000 < (s.length : Int) := by omega
 obtain ⟨R, hR⟩ : ∃ R, R = lexF (s.length + 1) s 0 := ⟨_, rfl⟩
 rw [← hR]
 refine Fun.runW Tryz.func138 Tryz.ntmps138 rfl (by simp) fun Γ hn => ?_
 repeat' (first
  | (refine V_run rfl ?_; simp [hlong, hlong2])
  | fail)
 refine V_wk _ (Wk.own 5 148 4 (by decide) rfl) ?_
 simp [St.own]
 refine V_loopO (α := { x : List Tok × Nat × Nat // x.2.1 ≤ s.length ∧ s.length < x.2.1 + x.2.2 ∧ x.1.length ≤ x.2.1 ∧ R = prepE x.1 (lexF x.2.2 s x.2.1) }) [0] (fun x => [(5, .vec 0 x.1.1.length), (6, .u (.int .i64 x.1.2.1))]) (fun x => [(0, .vec 148 4 (tokR x.1.1))]) 1 (fun x => x.1.2.2) ⟨([], 0, s.length + 1), by simp, by simp, by simp, by rw [prepE_nil, hR]⟩ ?_ ?_
 ·exact (Wk.cut2 (by simp [hn, tokR] <;> grind))
 rintro ⟨⟨acc, p, f⟩, h1, h2, h3, h4⟩
 simp only at h1 h2 h3 h4
 simp
 obtain ⟨f', rfl⟩ : ∃ f', f = f' + 1 := ⟨f - 1, by omega⟩
 rw [lexF] at h4
 have hsp := span_fun (s.drop p) (by rw [List.length_drop]; omega) 166 isBlank (fun c _ => blank_fun c) (by simp)
 have hle := spanL_le isBlank (s.drop p)
 rw [List.length_drop] at hle
 obtain ⟨b, hb⟩ : ∃ b, b = spanL isBlank (s.drop p) := ⟨_, rfl⟩
 rw [← hb] at hsp hle h4
 have hp1 : (p : Int) ≤ s.length := by omega
 have hpb : (p : Int) + b ≤ s.length := by omega
 rcases hd : s.drop (p + b) with _ | ⟨c, r⟩
 ·have hdl : (s.drop (p + b)).length = 0 := by rw [hd]; rfl
  rw [List.length_drop] at hdl
  have hpe : p + b = s.length := by omega
  have hpe2 : (p : Int) + b = s.length := by omega
  rw [hd] at h4
  simp only at h4
  have hap : tokR acc ++ [[D.u (.int .i64 0), D.u (.str []), D.u (.int .i64 0), D.u (.int .i64 (s.length : Int))]] = tokR (acc ++ [⟨0, [], 0, s.length⟩]) := by simp [tokR]
  have hlr : lenR 4 (tokR acc) := fun r hr => by obtain ⟨t, _, rfl⟩ := List.mem_map.1 hr; rfl
  rw [hpe] at h4
  repeat' (first
  | (refine V_run rfl ?_; simp [h1, hp1, hpe2, tokR_len, hap, hlr])
  | (refine And.intro (by omega) ?_)
  | (refine CallP.f2 rfl (hsp) (by first | simp [h1, hp1, hpe2, tokR_len, hap, hlr] <;> rfl | fail) ?_; simp [h1, hp1, hpe2, tokR_len, hap, hlr])
  | fail)
  (refine EndW.frzN 3 ?_; simp [del, tokR_all, tokR_len, List.length_append])
  refine EndW.norm (EndW.here ?_)
  (refine EndOK.val (.inr rfl) ?_; simp [Tryz.results138, tokR_all, tokR_len, List.length_append])
  rw [h4]
  simp [prepE, lexOut]
 ·have hdl : (s.drop (p + b)).length = r.length + 1 := by rw [hd]; rfl
  rw [List.length_drop] at hdl
  have hpe : ¬ p + b = s.length := by omega
  have hpe2 : ¬ (p : Int) + b = s.length := by omega
  have hnx := next_fun (s.drop (p + b)) (by rw [hd]; simp) (by rw [List.length_drop]; omega)
  unfold nextD at hnx
  rw [hd] at h4
  simp only at h4
  rw [hd] at hnx
  have hpb2 : ((p : Int) + b).toNat = p + b := by omega
  have hpb3 : p + b ≤ s.length := by omega
  cases hno : nextO (c :: r) with
  | error e =>
   rw [hno] at h4 hnx
   have he : e ≠ 0 := by
    unfold nextO at hno
    simp only at hno
    split at hno
    ·split at hno <;> cases hno
     omega
    ·split at hno
     ·split at hno <;> cases hno
      omega
     ·split at hno <;> cases hno
      omega
   repeat' (first
  | (refine V_run rfl ?_; simp [h1, hp1, hpe, hpe2, hd, he, hpb, hpb2, hpb3])
  | (refine And.intro (by omega) ?_)
  | ((first | refine CallP.f2 rfl (hsp) (by first | simp [h1, hp1, hpe, hpe2, hd, he, hpb, hpb2, hpb3] <;> rfl | fail) ?_ | refine CallP.f2 rfl (hnx) (by first | simp [h1, hp1, hpe, hpe2, hd, he, hpb, hpb2, hpb3] <;> rfl | fail) ?_ | fail); simp [h1, hp1, hpe, hpe2, hd, he, hpb, hpb2, hpb3])
  | fail)
   refine EndW.norm (EndW.here ?_)
   (refine EndOK.val (.inr rfl) ?_; simp [Tryz.results138])
   rw [h4]
   simp [prepE, lexOut]
  | ok t =>
   rw [hno] at h4 hnx
   obtain ⟨ht1, ht2⟩ := nextO_text hno
   simp only [List.length_cons] at ht2
   have hap : tokR acc ++ [[D.u (.int .i64 t.kind), D.u (.str t.text), D.u (.int .i64 t.n), D.u (.int .i64 ((p : Int) + b))]] = tokR (acc ++ [{ t with pos := ((p + b : Nat) : Int) }]) := by simp [tokR]
   have hlr : lenR 4 (tokR acc) := fun r hr => by obtain ⟨t, _, rfl⟩ := List.mem_map.1 hr; rfl
   repeat' (first
  | (refine V_run rfl ?_; simp [h1, hp1, hpe, hpe2, hd, hpb, hpb2, hpb3, tokR_len, hap, hlr])
  | (refine And.intro (by omega) ?_)
  | ((first | refine CallP.f2 rfl (hsp) (by first | simp [h1, hp1, hpe, hpe2, hd, hpb, hpb2, hpb3, tokR_len, hap, hlr] <;> rfl | fail) ?_ | refine CallP.f2 rfl (hnx) (by first | simp [h1, hp1, hpe, hpe2, hd, hpb, hpb2, hpb3, tokR_len, hap, hlr] <;> rfl | fail) ?_ | fail); simp [h1, hp1, hpe, hpe2, hd, hpb, hpb2, hpb3, tokR_len, hap, hlr])
  | fail)
   refine LoopW.next ⟨(acc ++ [{ t with pos := ((p + b : Nat) : Int) }], p + b + t.text.length, f'), by simp; omega, by simp; omega, by simp; omega, ?_⟩ (by simp) ?_
   ·rw [h4]
    simp only
    cases lexF f' s (p + b + t.text.length) <;> simp [prepE]
   ·skip
    exact (Wk.ren ((fun i => if i = 0 then 3 else i)) rfl (by first | (simp [hn]; done) | (intro i hi; rw [hn] at hi; constructor <;> (try simp) <;> (try (intro _)) <;> omega)) (by simp [wkER, St.lp, keepE, getK_cons, getK, getK_del, getK_setOb, D.under, D.le, D.ren, pure_tokR, under_tokR] <;> (try (intros; simp_all; done)) <;> (try omega)) (by simp [wkR, St.lp, getK_cons, getK, getK_del, getK_setOb, obR, leU, pureRow, pureRows, Ob.under, D.under, D.le, D.ren, pure_tokR, under_tokR] <;> (try (intros; simp_all; done)) <;> (try omega)) (by simp [pure_tokR, under_tokR]))
theorem clet_fun (lets : List Let) (y z : U) (n : Nat) (s : List UInt8) (hn' : n ≤ lets.length) (hn2 : n ≤ 1000) : Fun Tryz.prog 66 [.u (.row [letsU lets, y, z] 0), .u (.int .i64 n), .u (.str s)] (· = .u (.int .i64 (ixO (lastI lets n s)))) := by
 generalize hR : lastI lets n s = R
 simp only [letsU]
 refine Fun.run Tryz.func66 Tryz.ntmps66 Tryz.results66 rfl (by simp) fun Γ hn => ?_
 repeat' (first
  | (refine V_run rfl ?_; simp)
  | (refine And.intro (by omega) ?_)
  | fail)
 refine V_loopF (α := { i : Nat // i ≤ n ∧ lastI lets i s = R }) [0, 2] (fun i => [(7, .u (.int .i64 ((i.1 : Int) - 1)))]) (fun i => i.1) ⟨n, Nat.le_refl _, hR⟩ ?_ ?_
 ·exact (Wk.cut2 (by simp [hn] <;> grind))
 rintro ⟨i, hi, hinv⟩
 simp
 cases i with
 | zero =>
  have hinv2 := hinv
  rw [lastI] at hinv2
  subst hinv2
  repeat' (first
  | (refine V_run rfl ?_; simp)
  | fail)
  (refine Pst.of ?_; simp)
  rfl
 | succ j =>
  have hj : j < lets.length := by omega
  have hl : lets[j]? = some lets[j] := List.getElem?_eq_getElem hj
  have hsub : ((j + 1 : Nat) : Int) - 1 = (j : Int) := by omega
  have hsub2 : (j : Int) + 1 - 1 = (j : Int) := by omega
  generalize lets[j] = l at hl
  have hinv2 := hinv
  rw [lastI, hl] at hinv2
  simp only at hinv2
  by_cases hnm : l.name = s
  ·rw [if_pos hnm] at hinv2
   subst hinv2
   repeat' (first
  | (refine V_run rfl ?_; simp [hsub, hsub2, hl, hnm])
  | fail)
   (refine Pst.of ?_; simp)
   rfl
  ·rw [if_neg hnm] at hinv2
   repeat' (first
  | (refine V_run rfl ?_; simp [hsub, hsub2, hl, hnm])
  | (refine And.intro (by omega) ?_)
  | fail)
   refine LoopW.next ⟨j, by omega, hinv2⟩ (by simp) ?_
   exact (Wk.cut2 (by simp [hn] <;> grind))
theorem share_fun' (lets : List Let) (shs : List Bool) (z : U) (n : Nat) (hn' : n ≤ lets.length) (hn1 : n ≤ shs.length) (hn2 : n ≤ 1000) : ∀ (d : Nat) (e : Exp), rightB d e = true → Fun Tryz.prog 35 [.u (.row [letsU lets, boolsU shs, z] 0), .u (.int .i64 n), eagg e] (· = .u (.bool (shareS (nmS lets shs n) e)))
 | 0, e, h => by simp [rightB] at h
 | d + 1, e, h => by
  obtain ⟨h1, h2, h3, h4⟩ := right_args h
  rw [shareS_eq]
  by_cases h0 : e.op = 0
  ·rw [if_pos h0]
   refine Fun.run Tryz.func35 Tryz.ntmps35 Tryz.results35 rfl (by simp) fun Γ hn => ?_; simp only [entry, List.zipIdx_cons, List.zipIdx_nil, List.map_cons, List.map_nil, Nat.zero_add]
   simp only [eagg]
   repeat' (first
  | (refine V_run rfl ?_; simp [h0])
  | fail)
   (refine Pst.of ?_; simp)
  rw [if_neg h0]
  by_cases hnm : e.op = 1
  ·rw [if_pos hnm]
   have hlet := clet_fun lets (boolsU shs) z n e.s hn' hn2
   cases hi : lastI lets n e.s with
   | none =>
    rw [hi] at hlet
    simp only [ixO, boolsU, letsU] at hlet
    refine Fun.run Tryz.func35 Tryz.ntmps35 Tryz.results35 rfl (by simp) fun Γ hn => ?_; simp only [entry, List.zipIdx_cons, List.zipIdx_nil, List.map_cons, List.map_nil, Nat.zero_add]
    simp only [eagg, boolsU, letsU]
    repeat' (first
  | (refine V_run rfl ?_; simp [h0, hnm])
  | (refine CallP.f2 rfl (hlet) (by first | simp [h0, hnm] <;> rfl | fail) ?_; simp [h0, hnm])
  | fail)
    (refine Pst.of ?_; simp)
    simp [nmS, hi]
   | some i =>
    rw [hi] at hlet
    simp only [ixO, boolsU, letsU] at hlet
    obtain ⟨q1, _⟩ := lastI_some hi
    have q2 : i < shs.length := by omega
    have q3 : shs[i]? = some shs[i] := List.getElem?_eq_getElem q2
    have q4 : shs.getD i false = shs[i] := by rw [List.getD_eq_getElem?_getD, q3]; rfl
    have q5 : (i : Int) < shs.length := by omega
    have q6 : ¬ (i : Int) < 0 := by omega
    refine Fun.run Tryz.func35 Tryz.ntmps35 Tryz.results35 rfl (by simp) fun Γ hn => ?_; simp only [entry, List.zipIdx_cons, List.zipIdx_nil, List.map_cons, List.map_nil, Nat.zero_add]
    simp only [eagg, boolsU, letsU]
    repeat' (first
  | (refine V_run rfl ?_; simp [h0, hnm, q2, q6])
  | (refine CallP.f2 rfl (hlet) (by first | simp [h0, hnm, q2, q6] <;> rfl | fail) ?_; simp [h0, hnm, q2, q6])
  | fail)
    (refine Pst.of ?_; simp)
    simp [nmS, hi, q2]
  rw [if_neg hnm]
  have hr := h4 h0 hnm
  by_cases hA : e.op = 2 ∨ e.op = 3 ∨ e.op = 6 ∨ e.op = 7
  ·rw [if_pos hA]
   have hl : e.args.length = 2 := by
    rcases hA with ha | ha | ha | ha <;> rw [ha] at h1 <;> simp [operandsI] at h1 <;> omega
   obtain ⟨a, b, hab⟩ : ∃ a b, e.args = [a, b] := by
    match hq : e.args, hl with
    | [a, b], _ => exact ⟨a, b, rfl⟩
   have h5 := share_fun' lets shs z n hn' hn1 hn2 d a (hr a (by simp [hab]))
   simp only [eagg, boolsU, letsU] at h5
   rw [hab, shareN]
   rcases hA with ha | ha | ha | ha
   all_goals
    refine Fun.run Tryz.func35 Tryz.ntmps35 Tryz.results35 rfl (by simp) fun Γ hn => ?_; simp only [entry, List.zipIdx_cons, List.zipIdx_nil, List.map_cons, List.map_nil, Nat.zero_add]
    simp only [eagg, boolsU, letsU]
    repeat' (first
  | (refine V_run rfl ?_; simp [ha, hab, a.row_eq, b.row_eq])
  | (refine CallP.f2 rfl (h5) (by first | simp [ha, hab, a.row_eq, b.row_eq] <;> rfl | fail) ?_; simp [ha, hab, a.row_eq, b.row_eq])
  | fail)
    (refine Pst.of ?_; simp)
  rw [if_neg hA]
  by_cases hB : e.op = 4
  ·rw [if_pos hB]
   have hl : e.args.length = 2 := by rw [hB] at h1; simp [operandsI] at h1; omega
   obtain ⟨a, b, hab⟩ : ∃ a b, e.args = [a, b] := by
    match hq : e.args, hl with
    | [a, b], _ => exact ⟨a, b, rfl⟩
   have h5 := share_fun' lets shs z n hn' hn1 hn2 d a (hr a (by simp [hab]))
   have h6 := share_fun' lets shs z n hn' hn1 hn2 d b (hr b (by simp [hab]))
   simp only [eagg, boolsU, letsU] at h5 h6
   rw [hab, shareN, shareN, shareN]
   generalize shareS (nmS lets shs n) a = x1 at h5 ⊢
   generalize shareS (nmS lets shs n) b = x2 at h6 ⊢
   refine Fun.run Tryz.func35 Tryz.ntmps35 Tryz.results35 rfl (by simp) fun Γ hn => ?_; simp only [entry, List.zipIdx_cons, List.zipIdx_nil, List.map_cons, List.map_nil, Nat.zero_add]
   simp only [eagg, boolsU, letsU]
   repeat' (first
  | (refine Cnd.of (fun hc => ?_) (fun hc => ?_) <;> (try (exfalso; omega)) <;> (try simp [hB, hab, a.row_eq, b.row_eq]))
  | (refine V_run rfl ?_; simp [hB, hab, a.row_eq, b.row_eq])
  | ((first | refine CallP.f2 rfl (h5) (by first | simp [hB, hab, a.row_eq, b.row_eq] <;> rfl | fail) ?_ | refine CallP.f2 rfl (h6) (by first | simp [hB, hab, a.row_eq, b.row_eq] <;> rfl | fail) ?_ | fail); simp [hB, hab, a.row_eq, b.row_eq])
  | fail)
   all_goals
    (refine Pst.of ?_; simp)
   all_goals (simp_all; done)
  rw [if_neg hB]
  by_cases hC' : e.op = 13
  ·rw [if_pos hC']
   have hl : e.args.length = 3 := by rw [hC'] at h1; simp [operandsI] at h1; omega
   obtain ⟨a, b, c, hab⟩ : ∃ a b c, e.args = [a, b, c] := by
    match hq : e.args, hl with
    | [a, b, c], _ => exact ⟨a, b, c, rfl⟩
   have h5 := share_fun' lets shs z n hn' hn1 hn2 d b (hr b (by simp [hab]))
   simp only [eagg, boolsU, letsU] at h5
   rw [hab, shareN, shareN]
   refine Fun.run Tryz.func35 Tryz.ntmps35 Tryz.results35 rfl (by simp) fun Γ hn => ?_; simp only [entry, List.zipIdx_cons, List.zipIdx_nil, List.map_cons, List.map_nil, Nat.zero_add]
   simp only [eagg, boolsU, letsU]
   repeat' (first
  | (refine V_run rfl ?_; simp [hC', hab, a.row_eq, b.row_eq, c.row_eq])
  | (refine CallP.f2 rfl (h5) (by first | simp [hC', hab, a.row_eq, b.row_eq, c.row_eq] <;> rfl | fail) ?_; simp [hC', hab, a.row_eq, b.row_eq, c.row_eq])
  | fail)
   (refine Pst.of ?_; simp)
  rw [if_neg hC']
  have hD : ¬ e.op = 2 ∧ ¬ e.op = 3 ∧ ¬ e.op = 6 ∧ ¬ e.op = 7 := by omega
  obtain ⟨g1, g2, g3, g4⟩ := hD
  refine Fun.run Tryz.func35 Tryz.ntmps35 Tryz.results35 rfl (by simp) fun Γ hn => ?_; simp only [entry, List.zipIdx_cons, List.zipIdx_nil, List.map_cons, List.map_nil, Nat.zero_add]
  simp only [eagg, boolsU, letsU]
  repeat' (first
  | (refine V_run rfl ?_; simp [h0, hnm, g1, g2, g3, g4, hB, hC'])
  | fail)
  (refine Pst.of ?_; simp)
theorem plain_fun (lets : List Let) (shs : List Bool) (z : U) (n : Nat) (hn' : n ≤ lets.length) (hn1 : n ≤ shs.length) (hn2 : n ≤ 1000) (d : Nat) (e : Exp) (h : rightB (d + 1) e = true) (hop : 2 ≤ e.op ∧ e.op ≤ 9 ∨ e.op = 12) :
  Fun Tryz.prog 68 [.u (.row [letsU lets, boolsU shs, z] 0), .u (.int .i64 n), eagg e] (· = .u (.int .i64 (plainOp (shareS (nmS lets shs n)) e.op e.args))) := by
 obtain ⟨h1, h2, h3, h4⟩ := right_args h
 have hr := h4 (by omega) (by omega)
 by_cases hB : e.op = 4
 ·have hl : e.args.length = 2 := by rw [hB] at h1; simp [operandsI] at h1; omega
  obtain ⟨a, b, hab⟩ : ∃ a b, e.args = [a, b] := by
   match hq : e.args, hl with
   | [a, b], _ => exact ⟨a, b, rfl⟩
  have h5 := share_fun' lets shs z n hn' hn1 hn2 d a (hr a (by simp [hab]))
  have h6 := share_fun' lets shs z n hn' hn1 hn2 d b (hr b (by simp [hab]))
  simp only [eagg, boolsU, letsU] at h5 h6
  have hp : plainOp (shareS (nmS lets shs n)) e.op e.args = if (shareS (nmS lets shs n) a || shareS (nmS lets shs n) b) = true then 6 else 4 := by simp [plainOp, hB, hab]
  rw [hp]
  generalize shareS (nmS lets shs n) a = x1 at h5 ⊢
  generalize shareS (nmS lets shs n) b = x2 at h6 ⊢
  refine Fun.run Tryz.func68 Tryz.ntmps68 Tryz.results68 rfl (by simp) fun Γ hn => ?_; simp only [entry, List.zipIdx_cons, List.zipIdx_nil, List.map_cons, List.map_nil, Nat.zero_add]
  simp only [eagg, boolsU, letsU]
  repeat' (first
  | (refine Cnd.of (fun hc => ?_) (fun hc => ?_) <;> (try (exfalso; omega)) <;> (try simp [hB, hab, a.row_eq, b.row_eq]))
  | (refine V_run rfl ?_; simp [hB, hab, a.row_eq, b.row_eq])
  | ((first | refine CallP.f2 rfl (h5) (by first | simp [hB, hab, a.row_eq, b.row_eq] <;> rfl | fail) ?_ | refine CallP.f2 rfl (h6) (by first | simp [hB, hab, a.row_eq, b.row_eq] <;> rfl | fail) ?_ | fail); simp [hB, hab, a.row_eq, b.row_eq])
  | fail)
  all_goals
   (refine Pst.of ?_; simp)
  all_goals (simp_all; done)
 ·rcases (show e.op = 2 ∨ e.op = 3 ∨ e.op = 5 ∨ e.op = 6 ∨ e.op = 7 ∨ e.op = 8 ∨ e.op = 9 ∨ e.op = 12 by omega) with ho | ho | ho | ho | ho | ho | ho | ho
  all_goals
   have hp : ∃ r, plainOp (shareS (nmS lets shs n)) e.op e.args = r ∧ r = plainOp (shareS (nmS lets shs n)) e.op [] := ⟨_, rfl, by simp [plainOp, ho]⟩
   obtain ⟨r, hp1, hp2⟩ := hp
   rw [hp1]
   rw [ho] at hp2
   simp only [plainOp, if_true, if_false, if_pos, if_neg, Int.reduceEq] at hp2
   subst hp2
   refine Fun.run Tryz.func68 Tryz.ntmps68 Tryz.results68 rfl (by simp) fun Γ hn => ?_; simp only [entry, List.zipIdx_cons, List.zipIdx_nil, List.map_cons, List.map_nil, Nat.zero_add]
   simp only [eagg, boolsU, letsU]
   repeat' (first
  | (refine V_run rfl ?_; simp [ho])
  | fail)
   (refine Pst.of ?_; simp)
theorem full_fun (x y : U) (code : Code) : Fun Tryz.prog 37 [.u (.row [x, y, Vm.inss code] 0)] (· = .u (.bool (decide (2000 ≤ code.length)))) := by
 simp only [Vm.inss]
 refine Fun.run Tryz.func37 Tryz.ntmps37 Tryz.results37 rfl (by simp) fun Γ hn => ?_
 repeat' (first
  | (refine V_run rfl ?_; simp)
  | fail)
 all_goals
  (refine Pst.of ?_; simp)
 all_goals first | omega | (simp; omega)
theorem cneeds_fun (op : Int) : Fun Tryz.prog 48 [.u (.int .i64 op)] (· = .tup [.u (.int .i64 (needI op)), .u (.int .i64 (leavesI op))]) := by
 refine Fun.run Tryz.func48 Tryz.ntmps48 Tryz.results48 rfl (by simp) fun Γ hn => ?_
 repeat' (first
  | (refine Cnd.of (fun hc => ?_) (fun hc => ?_) <;> (try (exfalso; omega)) <;> (try simp))
  | (refine V_run rfl ?_; simp)
  | fail)
 all_goals
  (refine Pst.of ?_; simp)
 all_goals (unfold needI leavesI; simp_all)
theorem formed_fun (l : Code) (i : Nat) (x : Ins) (hx : l[i]? = some x) (hl : l.length ≤ 1000000) : Fun Tryz.prog 47 [.u (Vm.inss l), .u (.int .i64 i)] (· = .u (.bool (formI x i l.length))) := by
 have hi := (List.getElem?_eq_some_iff.1 hx).1
 have hnam := name_fun x.s
 unfold formI
 generalize nameB x.s = nm at hnam ⊢
 obtain ⟨op, a, s⟩ := x
 simp only [Vm.inss] at hnam ⊢
 refine Fun.run Tryz.func47 Tryz.ntmps47 Tryz.results47 rfl (by simp) fun Γ hn => ?_
 repeat' (first
  | (refine Cnd.of (fun hc => ?_) (fun hc => ?_) <;> (try (exfalso; omega)) <;> (try simp [hx, Vm.Ins.row]))
  | (refine V_run rfl ?_; simp [hx, Vm.Ins.row])
  | (refine CallP.f2 rfl (hnam) (by first | simp [hx, Vm.Ins.row] <;> rfl | fail) ?_; simp [hx, Vm.Ins.row])
  | fail)
 all_goals
  (refine Pst.of ?_; simp)
 all_goals grind
theorem cright_fun (l : Code) (hll : l.length ≤ 1000000) : Fun Tryz.prog 17 [.u (Vm.inss l)] (· = .u (.bool (rightC l))) := by
 have hl1 : ((l.length : Int) + 1).toNat = l.length + 1 := by omega
 simp only [Vm.inss]
 refine Fun.run Tryz.func17 Tryz.ntmps17 Tryz.results17 rfl (by simp) fun Γ hn => ?_; simp only [entry, List.zipIdx_cons, List.zipIdx_nil, List.map_cons, List.map_nil, Nat.zero_add]
 by_cases h0 : l.length = 0
 ·have h0' : l = [] := by simpa using h0
  subst h0'
  repeat' (first
  | (refine V_run rfl ?_; simp)
  | fail)
  (refine Pst.of ?_; simp)
  simp [rightC]
 have h0' : ¬ l = [] := by simpa using h0
 by_cases h2 : 2000 < l.length
 ·have h2' : (2000 : Int) < l.length := by omega
  repeat' (first
  | (refine V_run rfl ?_; simp [h0', h2, h2'])
  | fail)
  (refine Pst.of ?_; simp)
  unfold rightC
  rw [decide_eq_false (show ¬ l.length ≤ 2000 by omega)]
  simp
 have h2' : ¬ (2000 : Int) < l.length := by omega
 repeat' (first
  | (refine V_run rfl ?_; simp [h0', h2, h2', hl1])
  | (refine And.intro (by omega) ?_)
  | fail)
 refine V_loopO (α := { i : Nat // i ≤ l.length ∧ ∀ j x, j < i → l[j]? = some x → formI x j l.length = true }) [0, 3, 26] (fun i => [(27, .u (.int .i64 i.1))]) (fun i => [(0, .vec 3 1 (intR (hi1 l.length i.1)))]) 1 (fun i => l.length - i.1) ⟨0, by omega, by omega⟩ ?_ ?_
 ·exact (Wk.cut2 (by simp [hn, hi1_zero, intR_rep, under_intR] <;> grind))
 rintro ⟨i, hi, hf⟩
 simp
 rcases hx : l[i]? with _ | x
 ·have hge : l.length ≤ i := by simpa using hx
  obtain rfl : i = l.length := by omega
  have hfm : formsB l = true := forms_take fun j x hj => hf j x (List.getElem?_eq_some_iff.1 hj).1 hj
  repeat' (first
  | (refine V_run rfl ?_; simp [hx])
  | fail)
  refine V_loopO (α := HiAt l) [0, 3, 39, 40] (fun s => [(41, .u (.int .i64 s.i))]) (fun s => [(0, .vec 3 1 (intR s.hi))]) 1 (fun s => l.length - s.i) ⟨0, _, by omega, rfl, by simp, fun z hz => by
   rcases List.mem_cons.1 hz with rfl | hz
   ·omega
   ·rw [List.eq_of_mem_replicate hz]; omega⟩ ?_ ?_
  ·exact (Wk.cut2 (by simp [hn, hi1_all, under_intR] <;> grind))
  rintro ⟨i, hi, hle, go, len, lo⟩
  simp
  rcases hy : l[i]? with _ | y
  ·have hge : l.length ≤ i := by simpa using hy
   obtain rfl : i = l.length := by omega
   obtain ⟨w, hw⟩ : ∃ w, hi[l.length]? = some w := ⟨_, List.getElem?_eq_getElem (by omega)⟩
   have hR : rightC l = decide (w < 0) := by
    have : hi.getD l.length (-1) = w := by simp [List.getD, hw]
    unfold rightC
    rw [go, hfm, decide_eq_true (show 0 < l.length by omega), decide_eq_true (show l.length ≤ 2000 by omega)]
    simp only [this, Bool.true_and]
   rw [hR]
   repeat' (first
  | (refine V_run rfl ?_; simp [hy, intR_get, intR_len, hw])
  | (refine And.intro ?_ (by omega))
  | fail)
   (refine Pst.of ?_; simp)
  have hlt : i < l.length := (List.getElem?_eq_some_iff.1 hy).1
  have h5 := cneeds_fun y.op
  obtain ⟨v, hv⟩ : ∃ v, hi[i]? = some v := ⟨_, List.getElem?_eq_getElem (by omega)⟩
  have hvb := lo v (List.mem_of_getElem? hv)
  have hst := rgo_step go hy hv
  obtain ⟨n1, n2⟩ := needI_le y.op
  obtain ⟨m1, m2⟩ := leavesI_le y.op
  by_cases hv0 : v < 0
  ·rw [if_pos hv0] at hst
   repeat' (first
  | (refine Cnd.of (fun hc => ?_) (fun hc => ?_) <;> (try (exfalso; omega)) <;> (try simp [hy, intR_get, intR_len, hv, hv0]))
  | (refine V_run rfl ?_; simp [hy, intR_get, intR_len, hv, hv0])
  | (refine And.intro (by omega) ?_)
  | (refine And.intro ?_ (by omega))
  | (refine CallP.f2 rfl (h5) (by first | simp [hy, intR_get, intR_len, hv, hv0] <;> rfl | fail) ?_; simp [hy, intR_get, intR_len, hv, hv0])
  | fail)
   refine LoopW.next ⟨i + 1, hi, by omega, hst, len, fun z hz => by have := lo z hz; omega⟩ (by simp; omega) ?_
   exact (Wk.cut2 (by simp [hn, under_intR] <;> grind))
  rw [if_neg hv0] at hst
  by_cases hbad : v < needI y.op ∨ (y.op = 14 ∧ v ≠ 1)
  ·rw [if_pos hbad] at hst
   rw [right_none hst hlt]
   rcases hbad with hb1 | ⟨hb1, hb2⟩
   ·repeat' (first
  | (refine Cnd.of (fun hc => ?_) (fun hc => ?_) <;> (try (exfalso; omega)) <;> (try simp [hy, intR_get, intR_len, hv, hv0, hb1]))
  | (refine V_run rfl ?_; simp [hy, intR_get, intR_len, hv, hv0, hb1])
  | (refine And.intro (by omega) ?_)
  | (refine And.intro ?_ (by omega))
  | (refine CallP.f2 rfl (h5) (by first | simp [hy, intR_get, intR_len, hv, hv0, hb1] <;> rfl | fail) ?_; simp [hy, intR_get, intR_len, hv, hv0, hb1])
  | fail)
    (refine Pst.of ?_; simp)
   ·repeat' (first
  | (refine Cnd.of (fun hc => ?_) (fun hc => ?_) <;> (try (exfalso; omega)) <;> (try simp [hy, intR_get, intR_len, hv, hv0, hb2, ((propext (iff_true_intro hb1)) : (y.op = 14) = True)]))
  | (refine V_run rfl ?_; simp [hy, intR_get, intR_len, hv, hv0, hb2, ((propext (iff_true_intro hb1)) : (y.op = 14) = True)])
  | (refine And.intro (by omega) ?_)
  | (refine And.intro ?_ (by omega))
  | (refine CallP.f2 rfl (h5) (by first | simp [hy, intR_get, intR_len, hv, hv0, hb2, ((propext (iff_true_intro hb1)) : (y.op = 14) = True)] <;> rfl | fail) ?_; simp [hy, intR_get, intR_len, hv, hv0, hb2, ((propext (iff_true_intro hb1)) : (y.op = 14) = True)])
  | fail)
    all_goals
     (refine Pst.of ?_; simp)
  rw [if_neg hbad] at hst
  have hb1 : ¬ v < needI y.op := fun h => hbad (.inl h)
  by_cases h14 : y.op = 14
  ·have hv1 : v = 1 := Classical.byContradiction fun h => hbad (.inr ⟨h14, h⟩)
   have hn14 : nextI y i = [] := by simp [nextI, h14]
   rw [hn14] at hst
   simp only [setsH] at hst
   subst hv1
   repeat' (first
  | (refine Cnd.of (fun hc => ?_) (fun hc => ?_) <;> (try (exfalso; omega)) <;> (try simp [hy, intR_get, intR_len, hv, hb1, ((propext (iff_true_intro h14)) : (y.op = 14) = True)]))
  | (refine V_once ?_)
  | (refine V_run rfl ?_; simp [hy, intR_get, intR_len, hv, hb1, ((propext (iff_true_intro h14)) : (y.op = 14) = True)])
  | (refine And.intro (by omega) ?_)
  | (refine And.intro ?_ (by omega))
  | (refine CallP.f2 rfl (h5) (by first | simp [hy, intR_get, intR_len, hv, hb1, ((propext (iff_true_intro h14)) : (y.op = 14) = True)] <;> rfl | fail) ?_; simp [hy, intR_get, intR_len, hv, hb1, ((propext (iff_true_intro h14)) : (y.op = 14) = True)])
  | fail)
   refine LoopW.next ⟨i + 1, hi, by omega, hst, len, fun z hz => by have := lo z hz; omega⟩ (by simp; omega) ?_
   exact (Wk.cut2 (by simp [hn, under_intR] <;> grind))
  have hfo := forms_at hfm hy
  obtain ⟨ks, hks, hcase⟩ : ∃ ks : List Nat, nextI y i = ks ∧ (((y.op = 12) = True ∧ ((12 : Int) = 13) = False ∧ ks = [y.a.toNat] ∧ ((y.a.toNat : Nat) : Int) = y.a) ∨ ((y.op = 12) = False ∧ (y.op = 13) = True ∧ ks = [i + 1, y.a.toNat] ∧ ((y.a.toNat : Nat) : Int) = y.a) ∨
    ((y.op = 12) = False ∧ (y.op = 13) = False ∧ ks = [i + 1] ∧ ((i + 1 : Nat) : Int) = i + 1)) := by
   refine ⟨_, rfl, ?_⟩
   unfold nextI
   unfold formI at hfo
   by_cases h12 : y.op = 12
   ·simp [h12] at hfo ⊢; omega
   by_cases h13 : y.op = 13
   ·simp [h13] at hfo ⊢; omega
   ·simp [h12, h13, h14]
  rw [hks] at hst
  have hk1 : ∀ k ∈ ks, i < k ∧ k ≤ l.length := hks ▸ next_in hfm hy
  have hvi : v ≤ i := hvb.2
  rcases hcase with ⟨hA, hB, hE, hat⟩ | ⟨hA, hB, hE, hat⟩ | ⟨hA, hB, hE, hat⟩
  all_goals
   have hL := congrArg List.length hE
   simp at hL
   repeat' (first
  | (refine Cnd.of (fun hc => ?_) (fun hc => ?_) <;> (try (exfalso; omega)) <;> (try simp [hy, intR_get, intR_len, hv, hv0, hb1, (eq_false h14 : (y.op = 14) = False), hA, hB]))
  | (refine V_run rfl ?_; simp [hy, intR_get, intR_len, hv, hv0, hb1, (eq_false h14 : (y.op = 14) = False), hA, hB])
  | (refine And.intro (by omega) ?_)
  | (refine And.intro ?_ (by omega))
  | (refine CallP.f2 rfl (h5) (by first | simp [hy, intR_get, intR_len, hv, hv0, hb1, (eq_false h14 : (y.op = 14) = False), hA, hB] <;> rfl | fail) ?_; simp [hy, intR_get, intR_len, hv, hv0, hb1, (eq_false h14 : (y.op = 14) = False), hA, hB])
  | fail)
   refine V_loopO (α := NxAt ks (v - needI y.op + leavesI y.op) hi i) [0, 3, 5, 7, 8, 39, 40, 41, 96, 97] (fun s => [(98, .u (.int .i64 s.j))])
    (fun s => [(0, .vec 3 1 (intR s.hj)), (2, .vec 3 1 (intR (ks.map fun k : Nat => (k : Int))))]) 3 (fun s => ks.length - s.j) ⟨0, hi, by omega, by simp, rfl, rfl, fun z hz => by have := lo z hz; omega⟩ ?_ ?_
   ·exact (Wk.cut2 (by simp [hn, hE, intR, hat] <;> grind))
   rintro ⟨j, hj, hjle, hgo, hlen, hat2, hjlo⟩
   simp
   have hvj : hj[i]? = some v := hat2.trans hv
   rcases hz : ks[j]? with _ | k
   ·have hge : ks.length ≤ j := by simpa using hz
    rw [hgo, List.drop_of_length_le hge] at hst
    simp only [setsH] at hst
    repeat' (first
  | (refine Cnd.of (fun hc => ?_) (fun hc => ?_) <;> (try (exfalso; omega)) <;> (try simp [hz, intR_get, intR_len]))
  | (refine V_run rfl ?_; simp [hz, intR_get, intR_len])
  | (refine And.intro (by omega) ?_)
  | fail)
    refine LoopW.next ⟨i + 1, hj, by omega, hst, by omega, fun z hz => by have := hjlo z hz; omega⟩ (by simp; omega) ?_
    exact (Wk.cut2 (by simp [hn, under_intR] <;> grind))
   ·have hjl := (List.getElem?_eq_some_iff.1 hz).1
    obtain ⟨k1, k2⟩ := hk1 k (List.mem_of_getElem? hz)
    obtain ⟨w, hw⟩ : ∃ w, hj[k]? = some w := ⟨_, List.getElem?_eq_getElem (by omega)⟩
    have hwb := hjlo w (List.mem_of_getElem? hw)
    have hsH : setH hj k (v - needI y.op + leavesI y.op) = if 0 ≤ w ∧ w ≠ v - needI y.op + leavesI y.op then none else some (hj.set k (v - needI y.op + leavesI y.op)) := by
     unfold setH
     simp [List.getD, hw]
    rw [setsH_drop hz, hsH] at hgo
    by_cases hbd : 0 ≤ w ∧ w ≠ v - needI y.op + leavesI y.op
    ·rw [if_pos hbd] at hgo
     rw [hgo] at hst
     rw [right_none hst hlt]
     obtain ⟨hbd1, hbd2⟩ := hbd
     repeat' (first
  | (refine Cnd.of (fun hc => ?_) (fun hc => ?_) <;> (try (exfalso; omega)) <;> (try simp [hz, intR_get, intR_len, hvj, hw, hbd1, hbd2]))
  | (refine V_run rfl ?_; simp [hz, intR_get, intR_len, hvj, hw, hbd1, hbd2])
  | (refine And.intro (by omega) ?_)
  | (refine And.intro ?_ (by omega))
  | fail)
     (refine Pst.of ?_; simp)
    ·rw [if_neg hbd] at hgo
     repeat' (first
  | (refine Cnd.of (fun hc => ?_) (fun hc => ?_) <;> (try (exfalso; omega)) <;> (try simp [hz, intR_get, intR_len, hvj, hw, intR_set]))
  | (refine V_run rfl ?_; simp [hz, intR_get, intR_len, hvj, hw, intR_set])
  | (refine And.intro (by omega) ?_)
  | (refine And.intro ?_ (by omega))
  | fail)
     all_goals
      refine LoopW.next ⟨j + 1, hj.set k (v - needI y.op + leavesI y.op), by omega, hgo, by simp [hlen], by rw [List.getElem?_set_ne (by omega)]; exact hat2, fun z hz => ?_⟩ (by simp; omega) ?_
      ·rcases List.mem_or_eq_of_mem_set hz with hz | hz
       ·exact hjlo z hz
       ·omega
      exact (Wk.cut2 (by simp [hn, under_intR] <;> grind))
 ·have hlt : i < l.length := (List.getElem?_eq_some_iff.1 hx).1
  have h4 := formed_fun l i x hx (by omega)
  have ht : ((i : Int) + 1).toNat = i + 1 := by omega
  simp only [Vm.inss] at h4
  by_cases hfx : formI x i l.length = true
  ·rw [hfx] at h4
   repeat' (first
  | (refine V_run rfl ?_; simp [hlt, ht, intR_getE, intR_len, intR_set, hi1_len hi, hi1_set hlt])
  | (refine And.intro (by omega) ?_)
  | (refine CallP.f2 rfl (h4) (by first | simp [hlt, ht, intR_getE, intR_len, intR_set, hi1_len hi, hi1_set hlt] <;> rfl | fail) ?_; simp [hlt, ht, intR_getE, intR_len, intR_set, hi1_len hi, hi1_set hlt])
  | fail)
   refine LoopW.next ⟨i + 1, by omega, fun j y hj hy => ?_⟩ (by simp; omega) ?_
   ·rcases Nat.lt_succ_iff_lt_or_eq.1 hj with h1 | h1
    ·exact hf j y h1 hy
    ·subst h1; rw [hx] at hy; cases hy; exact hfx
   exact (Wk.cut2 (by simp [hn, under_intR] <;> grind))
  ·rw [Bool.not_eq_true] at hfx
   rw [hfx] at h4
   repeat' (first
  | (refine V_run rfl ?_; simp [hlt])
  | (refine CallP.f2 rfl (h4) (by first | simp [hlt] <;> rfl | fail) ?_; simp [hlt])
  | fail)
   (refine Pst.of ?_; simp)
   have : formsB l = false := by
    rw [← Bool.not_eq_true]
    intro h
    rw [forms_at h hx] at hfx
    cases hfx
   simp [rightC, this]
end Go.Proofs.YtkdhmbhbbciedaaGreatDoor
