/- Texts joined by a program of mine: Cg Ch#p C1#p Z1 Ct Ch C1 C8#p C8 CG. -/
import Derived.Test.YtkdhmbhbbciedaaGreatDoorM5
import Derived.Lay
import Derived.Test.YtkdhmbhbbciedaaGreatDoorTie
import Derived.Test.YtkdhmbhbbciedaaGreatDoorCards
set_option linter.all false
set_option maxRecDepth 100000
set_option maxHeartbeats 8000000
namespace Go.Proofs.YtkdhmbhbbciedaaGreatDoor
open Go Go.VL
attribute [local simp] HS exS_some hcons hstep evPure opd uOf putOK St.put St.at getK binD binI binS binB nilD aggD eqUs cmpK lookD lookR rangeD rangeS Go.VL.nextD Go.VL.nextS entryD keyD valU keyU lookK mkV entD_nil allUE makeMapD mapUpdD mapEff updK valM Key.kk shiftI arith unD convD pickD loadD cellsAt fieldAddrD fieldD indexAddrD indexSlD arrAddr indexD sliceD cutD lenD minmaxD nilCheckD buildD fillD cellsD isOne ones setAll mkAgg allU allocD boxD storeD St.add buildSliceD appendD rowsOf makeD setOb getK_setOb getK_del getK_cons stripL strip guardTmp entry chunks zcells valD argsV argsW argW argU1 argU0 argsU0 argsU1 calleeOf scalarD scalarU delAll effD St.effS RK_seq RK_seq_ret RK_seq_exit RK_blk RK_blk_ret RK_blk_exit RK_loop RK_loop_ret RK_loop_exit RK_done vs_seq vs_block vs_cond vs_region vs_loop applyW mkD rdIds lentIds callOf calleeOf freeOp D.ids Op.operands Call.operands isEffOp makeIfD makeFuncD typeAssertD conc concs conc1 uOfV panicD IntKind.bits allU2 List.take_of_length_le List.range_succ HR_nil HR_cons HR_grd v2_seq v2_block v2_skip v2_exit v2_ret v2_cond v2_region v2_draw v2_loop RN_0 RN_done RN_seq RN_seq_ret RN_seq_exit RN_blk RN_blk_ret RN_blk_exit RN_loop RN_loop_ret RN_loop_exit Cnd_tf Cnd_ft EndV getK_append frzN frz1 St.frz St.frzS frzS fv fzVec fzMap frzObS frz normD normU norm1 normOb St.norm St.lp St.only keepE wkE wkO wkU Ob.under D.under under_rowsD under_entD H4_nil H4_cons H4_grd h4s resD oneOrTup pureD List.zipIdx_cons List.zipIdx_nil List.map_cons List.map_nil Nat.zero_add
attribute [local irreducible] V G H HD HD2 HD4 HD4h RetX RunK Eff CallP CallV EndOK Fun Ret FinOK LoopI LoopW EndW HR vs2 RN Cnd H4
theorem exp_over (lets : List Let) (shs : List Bool) (m n : Nat) (e : Exp) (c : Code) (q nx : Nat) (hm : m < nx) (hq : q < nx) (hmq : m ≠ q) (hl : 2000 < c.length) : RetX Tryz.prog 36 [.ptr m 0, .u (.int .i64 n), eagg e] [(m, cOb lets shs q c), (q, kOb c)] nx
  fun r o n' => r = .val (.tup []) ∧ o = [(m, cOb lets shs nx c), (nx, kOb c)] ∧ n' = nx + 1 := by
 have hne := nef hm
 have hne2 := nef hq
 have hm1 : m < nx + 1 := by omega
 have hp := pure_insR c
 simp only [eagg]
 refine RetX.runW Tryz.func36 Tryz.ntmps36 rfl (by simp) fun Γ hn hpan => ?_
 repeat' (first
  | (refine Cnd.of (fun hc => ?_) (fun hc => ?_) <;> (try (exfalso; omega)) <;> (try simp [hne, hne2, hmq, Ne.symm hmq, Nat.add_assoc, del, hl, cOb]))
  | (refine V_run rfl ?_; simp [hne, hne2, hmq, Ne.symm hmq, Nat.add_assoc, del, hl, cOb])
  | fail)
 refine EndW.wk { n := _, env := [], obs := [(m, cOb lets shs nx c), (nx, kOb c)], next := nx + 1 } (Wk.ren ((fun i => if i = nx then q else i)) rfl (by first | (simp [hn]; done) | (intro i hi; rw [hn] at hi; constructor <;> (try simp) <;> (try (intro _)) <;> omega)) (by simp [wkER, St.lp, keepE, getK_cons, getK, getK_del, getK_setOb, D.under, D.le, D.ren, hne, hne2, hmq, Ne.symm hmq, hm1, hp, cOb, kOb, letsU] <;> (try (intros; simp_all; done)) <;> (try omega)) (by simp [wkR, St.lp, getK_cons, getK, getK_del, getK_setOb, obR, leU, pureRow, pureRows, Ob.under, D.under, D.le, D.ren, hne, hne2, hmq, Ne.symm hmq, hm1, hp, cOb, kOb, letsU] <;> (try (intros; simp_all; done)) <;> (try omega)) (by simp [hne, hne2, hmq, Ne.symm hmq, hm1, hp, cOb, kOb, letsU])) ?_
 (refine EndW.h Tryz.results36 ?_; simp)
theorem exp_num {lets shs m n e} (h0 : e.op = 0) : ExpX lets shs m n e (fun c => if 2000 < c.length then c else putC c ⟨0, e.n, []⟩) := by
 intro c q nx hm hq hmq hl
 have hne := nef hm
 have hne2 := nef hq
 have hm1 : m < nx + 1 := by omega
 simp only
 by_cases hg : 2000 < c.length
 ·rw [if_pos hg]; exact exp_over lets shs m n e c q nx hm hq hmq hg
 rw [if_neg hg]
 have hp := pure_insR (putC c ⟨0, e.n, []⟩)
 have a1 := put_x lets shs c ⟨0, e.n, []⟩ m q (nx + 1) (by omega) (by omega) hmq (by omega)
 generalize putC c ⟨0, e.n, []⟩ = c1 at *
 simp only [eagg]
 refine RetX.runW Tryz.func36 Tryz.ntmps36 rfl (by simp) fun Γ hn hpan => ?_
 repeat' (first
  | (refine Cnd.of (fun hc => ?_) (fun hc => ?_) <;> (try (exfalso; omega)) <;> (try simp [hne, hne2, hmq, Ne.symm hmq, Nat.add_assoc, del, hg, h0, cOb]))
  | (refine V_run rfl ?_; simp [hne, hne2, hmq, Ne.symm hmq, Nat.add_assoc, del, hg, h0, cOb])
  | (refine CallP.okL (a1) (by first | (simp [hne, hne2, hmq, Ne.symm hmq, Nat.add_assoc, del, hg, h0, cOb, getK_cons, getK, getK_append, getK_del, getK_setOb, applyW, del]; done) | fail) (by rfl) (by first | assumption | (simp; done) | fail) (by rfl) (by simp) ?_; (try simp [hne, hne2, hmq, Ne.symm hmq, Nat.add_assoc, del, hg, h0, cOb, delL, del]))
  | fail)
 refine EndW.wk { n := _, env := [], obs := [(m, cOb lets shs nx c1), (nx, kOb c1)], next := nx + 1 } (Wk.ren ((fun i => if i = nx then nx + 1 else i)) rfl (by first | (simp [hn]; done) | (intro i hi; rw [hn] at hi; constructor <;> (try simp) <;> (try (intro _)) <;> omega)) (by simp [wkER, St.lp, keepE, getK_cons, getK, getK_del, getK_setOb, D.under, D.le, D.ren, hne, hne2, hmq, Ne.symm hmq, hm1, hp, cOb, kOb, letsU] <;> (try (intros; simp_all; done)) <;> (try omega)) (by simp [wkR, St.lp, getK_cons, getK, getK_del, getK_setOb, obR, leU, pureRow, pureRows, Ob.under, D.under, D.le, D.ren, hne, hne2, hmq, Ne.symm hmq, hm1, hp, cOb, kOb, letsU] <;> (try (intros; simp_all; done)) <;> (try omega)) (by simp [hne, hne2, hmq, Ne.symm hmq, hm1, hp, cOb, kOb, letsU])) ?_
 (refine EndW.h Tryz.results36 ?_; simp)
theorem exp_name (lets : List Let) (shs : List Bool) (m n : Nat) (e : Exp) (h0 : e.op = 1) (hn' : n ≤ lets.length) (hn2 : n ≤ 1000) (hB : ∀ i l, i < n → lets[i]? = some l → ∃ F, ExpX lets shs m i l.body F ∧ F = genT (nmC lets (shF lets) i) (shF lets i) l.body) :
  ExpX lets shs m n e (fun c => if 2000 < c.length then c else nmC lets (shF lets) n e.s c) := by
 intro c q nx hm hq hmq hl
 have hne := nef hm
 have hne2 := nef hq
 have hm1 : m < nx + 1 := by omega
 simp only
 by_cases hg : 2000 < c.length
 ·rw [if_pos hg]; exact exp_over lets shs m n e c q nx hm hq hmq hg
 rw [if_neg hg]
 have hlet := clet_fun lets (boolsU shs) (Vm.inss c) n e.s hn' hn2
 have e1 := allU2_insR c
 have e2 := insR_take c
 have e3 := insR_len c
 rw [nmC_last e.s hn']
 cases hi : lastI lets n e.s with
 | none =>
  simp only
  rw [hi] at hlet
  have hp := pure_insR (putC c ⟨1, 0, e.s⟩)
  have a1 := put_x lets shs c ⟨1, 0, e.s⟩ m q (nx + 1) (by omega) (by omega) hmq (by omega)
  generalize putC c ⟨1, 0, e.s⟩ = c1 at *
  simp only [ixO, boolsU, letsU, Vm.inss] at hlet a1 ⊢
  simp only [eagg]
  refine RetX.runW Tryz.func36 Tryz.ntmps36 rfl (by simp) fun Γ hn hpan => ?_
  repeat' (first
  | (refine Cnd.of (fun hc => ?_) (fun hc => ?_) <;> (try (exfalso; omega)) <;> (try simp [hne, hne2, hmq, Ne.symm hmq, Nat.add_assoc, del, hg, h0, cOb, kOb, boolsU, letsU, e1, e2, e3]))
  | (refine V_run rfl ?_; simp [hne, hne2, hmq, Ne.symm hmq, Nat.add_assoc, del, hg, h0, cOb, kOb, boolsU, letsU, e1, e2, e3])
  | (refine CallP.f2 rfl (hlet) (by first | simp [hne, hne2, hmq, Ne.symm hmq, Nat.add_assoc, del, hg, h0, cOb, kOb, boolsU, letsU, e1, e2, e3] <;> rfl | fail) ?_; simp [hne, hne2, hmq, Ne.symm hmq, Nat.add_assoc, del, hg, h0, cOb, kOb, boolsU, letsU, e1, e2, e3])
  | (refine CallP.okL (a1) (by first | (simp [hne, hne2, hmq, Ne.symm hmq, Nat.add_assoc, del, hg, h0, cOb, kOb, boolsU, letsU, e1, e2, e3, getK_cons, getK, getK_append, getK_del, getK_setOb, applyW, del]; done) | fail) (by rfl) (by first | assumption | (simp; done) | fail) (by rfl) (by simp) ?_; (try simp [hne, hne2, hmq, Ne.symm hmq, Nat.add_assoc, del, hg, h0, cOb, kOb, boolsU, letsU, e1, e2, e3, delL, del]))
  | fail)
  refine EndW.wk { n := _, env := [], obs := [(m, cOb lets shs nx c1), (nx, kOb c1)], next := nx + 1 } (Wk.ren ((fun i => if i = nx then nx + 1 else i)) rfl (by first | (simp [hn]; done) | (intro i hi; rw [hn] at hi; constructor <;> (try simp) <;> (try (intro _)) <;> omega)) (by simp [wkER, St.lp, keepE, getK_cons, getK, getK_del, getK_setOb, D.under, D.le, D.ren, hne, hne2, hmq, Ne.symm hmq, hm1, hp, cOb, kOb, letsU, boolsU] <;> (try (intros; simp_all; done)) <;> (try omega)) (by simp [wkR, St.lp, getK_cons, getK, getK_del, getK_setOb, obR, leU, pureRow, pureRows, Ob.under, D.under, D.le, D.ren, hne, hne2, hmq, Ne.symm hmq, hm1, hp, cOb, kOb, letsU, boolsU] <;> (try (intros; simp_all; done)) <;> (try omega)) (by simp [hne, hne2, hmq, Ne.symm hmq, hm1, hp, cOb, kOb, letsU, boolsU])) ?_
  (refine EndW.h Tryz.results36 ?_; simp)
  all_goals simp [letsU, boolsU]
 | some i =>
  obtain ⟨w1, l, w2, w3⟩ := lastI_some hi
  obtain ⟨F, hF, hFe⟩ := hB i l w1 w2
  simp only [w2]
  rw [← hFe]
  rw [hi] at hlet
  have hp := pure_insR (F c)
  have a1 := hF c q (nx + 1) (by omega) (by omega) hmq (by omega)
  generalize F c = c1 at *
  have hi0 : ¬ (i : Int) < 0 := by omega
  have hil : i < lets.length := by omega
  simp only [ixO, boolsU, letsU, Vm.inss] at hlet
  simp only [eagg, letsU, boolsU] at a1 ⊢
  refine RetX.runW Tryz.func36 Tryz.ntmps36 rfl (by simp) fun Γ hn hpan => ?_
  repeat' (first
  | (refine Cnd.of (fun hc => ?_) (fun hc => ?_) <;> (try (exfalso; omega)) <;> (try simp [hne, hne2, hmq, Ne.symm hmq, Nat.add_assoc, del, hg, h0, cOb, kOb, boolsU, letsU, e1, e2, e3, w2, hi0]))
  | (refine V_run rfl ?_; simp [hne, hne2, hmq, Ne.symm hmq, Nat.add_assoc, del, hg, h0, cOb, kOb, boolsU, letsU, e1, e2, e3, w2, hi0])
  | (refine CallP.f2 rfl (hlet) (by first | simp [hne, hne2, hmq, Ne.symm hmq, Nat.add_assoc, del, hg, h0, cOb, kOb, boolsU, letsU, e1, e2, e3, w2, hi0] <;> rfl | fail) ?_; simp [hne, hne2, hmq, Ne.symm hmq, Nat.add_assoc, del, hg, h0, cOb, kOb, boolsU, letsU, e1, e2, e3, w2, hi0])
  | (refine CallP.okL (a1) (by first | (simp [hne, hne2, hmq, Ne.symm hmq, Nat.add_assoc, del, hg, h0, cOb, kOb, boolsU, letsU, e1, e2, e3, w2, hi0, getK_cons, getK, getK_append, getK_del, getK_setOb, applyW, del]; done) | fail) (by rfl) (by first | assumption | (simp; done) | fail) (by rfl) (by simp) ?_; (try simp [hne, hne2, hmq, Ne.symm hmq, Nat.add_assoc, del, hg, h0, cOb, kOb, boolsU, letsU, e1, e2, e3, w2, hi0, delL, del]))
  | fail)
  refine EndW.wk { n := _, env := [], obs := [(m, cOb lets shs nx c1), (nx, kOb c1)], next := nx + 1 } (Wk.ren ((fun i => if i = nx then nx + 1 else i)) rfl (by first | (simp [hn]; done) | (intro i hi; rw [hn] at hi; constructor <;> (try simp) <;> (try (intro _)) <;> omega)) (by simp [wkER, St.lp, keepE, getK_cons, getK, getK_del, getK_setOb, D.under, D.le, D.ren, hne, hne2, hmq, Ne.symm hmq, hm1, hp, cOb, kOb, letsU, boolsU] <;> (try (intros; simp_all; done)) <;> (try omega)) (by simp [wkR, St.lp, getK_cons, getK, getK_del, getK_setOb, obR, leU, pureRow, pureRows, Ob.under, D.under, D.le, D.ren, hne, hne2, hmq, Ne.symm hmq, hm1, hp, cOb, kOb, letsU, boolsU] <;> (try (intros; simp_all; done)) <;> (try omega)) (by simp [hne, hne2, hmq, Ne.symm hmq, hm1, hp, cOb, kOb, letsU, boolsU])) ?_
  (refine EndW.h Tryz.results36 ?_; simp)
  all_goals simp [letsU, boolsU]
theorem exp_choice {lets shs m n e F} (h0 : e.op = 10 ∨ e.op = 11 ∨ e.op = 13) (hF : ChoX lets shs m n e F) : ExpX lets shs m n e (fun c => if 2000 < c.length then c else F c) := by
 intro c q nx hm hq hmq hl
 have hne := nef hm
 have hne2 := nef hq
 have hm1 : m < nx + 1 := by omega
 simp only
 by_cases hg : 2000 < c.length
 ·rw [if_pos hg]; exact exp_over lets shs m n e c q nx hm hq hmq hg
 rw [if_neg hg]
 have hp := pure_insR (F c)
 have a1 := hF c q (nx + 1) (by omega) (by omega) hmq (by omega)
 generalize F c = c1 at *
 simp only [eagg] at a1 ⊢
 rcases h0 with h0 | h0 | h0
 all_goals
  rw [h0] at a1
  refine RetX.runW Tryz.func36 Tryz.ntmps36 rfl (by simp) fun Γ hn hpan => ?_
  repeat' (first
  | (refine Cnd.of (fun hc => ?_) (fun hc => ?_) <;> (try (exfalso; omega)) <;> (try simp [hne, hne2, hmq, Ne.symm hmq, Nat.add_assoc, del, hg, h0, cOb]))
  | (refine V_run rfl ?_; simp [hne, hne2, hmq, Ne.symm hmq, Nat.add_assoc, del, hg, h0, cOb])
  | (refine CallP.okL (a1) (by first | (simp [hne, hne2, hmq, Ne.symm hmq, Nat.add_assoc, del, hg, h0, cOb, getK_cons, getK, getK_append, getK_del, getK_setOb, applyW, del]; done) | fail) (by rfl) (by first | assumption | (simp; done) | fail) (by rfl) (by simp) ?_; (try simp [hne, hne2, hmq, Ne.symm hmq, Nat.add_assoc, del, hg, h0, cOb, delL, del]))
  | fail)
  refine EndW.wk { n := _, env := [], obs := [(m, cOb lets shs nx c1), (nx, kOb c1)], next := nx + 1 } (Wk.ren ((fun i => if i = nx then nx + 1 else i)) rfl (by first | (simp [hn]; done) | (intro i hi; rw [hn] at hi; constructor <;> (try simp) <;> (try (intro _)) <;> omega)) (by simp [wkER, St.lp, keepE, getK_cons, getK, getK_del, getK_setOb, D.under, D.le, D.ren, hne, hne2, hmq, Ne.symm hmq, hm1, hp, cOb, kOb, letsU] <;> (try (intros; simp_all; done)) <;> (try omega)) (by simp [wkR, St.lp, getK_cons, getK, getK_del, getK_setOb, obR, leU, pureRow, pureRows, Ob.under, D.under, D.le, D.ren, hne, hne2, hmq, Ne.symm hmq, hm1, hp, cOb, kOb, letsU] <;> (try (intros; simp_all; done)) <;> (try omega)) (by simp [hne, hne2, hmq, Ne.symm hmq, hm1, hp, cOb, kOb, letsU])) ?_
  (refine EndW.h Tryz.results36 ?_; simp)
theorem genA_snoc {nm sh} {x : Exp} : ∀ {l : List Exp} {i : Nat} (c : Code), l[i]? = some x → genA nm sh (l.take (i + 1)) c = genT nm sh x (genA nm sh (l.take i) c)
 | [], _, _, h => by simp at h
 | a :: l, 0, c, h => by simp at h; subst h; simp [genA]
 | a :: l, i + 1, c, h => by
  rw [List.take_succ_cons, List.take_succ_cons, genA, genA]
  exact genA_snoc (l := l) _ (by simpa using h)
theorem exp_plain (lets : List Let) (m n d : Nat) (e : Exp) (ho : 2 ≤ e.op ∧ e.op ≤ 9 ∨ e.op = 12) (hn' : n ≤ lets.length) (hn2 : n ≤ 1000) (hr : ∀ l ∈ lets, rightB 12 l.body = true) (hll : lets.length ≤ 20) (he : rightB (d + 1) e = true) (hd : d ≤ 11)
  (hE : ∀ x ∈ e.args, ExpX lets (shsL lets lets.length) m n x (genT (nmC lets (shF lets) n) (shF lets n) x)) :
  ExpX lets (shsL lets lets.length) m n e (fun c => if 2000 < c.length then c else putC (genA (nmC lets (shF lets) n) (shF lets n) e.args c) ⟨plainOp (shF lets n) e.op e.args, 0, []⟩) := by
 intro c q nx hm hq hmq hl
 have hne := nef hm
 have hne2 := nef hq
 have hm1 : m < nx + 1 := by omega
 simp only
 by_cases hg : 2000 < c.length
 ·rw [if_pos hg]; exact exp_over lets _ m n e c q nx hm hq hmq hg
 rw [if_neg hg]
 have hlen3 : e.args.length ≤ 3 := by
  have h1 := (right_args he).1
  unfold operandsI at h1
  repeat' split at h1
  all_goals omega
 have hpl := fun z => plain_fun lets (shsL lets lets.length) z n hn' (by rw [shsL_len (Nat.le_refl _)]; exact hn') hn2 d e he ho
 rw [plainOp_eq hr hll hn' (Nat.le_refl _) he hd (by omega) (by omega)] at hpl
 have hcap : ∀ i, (genA (nmC lets (shF lets) n) (shF lets n) (e.args.take i) c).length ≤ 2001 := fun i => genA_cap (nmC_cap n) _ c hl
 have hall : genA (nmC lets (shF lets) n) (shF lets n) (e.args.take e.args.length) c = genA (nmC lets (shF lets) n) (shF lets n) e.args c := by rw [List.take_length]
 have hz : genA (nmC lets (shF lets) n) (shF lets n) (e.args.take 0) c = c := by rw [List.take_zero, genA]
 have hsn : ∀ i x, e.args[i]? = some x → genA (nmC lets (shF lets) n) (shF lets n) (e.args.take (i + 1)) c = genT (nmC lets (shF lets) n) (shF lets n) x (genA (nmC lets (shF lets) n) (shF lets n) (e.args.take i) c) := fun i x h => genA_snoc c h
 rw [← hall]
 generalize plainOp (shF lets n) e.op e.args = po at *
 generalize hCi : (fun i => genA (nmC lets (shF lets) n) (shF lets n) (e.args.take i) c) = Ci at *
 have hCi' : ∀ i, genA (nmC lets (shF lets) n) (shF lets n) (e.args.take i) c = Ci i := fun i => by rw [← hCi]
 simp only [hCi'] at hcap hsn hz ⊢
 generalize shsL lets lets.length = shs at *
 have hp := pure_insR (putC (Ci e.args.length) ⟨po, 0, []⟩)
 have hmb : m < nx + 1 + 1 := by omega
 have hop0 : ¬ e.op = 0 ∧ ¬ e.op = 1 ∧ ¬ e.op = 10 ∧ ¬ e.op = 11 ∧ ¬ e.op = 13 := by omega
 obtain ⟨o1, o2, o3, o4, o5⟩ := hop0
 simp only [eagg, letsU, boolsU] at hpl ⊢
 refine RetX.runW Tryz.func36 Tryz.ntmps36 rfl (by simp) fun Γ hn hpan => ?_
 repeat' (first
  | (refine Cnd.of (fun hc => ?_) (fun hc => ?_) <;> (try (exfalso; omega)) <;> (try simp [hne, hne2, hmq, Ne.symm hmq, Nat.add_assoc, del, hg, cOb, o1, o2, o3, o4, o5]))
  | (refine V_run rfl ?_; simp [hne, hne2, hmq, Ne.symm hmq, Nat.add_assoc, del, hg, cOb, o1, o2, o3, o4, o5])
  | fail)
 refine V_loopO (α := { i : Nat // i ≤ e.args.length }) [0, 1, 5, 18, 19] (fun i => [(20, .u (.int .i64 i.1))])
  (fun i => [(nx, .box [.u (.int .i64 e.op), .u (.int .i64 e.n), .u (.int .i64 e.unit), .u (.str e.s), .u (.sl (e.args.map Exp.row))]), (m, cOb lets shs (nx + 1) (Ci i.1)), (nx + 1, kOb (Ci i.1))]) (nx + 2) (fun i => e.args.length - i.1) ⟨0, by omega⟩ ?_ ?_
 ·have hp0 := pure_insR (Ci 0)
  rw [hz] at hp0
  simp only [hz]
  exact (Wk.ren ((fun i => if i = nx + 1 then q else i)) rfl (by first | (simp [hn]; done) | (intro i hi; rw [hn] at hi; constructor <;> (try simp) <;> (try (intro _)) <;> omega)) (by simp [wkER, St.lp, keepE, getK_cons, getK, getK_del, getK_setOb, D.under, D.le, D.ren, hne, hne2, hmq, Ne.symm hmq, hmb, hp0, cOb, kOb, letsU, boolsU] <;> (try (intros; simp_all; done)) <;> (try omega)) (by simp [wkR, St.lp, getK_cons, getK, getK_del, getK_setOb, obR, leU, pureRow, pureRows, Ob.under, D.under, D.le, D.ren, hne, hne2, hmq, Ne.symm hmq, hmb, hp0, cOb, kOb, letsU, boolsU] <;> (try (intros; simp_all; done)) <;> (try omega)) (by simp [hne, hne2, hmq, Ne.symm hmq, hmb, hp0, cOb, kOb, letsU, boolsU]))
 rintro ⟨i, hi⟩
 simp
 by_cases hil : i < e.args.length
 ·have hx : e.args[i]? = some e.args[i] := List.getElem?_eq_getElem hil
  have hmem := List.mem_of_getElem? hx
  have hs1 := hsn i _ hx
  have a1 := hE _ hmem (Ci i) (nx + 1) (nx + 3) (by omega) (by omega) (by omega) (hcap i)
  rw [← hs1] at a1
  have hp1 := pure_insR (Ci (i + 1))
  generalize e.args[i] = x at *
  have hxr := x.row_eq
  simp only [eagg] at a1
  repeat' (first
  | (refine Cnd.of (fun hc => ?_) (fun hc => ?_) <;> (try (exfalso; omega)) <;> (try simp [hne, hne2, hmq, Ne.symm hmq, Nat.add_assoc, del, cOb, hx, hxr]))
  | (refine V_run rfl ?_; simp [hne, hne2, hmq, Ne.symm hmq, Nat.add_assoc, del, cOb, hx, hxr])
  | (refine And.intro (by omega) ?_)
  | (refine CallP.okL (a1) (by first | (simp [hne, hne2, hmq, Ne.symm hmq, Nat.add_assoc, del, cOb, hx, hxr, getK_cons, getK, getK_append, getK_del, getK_setOb, applyW, del]; done) | fail) (by rfl) (by first | assumption | (simp; done) | fail) (by rfl) (by simp) ?_; (try simp [hne, hne2, hmq, Ne.symm hmq, Nat.add_assoc, del, cOb, hx, hxr, delL, del]))
  | fail)
  refine LoopW.next ⟨i + 1, by omega⟩ (by simp; omega) ?_
  exact (Wk.ren ((fun i => if i = nx + 1 then nx + 3 else i)) rfl (by first | (simp [hn]; done) | (intro i hi; rw [hn] at hi; constructor <;> (try simp) <;> (try (intro _)) <;> omega)) (by simp [wkER, St.lp, keepE, getK_cons, getK, getK_del, getK_setOb, D.under, D.le, D.ren, hne, hne2, hmq, Ne.symm hmq, hmb, hp1, cOb, kOb, letsU, boolsU] <;> (try (intros; simp_all; done)) <;> (try omega)) (by simp [wkR, St.lp, getK_cons, getK, getK_del, getK_setOb, obR, leU, pureRow, pureRows, Ob.under, D.under, D.le, D.ren, hne, hne2, hmq, Ne.symm hmq, hmb, hp1, cOb, kOb, letsU, boolsU] <;> (try (intros; simp_all; done)) <;> (try omega)) (by simp [hne, hne2, hmq, Ne.symm hmq, hmb, hp1, cOb, kOb, letsU, boolsU]))
 obtain rfl : i = e.args.length := by omega
 have e1 := allU2_insR (Ci e.args.length)
 have e2 := insR_take (Ci e.args.length)
 have e3 := insR_len (Ci e.args.length)
 have h5 := hpl (Vm.inss (Ci e.args.length))
 have a2 := put_x lets shs (Ci e.args.length) ⟨po, 0, []⟩ m (nx + 1) (nx + 2) (by omega) (by omega) (by omega) (by have := hcap e.args.length; omega)
 generalize putC (Ci e.args.length) ⟨po, 0, []⟩ = c2 at *
 generalize Ci e.args.length = c1 at *
 simp only [Vm.inss, letsU, boolsU] at h5 a2
 repeat' (first
  | (refine V_run rfl ?_; simp [hne, hne2, hmq, Ne.symm hmq, Nat.add_assoc, del, cOb, kOb, letsU, boolsU, e1, e2, e3])
  | (refine CallP.f2 rfl (h5) (by first | simp [hne, hne2, hmq, Ne.symm hmq, Nat.add_assoc, del, cOb, kOb, letsU, boolsU, e1, e2, e3] <;> rfl | fail) ?_; simp [hne, hne2, hmq, Ne.symm hmq, Nat.add_assoc, del, cOb, kOb, letsU, boolsU, e1, e2, e3])
  | (refine CallP.okL (a2) (by first | (simp [hne, hne2, hmq, Ne.symm hmq, Nat.add_assoc, del, cOb, kOb, letsU, boolsU, e1, e2, e3, getK_cons, getK, getK_append, getK_del, getK_setOb, applyW, del]; done) | fail) (by rfl) (by first | assumption | (simp; done) | fail) (by rfl) (by simp) ?_; (try simp [hne, hne2, hmq, Ne.symm hmq, Nat.add_assoc, del, cOb, kOb, letsU, boolsU, e1, e2, e3, delL, del]))
  | fail)
 refine EndW.wk { n := _, env := [], obs := [(m, cOb lets shs nx c2), (nx, kOb c2)], next := nx + 1 } (Wk.ren ((fun i => if i = nx then nx + 2 else i)) rfl (by first | (simp [hn]; done) | (intro i hi; rw [hn] at hi; constructor <;> (try simp) <;> (try (intro _)) <;> omega)) (by simp [wkER, St.lp, keepE, getK_cons, getK, getK_del, getK_setOb, D.under, D.le, D.ren, hne, hne2, hmq, Ne.symm hmq, hm1, hp, cOb, kOb, letsU, boolsU] <;> (try (intros; simp_all; done)) <;> (try omega)) (by simp [wkR, St.lp, getK_cons, getK, getK_del, getK_setOb, obR, leU, pureRow, pureRows, Ob.under, D.under, D.le, D.ren, hne, hne2, hmq, Ne.symm hmq, hm1, hp, cOb, kOb, letsU, boolsU] <;> (try (intros; simp_all; done)) <;> (try omega)) (by simp [hne, hne2, hmq, Ne.symm hmq, hm1, hp, cOb, kOb, letsU, boolsU])) ?_
 (refine EndW.h Tryz.results36 ?_; simp)
 all_goals simp [letsU, boolsU]
end Go.Proofs.YtkdhmbhbbciedaaGreatDoor
namespace Go.Proofs.YtkdhmbhbbciedaaGreatDoor
open Go Go.VL
theorem ExpX.cast {lets shs m n e F F'} (h : ExpX lets shs m n e F) (e' : F = F') : ExpX lets shs m n e F' := e' ▸ h
theorem exp_all {lets : List Let} (hr : ∀ l ∈ lets, rightB 12 l.body = true) (hll : lets.length ≤ 20) (m : Nat) : ∀ (n : Nat), n ≤ lets.length → ∀ (d : Nat), d ≤ 12 → ∀ e : Exp, rightB d e = true →
  ExpX lets (shsL lets lets.length) m n e (genT (nmC lets (shF lets) n) (shF lets n) e) := by
 intro n
 induction n using Nat.strongRecOn with
 | ind n ihn =>
 intro hn d
 induction d with
 | zero => intro _ e he; simp [rightB] at he
 | succ d ih =>
  intro hd e he
  obtain ⟨h1, h2, h3, h4⟩ := right_args he
  have hcap := fun x => genT_cap (sh := shF lets n) (nmC_cap (lets := lets) (sh := shF lets) n) x
  have hpre := fun x => genT_pre (sh := shF lets n) (nmC_pre (lets := lets) (sh := shF lets) n) x
  by_cases h0 : e.op = 0
  ·refine (exp_num h0).cast (funext fun c => ?_)
   rw [genT_eq, if_pos h0]
  by_cases hnm : e.op = 1
  ·refine (exp_name lets _ m n e hnm hn (by omega) fun i l hi hl => ⟨_, ihn i hi (by omega) 12 (by omega) l.body (hr l (List.mem_of_getElem? hl)), rfl⟩).cast (funext fun c => ?_)
   rw [genT_eq, if_neg h0, if_pos hnm]
  have hargs := h4 h0 hnm
  have hE : ∀ x ∈ e.args, ExpX lets (shsL lets lets.length) m n x (genT (nmC lets (shF lets) n) (shF lets n) x) := fun x hx => ih (by omega) x (hargs x hx)
  by_cases hA : e.op = 10
  ·obtain ⟨a, b, hab⟩ : ∃ a b, e.args = [a, b] := by
    have hl : e.args.length = 2 := by rw [hA] at h1; simp [operandsI] at h1; omega
    match hq : e.args, hl with
    | [a, b], _ => exact ⟨a, b, rfl⟩
   refine (exp_choice (.inl hA) (choice_and hA hab (hE a (by simp [hab])) (hcap a) (hpre a) (hE b (by simp [hab])) (hcap b) (hpre b))).cast (funext fun c => ?_)
   rw [genT_eq, if_neg h0, if_neg hnm, if_pos hA, hab, genN_at (i := 0) (e := a) rfl, genN_at (i := 1) (e := b) rfl]
  by_cases hO : e.op = 11
  ·obtain ⟨a, b, hab⟩ : ∃ a b, e.args = [a, b] := by
    have hl : e.args.length = 2 := by rw [hO] at h1; simp [operandsI] at h1; omega
    match hq : e.args, hl with
    | [a, b], _ => exact ⟨a, b, rfl⟩
   refine (exp_choice (.inr (.inl hO)) (choice_or hO hab (hE a (by simp [hab])) (hcap a) (hpre a) (hE b (by simp [hab])) (hcap b) (hpre b))).cast (funext fun c => ?_)
   rw [genT_eq, if_neg h0, if_neg hnm, if_neg hA, if_pos hO, hab, genN_at (i := 0) (e := a) rfl, genN_at (i := 1) (e := b) rfl]
  by_cases hI : e.op = 13
  ·obtain ⟨a, b, z, hab⟩ : ∃ a b z, e.args = [a, b, z] := by
    have hl : e.args.length = 3 := by rw [hI] at h1; simp [operandsI] at h1; omega
    match hq : e.args, hl with
    | [a, b, z], _ => exact ⟨a, b, z, rfl⟩
   refine (exp_choice (.inr (.inr hI)) (choice_if hI hab (hE a (by simp [hab])) (hcap a) (hpre a) (hE b (by simp [hab])) (hcap b) (hpre b) (hE z (by simp [hab])) (hcap z) (hpre z))).cast (funext fun c => ?_)
   rw [genT_eq, if_neg h0, if_neg hnm, if_neg hA, if_neg hO, if_pos hI, hab, genN_at (i := 0) (e := a) rfl, genN_at (i := 1) (e := b) rfl, genN_at (i := 2) (e := z) rfl]
  refine (exp_plain lets m n d e (by omega) hn (by omega) hr hll he (by omega) hE).cast (funext fun c => ?_)
  rw [genT_eq, if_neg h0, if_neg hnm, if_neg hA, if_neg hO, if_neg hI]
abbrev boolR' (l : List Bool) : List (List D) := l.map fun b => [.u (.bool b)]
theorem allU2_boolR (l : List Bool) : allU2 (boolR' l) = some (l.map fun b => [.bool b]) := by
 have : boolR' l = (l.map fun b => [U.bool b]).map (·.map D.u) := by simp [boolR']
 rw [this, allU2_map]
theorem boolR_take (l : List Bool) : (boolR' l).take l.length = boolR' l := by have : (boolR' l).length = l.length := by simp [boolR']
                                                                               rw [← this, List.take_length]
theorem pure_boolR' (l : List Bool) : pureRows (boolR' l) := by
 induction l with
 | nil => simp [boolR', pureRows]
 | cons a l ih => simp only [boolR'] at ih; simp [boolR', pureRows, pureRow, ih]
theorem boolR_lenR (l : List Bool) : lenR 1 (boolR' l) := by intro r hr; obtain ⟨i, _, rfl⟩ := List.mem_map.1 hr; rfl
end Go.Proofs.YtkdhmbhbbciedaaGreatDoor
namespace Go.Proofs.YtkdhmbhbbciedaaGreatDoor
open Go Go.VL Go.Shelf Go.RowKit
/-- The objects of Read ahead of a round. -/
def readO (L : Code) (i : Nat) : List (Nat × Ob) := [(0, .box [.vec (i + 4) i]), (i + 4, .vec 44 3 (insR (L.take i)))]
theorem cutU_eq (t : W8) : ∃ (w r : W8) (b : Bool), cutU 32 t = .tup [.u (.str w), .u (.str r), .u (.bool b)] ∧ insP t = (if idxS wordsL w 0 = 1 then ⟨1, 0, r⟩ else ⟨idxS wordsL w 0, atoiV r, []⟩) ∧ r.length ≤ t.length := by
 cases hc : cutB 32 t with
 | none => exact ⟨t, [], false, by simp [cutU, hc], by simp [insP, hc], by simp⟩
 | some p => exact ⟨p.1, p.2, true, by simp [cutU, hc], by simp [insP, hc], Nat.le_of_lt (cut_len (p := p.1) hc)⟩
end Go.Proofs.YtkdhmbhbbciedaaGreatDoor
namespace Go.Proofs.YtkdhmbhbbciedaaGreatDoor
open Go Go.VL Go.Shelf Go.RowKit
attribute [local simp] HS exS_some hcons hstep evPure opd uOf putOK St.put St.at getK binD binI binS binB nilD aggD eqUs cmpK lookD lookR rangeD rangeS Go.VL.nextD Go.VL.nextS entryD keyD valU keyU lookK mkV entD_nil allUE makeMapD mapUpdD mapEff updK valM Key.kk shiftI arith unD convD pickD loadD cellsAt fieldAddrD fieldD indexAddrD indexSlD arrAddr indexD sliceD cutD lenD minmaxD nilCheckD buildD fillD cellsD isOne ones setAll mkAgg allU allocD boxD storeD St.add buildSliceD appendD rowsOf makeD setOb getK_setOb getK_del getK_cons stripL strip guardTmp entry chunks zcells valD argsV argsW argW argU1 argU0 argsU0 argsU1 calleeOf scalarD scalarU delAll effD St.effS RK_seq RK_seq_ret RK_seq_exit RK_blk RK_blk_ret RK_blk_exit RK_loop RK_loop_ret RK_loop_exit RK_done vs_seq vs_block vs_cond vs_region vs_loop applyW mkD rdIds lentIds callOf calleeOf freeOp D.ids Op.operands Call.operands isEffOp makeIfD makeFuncD typeAssertD conc concs conc1 uOfV panicD IntKind.bits allU2 List.take_of_length_le List.range_succ
attribute [local irreducible] V G H HD HD2 HD4 HD4h RetX RunK Eff CallP CallV EndOK Fun Ret FinOK LoopI LoopW EndW
theorem byte_inf : byteInf Tryz.prog 86 9 = some u8T := by kernel_rfl
theorem write_used (l s : W8) (i j nx : Nat) (hi : i < nx) (hj : j < nx) (hij : i ≠ j) (hlen : l.length + s.length ≤ 140737488355328) :
  RetX Tryz.prog 49 [.ptr i 0, .u (.str s)] [(i, .box [.ptr i 0, .vec j l.length]), (j, .vec u8T 1 (bytesR l))] nx
   (fun r o n => r = .val (.tup [.u (.int .i64 s.length), .u (.oth .nilIface)]) ∧ o = [(i, .box [.ptr i 0, .vec nx (l.length + s.length)]), (nx, .vec u8T 1 (bytesR (l ++ s)))] ∧ n = nx + 1) := by
 have hne := ne_facts hi
 have hne2 := ne_facts hj
 have hcp := fun nx' (h : nx ≤ nx') => copy_used i nx' (by omega) (.vec j l.length)
 have hbi := byte_inf
 have hca : callable Tryz.prog 83 = true := by kernel_rfl
 have hbl := bytesU_len l
 rw [show bytesR (l ++ s) = rowsD (bytesU l ++ bytesU s) by rw [bytesR, bytesU_app]]
 (refine RetX.of_bodyW Tryz.func49 rfl (by simp) fun Γ hn hpan => ?_); simp only [entry, List.zipIdx_cons, List.zipIdx_nil, List.map_cons, List.map_nil, Nat.zero_add, Tryz.ntmps49]
 repeat' (first
  | (refine H_appendS ?_; simp [appendSD, hne, hne2, hij, Ne.symm hij, del, hbi, hbl, hlen])
  | (refine H_cons ?_; simp [hne, hne2, hij, Ne.symm hij, del, hbi, hbl, hlen])
  | (refine H_nil ?_; simp [hne, hne2, hij, Ne.symm hij, del, hbi, hbl, hlen])
  | (refine V_sseq ?_; simp [hne, hne2, hij, Ne.symm hij, del, hbi, hbl, hlen])
  | (refine V_ret ?_; simp only [RunK])
  | (refine CallP.ok1 (hcp _ (by first | omega | (simp; done) | (simp; omega) | fail)) (by first | (simp [hne, hne2, hij, Ne.symm hij, del, hbi, hbl, hlen, getK_cons, getK, getK_append, getK_del]; done) | fail) (by rfl) (by first | assumption | (simp; done) | fail) (by rfl) (by simp) ?_; (try simp [hne, hne2, hij, Ne.symm hij, del, hbi, hbl, hlen]))
  | fail)
 (refine EndW.here ?_; (first | (refine EndOK.fin (.inr rfl) ?_) | (refine EndOK.fin (.inl rfl) ?_)); simp [resD, oneOrTup, Tryz.results49, hne, hne2, hi, hj, hij, Ne.symm hij]; refine FinOK.cut [(i, .box [.ptr i 0, .vec nx (l.length + s.length)]), (nx, .vec u8T 1 (rowsD (bytesU l) ++ rowsD (bytesU s)))] (nx + 1) (by simp [getK_cons, getK, getK_append, getK_del, Ob.under, D.under, under_rowsD, under_entD, hne, hne2, hi, hj, hij, Ne.symm hij] <;> omega) (by simp [D.under]) (by simp [hn]) ?_; try simp)
theorem write_new (s : W8) (i nx : Nat) (hi : i < nx) (hlen : s.length ≤ 140737488355328) :
  RetX Tryz.prog 49 [.ptr i 0, .u (.str s)] [(i, .nw bT)] nx
   (fun r o n => r = .val (.tup [.u (.int .i64 s.length), .u (.oth .nilIface)]) ∧ o = [(i, .box [.ptr i 0, .vec (nx + 1) s.length]), (nx + 1, .vec u8T 1 (bytesR s))] ∧ n = nx + 2) := by
 have hne := ne_facts hi
 have hcp := fun nx' (h : nx ≤ nx') => copy_new i nx' (by omega)
 have hbi := byte_inf
 have hca : callable Tryz.prog 83 = true := by kernel_rfl
 (refine RetX.of_bodyW Tryz.func49 rfl (by simp) fun Γ hn hpan => ?_); simp only [entry, List.zipIdx_cons, List.zipIdx_nil, List.map_cons, List.map_nil, Nat.zero_add, Tryz.ntmps49]
 repeat' (first
  | (refine H_appendS ?_; simp [appendSD, hne, del, hbi, hlen])
  | (refine H_cons ?_; simp [hne, del, hbi, hlen])
  | (refine H_nil ?_; simp [hne, del, hbi, hlen])
  | (refine V_sseq ?_; simp [hne, del, hbi, hlen])
  | (refine V_ret ?_; simp only [RunK])
  | (refine CallP.okL (hcp _ (by first | omega | (simp; done) | (simp; omega) | fail)) (by first | (simp [hne, del, hbi, hlen, getK_cons, getK, getK_append, getK_del, getK_setOb, applyW, del]; done) | fail) (by rfl) (by first | assumption | (simp; done) | fail) (by rfl) (by simp) ?_; (try simp [hne, del, hbi, hlen, delL, del]))
  | fail)
 (refine EndW.here ?_; (first | (refine EndOK.fin (.inr rfl) ?_) | (refine EndOK.fin (.inl rfl) ?_)); simp [resD, oneOrTup, Tryz.results49, hne, hi]; refine FinOK.cut [(i, .box [.ptr i 0, .vec (nx + 1) s.length]), (nx + 1, .vec u8T 1 (bytesR s))] (nx + 2) (by simp [getK_cons, getK, getK_append, getK_del, Ob.under, D.under, under_rowsD, under_entD, hne, hi] <;> omega) (by simp [D.under]) (by simp [hn]) ?_; try simp)
end Go.Proofs.YtkdhmbhbbciedaaGreatDoor
namespace Go.Proofs.YtkdhmbhbbciedaaGreatDoor
open Go Go.VL
attribute [local simp] HS exS_some hcons hstep evPure opd uOf putOK St.put St.at getK binD binI binS binB nilD aggD eqUs cmpK lookD lookR rangeD rangeS Go.VL.nextD Go.VL.nextS entryD keyD valU keyU lookK mkV entD_nil allUE makeMapD mapUpdD mapEff updK valM Key.kk shiftI arith unD convD pickD loadD cellsAt fieldAddrD fieldD indexAddrD indexSlD arrAddr indexD sliceD cutD lenD minmaxD nilCheckD buildD fillD cellsD isOne ones setAll mkAgg allU allocD boxD storeD St.add buildSliceD appendD rowsOf makeD setOb getK_setOb getK_del getK_cons stripL strip guardTmp entry chunks zcells valD argsV argsW argW argU1 argU0 argsU0 argsU1 calleeOf scalarD scalarU delAll effD St.effS RK_seq RK_seq_ret RK_seq_exit RK_blk RK_blk_ret RK_blk_exit RK_loop RK_loop_ret RK_loop_exit RK_done vs_seq vs_block vs_cond vs_region vs_loop applyW mkD rdIds lentIds callOf calleeOf freeOp D.ids Op.operands Call.operands isEffOp makeIfD makeFuncD typeAssertD conc concs conc1 uOfV panicD IntKind.bits allU2 List.take_of_length_le List.range_succ
attribute [local irreducible] V G H HD HD2 HD4 HD4h RetX RunK Eff CallP CallV EndOK Fun Ret FinOK LoopI LoopW EndW
theorem list_ret (l : Code) (hll : l.length ≤ 1000000) (hr : rightC l = true) : RetX Tryz.prog 19 [.u (Vm.inss l)] [] 0 (fun r o n => r = .val (.u (.str (listC l)))) := by
 have hri := cright_fun l hll
 rw [hr] at hri
 have hit := fun i x (h : l[i]? = some x) => right_item hr h
 simp only [Vm.inss] at hri ⊢
 (refine RetX.of_bodyW Tryz.func19 rfl (by simp) fun Γ hn hpan => ?_); simp only [entry, List.zipIdx_cons, List.zipIdx_nil, List.map_cons, List.map_nil, Nat.zero_add, Tryz.ntmps19]
 repeat' (first
  | (refine H_allocN (by first | (simp; done) | fail) (by simp) ?_; simp)
  | (refine H_cons ?_; simp)
  | (refine H_nil ?_; simp)
  | (refine V_sseq ?_; simp)
  | (refine V_scond ?_; simp)
  | (refine V_sblock ?_; simp)
  | (refine V_skip ?_; simp only [RunK])
  | (refine CallP.fun_ (hri) (by first | rfl | fail) (by first | assumption | (simp; done) | fail) (by first | (simp; done) | (simp; rfl) | fail) (by first | (simp; done) | fail) (fun d hd => ?_); subst hd; (try simp))
  | fail)
 refine V_loopO (α := { i : Nat // i ≤ l.length }) [3, 9, 10] (fun i => [(11, .u (.int .i64 i.1))]) (fun i => listO (listC (l.take i.1)) i.1) 2 (fun i => l.length - i.1) ⟨0, by omega⟩ ?_ ?_
 ·simp only [listO, if_pos]
  exact (Wk.cut rfl (by simp [hn, St.lp]) (by simp [wkO, St.lp, getK_cons, getK, Ob.under, D.under, under_rowsD, under_entD]) (by simp [wkU, St.lp, keepE, getK_cons, getK, D.under]) (by simp [wkE, St.lp, keepE, getK_cons, getK] <;> (try (intros; simp_all; done)) <;> (try (intros; omega)) <;> (try grind)))
 rintro ⟨i, hi⟩
 simp [St.lp, St.only, keepE, getK_cons, getK]
 rcases hx : l[i]? with _ | x
 ·have hge : l.length ≤ i := by simpa using hx
  obtain rfl : i = l.length := by omega
  have hne : ¬ l.length = 0 := by
   simp only [rightC, Bool.and_eq_true, decide_eq_true_eq] at hr
   omega
  have hll2 := list_len hr l.length (Nat.le_refl _)
  simp only [List.take_length] at hll2 ⊢
  have hnz : listC l ≠ [] := fun e => by
   cases l with
   | nil => exact hne rfl
   | cons x r => simp [listC, lineC] at e
  have hst := fun nx (h : 2 ≤ nx) => string_ret 0 1 nx (by omega) (by omega) (by decide) (listC l) hnz
  have hca : callable Tryz.prog 51 = true := by kernel_rfl
  simp only [listO, if_neg hne]
  generalize listC l = T at *
  repeat' (first
  | (refine H_cons ?_; simp [hx, hca])
  | (refine H_nil ?_; simp [hx, hca])
  | (refine V_sseq ?_; simp [hx, hca])
  | (refine V_ret ?_; simp only [RunK])
  | (refine V_exit ?_; simp [RunK])
  | (refine CallP.okL (hst _ (by first | omega | (simp; done) | (simp; omega) | fail)) (by first | (simp [hx, hca, getK_cons, getK, getK_append, getK_del, getK_setOb, applyW, del]; done) | fail) (by rfl) (by first | assumption | (simp; done) | fail) (by rfl) (by simp) ?_; (try simp [hx, hca, delL, del]))
  | fail)
  (refine EndW.here ?_; (first | (refine EndOK.fin (.inr rfl) ?_) | (refine EndOK.fin (.inl rfl) ?_)); simp [resD, oneOrTup, Tryz.results19]; refine FinOK.cut [] (2) (by simp [getK_cons, getK, getK_append, getK_del, Ob.under, D.under, under_rowsD, under_entD] <;> omega) (by simp [D.under]) (by simp [hn]) ?_; try simp)
 ·have hlt : i < l.length := (List.getElem?_eq_some_iff.1 hx).1
  have hxe : l[i]'hlt = x := (List.getElem?_eq_some_iff.1 hx).2
  obtain ⟨o0, o1, o2, o3, o4⟩ := hit i x hx
  have hli := line_fun x o0 o1 (by omega) (by omega) (by omega)
  have hca : callable Tryz.prog 49 = true := by kernel_rfl
  have hl1 := list_len hr i hi
  have hl2 := line_len x (hit i x hx)
  have htk := list_take hx
  by_cases h0 : i = 0
  ·subst h0
   have hn0 : ¬ l = [] := fun e => by rw [e] at hx; cases hx
   have hwr := fun nx (h : 2 ≤ nx) => write_new (lineC x) 0 nx (by omega) (by omega)
   simp only [listO, if_pos]
   repeat' (first
  | (refine H_cons ?_; simp [hx, hca, hxe, hn0])
  | (refine H_nil ?_; simp [hx, hca, hxe, hn0])
  | (refine V_sseq ?_; simp [hx, hca, hxe, hn0])
  | (refine V_sregion ?_; simp [hx, hca, hxe, hn0])
  | (refine V_skip ?_; simp only [RunK])
  | (intro hc <;> (try (exfalso; omega)))
  | (refine CallP.fun_ (hli) (by first | rfl | fail) (by first | assumption | (simp; done) | fail) (by first | (simp [hx, hca, hxe, hn0]; done) | (simp [hx, hca, hxe, hn0]; rfl) | fail) (by first | (simp; done) | fail) (fun d hd => ?_); subst hd; (try simp [hx, hca, hxe, hn0]))
  | (refine CallP.okL (hwr _ (by first | omega | (simp; done) | (simp; omega) | fail)) (by first | (simp [hx, hca, hxe, hn0, getK_cons, getK, getK_append, getK_del, getK_setOb, applyW, del]; done) | fail) (by rfl) (by first | assumption | (simp; done) | fail) (by rfl) (by simp) ?_; (try simp [hx, hca, hxe, hn0, delL, del]))
  | fail)
   refine LoopW.next ⟨1, by omega⟩ (by simp; omega) ?_
   have e1 : listC (l.take 1) = lineC x := by rw [htk]; simp [listC]
   simp only [listO, e1, if_neg (show ¬ (1 : Nat) = 0 by decide)]
   exact (Wk.ren ((fun x => if x = 1 then 4 else x)) rfl (by first | (simp [hn]; done) | (intro i hi; rw [hn] at hi; constructor <;> (try simp) <;> (try (intro _)) <;> omega)) (by simp [wkER, St.lp, keepE, getK_cons, getK, getK_del, getK_setOb, D.under, D.le, D.ren] <;> (try (intros; simp_all; done)) <;> (try omega)) (by simp [wkR, St.lp, getK_cons, getK, getK_del, getK_setOb, obR, leU, pureRow, pureRows, Ob.under, D.under, D.le, D.ren] <;> (try (intros; simp_all; done)) <;> (try omega)) (by simp))
  ·have hwr := fun nx (h : 2 ≤ nx) => write_used (listC (l.take i)) (lineC x) 0 1 nx (by omega) (by omega) (by decide) (by omega)
   simp only [listO, if_neg h0]
   repeat' (first
  | (refine H_cons ?_; simp [hx, hca, hxe])
  | (refine H_nil ?_; simp [hx, hca, hxe])
  | (refine ⟨by omega, ?_⟩)
  | (refine V_sseq ?_; simp [hx, hca, hxe])
  | (refine V_sregion ?_; simp [hx, hca, hxe])
  | (refine V_skip ?_; simp only [RunK])
  | (refine ⟨?_, by omega⟩)
  | (intro hc <;> (try (exfalso; omega)))
  | (refine CallP.fun_ (hli) (by first | rfl | fail) (by first | assumption | (simp; done) | fail) (by first | (simp [hx, hca, hxe]; done) | (simp [hx, hca, hxe]; rfl) | fail) (by first | (simp; done) | fail) (fun d hd => ?_); subst hd; (try simp [hx, hca, hxe]))
  | (refine CallP.okL (hwr _ (by first | omega | (simp; done) | (simp; omega) | fail)) (by first | (simp [hx, hca, hxe, getK_cons, getK, getK_append, getK_del, getK_setOb, applyW, del]; done) | fail) (by rfl) (by first | assumption | (simp; done) | fail) (by rfl) (by simp) ?_; (try simp [hx, hca, hxe, delL, del]))
  | fail)
   refine LoopW.next ⟨i + 1, by omega⟩ (by simp; omega) ?_
   simp only [listO, htk, List.length_append, if_neg (show ¬ i + 1 = 0 by omega)]
   exact (Wk.ren ((fun x => if x = 1 then 3 else x)) rfl (by first | (simp [hn]; done) | (intro i hi; rw [hn] at hi; constructor <;> (try simp) <;> (try (intro _)) <;> omega)) (by simp [wkER, St.lp, keepE, getK_cons, getK, getK_del, getK_setOb, D.under, D.le, D.ren] <;> (try (intros; simp_all; done)) <;> (try omega)) (by simp [wkR, St.lp, getK_cons, getK, getK_del, getK_setOb, obR, leU, pureRow, pureRows, Ob.under, D.under, D.le, D.ren] <;> (try (intros; simp_all; done)) <;> (try omega)) (by simp))
/-- What List returns. -/
def listB (l : Code) : List UInt8 := if rightC l = true then listC l else []
theorem list_fun (l : Code) (hll : l.length ≤ 1000000) : Fun Tryz.prog 19 [.u (Vm.inss l)] (· = .u (.str (listB l))) := by
 cases hb : rightC l with
 | true =>
  unfold Fun
  exact (list_ret l hll hb).ret (fun d o n h => by
   cases h
   exact ⟨by simp [pureD], by simp [listB, hb]⟩) (fun ch o n h => by cases h)
 | false =>
  have hri := cright_fun l hll
  rw [hb] at hri
  have hp : listB l = [] := by unfold listB; rw [if_neg (by simp [hb])]
  rw [hp]
  simp only [Vm.inss] at hri ⊢
  (refine Fun.of_body Tryz.func19 rfl (by simp) fun Γ hn => ?_); simp only [entry, List.zipIdx_cons, List.zipIdx_nil, List.map_cons, List.map_nil, Nat.zero_add, Tryz.ntmps19]
  repeat' (first
  | (refine H_cons ?_; simp)
  | (refine H_nil ?_; simp)
  | (refine V_sseq ?_; simp)
  | (refine V_scond ?_; simp)
  | (refine V_ret ?_; simp only [RunK])
  | (refine CallP.fun_ (hri) (by first | rfl | fail) (by first | assumption | (simp; done) | fail) (by first | (simp; done) | (simp; rfl) | fail) (by first | (simp; done) | fail) (fun d hd => ?_); subst hd; (try simp))
  | fail)
  (refine EndOK.val (.inr rfl) ?_; simp [resD, oneOrTup, pureD, Tryz.results19])
end Go.Proofs.YtkdhmbhbbciedaaGreatDoor
namespace Go.Proofs.YtkdhmbhbbciedaaGreatDoor
open Go Go.VL
attribute [local simp] HS exS_some hcons hstep evPure opd uOf putOK St.put St.at getK binD binI binS binB nilD aggD eqUs cmpK lookD lookR rangeD rangeS Go.VL.nextD Go.VL.nextS entryD keyD valU keyU lookK mkV entD_nil allUE makeMapD mapUpdD mapEff updK valM Key.kk shiftI arith unD convD pickD loadD cellsAt fieldAddrD fieldD indexAddrD indexSlD arrAddr indexD sliceD cutD lenD minmaxD nilCheckD buildD fillD cellsD isOne ones setAll mkAgg allU allocD boxD storeD St.add buildSliceD appendD rowsOf makeD setOb getK_setOb getK_del getK_cons stripL strip guardTmp entry chunks zcells valD argsV argsW argW argU1 argU0 argsU0 argsU1 calleeOf scalarD scalarU delAll effD St.effS RK_seq RK_seq_ret RK_seq_exit RK_blk RK_blk_ret RK_blk_exit RK_loop RK_loop_ret RK_loop_exit RK_done vs_seq vs_block vs_cond vs_region vs_loop applyW mkD rdIds lentIds callOf calleeOf freeOp D.ids Op.operands Call.operands isEffOp makeIfD makeFuncD typeAssertD conc concs conc1 uOfV panicD IntKind.bits allU2 List.take_of_length_le List.range_succ HR_nil HR_cons HR_grd v2_seq v2_block v2_skip v2_exit v2_ret v2_cond v2_region v2_draw v2_loop RN_0 RN_done RN_seq RN_seq_ret RN_seq_exit RN_blk RN_blk_ret RN_blk_exit RN_loop RN_loop_ret RN_loop_exit Cnd_tf Cnd_ft EndV getK_append frzN frz1 St.frz St.frzS frzS fv fzVec fzMap frzObS frz normD normU norm1 normOb St.norm St.lp St.only keepE wkE wkO wkU Ob.under D.under under_rowsD under_entD H4_nil H4_cons H4_grd h4s resD oneOrTup pureD List.zipIdx_cons List.zipIdx_nil List.map_cons List.map_nil Nat.zero_add
attribute [local irreducible] V G H HD HD2 HD4 HD4h RetX RunK Eff CallP CallV EndOK Fun Ret FinOK LoopI LoopW EndW HR vs2 RN Cnd H4
theorem bad_fun (l : Let) : Fun Tryz.prog 33 (lagg l :: [].map .u) (· = .u (.bool (!rightB 12 l.body))) := by
 have h1 := rightExp_fun l.body
 simp only [lagg, List.map_nil, eagg] at h1 ⊢
 refine Fun.run Tryz.func33 Tryz.ntmps33 Tryz.results33 rfl (by simp) fun Γ hn => ?_
 repeat' (first
  | (refine V_run rfl ?_; simp)
  | (refine CallP.f2 rfl (h1) (by first | simp <;> rfl | fail) ?_; simp)
  | fail)
 (refine Pst.of ?_; simp)
theorem compile_fun (lets : List Let) (e : Exp) : Fun Tryz.prog 12 [.u (letsU lets), eagg e] (· = .tup [.u (Vm.inss (compP lets e).1), .u (.int .i64 (compP lets e).2)]) := by
 have h1 := rightExp_fun e
 have h2 := containsL_fun lets 33 [] _ (fun x _ => bad_fun x) (by simp) (fun _ => rfl) (fun _ => rfl)
 simp only [List.map_nil, letsU, eagg] at h1 h2
 by_cases hra : rightAll lets e = true
 case neg =>
  have hcp : compP lets e = ([], 1) := by unfold compP; rw [if_neg hra]
  rw [hcp]
  unfold rightAll at hra
  generalize rightB 12 e = x1 at *
  generalize (lets.any fun l => !rightB 12 l.body) = x2 at *
  simp only [letsU, eagg, Vm.inss]
  refine Fun.runW Tryz.func12 Tryz.ntmps12 rfl (by simp) fun Γ hn => ?_
  repeat' (first
  | (refine Cnd.of (fun hc => ?_) (fun hc => ?_) <;> (try (exfalso; omega)) <;> (try simp))
  | (refine V_run rfl ?_; simp)
  | ((first | refine CallP.f2 rfl (h1) (by first | simp <;> rfl | fail) ?_ | refine CallP.f2 rfl (h2) (by first | simp <;> rfl | fail) ?_ | fail); simp)
  | fail)
  all_goals first
   | (refine EndW.norm (EndW.here ?_); (refine EndOK.val (.inr rfl) ?_; simp [Tryz.results12]); done)
   | (exfalso; apply hra; simp_all; done)
   | (exfalso; apply hra; simp_all; omega)
 obtain ⟨r1, r2, r3⟩ := rights_out hra
 have r4 : (lets.any fun l => !rightB 12 l.body) = false := by
  rw [List.any_eq_false]
  intro l hl
  simp [r3 l hl]
 rw [r2] at h1
 rw [r4] at h2
 have r1' : ¬ (20 : Int) < lets.length := by omega
 have hL := shsL_len (lets := lets) (n := lets.length) (Nat.le_refl _)
 have a1 := exp_all r3 r1 1 lets.length (Nat.le_refl _) 12 (by omega) e r2 [] 3 4 (by omega) (by omega) (by omega) (by simp)
 have hcl : compP lets e = if 2000 ≤ (compL lets e).length then ([], 6) else (compL lets e ++ [⟨14, 0, []⟩], 0) := by unfold compP; rw [if_pos hra]
 rw [hcl]
 have hcc : genT (nmC lets (shF lets) lets.length) (shF lets lets.length) e [] = compL lets e := rfl
 have hcap : (compL lets e).length ≤ 2001 := genT_cap (nmC_cap lets.length) e [] (by simp)
 rw [hcc] at a1
 generalize compL lets e = L at *
 have a2 := full_fun (letsU lets) (boolsU (shsL lets lets.length)) L
 have e1 := allU2_insR L
 have e2 := insR_take L
 have e3 := insR_len L
 have a3 := put_x lets (shsL lets lets.length) L ⟨14, 0, []⟩ 1 4 5 (by omega) (by omega) (by omega) (by omega)
 have htk : List.take lets.length ((shsL lets lets.length).map fun b => [U.bool b]) = (shsL lets lets.length).map fun b => [U.bool b] := by
  exact List.take_of_length_le (by simp [hL])
 have hpL : putC L ⟨14, 0, []⟩ = if 2000 ≤ L.length then putC L ⟨14, 0, []⟩ else L ++ [⟨14, 0, []⟩] := by
  split
  ·rfl
  ·unfold putC; rw [if_pos (by omega)]
 by_cases hf : 2000 ≤ L.length
 ·rw [if_pos hf]
  have hf2 : (decide (2000 ≤ L.length)) = true := by simpa using hf
  rw [hf2] at a2
  simp only [letsU, eagg, Vm.inss, boolsU] at a1 a2 ⊢
  refine Fun.runW Tryz.func12 Tryz.ntmps12 rfl (by simp) fun Γ hn => ?_
  repeat' (first
  | (refine V_run rfl ?_; simp [r1'])
  | ((first | refine CallP.f2 rfl (h1) (by first | simp [r1'] <;> rfl | fail) ?_ | refine CallP.f2 rfl (h2) (by first | simp [r1'] <;> rfl | fail) ?_ | fail); simp [r1'])
  | fail)
  refine V_wk _ (Wk.ownC 1 _ 1 4 1 (by decide) rfl rfl) ?_
  simp [St.ownC]
  refine V_wk _ (Wk.ownC 1 _ 2 44 3 (by decide) rfl rfl) ?_
  simp [St.ownC]
  refine V_loopO (α := { i : Nat // i ≤ lets.length }) [0, 3, 7, 26, 27] (fun i => [(28, .u (.int .i64 i.1))])
   (fun i => [(0, .box [.u (.int .i64 e.op), .u (.int .i64 e.n), .u (.int .i64 e.unit), .u (.str e.s), .u (.sl (e.args.map Exp.row))]), (1, .box [.u (.sl (lets.map fun l => [.str l.name, .int .i64 l.body.op, .int .i64 l.body.n, .int .i64 l.body.unit, .str l.body.s, .sl (l.body.args.map Exp.row)])), .vec 2 i.1, .vec 3 0]), (2, .vec 4 1 (boolR' (shsL lets i.1))), (3, kOb [])]) 4 (fun i => lets.length - i.1) ⟨0, by omega⟩ ?_ ?_
  ·exact (Wk.cut2 (by simp [hn, shsL, boolR', kOb, insR] <;> grind))
  rintro ⟨i, hi⟩
  simp
  by_cases hil : i < lets.length
  case pos =>
   have hx : lets[i]? = some lets[i] := List.getElem?_eq_getElem hil
   have hsl := shsL_len (lets := lets) (n := i) (by omega)
   have h5 := share_fun' lets (shsL lets i) (.sl []) i (by omega) (by omega) (by omega) 12 _ (r3 _ (List.mem_of_getElem? hx))
   have hsucc : shsL lets (i + 1) = shsL lets i ++ [shareS (nmS lets (shsL lets i) i) (lets[i]).body] := by
    rw [shsL, hx]
    simp only
    rw [show nmS lets (shsL lets i) i = sF (mOf [] (lets.take i)) from funext fun s => nmS_eq (by omega) (Nat.le_refl _) s]
   have hp := pure_boolR' (shsL lets (i + 1))
   have hss : boolR' (shsL lets (i + 1)) = boolR' (shsL lets (i + 1)) := rfl
   conv at hss => rhs; rw [hsucc]
   rw [hsucc] at hp
   generalize shareS (nmS lets (shsL lets i) i) (lets[i]).body = b at *
   generalize lets[i] = l at *
   have hb1 := allU2_boolR (shsL lets i)
   have hb2 := boolR_take (shsL lets i)
   rw [hsl] at hb2
   have hb3 : (boolR' (shsL lets i)).length = i := by simp [boolR', hsl]
   have hb4 := boolR_lenR (shsL lets i)
   have hb5 : boolR' (shsL lets i ++ [b]) = boolR' (shsL lets i) ++ [[.u (.bool b)]] := by simp [boolR']
   rw [hb5] at hp hss
   clear hsucc hb5
   generalize boolR' (shsL lets i) = R at *
   simp only [eagg, letsU, boolsU] at h5
   repeat' (first
  | (refine Cnd.of (fun hc => ?_) (fun hc => ?_) <;> (try (exfalso; omega)) <;> (try simp [hx, hb1, hb2, hb3, hb4, kOb, insR]))
  | (refine V_run rfl ?_; simp [hx, hb1, hb2, hb3, hb4, kOb, insR])
  | (refine And.intro (by omega) ?_)
  | (refine ⟨hC _ (by kernel_rfl), hk _ (RN_K 8 _ _ _ ?_)⟩; clear hC hk C k; simp [hx, hb1, hb2, hb3, hb4, kOb, insR])
  | (refine V_dx rfl (by kernel_rfl) (by first | (simp [hn]; done) | (simp [hn]; omega) | fail) fun C k hC hk => ?_; simp [hx, hb1, hb2, hb3, hb4, kOb, insR])
  | (refine H4_HD4 rfl ?_; simp [hx, hb1, hb2, hb3, hb4, kOb, insR])
  | (refine HD4_val rfl ?_; simp [hx, hb1, hb2, hb3, hb4, kOb, insR])
  | (refine CallV.f2 rfl (h5) (by first | simp [hx, hb1, hb2, hb3, hb4, kOb, insR] <;> rfl | fail) ?_; simp [hx, hb1, hb2, hb3, hb4, kOb, insR])
  | fail)
   refine LoopW.next ⟨i + 1, by omega⟩ (by simp; omega) ?_
   exact (Wk.ren ((fun j => if j = 2 then 6 else j)) rfl (by first | (simp [hn]; done) | (intro i hi; rw [hn] at hi; constructor <;> (try simp) <;> (try (intro _)) <;> omega)) (by simp [wkER, St.lp, keepE, getK_cons, getK, getK_del, getK_setOb, D.under, D.le, D.ren, hss, hp, kOb, insR] <;> (try (intros; simp_all; done)) <;> (try omega)) (by simp [wkR, St.lp, getK_cons, getK, getK_del, getK_setOb, obR, leU, pureRow, pureRows, Ob.under, D.under, D.le, D.ren, hss, hp, kOb, insR] <;> (try (intros; simp_all; done)) <;> (try omega)) (by simp [hss, hp, kOb, insR]))
  obtain rfl : i = lets.length := by omega
  refine V_wk _ (Wk.frz (e := 4) (sz := 1) 2 [1] (us := (shsL lets lets.length).map fun b => [U.bool b]) (by simp [getK_cons]) (allU2_boolR _)) ?_
  simp [St.frz, St.frzS, frzS, fv, fzVec, frzObS, del, hL, htk]
  repeat' (first
  | (refine V_run rfl ?_; simp [kOb, cOb, letsU, boolsU, e1, e2, e3])
  | (refine CallP.f2 rfl (a2) (by first | simp [kOb, cOb, letsU, boolsU, e1, e2, e3] <;> rfl | fail) ?_; simp [kOb, cOb, letsU, boolsU, e1, e2, e3])
  | (refine CallP.okL (a1) (by first | (simp [kOb, cOb, letsU, boolsU, e1, e2, e3, getK_cons, getK, getK_append, getK_del, getK_setOb, applyW, del]; done) | fail) (by rfl) (by first | assumption | (simp; done) | fail) (by rfl) (by simp) ?_; (try simp [kOb, cOb, letsU, boolsU, e1, e2, e3, delL, del]))
  | fail)
  refine EndW.norm (EndW.here ?_)
  (refine EndOK.val (.inr rfl) ?_; simp [Tryz.results12])
 ·rw [if_neg hf]
  have hf2 : (decide (2000 ≤ L.length)) = false := by simpa using hf
  rw [hf2] at a2
  rw [hpL, if_neg hf] at a3
  have g1 := allU2_insR (L ++ [⟨14, 0, []⟩])
  simp only [letsU, eagg, Vm.inss, boolsU] at a1 a2 a3 ⊢
  refine Fun.runW Tryz.func12 Tryz.ntmps12 rfl (by simp) fun Γ hn => ?_
  repeat' (first
  | (refine V_run rfl ?_; simp [r1'])
  | ((first | refine CallP.f2 rfl (h1) (by first | simp [r1'] <;> rfl | fail) ?_ | refine CallP.f2 rfl (h2) (by first | simp [r1'] <;> rfl | fail) ?_ | fail); simp [r1'])
  | fail)
  refine V_wk _ (Wk.ownC 1 _ 1 4 1 (by decide) rfl rfl) ?_
  simp [St.ownC]
  refine V_wk _ (Wk.ownC 1 _ 2 44 3 (by decide) rfl rfl) ?_
  simp [St.ownC]
  refine V_loopO (α := { i : Nat // i ≤ lets.length }) [0, 3, 7, 26, 27] (fun i => [(28, .u (.int .i64 i.1))])
   (fun i => [(0, .box [.u (.int .i64 e.op), .u (.int .i64 e.n), .u (.int .i64 e.unit), .u (.str e.s), .u (.sl (e.args.map Exp.row))]), (1, .box [.u (.sl (lets.map fun l => [.str l.name, .int .i64 l.body.op, .int .i64 l.body.n, .int .i64 l.body.unit, .str l.body.s, .sl (l.body.args.map Exp.row)])), .vec 2 i.1, .vec 3 0]), (2, .vec 4 1 (boolR' (shsL lets i.1))), (3, kOb [])]) 4 (fun i => lets.length - i.1) ⟨0, by omega⟩ ?_ ?_
  ·exact (Wk.cut2 (by simp [hn, shsL, boolR', kOb, insR] <;> grind))
  rintro ⟨i, hi⟩
  simp
  by_cases hil : i < lets.length
  case pos =>
   have hx : lets[i]? = some lets[i] := List.getElem?_eq_getElem hil
   have hsl := shsL_len (lets := lets) (n := i) (by omega)
   have h5 := share_fun' lets (shsL lets i) (.sl []) i (by omega) (by omega) (by omega) 12 _ (r3 _ (List.mem_of_getElem? hx))
   have hsucc : shsL lets (i + 1) = shsL lets i ++ [shareS (nmS lets (shsL lets i) i) (lets[i]).body] := by
    rw [shsL, hx]
    simp only
    rw [show nmS lets (shsL lets i) i = sF (mOf [] (lets.take i)) from funext fun s => nmS_eq (by omega) (Nat.le_refl _) s]
   have hp := pure_boolR' (shsL lets (i + 1))
   have hss : boolR' (shsL lets (i + 1)) = boolR' (shsL lets (i + 1)) := rfl
   conv at hss => rhs; rw [hsucc]
   rw [hsucc] at hp
   generalize shareS (nmS lets (shsL lets i) i) (lets[i]).body = b at *
   generalize lets[i] = l at *
   have hb1 := allU2_boolR (shsL lets i)
   have hb2 := boolR_take (shsL lets i)
   rw [hsl] at hb2
   have hb3 : (boolR' (shsL lets i)).length = i := by simp [boolR', hsl]
   have hb4 := boolR_lenR (shsL lets i)
   have hb5 : boolR' (shsL lets i ++ [b]) = boolR' (shsL lets i) ++ [[.u (.bool b)]] := by simp [boolR']
   rw [hb5] at hp hss
   clear hsucc hb5
   generalize boolR' (shsL lets i) = R at *
   simp only [eagg, letsU, boolsU] at h5
   repeat' (first
  | (refine Cnd.of (fun hc => ?_) (fun hc => ?_) <;> (try (exfalso; omega)) <;> (try simp [hx, hb1, hb2, hb3, hb4, kOb, insR]))
  | (refine V_run rfl ?_; simp [hx, hb1, hb2, hb3, hb4, kOb, insR])
  | (refine And.intro (by omega) ?_)
  | (refine ⟨hC _ (by kernel_rfl), hk _ (RN_K 8 _ _ _ ?_)⟩; clear hC hk C k; simp [hx, hb1, hb2, hb3, hb4, kOb, insR])
  | (refine V_dx rfl (by kernel_rfl) (by first | (simp [hn]; done) | (simp [hn]; omega) | fail) fun C k hC hk => ?_; simp [hx, hb1, hb2, hb3, hb4, kOb, insR])
  | (refine H4_HD4 rfl ?_; simp [hx, hb1, hb2, hb3, hb4, kOb, insR])
  | (refine HD4_val rfl ?_; simp [hx, hb1, hb2, hb3, hb4, kOb, insR])
  | (refine CallV.f2 rfl (h5) (by first | simp [hx, hb1, hb2, hb3, hb4, kOb, insR] <;> rfl | fail) ?_; simp [hx, hb1, hb2, hb3, hb4, kOb, insR])
  | fail)
   refine LoopW.next ⟨i + 1, by omega⟩ (by simp; omega) ?_
   exact (Wk.ren ((fun j => if j = 2 then 6 else j)) rfl (by first | (simp [hn]; done) | (intro i hi; rw [hn] at hi; constructor <;> (try simp) <;> (try (intro _)) <;> omega)) (by simp [wkER, St.lp, keepE, getK_cons, getK, getK_del, getK_setOb, D.under, D.le, D.ren, hss, hp, kOb, insR] <;> (try (intros; simp_all; done)) <;> (try omega)) (by simp [wkR, St.lp, getK_cons, getK, getK_del, getK_setOb, obR, leU, pureRow, pureRows, Ob.under, D.under, D.le, D.ren, hss, hp, kOb, insR] <;> (try (intros; simp_all; done)) <;> (try omega)) (by simp [hss, hp, kOb, insR]))
  obtain rfl : i = lets.length := by omega
  refine V_wk _ (Wk.frz (e := 4) (sz := 1) 2 [1] (us := (shsL lets lets.length).map fun b => [U.bool b]) (by simp [getK_cons]) (allU2_boolR _)) ?_
  simp [St.frz, St.frzS, frzS, fv, fzVec, frzObS, del, hL, htk]
  repeat' (first
  | (refine V_run rfl ?_; simp [kOb, cOb, letsU, boolsU, e1, e2, e3])
  | (refine CallP.f2 rfl (a2) (by first | simp [kOb, cOb, letsU, boolsU, e1, e2, e3] <;> rfl | fail) ?_; simp [kOb, cOb, letsU, boolsU, e1, e2, e3])
  | (refine CallP.okL (a1) (by first | (simp [kOb, cOb, letsU, boolsU, e1, e2, e3, getK_cons, getK, getK_append, getK_del, getK_setOb, applyW, del]; done) | fail) (by rfl) (by first | assumption | (simp; done) | fail) (by rfl) (by simp) ?_; (try simp [kOb, cOb, letsU, boolsU, e1, e2, e3, delL, del]))
  | (refine CallP.okL (a3) (by first | (simp [kOb, cOb, letsU, boolsU, e1, e2, e3, getK_cons, getK, getK_append, getK_del, getK_setOb, applyW, del]; done) | fail) (by rfl) (by first | assumption | (simp; done) | fail) (by rfl) (by simp) ?_; (try simp [kOb, cOb, letsU, boolsU, e1, e2, e3, delL, del]))
  | fail)
  refine EndW.wk _ (Wk.frz (e := 44) (sz := 3) 5 [1] (us := (L ++ [⟨14, 0, []⟩] : Code).map fun i => [U.int .i64 i.op, .int .i64 i.a, .str i.s]) (rows := insR (L ++ [⟨14, 0, []⟩])) (by simp [getK_cons, insR]) g1) ?_
  simp [St.frz, St.frzS, frzS, fv, fzVec, frzObS, del]
  refine EndW.norm (EndW.here ?_)
  (refine EndOK.val (.inr rfl) ?_; simp [Tryz.results12])
end Go.Proofs.YtkdhmbhbbciedaaGreatDoor
namespace Go.Proofs.YtkdhmbhbbciedaaGreatDoor
open Go Go.VL Go.Shelf Go.RowKit
attribute [local simp] HS exS_some hcons hstep evPure opd uOf putOK St.put St.at getK binD binI binS binB nilD aggD eqUs cmpK lookD lookR rangeD rangeS Go.VL.nextD Go.VL.nextS entryD keyD valU keyU lookK mkV entD_nil allUE makeMapD mapUpdD mapEff updK valM Key.kk shiftI arith unD convD pickD loadD cellsAt fieldAddrD fieldD indexAddrD indexSlD arrAddr indexD sliceD cutD lenD minmaxD nilCheckD buildD fillD cellsD isOne ones setAll mkAgg allU allocD boxD storeD St.add buildSliceD appendD rowsOf makeD setOb getK_setOb getK_del getK_cons stripL strip guardTmp entry chunks zcells valD argsV argsW argW argU1 argU0 argsU0 argsU1 calleeOf scalarD scalarU delAll effD St.effS RK_seq RK_seq_ret RK_seq_exit RK_blk RK_blk_ret RK_blk_exit RK_loop RK_loop_ret RK_loop_exit RK_done vs_seq vs_block vs_cond vs_region vs_loop applyW mkD rdIds lentIds callOf calleeOf freeOp D.ids Op.operands Call.operands isEffOp makeIfD makeFuncD typeAssertD conc concs conc1 uOfV panicD IntKind.bits allU2 List.take_of_length_le List.range_succ HR_nil HR_cons HR_grd v2_seq v2_block v2_skip v2_exit v2_ret v2_cond v2_region v2_draw v2_loop RN_0 RN_done RN_seq RN_seq_ret RN_seq_exit RN_blk RN_blk_ret RN_blk_exit RN_loop RN_loop_ret RN_loop_exit Cnd_tf Cnd_ft EndV getK_append frzN frz1 St.frz St.frzS frzS fv fzVec fzMap frzObS frz normD normU norm1 normOb St.norm St.lp St.only keepE wkE wkO wkU Ob.under D.under under_rowsD under_entD H4_nil H4_cons H4_grd h4s resD oneOrTup pureD List.zipIdx_cons List.zipIdx_nil List.map_cons List.map_nil Nat.zero_add
attribute [local irreducible] V G H HD HD2 HD4 HD4h RetX RunK Eff CallP CallV EndOK Fun Ret FinOK LoopI LoopW EndW HR vs2 RN Cnd H4
attribute [local simp] RR_done RR_seq RR_seq_exit RR_blk RR_blk_exit
theorem read_ret (s : W8) (hl : s.length ≤ 900000) : RetX Tryz.prog 14 [.u (.str s)] [] 0
  (fun r o n => match r with | .val d => pureD d = true ∧ d = .tup [.u (Vm.inss (readB s).1), .u (.int .i64 (readB s).2)] | .pan _ => False) := by
 have htl := trim_len s
 have h1 := trim_fun s (by omega)
 have h2 := splitSeq_ret (trimN s) 10
 have hca : callable Tryz.prog 41 = true := by kernel_rfl
 have hLl : (parseL s).length = (pieces 10 (trimN s)).length := by simp [parseL]
 have hLn := pieces_num (c := 10) (trimN s)
 have hL : ∀ (i : Nat) (t : W8), (pieces 10 (trimN s))[i]? = some t → (parseL s)[i]? = some (insP t) ∧ t.length ≤ 900000 := fun i t h => ⟨by simp [parseL, h], by
  have := pieces_len (c := 10) (trimN s) t (List.mem_of_getElem? h)
  omega⟩
 have h3 := cright_fun (parseL s) (by omega)
 have h4 := list_fun (parseL s) (by omega)
 have hrb : readB s = if rightC (parseL s) = true ∧ listB (parseL s) = s then (parseL s, 0) else ([], 2) := by
  unfold readB listB
  by_cases hr : rightC (parseL s) = true
  ·simp [hr]
  ·simp [hr]
 have hit := split_iter 10 (trimN s) (by omega)
 have e1 := allU2_insR
 have e3 := insR_len
 rw [hrb]
 generalize parseL s = L at *
 refine RetX.of_bodyM Tryz.func14 Tryz.ntmps14 rfl (by simp) fun Γ hn hdfr hpan hesc => ?_; simp only [entry, List.zipIdx_cons, List.zipIdx_nil, List.map_cons, List.map_nil, Nat.zero_add]
 rw [hold_range]
 repeat' (first
  | (refine V_runH rfl ?_; simp)
  | fail)
 refine V_range ?_
 repeat' (first
  | (refine V_runH rfl ?_; simp [hca])
  | (refine CallP.f2 rfl (h1) (by first | simp [hca] <;> rfl | fail) ?_; simp [hca])
  | (refine CallP.ret0 (h2) (by rfl) (by first | assumption | simp) (by rfl) (by simp) ?_; rintro d o n' hn' ⟨rfl, rfl, rfl⟩; (try simp at hn'); (try simp [hca]))
  | fail)
 refine RangeOK.wk _ (Wk.ownC 0 _ 0 44 3 (by decide) rfl rfl) ?_
 simp [St.ownC]
 refine RangeOK.of (readO L) (fun i => i + 5) hesc hdfr rfl (by kernel_rfl) hit ?_ ?_ rfl (by simp) (by simp) ?_ ?_
 ·intro i j ob h
  simp only [splitO, getK_cons, getK] at h
  simp only [readO, getK_cons, getK]
  grind
 ·intro i
  simp only [splitO, readO, getK_cons, getK, List.cons_append, List.nil_append, insR, List.take_zero, List.map_nil]
  grind
 ·intro i x hx Γ1 r hn hpan1
  rw [List.getElem?_map] at hx
  obtain ⟨t, ht, rfl⟩ := Option.map_eq_some_iff.1 hx
  obtain ⟨hLi, htl2⟩ := hL i t ht
  have htk : insR (L.take (i + 1)) = insR (L.take i) ++ [[.u (.int .i64 (insP t).op), .u (.int .i64 (insP t).a), .u (.str (insP t).s)]] := by
   rw [List.take_add_one, hLi]
   simp [insR]
  have hil : (insR (L.take i)).length = i := by
   have := (List.getElem?_eq_some_iff.1 hLi).1
   rw [insR_len, List.length_take]
   omega
  have hib : i ≤ 900000 := by
   have := (List.getElem?_eq_some_iff.1 ht).1
   omega
  have hlr := insR_lenR (L.take i)
  have hpu := pure_insR (L.take i)
  clear hrb h1 h2 h3 h4 hit hesc hpan
  generalize hRO : readO L (i + 1) = RO
  rw [readO, htk] at hRO
  rw [show readO L i = [(0, .box [.vec (i + 4) i]), (i + 4, .vec 44 3 (insR (L.take i)))] from rfl]
  generalize insR (L.take i) = R at *
  refine VR_run hpan1 (by rfl) ?_
  simp
  intro Γ2 hn hpan2
  have hcu := cut_fun t 32 (by omega)
  have hgw := glob_words
  have hpa : arr1 Tryz.prog 76 = some 15 := by kernel_rfl
  have hwl : wordsL.length = 15 := rfl
  obtain ⟨w, r, b, hcu2, hins, hrl⟩ := cutU_eq t
  rw [hcu2] at hcu
  have hix := indexS_fun wordsL w
  have hat := atoi_fun r (by omega)
  simp only [strs] at hix
  refine VR_run hpan2 (by rfl) ?_
  by_cases h1 : idxS wordsL w 0 = 1
  ·rw [if_pos h1] at hins
   rw [hins] at hRO
   rw [h1] at hix
   clear hins hcu2 htk hL e1 e3
   simp
   repeat' (first
  | (refine And.intro (by omega) ?_)
  | ((first | refine CallP.f2 rfl (hcu) (by first | simp [hgw, hpa, hwl, hil] <;> rfl | fail) ?_ | refine CallP.f2 rfl (hix) (by first | simp [hgw, hpa, hwl, hil] <;> rfl | fail) ?_ | fail); simp [hgw, hpa, hwl, hil])
  | fail)
   refine ⟨{ n := 49, env := [], obs := RO, next := i + 1 + 5 }, ?_, rfl, rfl⟩
   rw [← hRO]
   exact (Wk.ren ((fun x => if x = i + 5 then i + 5 + 1 + 1 else x)) rfl (by first | (simp [hn]; done) | (intro i hi; rw [hn] at hi; constructor <;> (try simp) <;> (try (intro _)) <;> omega)) (by simp [wkER, St.lp, keepE, getK_cons, getK, getK_del, getK_setOb, D.under, D.le, D.ren, hpu, hil, hlr] <;> (try (intros; simp_all; done)) <;> (try omega)) (by simp [wkR, St.lp, getK_cons, getK, getK_del, getK_setOb, obR, leU, pureRow, pureRows, Ob.under, D.under, D.le, D.ren, hpu, hil, hlr] <;> (try (intros; simp_all; done)) <;> (try omega)) (by simp [hpu, hil, hlr]))
  ·rw [if_neg h1] at hins
   rw [hins] at hRO
   clear hins hcu2 htk hL e1 e3
   generalize idxS wordsL w 0 = op at *
   generalize atoiV r = av at *
   simp
   repeat' (first
  | (refine CallP.fun_ (hat) (by first | rfl | fail) (by first | assumption | (simp; done) | fail) (by first | (simp; done) | (simp; rfl) | fail) (by first | (simp; done) | fail) (fun d hd => ?_); obtain ⟨b', rfl⟩ := hd; (try simp))
  | (refine And.intro (by omega) ?_)
  | ((first | refine CallP.f2 rfl (hcu) (by first | simp [hgw, hpa, hwl, hil, h1] <;> rfl | fail) ?_ | refine CallP.f2 rfl (hix) (by first | simp [hgw, hpa, hwl, hil, h1] <;> rfl | fail) ?_ | fail); simp [hgw, hpa, hwl, hil, h1])
  | fail)
   refine ⟨{ n := 49, env := [], obs := RO, next := i + 1 + 5 }, ?_, rfl, rfl⟩
   rw [← hRO]
   exact (Wk.ren ((fun x => if x = i + 5 then i + 5 + 1 + 1 else x)) rfl (by first | (simp [hn]; done) | (intro i hi; rw [hn] at hi; constructor <;> (try simp) <;> (try (intro _)) <;> omega)) (by simp [wkER, St.lp, keepE, getK_cons, getK, getK_del, getK_setOb, D.under, D.le, D.ren, hpu, hil, hlr] <;> (try (intros; simp_all; done)) <;> (try omega)) (by simp [wkR, St.lp, getK_cons, getK, getK_del, getK_setOb, obR, leU, pureRow, pureRows, Ob.under, D.under, D.le, D.ren, hpu, hil, hlr] <;> (try (intros; simp_all; done)) <;> (try omega)) (by simp [hpu, hil, hlr]))
 ·have hn00 : Γ.base.n0 = 0 := hn
  intro Γ' hn hpan2
  have hnL : (List.map (fun t => D.u (U.str t)) (pieces 10 (trimN s))).length = L.length := by simp [hLl]
  rw [hnL] at hn ⊢
  clear hpan hesc hit h1 h2 hL
  have hR : readO L L.length = [(0, .box [.vec (L.length + 4) L.length]), (L.length + 4, .vec 44 3 (insR L))] := by simp [readO]
  rw [hR]
  have hpR := pure_insR L
  have hlR := insR_lenR L
  have hLs : L.length ≤ 900001 := by omega
  have htk : List.take L.length (L.map fun i => [U.int .i64 i.op, .int .i64 i.a, .str i.s]) = L.map fun i => [U.int .i64 i.op, .int .i64 i.a, .str i.s] := List.take_of_length_le (by simp)
  have g1 := e1 L
  refine V_wk { n := 49, env := [(4, .ptr 0 0), (0, .u (.str s))], obs := [(0, .box [.vec (L.length + 4) L.length]), (L.length + 4, .vec 44 3 (insR L))], next := L.length + 5 } (Wk.cut2 (by simp [hn, splitO] <;> grind)) ?_
  refine V_wk _ (Wk.frz (e := 44) (sz := 3) (L.length + 4) [0] (us := L.map fun i => [U.int .i64 i.op, .int .i64 i.a, .str i.s]) (rows := insR L) (by simp [getK_cons, getK]) g1) ?_
  simp [St.frz, St.frzS, frzS, fv, fzVec, frzObS, del, htk]
  simp only [Vm.inss] at h3 h4 ⊢
  cases hri : rightC L with
  | false =>
   rw [hri] at h3
   repeat' (first
  | (refine V_runH rfl ?_; simp)
  | ((first | refine CallP.f2 rfl (h3) (by first | simp <;> rfl | fail) ?_ | refine CallP.f2 rfl (h4) (by first | simp <;> rfl | fail) ?_ | fail); simp)
  | fail)
   refine ⟨rfl, ?_⟩
   refine EndW.norm (EndW.here ?_)
   (refine EndOK.fin (.inr rfl) ?_); simp [resD, oneOrTup, Tryz.results14]; refine FinOK.here (by simp [hn00]) ?_; simp [pureD]
  | true =>
   rw [hri] at h3
   by_cases hli : listB L = s
   ·rw [hli] at h4
    repeat' (first
  | (refine V_runH rfl ?_; simp)
  | ((first | refine CallP.f2 rfl (h3) (by first | simp <;> rfl | fail) ?_ | refine CallP.f2 rfl (h4) (by first | simp <;> rfl | fail) ?_ | fail); simp)
  | fail)
    refine ⟨rfl, ?_⟩
    refine EndW.norm (EndW.here ?_)
    (refine EndOK.fin (.inr rfl) ?_); simp [resD, oneOrTup, Tryz.results14]; refine FinOK.here (by simp [hn00]) ?_; simp [pureD]
    rw [if_pos hli]
    exact ⟨rfl, rfl⟩
   ·generalize listB L = T at *
    repeat' (first
  | (refine V_runH rfl ?_; simp [hli])
  | ((first | refine CallP.f2 rfl (h3) (by first | simp [hli] <;> rfl | fail) ?_ | refine CallP.f2 rfl (h4) (by first | simp [hli] <;> rfl | fail) ?_ | fail); simp [hli])
  | fail)
    refine ⟨rfl, ?_⟩
    refine EndW.norm (EndW.here ?_)
    (refine EndOK.fin (.inr rfl) ?_); simp [resD, oneOrTup, Tryz.results14]; refine FinOK.here (by simp [hn00]) ?_; simp [pureD]
theorem read_fun (s : W8) (hl : s.length ≤ 900000) : Fun Tryz.prog 14 [.u (.str s)] (· = .tup [.u (Vm.inss (readB s).1), .u (.int .i64 (readB s).2)]) := by
 unfold Fun
 exact (read_ret s hl).ret (fun d o n h => h) (fun ch o n h => h.elim)
end Go.Proofs.YtkdhmbhbbciedaaGreatDoor
namespace Go.Proofs.YtkdhmbhbbciedaaGreatDoor
open Go Go.VL
theorem line_len2 {x : Ins} {i n : Nat} (h : formI x i n = true) (hn : n ≤ 1099511627776) : (lineC x).length ≤ 40 := by
 obtain ⟨h0, h1, _⟩ := form_op h
 have hwl2 : ∀ w ∈ wordsL, w.length ≤ 5 := by decide
 have hu : wordsL[x.op.toNat]? = some (wordC x.op) := by
  rw [wordC, List.getD, List.getElem?_eq_getElem (by have : wordsL.length = 15 := rfl; omega)]; rfl
 have hw := hwl2 _ (List.mem_of_getElem? hu)
 unfold formI at h
 unfold lineC
 by_cases e0 : x.op = 0
 ·rw [if_pos e0] at h
  simp at h
  have := Lib.itoa_length_le x.a (by omega) (by omega)
  rw [if_pos (by omega)]
  simp; omega
 rw [if_neg e0] at h
 by_cases e1 : x.op = 1
 ·rw [if_pos e1] at h
  simp at h
  have h3 : x.s.length ≤ 20 := by
   have h := h.2
   simp only [nameB, Bool.and_eq_true] at h
   have h := h.1
   generalize x.s = s at *
   cases s with
   | nil => simp
   | cons c r =>
    simp only [wordB, Bool.and_eq_true, decide_eq_true_eq] at h
    exact h.1.2
  rw [if_neg (by omega), if_pos e1]
  simp; omega
 rw [if_neg e1] at h
 by_cases e2 : x.op = 12 ∨ x.op = 13
 ·rw [if_pos e2] at h
  simp at h
  have := Lib.itoa_length_le x.a (by omega) (by omega)
  rw [if_pos (by omega)]
  simp; omega
 ·rw [if_neg (by omega), if_neg e1]
  simp; omega
theorem list_len40 : ∀ (l : Code), (∀ x ∈ l, (lineC x).length ≤ 40) → (listC l).length ≤ l.length * 40
 | [], _ => by simp [listC]
 | x :: r, h => by
  have h1 := list_len40 r fun y hy => h y (by simp [hy])
  have h2 := h x (by simp)
  have : listC (x :: r) = lineC x ++ listC r := by simp [listC]
  rw [this, List.length_append, List.length_cons]
  omega
theorem list_short {l : Code} (h : rightC l = true) : (listC l).length ≤ 80000 := by
 obtain ⟨h1, h2, h3⟩ := right_parts h
 have := list_len40 l fun x hx => by
  obtain ⟨i, hi⟩ := List.getElem?_of_mem hx
  exact line_len2 (h3 i x hi) (by omega)
 omega
/-- A right code is read from its listing. -/
theorem read_back {l : Code} (h : rightC l = true) : Fun Tryz.prog 14 [.u (.str (listC l))] (· = .tup [.u (Vm.inss l), .u (.int .i64 0)]) := by
 have h1 := read_fun (listC l) (by have := list_short h; omega)
 rw [read_list h] at h1
 exact h1
theorem list_right {l : Code} (h : rightC l = true) : Fun Tryz.prog 19 [.u (Vm.inss l)] (· = .u (.str (listC l))) := by
 obtain ⟨h1, h2, h3⟩ := right_parts h
 have := list_fun l (by omega)
 rw [show listB l = listC l from if_pos h] at this
 exact this
theorem comp_nil {lets : List Let} {e : Exp} (h : ¬ (compP lets e).2 = 0) : (compP lets e).1 = [] := by
 unfold compP at h ⊢
 split
 ·rename_i h1
  rw [if_pos h1] at h
  split
  ·rfl
  ·rename_i h2; rw [if_neg h2] at h; exact absurd rfl h
 ·rfl
end Go.Proofs.YtkdhmbhbbciedaaGreatDoor
namespace Go.Proofs.YtkdhmbhbbciedaaGreatDoor
open Go Go.VL
attribute [local simp] HS exS_some hcons hstep evPure opd uOf putOK St.put St.at getK binD binI binS binB nilD aggD eqUs cmpK lookD lookR rangeD rangeS Go.VL.nextD Go.VL.nextS entryD keyD valU keyU lookK mkV entD_nil allUE makeMapD mapUpdD mapEff updK valM Key.kk shiftI arith unD convD pickD loadD cellsAt fieldAddrD fieldD indexAddrD indexSlD arrAddr indexD sliceD cutD lenD minmaxD nilCheckD buildD fillD cellsD isOne ones setAll mkAgg allU allocD boxD storeD St.add buildSliceD appendD rowsOf makeD setOb getK_setOb getK_del getK_cons stripL strip guardTmp entry chunks zcells valD argsV argsW argW argU1 argU0 argsU0 argsU1 calleeOf scalarD scalarU delAll effD St.effS RK_seq RK_seq_ret RK_seq_exit RK_blk RK_blk_ret RK_blk_exit RK_loop RK_loop_ret RK_loop_exit RK_done vs_seq vs_block vs_cond vs_region vs_loop applyW mkD rdIds lentIds callOf calleeOf freeOp D.ids Op.operands Call.operands isEffOp makeIfD makeFuncD typeAssertD conc concs conc1 uOfV panicD IntKind.bits allU2 List.take_of_length_le List.range_succ HR_nil HR_cons HR_grd v2_seq v2_block v2_skip v2_exit v2_ret v2_cond v2_region v2_draw v2_loop RN_0 RN_done RN_seq RN_seq_ret RN_seq_exit RN_blk RN_blk_ret RN_blk_exit RN_loop RN_loop_ret RN_loop_exit Cnd_tf Cnd_ft EndV getK_append frzN frz1 St.frz St.frzS frzS fv fzVec fzMap frzObS frz normD normU norm1 normOb St.norm St.lp St.only keepE wkE wkO wkU Ob.under D.under under_rowsD under_entD H4_nil H4_cons H4_grd h4s resD oneOrTup pureD List.zipIdx_cons List.zipIdx_nil List.map_cons List.map_nil Nat.zero_add
attribute [local irreducible] V G H HD HD2 HD4 HD4h RetX RunK Eff CallP CallV EndOK Fun Ret FinOK LoopI LoopW EndW HR vs2 RN Cnd H4
theorem lists_fun (lets : List Let) (vars : List Var) (e : Exp) : Fun Tryz.prog 8 [.u (letsU lets), .u (varsU vars), eagg e] (· = .u (.bool true)) := by
 have h0 := Vm.small_fun
 have h1 := fewLets_fun lets 10 20 (by omega) (by omega) (by omega) (by omega)
 have h2 := fewNames_fun vars 20 (by omega) (by omega)
 have h3 := fewExp_fun e 30 (by omega) (by omega)
 have h5 := compile_fun lets e
 have hvs : Vm.vars (vsV vars) = varsU vars := by simp [Vm.vars, vsV, varsU]
 generalize fewL lets 10 20 = x1 at *
 generalize fewN vars 20 = x2 at *
 generalize fewE e 30 = x3 at *
 by_cases hfew : (x1 && x2 && x3) = true
 case neg =>
  simp only [letsU, varsU, eagg] at h1 h2 h3 ⊢
  refine Fun.run Tryz.func8 Tryz.ntmps8 Tryz.results8 rfl (by simp) fun Γ hn => ?_
  repeat' (first
  | (refine Cnd.of (fun hc => ?_) (fun hc => ?_) <;> (try (exfalso; omega)) <;> (try simp))
  | (refine V_run rfl ?_; simp)
  | ((first | refine CallP.f2 rfl (h0) (by first | simp <;> rfl | fail) ?_ | refine CallP.f2 rfl (h1) (by first | simp <;> rfl | fail) ?_ | refine CallP.f2 rfl (h2) (by first | simp <;> rfl | fail) ?_ | refine CallP.f2 rfl (h3) (by first | simp <;> rfl | fail) ?_ | fail); simp)
  | fail)
  all_goals first
   | ((refine Pst.of ?_; simp); done)
   | (exfalso; apply hfew; simp_all; done)
 obtain ⟨⟨rfl, rfl⟩, rfl⟩ : (x1 = true ∧ x2 = true) ∧ x3 = true := by simpa using hfew
 have hnil := comp_nil (lets := lets) (e := e)
 have hok := fun c (hc : compP lets e = (c, 0)) => And.intro (comp_ok hc) (run_compiled_ok hc (vsV vars))
 generalize compP lets e = cp at *
 obtain ⟨code, worse⟩ := cp
 simp only at hnil h5
 by_cases hw : worse = 0
 ·subst hw
  obtain ⟨hr, hq1, hq2⟩ := hok code rfl
  have h6 := list_right hr
  have h7 := read_back hr
  have h8 := Vm.run_fun code (vsV vars) 100000
  rw [hvs] at h8
  generalize hR : Vm.runM code (vsV vars) 100000 = R at *
  obtain ⟨R1, R2, R3⟩ := R
  simp only at h8 hq1 hq2
  simp only [letsU, varsU, eagg, Vm.inss] at h1 h2 h3 h5 h6 h7 h8 ⊢
  clear hvs hfew hok hnil
  refine Fun.run Tryz.func8 Tryz.ntmps8 Tryz.results8 rfl (by simp) fun Γ hn => ?_
  repeat' (first
  | (refine V_run rfl ?_; simp [hq1, hq2])
  | ((first | refine CallP.f2 rfl (h0) (by first | simp [hq1, hq2] <;> rfl | fail) ?_ | refine CallP.f2 rfl (h1) (by first | simp [hq1, hq2] <;> rfl | fail) ?_ | refine CallP.f2 rfl (h2) (by first | simp [hq1, hq2] <;> rfl | fail) ?_ | refine CallP.f2 rfl (h3) (by first | simp [hq1, hq2] <;> rfl | fail) ?_ | refine CallP.f2 rfl (h5) (by first | simp [hq1, hq2] <;> rfl | fail) ?_ | refine CallP.f2 rfl (h6) (by first | simp [hq1, hq2] <;> rfl | fail) ?_ | refine CallP.f2 rfl (h7) (by first | simp [hq1, hq2] <;> rfl | fail) ?_ | refine CallP.f2 rfl (h8) (by first | simp [hq1, hq2] <;> rfl | fail) ?_ | fail); simp [hq1, hq2])
  | fail)
  (refine Pst.of ?_; simp)
 ·have := hnil hw
  subst this
  simp only [letsU, varsU, eagg, Vm.inss] at h1 h2 h3 h5 ⊢
  clear hvs hfew hok hnil
  refine Fun.run Tryz.func8 Tryz.ntmps8 Tryz.results8 rfl (by simp) fun Γ hn => ?_
  repeat' (first
  | (refine V_run rfl ?_; simp [hw])
  | ((first | refine CallP.f2 rfl (h0) (by first | simp [hw] <;> rfl | fail) ?_ | refine CallP.f2 rfl (h1) (by first | simp [hw] <;> rfl | fail) ?_ | refine CallP.f2 rfl (h2) (by first | simp [hw] <;> rfl | fail) ?_ | refine CallP.f2 rfl (h3) (by first | simp [hw] <;> rfl | fail) ?_ | refine CallP.f2 rfl (h5) (by first | simp [hw] <;> rfl | fail) ?_ | fail); simp [hw])
  | fail)
  (refine Pst.of ?_; simp)
end Go.Proofs.YtkdhmbhbbciedaaGreatDoor
namespace Go.Proofs.YtkdhmbhbbciedaaGreatDoor
open Go Go.VL Go.ChangeShapes Go.WideShapes Go.ChangeAt Go.RowKit
abbrev laidV : List (String × DataW Unit) := [("math/bits.deBruijn32tab", Rows.laid_math_bits_deBruijn32tab), ("math/bits.deBruijn64tab", Rows.laid_math_bits_deBruijn64tab), ("internal/strconv.uint64pow10", Rows.laid_internal_strconv_uint64pow10), ("unicode/utf8.acceptRanges", Rows.laid_unicode_utf8_acceptRanges), ("strconv.ErrRange", Rows.laid_strconv_ErrRange), ("strconv.ErrSyntax", Rows.laid_strconv_ErrSyntax), ("stokvel/code.words", Rows.laid_stokvel_code_words), ("unicode/utf8.first", Rows.laid_unicode_utf8_first)]
theorem vlists_lifted (hgl : ∀ W : World, laidMetH Tryz.prog laidV W → GlobIn (wmem W)) (hmet : ∀ (os : Os) (args : Array Value), laidMetH Tryz.prog laidV ((World.laidAll Tryz.prog os laidV).forCall (fun _ _ => 0) ⟨#[], args, []⟩).memory) (os : Os) (started : os.Started) (H : Type) (enc : TypeId × Value → H) :
  ReturnsInHanded {} Tryz.checked os 8 .any (fun w args => (Rows.vmListsSpec.pre enc Tryz.prog Tryz.f8 [] false w args ∧ laidMetH Tryz.prog laidV w) ∧ sizedMet enc Tryz.prog Tryz.f8 (OpenSpec.ofChange Rows.vmListsSpec) false w args)
   (Rows.vmListsSpec.post enc Tryz.prog Tryz.f8 false true false false) := by
 refine law_laid (C := Tryz.checked) (laid := laidV) (tb := 4) Tryz.own started (by kernel_rfl) Tryz.func8
  (ChangeSpec.witness_shaped (enc := enc) (C := Tryz.checked) (os := os) (X := fun w _ => laidMetH Tryz.prog laidV w) false (World.laidAll Tryz.prog os laidV) #[.slice none 0 0, .slice none 0 0, .agg #[.int .i64 0, .int .i64 0, .int .i64 0, .string ⟨#[]⟩, .slice none 0 0]] 8 (World.laidAll_os _ _ _) (World.shaped_of_ZipB (by kernel_rfl) (by kernel_rfl)) (by kernel_rfl) (by kernel_rfl) (by kernel_rfl) (hmet os _))
  Tryz.laidOut Tryz.seqs (by kernel_rfl) rfl (fun ds h => ?_) (by kernel_rfl) (by kernel_rfl) (fun us h => ?_) hgl
 ·match ds, h with
  | [_, _, _], _ => rfl
 ·match us, h with
  | [a0, a1, a2], h =>
   obtain ⟨h0, h1, h2, _⟩ := h
   obtain ⟨x0, rfl⟩ := lets_of h0
   obtain ⟨x1, rfl⟩ := vars_of h1
   obtain ⟨r, rfl, h2r⟩ := h2.agg sf25
   obtain ⟨x2, rfl⟩ := expU_of h2r
   exact lists_fun x0 x1 x2
end Go.Proofs.YtkdhmbhbbciedaaGreatDoor
