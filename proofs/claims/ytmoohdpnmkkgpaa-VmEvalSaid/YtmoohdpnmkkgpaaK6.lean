/- Texts joined by a program of mine: Cf Cg Ch Ci Uo UP Cj UV. -/
import Derived.Test.YtmoohdpnmkkgpaaK5
set_option linter.all false
set_option maxRecDepth 100000
set_option maxHeartbeats 8000000
namespace Go.Proofs.Ytmoohdpnmkkgpaa
open Go Go.VL
def Cap (F : Code → Code) : Prop := ∀ c : Code, c.length ≤ 2001 → (F c).length ≤ 2001
theorem Cap.put (x : Ins) : Cap fun c => putC c x := fun c h => by
  show (putC c x).length ≤ 2001
  rw [putC_len]; split <;> omega
theorem Cap.comp {F G : Code → Code} (hF : Cap F) (hG : Cap G) : Cap fun c => G (F c) := fun c h => hG _ (hF c h)
theorem Cap.truth : Cap truthC := (Cap.put _).comp (Cap.put _)
theorem Cap.choice {A B D : Code → Code} (hA : Cap A) (hB : Cap B) (hD : Cap D) : Cap (choiceC A B D) := fun c h => by
  unfold choiceC
  rw [landC_len]
  refine hD _ ?_
  rw [landC_len]
  exact Cap.put _ _ (hB _ (Cap.put _ _ (hA c h)))
mutual
theorem genT_cap {nm : List UInt8 → Code → Code} {sh : Exp → Bool} (hn : ∀ s, Cap (nm s)) : ∀ e : Exp, Cap (genT nm sh e)
  | .mk op n u s args => fun c hc2 => by
    have h := fun i => genN_cap (sh := sh) hn args i
    have hA := genA_cap (sh := sh) hn args
    rw [genT]
    simp only
    split
    · exact hc2
    split
    · exact Cap.put _ c hc2
    split
    · exact hn s c hc2
    split
    · exact Cap.choice (h 0) ((h 1).comp Cap.truth) (Cap.put _) c hc2
    split
    · exact Cap.choice (h 0) (Cap.put _) ((h 1).comp Cap.truth) c hc2
    split
    · exact Cap.choice (h 0) (h 1) (h 2) c hc2
    · exact (hA.comp (Cap.put _)) c hc2
theorem genN_cap {nm : List UInt8 → Code → Code} {sh : Exp → Bool} (hn : ∀ s, Cap (nm s)) : ∀ (l : List Exp) (i : Nat), Cap (genN nm sh l i)
  | [], i => by rw [genN]; exact fun _ h => h
  | e :: l, 0 => by rw [genN]; exact genT_cap hn e
  | e :: l, i + 1 => by rw [genN]; exact genN_cap hn l i
theorem genA_cap {nm : List UInt8 → Code → Code} {sh : Exp → Bool} (hn : ∀ s, Cap (nm s)) : ∀ (l : List Exp), Cap (genA nm sh l)
  | [] => by rw [genA]; exact fun _ h => h
  | e :: l => by rw [genA]; exact (genT_cap hn e).comp (genA_cap hn l)
end
theorem nmC_cap {lets sh} : ∀ (n : Nat) (s : List UInt8), Cap (nmC lets sh n s)
  | 0, s => by rw [nmC]; exact Cap.put _
  | n + 1, s => by
    rw [nmC]
    split
    · exact Cap.put _
    · split
      · exact genT_cap (nmC_cap n) _
      · exact nmC_cap n s
def ExpX (lets : List Let) (shs : List Bool) (m n : Nat) (e : Exp) (F : Code → Code) : Prop := ∀ (c : Code) (q nx : Nat), m < nx → q < nx → m ≠ q → c.length ≤ 2001 → RetX Try.prog 19 [.ptr m 0, .u (.int .i64 n), eagg e] [(m, cOb lets shs q c), (q, kOb c)] nx
    fun r o n' => r = .val (.tup []) ∧ o = [(m, cOb lets shs nx (F c)), (nx, kOb (F c))] ∧ n' = nx + 1
def ChoX (lets : List Let) (shs : List Bool) (m n : Nat) (e : Exp) (F : Code → Code) : Prop := ∀ (c : Code) (q nx : Nat), m < nx → q < nx → m ≠ q → c.length ≤ 2001 → RetX Try.prog 28 [.ptr m 0, .u (.int .i64 n), eagg e] [(m, cOb lets shs q c), (q, kOb c)] nx
    fun r o n' => r = .val (.tup []) ∧ o = [(m, cOb lets shs nx (F c)), (nx, kOb (F c))] ∧ n' = nx + 1
attribute [local simp] HS hcons hstep evPure opd uOf putOK St.put St.at getK binD binI binS binB nilD aggD eqUs cmpK lookD lookR rangeD Go.VL.nextD entryD keyD valU keyU lookK mkV entD_nil lookK_entD updK_entD1 updK_entD3 allUE allUE_entD makeMapD mapUpdD mapEff updK valM Key.kk shiftI arith unD convD pickD loadD cellsAt fieldAddrD fieldD indexAddrD indexD sliceD cutD lenD minmaxD nilCheckD buildD fillD cellsD isOne ones setAll mkAgg allU allocD boxD storeD St.add buildSliceD appendD rowsOf makeD setOb getK_setOb getK_del getK_cons stripL strip guardTmp entry chunks zcells valD argsV argsW argW argU1 argU0 argsU0 argsU1 calleeOf scalarD scalarU delAll effD St.effS RK_seq RK_seq_ret RK_seq_exit RK_blk RK_blk_ret RK_blk_exit RK_loop RK_loop_ret RK_loop_exit RK_done vs_seq vs_block vs_cond vs_region vs_loop vs_draw applyW mkD rdIds lentIds callOf calleeOf freeOp D.ids Op.operands Call.operands isEffOp makeIfD typeAssertD conc concs conc1 uOfV panicD IntKind.bits allU2 List.take_of_length_le List.range_succ
attribute [local irreducible] V G H HD HD2 HD4 HD4h RetX RunK Eff CallP CallV EndOK Fun Ret FinOK LoopI LoopW EndW
theorem choice_and {lets shs m n e a b FA FB} (ho : e.op = 10) (hab : e.args = [a, b]) (hA : ExpX lets shs m n a FA) (cA : Cap FA) (pA : Pre FA) (hB : ExpX lets shs m n b FB) (cB : Cap FB) (pB : Pre FB) : ChoX lets shs m n e (choiceC FA (fun c => truthC (FB c)) (fun c => putC c ⟨0, 0, []⟩)) := by
  intro c q nx hm hq hmq hl
  have hne := nef hm
  have hne2 := nef hq
  have hm1 : m < nx + 1 := by omega
  have hp := pure_insR ((choiceC FA (fun c => truthC (FB c)) (fun c => putC c ⟨0, 0, []⟩)) c)
  unfold choiceC at hp ⊢
  try simp only at hp ⊢
  have l1 := cA c hl
  have w1 := (pA c).1
  have a1 := hA c q (nx + 1) (by omega) (by omega) (by omega) hl
  generalize FA c = k1 at *
  have l2 := Cap.put ⟨13, 0, []⟩ k1 l1
  have w2 := (putC_pre ⟨13, 0, []⟩ k1).1
  have g2 := putC_pos k1 ⟨13, 0, []⟩
  simp only at l2
  have a2 := put_x lets shs k1 ⟨13, 0, []⟩ m (nx + 1) (nx + 2) (by omega) (by omega) (by omega) (by omega)
  generalize putC k1 ⟨13, 0, []⟩ = k2 at *
  have l3 := cB k2 l2
  have w3 := (pB k2).1
  have a3 := hB k2 (nx + 2) (nx + 3) (by omega) (by omega) (by omega) l2
  generalize FB k2 = k3 at *
  have l4 := Cap.truth k3 l3
  have w4 := (Pre.truth k3).1
  have a4 := truth_x lets shs k3 m (nx + 3) (nx + 4) (by omega) (by omega) (by omega) (by omega)
  generalize truthC k3 = k4 at *
  have l5 := Cap.put ⟨12, 0, []⟩ k4 l4
  have w5 := (putC_pre ⟨12, 0, []⟩ k4).1
  have g5 := putC_pos k4 ⟨12, 0, []⟩
  simp only at l5
  have a5 := put_x lets shs k4 ⟨12, 0, []⟩ m (nx + 4) (nx + 5) (by omega) (by omega) (by omega) (by omega)
  generalize putC k4 ⟨12, 0, []⟩ = k5 at *
  have l6 := landC_len k5 (k2.length - 1)
  have a6 := land_x lets shs k5 (k2.length - 1) m (nx + 5) (nx + 6) (by omega) (by omega) (by omega) (by omega) (by omega)
  rw [show ((k2.length - 1 : Nat) : Int) = (k2.length : Int) - 1 by omega] at a6
  generalize landC k5 (k2.length - 1) = k6 at *
  have l6 : k6.length ≤ 2001 := by omega
  have l7 := Cap.put ⟨0, 0, []⟩ k6 l6
  have w7 := (putC_pre ⟨0, 0, []⟩ k6).1
  have g7 := putC_pos k6 ⟨0, 0, []⟩
  simp only at l7
  have a7 := put_x lets shs k6 ⟨0, 0, []⟩ m (nx + 6) (nx + 7) (by omega) (by omega) (by omega) (by omega)
  generalize putC k6 ⟨0, 0, []⟩ = k7 at *
  have l8 := landC_len k7 (k5.length - 1)
  have a8 := land_x lets shs k7 (k5.length - 1) m (nx + 7) (nx + 8) (by omega) (by omega) (by omega) (by omega) (by omega)
  rw [show ((k5.length - 1 : Nat) : Int) = (k5.length : Int) - 1 by omega] at a8
  generalize landC k7 (k5.length - 1) = k8 at *
  have l8 : k8.length ≤ 2001 := by omega
  simp only [eagg, letsU] at a1 a2 a3 a4 a5 a6 a7 a8 ⊢
  have hpp := hp
  (refine RetX.of_bodyW Try.func28 rfl (by simp) fun Γ hn hpan => ?_); simp only [entry, List.zipIdx_cons, List.zipIdx_nil, List.map_cons, List.map_nil, Nat.zero_add, Try.ntmps28]
  repeat' (first
    | (refine H_cons ?_; simp [hne, hne2, hmq, Ne.symm hmq, Nat.add_assoc, del, ho, hab, a.row_eq, b.row_eq])
    | (refine H_nil ?_; simp [hne, hne2, hmq, Ne.symm hmq, Nat.add_assoc, del, ho, hab, a.row_eq, b.row_eq])
    | (refine V_sseq ?_; simp [hne, hne2, hmq, Ne.symm hmq, Nat.add_assoc, del, ho, hab, a.row_eq, b.row_eq])
    | (refine V_scond ?_; simp [hne, hne2, hmq, Ne.symm hmq, Nat.add_assoc, del, ho, hab, a.row_eq, b.row_eq])
    | (refine V_sblock ?_; simp [hne, hne2, hmq, Ne.symm hmq, Nat.add_assoc, del, ho, hab, a.row_eq, b.row_eq])
    | (refine V_sregion ?_; simp [hne, hne2, hmq, Ne.symm hmq, Nat.add_assoc, del, ho, hab, a.row_eq, b.row_eq])
    | (refine CallP.okL (a1) (by first | (simp [hne, hne2, hmq, Ne.symm hmq, Nat.add_assoc, del, ho, hab, a.row_eq, b.row_eq, getK_cons, getK, getK_append, getK_del, getK_setOb, applyW, del]; done) | fail) (by rfl) (by first | assumption | (simp; done) | fail) (by rfl) (by simp) ?_; (try simp [hne, hne2, hmq, Ne.symm hmq, Nat.add_assoc, del, ho, hab, a.row_eq, b.row_eq, delL, del]))
    | (refine CallP.okL (a2) (by first | (simp [hne, hne2, hmq, Ne.symm hmq, Nat.add_assoc, del, ho, hab, a.row_eq, b.row_eq, getK_cons, getK, getK_append, getK_del, getK_setOb, applyW, del]; done) | fail) (by rfl) (by first | assumption | (simp; done) | fail) (by rfl) (by simp) ?_; (try simp [hne, hne2, hmq, Ne.symm hmq, Nat.add_assoc, del, ho, hab, a.row_eq, b.row_eq, delL, del]))
    | (refine CallP.okL (a3) (by first | (simp [hne, hne2, hmq, Ne.symm hmq, Nat.add_assoc, del, ho, hab, a.row_eq, b.row_eq, getK_cons, getK, getK_append, getK_del, getK_setOb, applyW, del]; done) | fail) (by rfl) (by first | assumption | (simp; done) | fail) (by rfl) (by simp) ?_; (try simp [hne, hne2, hmq, Ne.symm hmq, Nat.add_assoc, del, ho, hab, a.row_eq, b.row_eq, delL, del]))
    | (refine CallP.okL (a4) (by first | (simp [hne, hne2, hmq, Ne.symm hmq, Nat.add_assoc, del, ho, hab, a.row_eq, b.row_eq, getK_cons, getK, getK_append, getK_del, getK_setOb, applyW, del]; done) | fail) (by rfl) (by first | assumption | (simp; done) | fail) (by rfl) (by simp) ?_; (try simp [hne, hne2, hmq, Ne.symm hmq, Nat.add_assoc, del, ho, hab, a.row_eq, b.row_eq, delL, del]))
    | (refine CallP.okL (a5) (by first | (simp [hne, hne2, hmq, Ne.symm hmq, Nat.add_assoc, del, ho, hab, a.row_eq, b.row_eq, getK_cons, getK, getK_append, getK_del, getK_setOb, applyW, del]; done) | fail) (by rfl) (by first | assumption | (simp; done) | fail) (by rfl) (by simp) ?_; (try simp [hne, hne2, hmq, Ne.symm hmq, Nat.add_assoc, del, ho, hab, a.row_eq, b.row_eq, delL, del]))
    | (refine CallP.okL (a6) (by first | (simp [hne, hne2, hmq, Ne.symm hmq, Nat.add_assoc, del, ho, hab, a.row_eq, b.row_eq, getK_cons, getK, getK_append, getK_del, getK_setOb, applyW, del]; done) | fail) (by rfl) (by first | assumption | (simp; done) | fail) (by rfl) (by simp) ?_; (try simp [hne, hne2, hmq, Ne.symm hmq, Nat.add_assoc, del, ho, hab, a.row_eq, b.row_eq, delL, del]))
    | (refine CallP.okL (a7) (by first | (simp [hne, hne2, hmq, Ne.symm hmq, Nat.add_assoc, del, ho, hab, a.row_eq, b.row_eq, getK_cons, getK, getK_append, getK_del, getK_setOb, applyW, del]; done) | fail) (by rfl) (by first | assumption | (simp; done) | fail) (by rfl) (by simp) ?_; (try simp [hne, hne2, hmq, Ne.symm hmq, Nat.add_assoc, del, ho, hab, a.row_eq, b.row_eq, delL, del]))
    | (refine CallP.okL (a8) (by first | (simp [hne, hne2, hmq, Ne.symm hmq, Nat.add_assoc, del, ho, hab, a.row_eq, b.row_eq, getK_cons, getK, getK_append, getK_del, getK_setOb, applyW, del]; done) | fail) (by rfl) (by first | assumption | (simp; done) | fail) (by rfl) (by simp) ?_; (try simp [hne, hne2, hmq, Ne.symm hmq, Nat.add_assoc, del, ho, hab, a.row_eq, b.row_eq, delL, del]))
    | fail)
  refine EndW.wk { n := _, env := [], obs := [(m, cOb lets shs nx k8), (nx, kOb k8)], next := nx + 1 } (Wk.ren ((fun i => if i = nx then nx + 8 else i)) rfl (by first | (simp [hn]; done) | (intro i hi; rw [hn] at hi; constructor <;> (try simp) <;> (try (intro _)) <;> omega)) (by simp [wkER, St.lp, keepE, getK_cons, getK, getK_del, getK_setOb, D.under, D.le, D.ren, hne, hne2, hmq, Ne.symm hmq, hm1, hp, cOb, kOb, letsU] <;> (try (intros; simp_all; done)) <;> (try omega)) (by simp [wkR, St.lp, getK_cons, getK, getK_del, getK_setOb, obR, leU, pureRow, pureRows, Ob.under, D.under, D.le, D.ren, hne, hne2, hmq, Ne.symm hmq, hm1, hp, cOb, kOb, letsU] <;> (try (intros; simp_all; done)) <;> (try omega)) (by simp [hne, hne2, hmq, Ne.symm hmq, hm1, hp, cOb, kOb, letsU])) ?_
  (refine EndW.here ?_; (first | (refine EndOK.fin (.inr rfl) ?_) | (refine EndOK.fin (.inl rfl) ?_)); simp [resD, oneOrTup, Try.results28]; refine FinOK.here (by simp) ?_; try simp)
theorem choice_or {lets shs m n e a b FA FB} (ho : e.op = 11) (hab : e.args = [a, b]) (hA : ExpX lets shs m n a FA) (cA : Cap FA) (pA : Pre FA) (hB : ExpX lets shs m n b FB) (cB : Cap FB) (pB : Pre FB) : ChoX lets shs m n e (choiceC FA (fun c => putC c ⟨0, 1, []⟩) (fun c => truthC (FB c))) := by
  intro c q nx hm hq hmq hl
  have hne := nef hm
  have hne2 := nef hq
  have hm1 : m < nx + 1 := by omega
  have hp := pure_insR ((choiceC FA (fun c => putC c ⟨0, 1, []⟩) (fun c => truthC (FB c))) c)
  unfold choiceC at hp ⊢
  try simp only at hp ⊢
  have l1 := cA c hl
  have w1 := (pA c).1
  have a1 := hA c q (nx + 1) (by omega) (by omega) (by omega) hl
  generalize FA c = k1 at *
  have l2 := Cap.put ⟨13, 0, []⟩ k1 l1
  have w2 := (putC_pre ⟨13, 0, []⟩ k1).1
  have g2 := putC_pos k1 ⟨13, 0, []⟩
  simp only at l2
  have a2 := put_x lets shs k1 ⟨13, 0, []⟩ m (nx + 1) (nx + 2) (by omega) (by omega) (by omega) (by omega)
  generalize putC k1 ⟨13, 0, []⟩ = k2 at *
  have l3 := Cap.put ⟨0, 1, []⟩ k2 l2
  have w3 := (putC_pre ⟨0, 1, []⟩ k2).1
  have g3 := putC_pos k2 ⟨0, 1, []⟩
  simp only at l3
  have a3 := put_x lets shs k2 ⟨0, 1, []⟩ m (nx + 2) (nx + 3) (by omega) (by omega) (by omega) (by omega)
  generalize putC k2 ⟨0, 1, []⟩ = k3 at *
  have l4 := Cap.put ⟨12, 0, []⟩ k3 l3
  have w4 := (putC_pre ⟨12, 0, []⟩ k3).1
  have g4 := putC_pos k3 ⟨12, 0, []⟩
  simp only at l4
  have a4 := put_x lets shs k3 ⟨12, 0, []⟩ m (nx + 3) (nx + 4) (by omega) (by omega) (by omega) (by omega)
  generalize putC k3 ⟨12, 0, []⟩ = k4 at *
  have l5 := landC_len k4 (k2.length - 1)
  have a5 := land_x lets shs k4 (k2.length - 1) m (nx + 4) (nx + 5) (by omega) (by omega) (by omega) (by omega) (by omega)
  rw [show ((k2.length - 1 : Nat) : Int) = (k2.length : Int) - 1 by omega] at a5
  generalize landC k4 (k2.length - 1) = k5 at *
  have l5 : k5.length ≤ 2001 := by omega
  have l6 := cB k5 l5
  have w6 := (pB k5).1
  have a6 := hB k5 (nx + 5) (nx + 6) (by omega) (by omega) (by omega) l5
  generalize FB k5 = k6 at *
  have l7 := Cap.truth k6 l6
  have w7 := (Pre.truth k6).1
  have a7 := truth_x lets shs k6 m (nx + 6) (nx + 7) (by omega) (by omega) (by omega) (by omega)
  generalize truthC k6 = k7 at *
  have l8 := landC_len k7 (k4.length - 1)
  have a8 := land_x lets shs k7 (k4.length - 1) m (nx + 7) (nx + 8) (by omega) (by omega) (by omega) (by omega) (by omega)
  rw [show ((k4.length - 1 : Nat) : Int) = (k4.length : Int) - 1 by omega] at a8
  generalize landC k7 (k4.length - 1) = k8 at *
  have l8 : k8.length ≤ 2001 := by omega
  simp only [eagg, letsU] at a1 a2 a3 a4 a5 a6 a7 a8 ⊢
  have hpp := hp
  (refine RetX.of_bodyW Try.func28 rfl (by simp) fun Γ hn hpan => ?_); simp only [entry, List.zipIdx_cons, List.zipIdx_nil, List.map_cons, List.map_nil, Nat.zero_add, Try.ntmps28]
  repeat' (first
    | (refine H_cons ?_; simp [hne, hne2, hmq, Ne.symm hmq, Nat.add_assoc, del, ho, hab, a.row_eq, b.row_eq])
    | (refine H_nil ?_; simp [hne, hne2, hmq, Ne.symm hmq, Nat.add_assoc, del, ho, hab, a.row_eq, b.row_eq])
    | (refine V_sseq ?_; simp [hne, hne2, hmq, Ne.symm hmq, Nat.add_assoc, del, ho, hab, a.row_eq, b.row_eq])
    | (refine V_scond ?_; simp [hne, hne2, hmq, Ne.symm hmq, Nat.add_assoc, del, ho, hab, a.row_eq, b.row_eq])
    | (refine V_sblock ?_; simp [hne, hne2, hmq, Ne.symm hmq, Nat.add_assoc, del, ho, hab, a.row_eq, b.row_eq])
    | (refine V_sregion ?_; simp [hne, hne2, hmq, Ne.symm hmq, Nat.add_assoc, del, ho, hab, a.row_eq, b.row_eq])
    | (refine CallP.okL (a1) (by first | (simp [hne, hne2, hmq, Ne.symm hmq, Nat.add_assoc, del, ho, hab, a.row_eq, b.row_eq, getK_cons, getK, getK_append, getK_del, getK_setOb, applyW, del]; done) | fail) (by rfl) (by first | assumption | (simp; done) | fail) (by rfl) (by simp) ?_; (try simp [hne, hne2, hmq, Ne.symm hmq, Nat.add_assoc, del, ho, hab, a.row_eq, b.row_eq, delL, del]))
    | (refine CallP.okL (a2) (by first | (simp [hne, hne2, hmq, Ne.symm hmq, Nat.add_assoc, del, ho, hab, a.row_eq, b.row_eq, getK_cons, getK, getK_append, getK_del, getK_setOb, applyW, del]; done) | fail) (by rfl) (by first | assumption | (simp; done) | fail) (by rfl) (by simp) ?_; (try simp [hne, hne2, hmq, Ne.symm hmq, Nat.add_assoc, del, ho, hab, a.row_eq, b.row_eq, delL, del]))
    | (refine CallP.okL (a3) (by first | (simp [hne, hne2, hmq, Ne.symm hmq, Nat.add_assoc, del, ho, hab, a.row_eq, b.row_eq, getK_cons, getK, getK_append, getK_del, getK_setOb, applyW, del]; done) | fail) (by rfl) (by first | assumption | (simp; done) | fail) (by rfl) (by simp) ?_; (try simp [hne, hne2, hmq, Ne.symm hmq, Nat.add_assoc, del, ho, hab, a.row_eq, b.row_eq, delL, del]))
    | (refine CallP.okL (a4) (by first | (simp [hne, hne2, hmq, Ne.symm hmq, Nat.add_assoc, del, ho, hab, a.row_eq, b.row_eq, getK_cons, getK, getK_append, getK_del, getK_setOb, applyW, del]; done) | fail) (by rfl) (by first | assumption | (simp; done) | fail) (by rfl) (by simp) ?_; (try simp [hne, hne2, hmq, Ne.symm hmq, Nat.add_assoc, del, ho, hab, a.row_eq, b.row_eq, delL, del]))
    | (refine CallP.okL (a5) (by first | (simp [hne, hne2, hmq, Ne.symm hmq, Nat.add_assoc, del, ho, hab, a.row_eq, b.row_eq, getK_cons, getK, getK_append, getK_del, getK_setOb, applyW, del]; done) | fail) (by rfl) (by first | assumption | (simp; done) | fail) (by rfl) (by simp) ?_; (try simp [hne, hne2, hmq, Ne.symm hmq, Nat.add_assoc, del, ho, hab, a.row_eq, b.row_eq, delL, del]))
    | (refine CallP.okL (a6) (by first | (simp [hne, hne2, hmq, Ne.symm hmq, Nat.add_assoc, del, ho, hab, a.row_eq, b.row_eq, getK_cons, getK, getK_append, getK_del, getK_setOb, applyW, del]; done) | fail) (by rfl) (by first | assumption | (simp; done) | fail) (by rfl) (by simp) ?_; (try simp [hne, hne2, hmq, Ne.symm hmq, Nat.add_assoc, del, ho, hab, a.row_eq, b.row_eq, delL, del]))
    | (refine CallP.okL (a7) (by first | (simp [hne, hne2, hmq, Ne.symm hmq, Nat.add_assoc, del, ho, hab, a.row_eq, b.row_eq, getK_cons, getK, getK_append, getK_del, getK_setOb, applyW, del]; done) | fail) (by rfl) (by first | assumption | (simp; done) | fail) (by rfl) (by simp) ?_; (try simp [hne, hne2, hmq, Ne.symm hmq, Nat.add_assoc, del, ho, hab, a.row_eq, b.row_eq, delL, del]))
    | (refine CallP.okL (a8) (by first | (simp [hne, hne2, hmq, Ne.symm hmq, Nat.add_assoc, del, ho, hab, a.row_eq, b.row_eq, getK_cons, getK, getK_append, getK_del, getK_setOb, applyW, del]; done) | fail) (by rfl) (by first | assumption | (simp; done) | fail) (by rfl) (by simp) ?_; (try simp [hne, hne2, hmq, Ne.symm hmq, Nat.add_assoc, del, ho, hab, a.row_eq, b.row_eq, delL, del]))
    | fail)
  refine EndW.wk { n := _, env := [], obs := [(m, cOb lets shs nx k8), (nx, kOb k8)], next := nx + 1 } (Wk.ren ((fun i => if i = nx then nx + 8 else i)) rfl (by first | (simp [hn]; done) | (intro i hi; rw [hn] at hi; constructor <;> (try simp) <;> (try (intro _)) <;> omega)) (by simp [wkER, St.lp, keepE, getK_cons, getK, getK_del, getK_setOb, D.under, D.le, D.ren, hne, hne2, hmq, Ne.symm hmq, hm1, hp, cOb, kOb, letsU] <;> (try (intros; simp_all; done)) <;> (try omega)) (by simp [wkR, St.lp, getK_cons, getK, getK_del, getK_setOb, obR, leU, pureRow, pureRows, Ob.under, D.under, D.le, D.ren, hne, hne2, hmq, Ne.symm hmq, hm1, hp, cOb, kOb, letsU] <;> (try (intros; simp_all; done)) <;> (try omega)) (by simp [hne, hne2, hmq, Ne.symm hmq, hm1, hp, cOb, kOb, letsU])) ?_
  (refine EndW.here ?_; (first | (refine EndOK.fin (.inr rfl) ?_) | (refine EndOK.fin (.inl rfl) ?_)); simp [resD, oneOrTup, Try.results28]; refine FinOK.here (by simp) ?_; try simp)
theorem choice_if {lets shs m n e a b d FA FB FD} (ho : e.op = 13) (hab : e.args = [a, b, d]) (hA : ExpX lets shs m n a FA) (cA : Cap FA) (pA : Pre FA) (hB : ExpX lets shs m n b FB) (cB : Cap FB) (pB : Pre FB) (hD : ExpX lets shs m n d FD) (cD : Cap FD) (pD : Pre FD) : ChoX lets shs m n e (choiceC FA FB FD) := by
  intro c q nx hm hq hmq hl
  have hne := nef hm
  have hne2 := nef hq
  have hm1 : m < nx + 1 := by omega
  have hp := pure_insR ((choiceC FA FB FD) c)
  unfold choiceC at hp ⊢
  try simp only at hp ⊢
  have l1 := cA c hl
  have w1 := (pA c).1
  have a1 := hA c q (nx + 1) (by omega) (by omega) (by omega) hl
  generalize FA c = k1 at *
  have l2 := Cap.put ⟨13, 0, []⟩ k1 l1
  have w2 := (putC_pre ⟨13, 0, []⟩ k1).1
  have g2 := putC_pos k1 ⟨13, 0, []⟩
  simp only at l2
  have a2 := put_x lets shs k1 ⟨13, 0, []⟩ m (nx + 1) (nx + 2) (by omega) (by omega) (by omega) (by omega)
  generalize putC k1 ⟨13, 0, []⟩ = k2 at *
  have l3 := cB k2 l2
  have w3 := (pB k2).1
  have a3 := hB k2 (nx + 2) (nx + 3) (by omega) (by omega) (by omega) l2
  generalize FB k2 = k3 at *
  have l4 := Cap.put ⟨12, 0, []⟩ k3 l3
  have w4 := (putC_pre ⟨12, 0, []⟩ k3).1
  have g4 := putC_pos k3 ⟨12, 0, []⟩
  simp only at l4
  have a4 := put_x lets shs k3 ⟨12, 0, []⟩ m (nx + 3) (nx + 4) (by omega) (by omega) (by omega) (by omega)
  generalize putC k3 ⟨12, 0, []⟩ = k4 at *
  have l5 := landC_len k4 (k2.length - 1)
  have a5 := land_x lets shs k4 (k2.length - 1) m (nx + 4) (nx + 5) (by omega) (by omega) (by omega) (by omega) (by omega)
  rw [show ((k2.length - 1 : Nat) : Int) = (k2.length : Int) - 1 by omega] at a5
  generalize landC k4 (k2.length - 1) = k5 at *
  have l5 : k5.length ≤ 2001 := by omega
  have l6 := cD k5 l5
  have w6 := (pD k5).1
  have a6 := hD k5 (nx + 5) (nx + 6) (by omega) (by omega) (by omega) l5
  generalize FD k5 = k6 at *
  have l7 := landC_len k6 (k4.length - 1)
  have a7 := land_x lets shs k6 (k4.length - 1) m (nx + 6) (nx + 7) (by omega) (by omega) (by omega) (by omega) (by omega)
  rw [show ((k4.length - 1 : Nat) : Int) = (k4.length : Int) - 1 by omega] at a7
  generalize landC k6 (k4.length - 1) = k7 at *
  have l7 : k7.length ≤ 2001 := by omega
  simp only [eagg, letsU] at a1 a2 a3 a4 a5 a6 a7 ⊢
  have hpp := hp
  (refine RetX.of_bodyW Try.func28 rfl (by simp) fun Γ hn hpan => ?_); simp only [entry, List.zipIdx_cons, List.zipIdx_nil, List.map_cons, List.map_nil, Nat.zero_add, Try.ntmps28]
  repeat' (first
    | (refine H_cons ?_; simp [hne, hne2, hmq, Ne.symm hmq, Nat.add_assoc, del, ho, hab, a.row_eq, b.row_eq, d.row_eq])
    | (refine H_nil ?_; simp [hne, hne2, hmq, Ne.symm hmq, Nat.add_assoc, del, ho, hab, a.row_eq, b.row_eq, d.row_eq])
    | (refine V_sseq ?_; simp [hne, hne2, hmq, Ne.symm hmq, Nat.add_assoc, del, ho, hab, a.row_eq, b.row_eq, d.row_eq])
    | (refine V_scond ?_; simp [hne, hne2, hmq, Ne.symm hmq, Nat.add_assoc, del, ho, hab, a.row_eq, b.row_eq, d.row_eq])
    | (refine V_sblock ?_; simp [hne, hne2, hmq, Ne.symm hmq, Nat.add_assoc, del, ho, hab, a.row_eq, b.row_eq, d.row_eq])
    | (refine V_sregion ?_; simp [hne, hne2, hmq, Ne.symm hmq, Nat.add_assoc, del, ho, hab, a.row_eq, b.row_eq, d.row_eq])
    | (refine CallP.okL (a1) (by first | (simp [hne, hne2, hmq, Ne.symm hmq, Nat.add_assoc, del, ho, hab, a.row_eq, b.row_eq, d.row_eq, getK_cons, getK, getK_append, getK_del, getK_setOb, applyW, del]; done) | fail) (by rfl) (by first | assumption | (simp; done) | fail) (by rfl) (by simp) ?_; (try simp [hne, hne2, hmq, Ne.symm hmq, Nat.add_assoc, del, ho, hab, a.row_eq, b.row_eq, d.row_eq, delL, del]))
    | (refine CallP.okL (a2) (by first | (simp [hne, hne2, hmq, Ne.symm hmq, Nat.add_assoc, del, ho, hab, a.row_eq, b.row_eq, d.row_eq, getK_cons, getK, getK_append, getK_del, getK_setOb, applyW, del]; done) | fail) (by rfl) (by first | assumption | (simp; done) | fail) (by rfl) (by simp) ?_; (try simp [hne, hne2, hmq, Ne.symm hmq, Nat.add_assoc, del, ho, hab, a.row_eq, b.row_eq, d.row_eq, delL, del]))
    | (refine CallP.okL (a3) (by first | (simp [hne, hne2, hmq, Ne.symm hmq, Nat.add_assoc, del, ho, hab, a.row_eq, b.row_eq, d.row_eq, getK_cons, getK, getK_append, getK_del, getK_setOb, applyW, del]; done) | fail) (by rfl) (by first | assumption | (simp; done) | fail) (by rfl) (by simp) ?_; (try simp [hne, hne2, hmq, Ne.symm hmq, Nat.add_assoc, del, ho, hab, a.row_eq, b.row_eq, d.row_eq, delL, del]))
    | (refine CallP.okL (a4) (by first | (simp [hne, hne2, hmq, Ne.symm hmq, Nat.add_assoc, del, ho, hab, a.row_eq, b.row_eq, d.row_eq, getK_cons, getK, getK_append, getK_del, getK_setOb, applyW, del]; done) | fail) (by rfl) (by first | assumption | (simp; done) | fail) (by rfl) (by simp) ?_; (try simp [hne, hne2, hmq, Ne.symm hmq, Nat.add_assoc, del, ho, hab, a.row_eq, b.row_eq, d.row_eq, delL, del]))
    | (refine CallP.okL (a5) (by first | (simp [hne, hne2, hmq, Ne.symm hmq, Nat.add_assoc, del, ho, hab, a.row_eq, b.row_eq, d.row_eq, getK_cons, getK, getK_append, getK_del, getK_setOb, applyW, del]; done) | fail) (by rfl) (by first | assumption | (simp; done) | fail) (by rfl) (by simp) ?_; (try simp [hne, hne2, hmq, Ne.symm hmq, Nat.add_assoc, del, ho, hab, a.row_eq, b.row_eq, d.row_eq, delL, del]))
    | (refine CallP.okL (a6) (by first | (simp [hne, hne2, hmq, Ne.symm hmq, Nat.add_assoc, del, ho, hab, a.row_eq, b.row_eq, d.row_eq, getK_cons, getK, getK_append, getK_del, getK_setOb, applyW, del]; done) | fail) (by rfl) (by first | assumption | (simp; done) | fail) (by rfl) (by simp) ?_; (try simp [hne, hne2, hmq, Ne.symm hmq, Nat.add_assoc, del, ho, hab, a.row_eq, b.row_eq, d.row_eq, delL, del]))
    | (refine CallP.okL (a7) (by first | (simp [hne, hne2, hmq, Ne.symm hmq, Nat.add_assoc, del, ho, hab, a.row_eq, b.row_eq, d.row_eq, getK_cons, getK, getK_append, getK_del, getK_setOb, applyW, del]; done) | fail) (by rfl) (by first | assumption | (simp; done) | fail) (by rfl) (by simp) ?_; (try simp [hne, hne2, hmq, Ne.symm hmq, Nat.add_assoc, del, ho, hab, a.row_eq, b.row_eq, d.row_eq, delL, del]))
    | fail)
  refine EndW.wk { n := _, env := [], obs := [(m, cOb lets shs nx k7), (nx, kOb k7)], next := nx + 1 } (Wk.ren ((fun i => if i = nx then nx + 7 else i)) rfl (by first | (simp [hn]; done) | (intro i hi; rw [hn] at hi; constructor <;> (try simp) <;> (try (intro _)) <;> omega)) (by simp [wkER, St.lp, keepE, getK_cons, getK, getK_del, getK_setOb, D.under, D.le, D.ren, hne, hne2, hmq, Ne.symm hmq, hm1, hp, cOb, kOb, letsU] <;> (try (intros; simp_all; done)) <;> (try omega)) (by simp [wkR, St.lp, getK_cons, getK, getK_del, getK_setOb, obR, leU, pureRow, pureRows, Ob.under, D.under, D.le, D.ren, hne, hne2, hmq, Ne.symm hmq, hm1, hp, cOb, kOb, letsU] <;> (try (intros; simp_all; done)) <;> (try omega)) (by simp [hne, hne2, hmq, Ne.symm hmq, hm1, hp, cOb, kOb, letsU])) ?_
  (refine EndW.here ?_; (first | (refine EndOK.fin (.inr rfl) ?_) | (refine EndOK.fin (.inl rfl) ?_)); simp [resD, oneOrTup, Try.results28]; refine FinOK.here (by simp) ?_; try simp)
end Go.Proofs.Ytmoohdpnmkkgpaa
namespace Go.Proofs.Ytmoohdpnmkkgpaa
open Go Go.VL
theorem allU2_insR (c : Code) : allU2 (insR c) = some (c.map fun i => [.int .i64 i.op, .int .i64 i.a, .str i.s]) := by
  have : insR c = (c.map fun i => [U.int .i64 i.op, .int .i64 i.a, .str i.s]).map (·.map D.u) := by simp [insR]
  rw [this, allU2_map]
theorem insR_take (c : Code) : (insR c).take c.length = insR c := by rw [← insR_len, List.take_length]
theorem nmC_last {lets : List Let} {sh : Nat → Exp → Bool} (s : List UInt8) : ∀ {n : Nat}, n ≤ lets.length → nmC lets sh n s = match lastI lets n s with | none => fun c => putC c ⟨1, 0, s⟩ | some i => match lets[i]? with | some l => genT (nmC lets sh i) (sh i) l.body | none => fun c => c
  | 0, _ => by rw [nmC]; rfl
  | n + 1, h => by
    have hl : lets[n]? = some lets[n] := List.getElem?_eq_getElem (by omega)
    rw [nmC, lastI, hl]
    simp only
    by_cases hs : lets[n].name = s
    · rw [if_pos hs, if_pos hs]
      simp only [hl]
    · rw [if_neg hs, if_neg hs]
      exact nmC_last s (by omega)
attribute [local simp] HS hcons hstep evPure opd uOf putOK St.put St.at getK binD binI binS binB nilD aggD eqUs cmpK lookD lookR rangeD Go.VL.nextD entryD keyD valU keyU lookK mkV entD_nil lookK_entD updK_entD1 updK_entD3 allUE allUE_entD makeMapD mapUpdD mapEff updK valM Key.kk shiftI arith unD convD pickD loadD cellsAt fieldAddrD fieldD indexAddrD indexD sliceD cutD lenD minmaxD nilCheckD buildD fillD cellsD isOne ones setAll mkAgg allU allocD boxD storeD St.add buildSliceD appendD rowsOf makeD setOb getK_setOb getK_del getK_cons stripL strip guardTmp entry chunks zcells valD argsV argsW argW argU1 argU0 argsU0 argsU1 calleeOf scalarD scalarU delAll effD St.effS RK_seq RK_seq_ret RK_seq_exit RK_blk RK_blk_ret RK_blk_exit RK_loop RK_loop_ret RK_loop_exit RK_done vs_seq vs_block vs_cond vs_region vs_loop vs_draw applyW mkD rdIds lentIds callOf calleeOf freeOp D.ids Op.operands Call.operands isEffOp makeIfD typeAssertD conc concs conc1 uOfV panicD IntKind.bits allU2 List.take_of_length_le List.range_succ
attribute [local irreducible] V G H HD HD2 HD4 HD4h RetX RunK Eff CallP CallV EndOK Fun Ret FinOK LoopI LoopW EndW
theorem exp_over (lets : List Let) (shs : List Bool) (m n : Nat) (e : Exp) (c : Code) (q nx : Nat) (hm : m < nx) (hq : q < nx) (hmq : m ≠ q) (hl : 2000 < c.length) : RetX Try.prog 19 [.ptr m 0, .u (.int .i64 n), eagg e] [(m, cOb lets shs q c), (q, kOb c)] nx
    fun r o n' => r = .val (.tup []) ∧ o = [(m, cOb lets shs nx c), (nx, kOb c)] ∧ n' = nx + 1 := by
  have hne := nef hm
  have hne2 := nef hq
  have hm1 : m < nx + 1 := by omega
  have hp := pure_insR c
  simp only [eagg]
  (refine RetX.of_bodyW Try.func19 rfl (by simp) fun Γ hn hpan => ?_); simp only [entry, List.zipIdx_cons, List.zipIdx_nil, List.map_cons, List.map_nil, Nat.zero_add, Try.ntmps19]
  repeat' (first
    | (refine H_cons ?_; simp [hne, hne2, hmq, Ne.symm hmq, Nat.add_assoc, del, hl, cOb])
    | (refine H_nil ?_; simp [hne, hne2, hmq, Ne.symm hmq, Nat.add_assoc, del, hl, cOb])
    | (refine V_sseq ?_; simp [hne, hne2, hmq, Ne.symm hmq, Nat.add_assoc, del, hl, cOb])
    | (refine V_scond ?_; simp [hne, hne2, hmq, Ne.symm hmq, Nat.add_assoc, del, hl, cOb])
    | (refine V_ret ?_; simp only [RunK])
    | (refine ⟨?_, by omega⟩)
    | (intro hc <;> (try (exfalso; omega)))
    | fail)
  refine EndW.wk { n := _, env := [], obs := [(m, cOb lets shs nx c), (nx, kOb c)], next := nx + 1 } (Wk.ren ((fun i => if i = nx then q else i)) rfl (by first | (simp [hn]; done) | (intro i hi; rw [hn] at hi; constructor <;> (try simp) <;> (try (intro _)) <;> omega)) (by simp [wkER, St.lp, keepE, getK_cons, getK, getK_del, getK_setOb, D.under, D.le, D.ren, hne, hne2, hmq, Ne.symm hmq, hm1, hp, cOb, kOb, letsU] <;> (try (intros; simp_all; done)) <;> (try omega)) (by simp [wkR, St.lp, getK_cons, getK, getK_del, getK_setOb, obR, leU, pureRow, pureRows, Ob.under, D.under, D.le, D.ren, hne, hne2, hmq, Ne.symm hmq, hm1, hp, cOb, kOb, letsU] <;> (try (intros; simp_all; done)) <;> (try omega)) (by simp [hne, hne2, hmq, Ne.symm hmq, hm1, hp, cOb, kOb, letsU])) ?_
  (refine EndW.here ?_; (first | (refine EndOK.fin (.inr rfl) ?_) | (refine EndOK.fin (.inl rfl) ?_)); simp [resD, oneOrTup, Try.results19]; refine FinOK.here (by simp) ?_; try simp)
theorem exp_num {lets shs m n e} (h0 : e.op = 0) : ExpX lets shs m n e (fun c => if 2000 < c.length then c else putC c ⟨0, e.n, []⟩) := by
  intro c q nx hm hq hmq hl
  have hne := nef hm
  have hne2 := nef hq
  have hm1 : m < nx + 1 := by omega
  simp only
  by_cases hg : 2000 < c.length
  · rw [if_pos hg]; exact exp_over lets shs m n e c q nx hm hq hmq hg
  rw [if_neg hg]
  have hp := pure_insR (putC c ⟨0, e.n, []⟩)
  have a1 := put_x lets shs c ⟨0, e.n, []⟩ m q (nx + 1) (by omega) (by omega) hmq (by omega)
  generalize putC c ⟨0, e.n, []⟩ = c1 at *
  simp only [eagg]
  (refine RetX.of_bodyW Try.func19 rfl (by simp) fun Γ hn hpan => ?_); simp only [entry, List.zipIdx_cons, List.zipIdx_nil, List.map_cons, List.map_nil, Nat.zero_add, Try.ntmps19]
  repeat' (first
    | (refine H_cons ?_; simp [hne, hne2, hmq, Ne.symm hmq, Nat.add_assoc, del, hg, h0, cOb])
    | (refine H_nil ?_; simp [hne, hne2, hmq, Ne.symm hmq, Nat.add_assoc, del, hg, h0, cOb])
    | (refine ⟨by omega, ?_⟩)
    | (refine V_sseq ?_; simp [hne, hne2, hmq, Ne.symm hmq, Nat.add_assoc, del, hg, h0, cOb])
    | (refine V_scond ?_; simp [hne, hne2, hmq, Ne.symm hmq, Nat.add_assoc, del, hg, h0, cOb])
    | (refine V_sblock ?_; simp [hne, hne2, hmq, Ne.symm hmq, Nat.add_assoc, del, hg, h0, cOb])
    | (refine V_sregion ?_; simp [hne, hne2, hmq, Ne.symm hmq, Nat.add_assoc, del, hg, h0, cOb])
    | (refine V_skip ?_; simp only [RunK])
    | (intro hc <;> (try (exfalso; omega)))
    | (refine CallP.okL (a1) (by first | (simp [hne, hne2, hmq, Ne.symm hmq, Nat.add_assoc, del, hg, h0, cOb, getK_cons, getK, getK_append, getK_del, getK_setOb, applyW, del]; done) | fail) (by rfl) (by first | assumption | (simp; done) | fail) (by rfl) (by simp) ?_; (try simp [hne, hne2, hmq, Ne.symm hmq, Nat.add_assoc, del, hg, h0, cOb, delL, del]))
    | fail)
  refine EndW.wk { n := _, env := [], obs := [(m, cOb lets shs nx c1), (nx, kOb c1)], next := nx + 1 } (Wk.ren ((fun i => if i = nx then nx + 1 else i)) rfl (by first | (simp [hn]; done) | (intro i hi; rw [hn] at hi; constructor <;> (try simp) <;> (try (intro _)) <;> omega)) (by simp [wkER, St.lp, keepE, getK_cons, getK, getK_del, getK_setOb, D.under, D.le, D.ren, hne, hne2, hmq, Ne.symm hmq, hm1, hp, cOb, kOb, letsU] <;> (try (intros; simp_all; done)) <;> (try omega)) (by simp [wkR, St.lp, getK_cons, getK, getK_del, getK_setOb, obR, leU, pureRow, pureRows, Ob.under, D.under, D.le, D.ren, hne, hne2, hmq, Ne.symm hmq, hm1, hp, cOb, kOb, letsU] <;> (try (intros; simp_all; done)) <;> (try omega)) (by simp [hne, hne2, hmq, Ne.symm hmq, hm1, hp, cOb, kOb, letsU])) ?_
  (refine EndW.here ?_; (first | (refine EndOK.fin (.inr rfl) ?_) | (refine EndOK.fin (.inl rfl) ?_)); simp [resD, oneOrTup, Try.results19]; refine FinOK.here (by simp) ?_; try simp)
theorem exp_name (lets : List Let) (shs : List Bool) (m n : Nat) (e : Exp) (h0 : e.op = 1) (hn' : n ≤ lets.length) (hn2 : n ≤ 1000) (hB : ∀ i l, i < n → lets[i]? = some l → ∃ F, ExpX lets shs m i l.body F ∧ F = genT (nmC lets (shF lets) i) (shF lets i) l.body) :
    ExpX lets shs m n e (fun c => if 2000 < c.length then c else nmC lets (shF lets) n e.s c) := by
  intro c q nx hm hq hmq hl
  have hne := nef hm
  have hne2 := nef hq
  have hm1 : m < nx + 1 := by omega
  simp only
  by_cases hg : 2000 < c.length
  · rw [if_pos hg]; exact exp_over lets shs m n e c q nx hm hq hmq hg
  rw [if_neg hg]
  have hlet := clet_fun lets (boolsU shs) (Vm.inss c) n e.s hn' hn2
  have e1 := allU2_insR c
  have e2 := insR_take c
  have e3 := insR_len c
  rw [nmC_last e.s hn']
  cases hi : lastI lets n e.s with
  | none =>
    simp only
    rw [hi] at hlet
    have hp := pure_insR (putC c ⟨1, 0, e.s⟩)
    have a1 := put_x lets shs c ⟨1, 0, e.s⟩ m q (nx + 1) (by omega) (by omega) hmq (by omega)
    generalize putC c ⟨1, 0, e.s⟩ = c1 at *
    simp only [ixO, boolsU, letsU, Vm.inss] at hlet a1 ⊢
    simp only [eagg]
    (refine RetX.of_bodyW Try.func19 rfl (by simp) fun Γ hn hpan => ?_); simp only [entry, List.zipIdx_cons, List.zipIdx_nil, List.map_cons, List.map_nil, Nat.zero_add, Try.ntmps19]
    repeat' (first
    | (refine H_cons ?_; simp [hne, hne2, hmq, Ne.symm hmq, Nat.add_assoc, del, hg, h0, cOb, kOb, boolsU, letsU, e1, e2, e3])
    | (refine H_nil ?_; simp [hne, hne2, hmq, Ne.symm hmq, Nat.add_assoc, del, hg, h0, cOb, kOb, boolsU, letsU, e1, e2, e3])
    | (refine ⟨by omega, ?_⟩)
    | (refine V_sseq ?_; simp [hne, hne2, hmq, Ne.symm hmq, Nat.add_assoc, del, hg, h0, cOb, kOb, boolsU, letsU, e1, e2, e3])
    | (refine V_scond ?_; simp [hne, hne2, hmq, Ne.symm hmq, Nat.add_assoc, del, hg, h0, cOb, kOb, boolsU, letsU, e1, e2, e3])
    | (refine V_sblock ?_; simp [hne, hne2, hmq, Ne.symm hmq, Nat.add_assoc, del, hg, h0, cOb, kOb, boolsU, letsU, e1, e2, e3])
    | (refine V_sregion ?_; simp [hne, hne2, hmq, Ne.symm hmq, Nat.add_assoc, del, hg, h0, cOb, kOb, boolsU, letsU, e1, e2, e3])
    | (refine V_skip ?_; simp only [RunK])
    | (intro hc <;> (try (exfalso; omega)))
    | (refine CallP.fun_ (hlet) (by first | rfl | fail) (by first | assumption | (simp; done) | fail) (by first | (simp [hne, hne2, hmq, Ne.symm hmq, Nat.add_assoc, del, hg, h0, cOb, kOb, boolsU, letsU, e1, e2, e3]; done) | (simp [hne, hne2, hmq, Ne.symm hmq, Nat.add_assoc, del, hg, h0, cOb, kOb, boolsU, letsU, e1, e2, e3]; rfl) | fail) (by first | (simp; done) | fail) (fun d hd => ?_); subst hd; (try simp [hne, hne2, hmq, Ne.symm hmq, Nat.add_assoc, del, hg, h0, cOb, kOb, boolsU, letsU, e1, e2, e3]))
    | (refine CallP.okL (a1) (by first | (simp [hne, hne2, hmq, Ne.symm hmq, Nat.add_assoc, del, hg, h0, cOb, kOb, boolsU, letsU, e1, e2, e3, getK_cons, getK, getK_append, getK_del, getK_setOb, applyW, del]; done) | fail) (by rfl) (by first | assumption | (simp; done) | fail) (by rfl) (by simp) ?_; (try simp [hne, hne2, hmq, Ne.symm hmq, Nat.add_assoc, del, hg, h0, cOb, kOb, boolsU, letsU, e1, e2, e3, delL, del]))
    | fail)
    refine EndW.wk { n := _, env := [], obs := [(m, cOb lets shs nx c1), (nx, kOb c1)], next := nx + 1 } (Wk.ren ((fun i => if i = nx then nx + 1 else i)) rfl (by first | (simp [hn]; done) | (intro i hi; rw [hn] at hi; constructor <;> (try simp) <;> (try (intro _)) <;> omega)) (by simp [wkER, St.lp, keepE, getK_cons, getK, getK_del, getK_setOb, D.under, D.le, D.ren, hne, hne2, hmq, Ne.symm hmq, hm1, hp, cOb, kOb, letsU, boolsU] <;> (try (intros; simp_all; done)) <;> (try omega)) (by simp [wkR, St.lp, getK_cons, getK, getK_del, getK_setOb, obR, leU, pureRow, pureRows, Ob.under, D.under, D.le, D.ren, hne, hne2, hmq, Ne.symm hmq, hm1, hp, cOb, kOb, letsU, boolsU] <;> (try (intros; simp_all; done)) <;> (try omega)) (by simp [hne, hne2, hmq, Ne.symm hmq, hm1, hp, cOb, kOb, letsU, boolsU])) ?_
    (refine EndW.here ?_; (first | (refine EndOK.fin (.inr rfl) ?_) | (refine EndOK.fin (.inl rfl) ?_)); simp [resD, oneOrTup, Try.results19]; refine FinOK.here (by simp) ?_; try simp)
    all_goals simp [letsU, boolsU]
  | some i =>
    obtain ⟨w1, l, w2, w3⟩ := lastI_some hi
    obtain ⟨F, hF, hFe⟩ := hB i l w1 w2
    simp only [w2]
    rw [← hFe]
    rw [hi] at hlet
    have hp := pure_insR (F c)
    have a1 := hF c q (nx + 1) (by omega) (by omega) hmq (by omega)
    generalize F c = c1 at *
    have hi0 : ¬ (i : Int) < 0 := by omega
    have hil : i < lets.length := by omega
    simp only [ixO, boolsU, letsU, Vm.inss] at hlet
    simp only [eagg, letsU, boolsU] at a1 ⊢
    (refine RetX.of_bodyW Try.func19 rfl (by simp) fun Γ hn hpan => ?_); simp only [entry, List.zipIdx_cons, List.zipIdx_nil, List.map_cons, List.map_nil, Nat.zero_add, Try.ntmps19]
    repeat' (first
    | (refine H_cons ?_; simp [hne, hne2, hmq, Ne.symm hmq, Nat.add_assoc, del, hg, h0, cOb, kOb, boolsU, letsU, e1, e2, e3, w2, hi0])
    | (refine H_nil ?_; simp [hne, hne2, hmq, Ne.symm hmq, Nat.add_assoc, del, hg, h0, cOb, kOb, boolsU, letsU, e1, e2, e3, w2, hi0])
    | (refine ⟨by omega, ?_⟩)
    | (refine V_sseq ?_; simp [hne, hne2, hmq, Ne.symm hmq, Nat.add_assoc, del, hg, h0, cOb, kOb, boolsU, letsU, e1, e2, e3, w2, hi0])
    | (refine V_scond ?_; simp [hne, hne2, hmq, Ne.symm hmq, Nat.add_assoc, del, hg, h0, cOb, kOb, boolsU, letsU, e1, e2, e3, w2, hi0])
    | (refine V_sblock ?_; simp [hne, hne2, hmq, Ne.symm hmq, Nat.add_assoc, del, hg, h0, cOb, kOb, boolsU, letsU, e1, e2, e3, w2, hi0])
    | (refine V_sregion ?_; simp [hne, hne2, hmq, Ne.symm hmq, Nat.add_assoc, del, hg, h0, cOb, kOb, boolsU, letsU, e1, e2, e3, w2, hi0])
    | (refine V_skip ?_; simp only [RunK])
    | (intro hc <;> (try (exfalso; omega)))
    | (refine CallP.fun_ (hlet) (by first | rfl | fail) (by first | assumption | (simp; done) | fail) (by first | (simp [hne, hne2, hmq, Ne.symm hmq, Nat.add_assoc, del, hg, h0, cOb, kOb, boolsU, letsU, e1, e2, e3, w2, hi0]; done) | (simp [hne, hne2, hmq, Ne.symm hmq, Nat.add_assoc, del, hg, h0, cOb, kOb, boolsU, letsU, e1, e2, e3, w2, hi0]; rfl) | fail) (by first | (simp; done) | fail) (fun d hd => ?_); subst hd; (try simp [hne, hne2, hmq, Ne.symm hmq, Nat.add_assoc, del, hg, h0, cOb, kOb, boolsU, letsU, e1, e2, e3, w2, hi0]))
    | (refine CallP.okL (a1) (by first | (simp [hne, hne2, hmq, Ne.symm hmq, Nat.add_assoc, del, hg, h0, cOb, kOb, boolsU, letsU, e1, e2, e3, w2, hi0, getK_cons, getK, getK_append, getK_del, getK_setOb, applyW, del]; done) | fail) (by rfl) (by first | assumption | (simp; done) | fail) (by rfl) (by simp) ?_; (try simp [hne, hne2, hmq, Ne.symm hmq, Nat.add_assoc, del, hg, h0, cOb, kOb, boolsU, letsU, e1, e2, e3, w2, hi0, delL, del]))
    | fail)
    refine EndW.wk { n := _, env := [], obs := [(m, cOb lets shs nx c1), (nx, kOb c1)], next := nx + 1 } (Wk.ren ((fun i => if i = nx then nx + 1 else i)) rfl (by first | (simp [hn]; done) | (intro i hi; rw [hn] at hi; constructor <;> (try simp) <;> (try (intro _)) <;> omega)) (by simp [wkER, St.lp, keepE, getK_cons, getK, getK_del, getK_setOb, D.under, D.le, D.ren, hne, hne2, hmq, Ne.symm hmq, hm1, hp, cOb, kOb, letsU, boolsU] <;> (try (intros; simp_all; done)) <;> (try omega)) (by simp [wkR, St.lp, getK_cons, getK, getK_del, getK_setOb, obR, leU, pureRow, pureRows, Ob.under, D.under, D.le, D.ren, hne, hne2, hmq, Ne.symm hmq, hm1, hp, cOb, kOb, letsU, boolsU] <;> (try (intros; simp_all; done)) <;> (try omega)) (by simp [hne, hne2, hmq, Ne.symm hmq, hm1, hp, cOb, kOb, letsU, boolsU])) ?_
    (refine EndW.here ?_; (first | (refine EndOK.fin (.inr rfl) ?_) | (refine EndOK.fin (.inl rfl) ?_)); simp [resD, oneOrTup, Try.results19]; refine FinOK.here (by simp) ?_; try simp)
    all_goals simp [letsU, boolsU]
theorem exp_choice {lets shs m n e F} (h0 : e.op = 10 ∨ e.op = 11 ∨ e.op = 13) (hF : ChoX lets shs m n e F) : ExpX lets shs m n e (fun c => if 2000 < c.length then c else F c) := by
  intro c q nx hm hq hmq hl
  have hne := nef hm
  have hne2 := nef hq
  have hm1 : m < nx + 1 := by omega
  simp only
  by_cases hg : 2000 < c.length
  · rw [if_pos hg]; exact exp_over lets shs m n e c q nx hm hq hmq hg
  rw [if_neg hg]
  have hp := pure_insR (F c)
  have a1 := hF c q (nx + 1) (by omega) (by omega) hmq (by omega)
  generalize F c = c1 at *
  simp only [eagg] at a1 ⊢
  rcases h0 with h0 | h0 | h0
  all_goals
    rw [h0] at a1
    (refine RetX.of_bodyW Try.func19 rfl (by simp) fun Γ hn hpan => ?_); simp only [entry, List.zipIdx_cons, List.zipIdx_nil, List.map_cons, List.map_nil, Nat.zero_add, Try.ntmps19]
    repeat' (first
    | (refine H_cons ?_; simp [hne, hne2, hmq, Ne.symm hmq, Nat.add_assoc, del, hg, h0, cOb])
    | (refine H_nil ?_; simp [hne, hne2, hmq, Ne.symm hmq, Nat.add_assoc, del, hg, h0, cOb])
    | (refine ⟨by omega, ?_⟩)
    | (refine V_sseq ?_; simp [hne, hne2, hmq, Ne.symm hmq, Nat.add_assoc, del, hg, h0, cOb])
    | (refine V_scond ?_; simp [hne, hne2, hmq, Ne.symm hmq, Nat.add_assoc, del, hg, h0, cOb])
    | (refine V_sblock ?_; simp [hne, hne2, hmq, Ne.symm hmq, Nat.add_assoc, del, hg, h0, cOb])
    | (refine V_sregion ?_; simp [hne, hne2, hmq, Ne.symm hmq, Nat.add_assoc, del, hg, h0, cOb])
    | (refine V_skip ?_; simp only [RunK])
    | (intro hc <;> (try (exfalso; omega)))
    | (refine CallP.okL (a1) (by first | (simp [hne, hne2, hmq, Ne.symm hmq, Nat.add_assoc, del, hg, h0, cOb, getK_cons, getK, getK_append, getK_del, getK_setOb, applyW, del]; done) | fail) (by rfl) (by first | assumption | (simp; done) | fail) (by rfl) (by simp) ?_; (try simp [hne, hne2, hmq, Ne.symm hmq, Nat.add_assoc, del, hg, h0, cOb, delL, del]))
    | fail)
    refine EndW.wk { n := _, env := [], obs := [(m, cOb lets shs nx c1), (nx, kOb c1)], next := nx + 1 } (Wk.ren ((fun i => if i = nx then nx + 1 else i)) rfl (by first | (simp [hn]; done) | (intro i hi; rw [hn] at hi; constructor <;> (try simp) <;> (try (intro _)) <;> omega)) (by simp [wkER, St.lp, keepE, getK_cons, getK, getK_del, getK_setOb, D.under, D.le, D.ren, hne, hne2, hmq, Ne.symm hmq, hm1, hp, cOb, kOb, letsU] <;> (try (intros; simp_all; done)) <;> (try omega)) (by simp [wkR, St.lp, getK_cons, getK, getK_del, getK_setOb, obR, leU, pureRow, pureRows, Ob.under, D.under, D.le, D.ren, hne, hne2, hmq, Ne.symm hmq, hm1, hp, cOb, kOb, letsU] <;> (try (intros; simp_all; done)) <;> (try omega)) (by simp [hne, hne2, hmq, Ne.symm hmq, hm1, hp, cOb, kOb, letsU])) ?_
    (refine EndW.here ?_; (first | (refine EndOK.fin (.inr rfl) ?_) | (refine EndOK.fin (.inl rfl) ?_)); simp [resD, oneOrTup, Try.results19]; refine FinOK.here (by simp) ?_; try simp)
theorem genA_snoc {nm sh} {x : Exp} : ∀ {l : List Exp} {i : Nat} (c : Code), l[i]? = some x → genA nm sh (l.take (i + 1)) c = genT nm sh x (genA nm sh (l.take i) c)
  | [], _, _, h => by simp at h
  | a :: l, 0, c, h => by simp at h; subst h; simp [genA]
  | a :: l, i + 1, c, h => by
    rw [List.take_succ_cons, List.take_succ_cons, genA, genA]
    exact genA_snoc (l := l) _ (by simpa using h)
theorem exp_plain (lets : List Let) (m n d : Nat) (e : Exp) (ho : 2 ≤ e.op ∧ e.op ≤ 9 ∨ e.op = 12) (hn' : n ≤ lets.length) (hn2 : n ≤ 1000) (hr : ∀ l ∈ lets, rightB 12 l.body = true) (hll : lets.length ≤ 20) (he : rightB (d + 1) e = true) (hd : d ≤ 11)
    (hE : ∀ x ∈ e.args, ExpX lets (shsL lets lets.length) m n x (genT (nmC lets (shF lets) n) (shF lets n) x)) :
    ExpX lets (shsL lets lets.length) m n e (fun c => if 2000 < c.length then c else putC (genA (nmC lets (shF lets) n) (shF lets n) e.args c) ⟨plainOp (shF lets n) e.op e.args, 0, []⟩) := by
  intro c q nx hm hq hmq hl
  have hne := nef hm
  have hne2 := nef hq
  have hm1 : m < nx + 1 := by omega
  simp only
  by_cases hg : 2000 < c.length
  · rw [if_pos hg]; exact exp_over lets _ m n e c q nx hm hq hmq hg
  rw [if_neg hg]
  have hlen3 : e.args.length ≤ 3 := by
    have h1 := (right_args he).1
    unfold operandsI at h1
    repeat' split at h1
    all_goals omega
  have hpl := fun z => plain_fun lets (shsL lets lets.length) z n hn' (by rw [shsL_len (Nat.le_refl _)]; exact hn') hn2 d e he ho
  rw [plainOp_eq hr hll hn' (Nat.le_refl _) he hd (by omega) (by omega)] at hpl
  have hcap : ∀ i, (genA (nmC lets (shF lets) n) (shF lets n) (e.args.take i) c).length ≤ 2001 := fun i => genA_cap (nmC_cap n) _ c hl
  have hall : genA (nmC lets (shF lets) n) (shF lets n) (e.args.take e.args.length) c = genA (nmC lets (shF lets) n) (shF lets n) e.args c := by rw [List.take_length]
  have hz : genA (nmC lets (shF lets) n) (shF lets n) (e.args.take 0) c = c := by rw [List.take_zero, genA]
  have hsn : ∀ i x, e.args[i]? = some x → genA (nmC lets (shF lets) n) (shF lets n) (e.args.take (i + 1)) c = genT (nmC lets (shF lets) n) (shF lets n) x (genA (nmC lets (shF lets) n) (shF lets n) (e.args.take i) c) := fun i x h => genA_snoc c h
  rw [← hall]
  generalize plainOp (shF lets n) e.op e.args = po at *
  generalize hCi : (fun i => genA (nmC lets (shF lets) n) (shF lets n) (e.args.take i) c) = Ci at *
  have hCi' : ∀ i, genA (nmC lets (shF lets) n) (shF lets n) (e.args.take i) c = Ci i := fun i => by rw [← hCi]
  simp only [hCi'] at hcap hsn hz ⊢
  generalize shsL lets lets.length = shs at *
  have hp := pure_insR (putC (Ci e.args.length) ⟨po, 0, []⟩)
  have hmb : m < nx + 1 + 1 := by omega
  have hop0 : ¬ e.op = 0 ∧ ¬ e.op = 1 ∧ ¬ e.op = 10 ∧ ¬ e.op = 11 ∧ ¬ e.op = 13 := by omega
  obtain ⟨o1, o2, o3, o4, o5⟩ := hop0
  simp only [eagg, letsU, boolsU] at hpl ⊢
  (refine RetX.of_bodyW Try.func19 rfl (by simp) fun Γ hn hpan => ?_); simp only [entry, List.zipIdx_cons, List.zipIdx_nil, List.map_cons, List.map_nil, Nat.zero_add, Try.ntmps19]
  repeat' (first
    | (refine H_cons ?_; simp [hne, hne2, hmq, Ne.symm hmq, Nat.add_assoc, del, hg, cOb, o1, o2, o3, o4, o5])
    | (refine H_nil ?_; simp [hne, hne2, hmq, Ne.symm hmq, Nat.add_assoc, del, hg, cOb, o1, o2, o3, o4, o5])
    | (refine ⟨by omega, ?_⟩)
    | (refine V_sseq ?_; simp [hne, hne2, hmq, Ne.symm hmq, Nat.add_assoc, del, hg, cOb, o1, o2, o3, o4, o5])
    | (refine V_scond ?_; simp [hne, hne2, hmq, Ne.symm hmq, Nat.add_assoc, del, hg, cOb, o1, o2, o3, o4, o5])
    | (refine V_sblock ?_; simp [hne, hne2, hmq, Ne.symm hmq, Nat.add_assoc, del, hg, cOb, o1, o2, o3, o4, o5])
    | (refine V_sregion ?_; simp [hne, hne2, hmq, Ne.symm hmq, Nat.add_assoc, del, hg, cOb, o1, o2, o3, o4, o5])
    | (refine V_skip ?_; simp only [RunK])
    | (intro hc <;> (try (exfalso; omega)))
    | fail)
  refine V_loopO (α := { i : Nat // i ≤ e.args.length }) [0, 1, 5, 18, 19] (fun i => [(20, .u (.int .i64 i.1))])
    (fun i => [(nx, .box [.u (.int .i64 e.op), .u (.int .i64 e.n), .u (.int .i64 e.unit), .u (.str e.s), .u (.sl (e.args.map Exp.row))]), (m, cOb lets shs (nx + 1) (Ci i.1)), (nx + 1, kOb (Ci i.1))]) (nx + 2) (fun i => e.args.length - i.1) ⟨0, by omega⟩ ?_ ?_
  · have hp0 := pure_insR (Ci 0)
    rw [hz] at hp0
    simp only [hz]
    exact (Wk.ren ((fun i => if i = nx + 1 then q else i)) rfl (by first | (simp [hn]; done) | (intro i hi; rw [hn] at hi; constructor <;> (try simp) <;> (try (intro _)) <;> omega)) (by simp [wkER, St.lp, keepE, getK_cons, getK, getK_del, getK_setOb, D.under, D.le, D.ren, hne, hne2, hmq, Ne.symm hmq, hmb, hp0, cOb, kOb, letsU, boolsU] <;> (try (intros; simp_all; done)) <;> (try omega)) (by simp [wkR, St.lp, getK_cons, getK, getK_del, getK_setOb, obR, leU, pureRow, pureRows, Ob.under, D.under, D.le, D.ren, hne, hne2, hmq, Ne.symm hmq, hmb, hp0, cOb, kOb, letsU, boolsU] <;> (try (intros; simp_all; done)) <;> (try omega)) (by simp [hne, hne2, hmq, Ne.symm hmq, hmb, hp0, cOb, kOb, letsU, boolsU]))
  rintro ⟨i, hi⟩
  simp [St.lp, St.only, keepE, getK_cons, getK]
  by_cases hil : i < e.args.length
  · have hx : e.args[i]? = some e.args[i] := List.getElem?_eq_getElem hil
    have hmem := List.mem_of_getElem? hx
    have hs1 := hsn i _ hx
    have a1 := hE _ hmem (Ci i) (nx + 1) (nx + 3) (by omega) (by omega) (by omega) (hcap i)
    rw [← hs1] at a1
    have hp1 := pure_insR (Ci (i + 1))
    generalize e.args[i] = x at *
    have hxr := x.row_eq
    simp only [eagg] at a1
    repeat' (first
    | (refine H_cons ?_; simp [hne, hne2, hmq, Ne.symm hmq, Nat.add_assoc, del, cOb, hx, hxr])
    | (refine H_nil ?_; simp [hne, hne2, hmq, Ne.symm hmq, Nat.add_assoc, del, cOb, hx, hxr])
    | (refine ⟨by omega, ?_⟩)
    | (refine V_sseq ?_; simp [hne, hne2, hmq, Ne.symm hmq, Nat.add_assoc, del, cOb, hx, hxr])
    | (refine V_sregion ?_; simp [hne, hne2, hmq, Ne.symm hmq, Nat.add_assoc, del, cOb, hx, hxr])
    | (refine V_skip ?_; simp only [RunK])
    | (refine ⟨?_, by omega⟩)
    | (intro hc <;> (try (exfalso; omega)))
    | (refine CallP.okL (a1) (by first | (simp [hne, hne2, hmq, Ne.symm hmq, Nat.add_assoc, del, cOb, hx, hxr, getK_cons, getK, getK_append, getK_del, getK_setOb, applyW, del]; done) | fail) (by rfl) (by first | assumption | (simp; done) | fail) (by rfl) (by simp) ?_; (try simp [hne, hne2, hmq, Ne.symm hmq, Nat.add_assoc, del, cOb, hx, hxr, delL, del]))
    | fail)
    refine LoopW.next ⟨i + 1, by omega⟩ (by simp; omega) ?_
    exact (Wk.ren ((fun i => if i = nx + 1 then nx + 3 else i)) rfl (by first | (simp [hn]; done) | (intro i hi; rw [hn] at hi; constructor <;> (try simp) <;> (try (intro _)) <;> omega)) (by simp [wkER, St.lp, keepE, getK_cons, getK, getK_del, getK_setOb, D.under, D.le, D.ren, hne, hne2, hmq, Ne.symm hmq, hmb, hp1, cOb, kOb, letsU, boolsU] <;> (try (intros; simp_all; done)) <;> (try omega)) (by simp [wkR, St.lp, getK_cons, getK, getK_del, getK_setOb, obR, leU, pureRow, pureRows, Ob.under, D.under, D.le, D.ren, hne, hne2, hmq, Ne.symm hmq, hmb, hp1, cOb, kOb, letsU, boolsU] <;> (try (intros; simp_all; done)) <;> (try omega)) (by simp [hne, hne2, hmq, Ne.symm hmq, hmb, hp1, cOb, kOb, letsU, boolsU]))
  obtain rfl : i = e.args.length := by omega
  have e1 := allU2_insR (Ci e.args.length)
  have e2 := insR_take (Ci e.args.length)
  have e3 := insR_len (Ci e.args.length)
  have h5 := hpl (Vm.inss (Ci e.args.length))
  have a2 := put_x lets shs (Ci e.args.length) ⟨po, 0, []⟩ m (nx + 1) (nx + 2) (by omega) (by omega) (by omega) (by have := hcap e.args.length; omega)
  generalize putC (Ci e.args.length) ⟨po, 0, []⟩ = c2 at *
  generalize Ci e.args.length = c1 at *
  simp only [Vm.inss, letsU, boolsU] at h5 a2
  repeat' (first
    | (refine H_cons ?_; simp [hne, hne2, hmq, Ne.symm hmq, Nat.add_assoc, del, cOb, kOb, letsU, boolsU, e1, e2, e3])
    | (refine H_nil ?_; simp [hne, hne2, hmq, Ne.symm hmq, Nat.add_assoc, del, cOb, kOb, letsU, boolsU, e1, e2, e3])
    | (refine V_sseq ?_; simp [hne, hne2, hmq, Ne.symm hmq, Nat.add_assoc, del, cOb, kOb, letsU, boolsU, e1, e2, e3])
    | (refine V_sregion ?_; simp [hne, hne2, hmq, Ne.symm hmq, Nat.add_assoc, del, cOb, kOb, letsU, boolsU, e1, e2, e3])
    | (refine V_exit ?_; simp [RunK])
    | (refine CallP.fun_ (h5) (by first | rfl | fail) (by first | assumption | (simp; done) | fail) (by first | (simp [hne, hne2, hmq, Ne.symm hmq, Nat.add_assoc, del, cOb, kOb, letsU, boolsU, e1, e2, e3]; done) | (simp [hne, hne2, hmq, Ne.symm hmq, Nat.add_assoc, del, cOb, kOb, letsU, boolsU, e1, e2, e3]; rfl) | fail) (by first | (simp; done) | fail) (fun d hd => ?_); subst hd; (try simp [hne, hne2, hmq, Ne.symm hmq, Nat.add_assoc, del, cOb, kOb, letsU, boolsU, e1, e2, e3]))
    | (refine CallP.okL (a2) (by first | (simp [hne, hne2, hmq, Ne.symm hmq, Nat.add_assoc, del, cOb, kOb, letsU, boolsU, e1, e2, e3, getK_cons, getK, getK_append, getK_del, getK_setOb, applyW, del]; done) | fail) (by rfl) (by first | assumption | (simp; done) | fail) (by rfl) (by simp) ?_; (try simp [hne, hne2, hmq, Ne.symm hmq, Nat.add_assoc, del, cOb, kOb, letsU, boolsU, e1, e2, e3, delL, del]))
    | fail)
  refine EndW.wk { n := _, env := [], obs := [(m, cOb lets shs nx c2), (nx, kOb c2)], next := nx + 1 } (Wk.ren ((fun i => if i = nx then nx + 2 else i)) rfl (by first | (simp [hn]; done) | (intro i hi; rw [hn] at hi; constructor <;> (try simp) <;> (try (intro _)) <;> omega)) (by simp [wkER, St.lp, keepE, getK_cons, getK, getK_del, getK_setOb, D.under, D.le, D.ren, hne, hne2, hmq, Ne.symm hmq, hm1, hp, cOb, kOb, letsU, boolsU] <;> (try (intros; simp_all; done)) <;> (try omega)) (by simp [wkR, St.lp, getK_cons, getK, getK_del, getK_setOb, obR, leU, pureRow, pureRows, Ob.under, D.under, D.le, D.ren, hne, hne2, hmq, Ne.symm hmq, hm1, hp, cOb, kOb, letsU, boolsU] <;> (try (intros; simp_all; done)) <;> (try omega)) (by simp [hne, hne2, hmq, Ne.symm hmq, hm1, hp, cOb, kOb, letsU, boolsU])) ?_
  (refine EndW.here ?_; (first | (refine EndOK.fin (.inr rfl) ?_) | (refine EndOK.fin (.inl rfl) ?_)); simp [resD, oneOrTup, Try.results19]; refine FinOK.here (by simp) ?_; try simp)
  all_goals simp [letsU, boolsU]
end Go.Proofs.Ytmoohdpnmkkgpaa
namespace Go.Proofs.Ytmoohdpnmkkgpaa
open Go Go.VL
theorem ExpX.cast {lets shs m n e F F'} (h : ExpX lets shs m n e F) (e' : F = F') : ExpX lets shs m n e F' := e' ▸ h
theorem exp_all {lets : List Let} (hr : ∀ l ∈ lets, rightB 12 l.body = true) (hll : lets.length ≤ 20) (m : Nat) : ∀ (n : Nat), n ≤ lets.length → ∀ (d : Nat), d ≤ 12 → ∀ e : Exp, rightB d e = true →
    ExpX lets (shsL lets lets.length) m n e (genT (nmC lets (shF lets) n) (shF lets n) e) := by
  intro n
  induction n using Nat.strongRecOn with
  | ind n ihn =>
  intro hn d
  induction d with
  | zero => intro _ e he; simp [rightB] at he
  | succ d ih =>
    intro hd e he
    obtain ⟨h1, h2, h3, h4⟩ := right_args he
    have hcap := fun x => genT_cap (sh := shF lets n) (nmC_cap (lets := lets) (sh := shF lets) n) x
    have hpre := fun x => genT_pre (sh := shF lets n) (nmC_pre (lets := lets) (sh := shF lets) n) x
    by_cases h0 : e.op = 0
    · refine (exp_num h0).cast (funext fun c => ?_)
      rw [genT_eq, if_pos h0]
    by_cases hnm : e.op = 1
    · refine (exp_name lets _ m n e hnm hn (by omega) fun i l hi hl => ⟨_, ihn i hi (by omega) 12 (by omega) l.body (hr l (List.mem_of_getElem? hl)), rfl⟩).cast (funext fun c => ?_)
      rw [genT_eq, if_neg h0, if_pos hnm]
    have hargs := h4 h0 hnm
    have hE : ∀ x ∈ e.args, ExpX lets (shsL lets lets.length) m n x (genT (nmC lets (shF lets) n) (shF lets n) x) := fun x hx => ih (by omega) x (hargs x hx)
    by_cases hA : e.op = 10
    · obtain ⟨a, b, hab⟩ : ∃ a b, e.args = [a, b] := by
        have hl : e.args.length = 2 := by rw [hA] at h1; simp [operandsI] at h1; omega
        match hq : e.args, hl with
        | [a, b], _ => exact ⟨a, b, rfl⟩
      refine (exp_choice (.inl hA) (choice_and hA hab (hE a (by simp [hab])) (hcap a) (hpre a) (hE b (by simp [hab])) (hcap b) (hpre b))).cast (funext fun c => ?_)
      rw [genT_eq, if_neg h0, if_neg hnm, if_pos hA, hab, genN_at (i := 0) (e := a) rfl, genN_at (i := 1) (e := b) rfl]
    by_cases hO : e.op = 11
    · obtain ⟨a, b, hab⟩ : ∃ a b, e.args = [a, b] := by
        have hl : e.args.length = 2 := by rw [hO] at h1; simp [operandsI] at h1; omega
        match hq : e.args, hl with
        | [a, b], _ => exact ⟨a, b, rfl⟩
      refine (exp_choice (.inr (.inl hO)) (choice_or hO hab (hE a (by simp [hab])) (hcap a) (hpre a) (hE b (by simp [hab])) (hcap b) (hpre b))).cast (funext fun c => ?_)
      rw [genT_eq, if_neg h0, if_neg hnm, if_neg hA, if_pos hO, hab, genN_at (i := 0) (e := a) rfl, genN_at (i := 1) (e := b) rfl]
    by_cases hI : e.op = 13
    · obtain ⟨a, b, z, hab⟩ : ∃ a b z, e.args = [a, b, z] := by
        have hl : e.args.length = 3 := by rw [hI] at h1; simp [operandsI] at h1; omega
        match hq : e.args, hl with
        | [a, b, z], _ => exact ⟨a, b, z, rfl⟩
      refine (exp_choice (.inr (.inr hI)) (choice_if hI hab (hE a (by simp [hab])) (hcap a) (hpre a) (hE b (by simp [hab])) (hcap b) (hpre b) (hE z (by simp [hab])) (hcap z) (hpre z))).cast (funext fun c => ?_)
      rw [genT_eq, if_neg h0, if_neg hnm, if_neg hA, if_neg hO, if_pos hI, hab, genN_at (i := 0) (e := a) rfl, genN_at (i := 1) (e := b) rfl, genN_at (i := 2) (e := z) rfl]
    refine (exp_plain lets m n d e (by omega) hn (by omega) hr hll he (by omega) hE).cast (funext fun c => ?_)
    rw [genT_eq, if_neg h0, if_neg hnm, if_neg hA, if_neg hO, if_neg hI]
abbrev boolR' (l : List Bool) : List (List D) := l.map fun b => [.u (.bool b)]
theorem allU2_boolR (l : List Bool) : allU2 (boolR' l) = some (l.map fun b => [.bool b]) := by
  have : boolR' l = (l.map fun b => [U.bool b]).map (·.map D.u) := by simp [boolR']
  rw [this, allU2_map]
theorem boolR_take (l : List Bool) : (boolR' l).take l.length = boolR' l := by have : (boolR' l).length = l.length := by simp [boolR']
                                                                               rw [← this, List.take_length]
theorem pure_boolR' (l : List Bool) : pureRows (boolR' l) := by
  induction l with
  | nil => simp [boolR', pureRows]
  | cons a l ih => simp only [boolR'] at ih; simp [boolR', pureRows, pureRow, ih]
theorem boolR_lenR (l : List Bool) : lenR 1 (boolR' l) := by intro r hr; obtain ⟨i, _, rfl⟩ := List.mem_map.1 hr; rfl
attribute [local simp] HS hcons hstep evPure opd uOf putOK St.put St.at getK binD binI binS binB nilD aggD eqUs cmpK lookD lookR rangeD Go.VL.nextD entryD keyD valU keyU lookK mkV entD_nil lookK_entD updK_entD1 updK_entD3 allUE allUE_entD makeMapD mapUpdD mapEff updK valM Key.kk shiftI arith unD convD pickD loadD cellsAt fieldAddrD fieldD indexAddrD indexD sliceD cutD lenD minmaxD nilCheckD buildD fillD cellsD isOne ones setAll mkAgg allU allocD boxD storeD St.add buildSliceD appendD rowsOf makeD setOb getK_setOb getK_del getK_cons stripL strip guardTmp entry chunks zcells valD argsV argsW argW argU1 argU0 argsU0 argsU1 calleeOf scalarD scalarU delAll effD St.effS RK_seq RK_seq_ret RK_seq_exit RK_blk RK_blk_ret RK_blk_exit RK_loop RK_loop_ret RK_loop_exit RK_done vs_seq vs_block vs_cond vs_region vs_loop vs_draw applyW mkD rdIds lentIds callOf calleeOf freeOp D.ids Op.operands Call.operands isEffOp makeIfD typeAssertD conc concs conc1 uOfV panicD IntKind.bits allU2 List.take_of_length_le List.range_succ
attribute [local irreducible] V G H HD HD2 HD4 HD4h RetX RunK Eff CallP CallV EndOK Fun Ret FinOK LoopI LoopW EndW
theorem bad_fun (l : Let) : Fun Try.prog 16 (lagg l :: [].map .u) (· = .u (.bool (!rightB 12 l.body))) := by
  have h1 := rightExp_fun l.body
  simp only [lagg, List.map_nil, eagg] at h1 ⊢
  (refine Fun.of_body Try.func16 rfl (by simp) fun Γ hn => ?_); simp only [entry, List.zipIdx_cons, List.zipIdx_nil, List.map_cons, List.map_nil, Nat.zero_add, Try.ntmps16]
  repeat' (first
    | (refine H_cons ?_; simp)
    | (refine H_nil ?_; simp)
    | (refine V_sseq ?_; simp)
    | (refine V_ret ?_; simp only [RunK])
    | (refine CallP.fun_ (h1) (by first | rfl | fail) (by first | assumption | (simp; done) | fail) (by first | (simp; done) | (simp; rfl) | fail) (by first | (simp; done) | fail) (fun d hd => ?_); subst hd; (try simp))
    | fail)
  (refine EndOK.val (.inr rfl) ?_; simp [resD, oneOrTup, pureD, Try.results16])
theorem compile_fun (lets : List Let) (e : Exp) : Fun Try.prog 9 [.u (letsU lets), eagg e] (· = .tup [.u (Vm.inss (compP lets e).1), .u (.int .i64 (compP lets e).2)]) := by
  have h1 := rightExp_fun e
  have h2 := containsL_fun lets 16 [] _ (fun x _ => bad_fun x) (by simp) (fun _ => rfl) (fun _ => rfl)
  simp only [List.map_nil, letsU, eagg] at h1 h2
  by_cases hra : rightAll lets e = true
  case neg =>
    have hcp : compP lets e = ([], 1) := by unfold compP; rw [if_neg hra]
    rw [hcp]
    unfold rightAll at hra
    generalize rightB 12 e = x1 at *
    generalize (lets.any fun l => !rightB 12 l.body) = x2 at *
    simp only [letsU, eagg, Vm.inss]
    (refine Fun.of_bodyW Try.func9 rfl (by simp) fun Γ hn => ?_); simp only [entry, List.zipIdx_cons, List.zipIdx_nil, List.map_cons, List.map_nil, Nat.zero_add, Try.ntmps9]
    repeat' (first
    | (refine H_cons ?_; simp)
    | (refine H_nil ?_; simp)
    | (refine V_sseq ?_; simp)
    | (refine V_scond ?_; simp)
    | (refine V_sblock ?_; simp)
    | (refine V_ret ?_; simp only [RunK])
    | (refine V_skip ?_; simp only [RunK])
    | (refine ⟨fun hc => ?_, fun hc => ?_⟩ <;> (try (exfalso; omega)))
    | (refine CallP.fun_ (h1) (by first | rfl | fail) (by first | assumption | (simp; done) | fail) (by first | (simp; done) | (simp; rfl) | fail) (by first | (simp; done) | fail) (fun d hd => ?_); subst hd; (try simp))
    | (refine CallP.fun_ (h2) (by first | rfl | fail) (by first | assumption | (simp; done) | fail) (by first | (simp; done) | (simp; rfl) | fail) (by first | (simp; done) | fail) (fun d hd => ?_); subst hd; (try simp))
    | fail)
    all_goals first
      | (refine EndW.norm (EndW.here ?_); (refine EndOK.val (.inr rfl) ?_; simp [resD, oneOrTup, pureD, Try.results9, frz_obs, frz_env, norm_obs, norm_env, frz, frzOb, frzS, fv, fzVec, fzMap, fzBox, frzObS, frz_entD, frz_rowsD, normD, normU, norm1, normOb]); done)
      | (exfalso; apply hra; simp_all; done)
      | (exfalso; apply hra; simp_all; omega)
  obtain ⟨r1, r2, r3⟩ := rights_out hra
  have r4 : (lets.any fun l => !rightB 12 l.body) = false := by
    rw [List.any_eq_false]
    intro l hl
    simp [r3 l hl]
  rw [r2] at h1
  rw [r4] at h2
  have r1' : ¬ (20 : Int) < lets.length := by omega
  have hL := shsL_len (lets := lets) (n := lets.length) (Nat.le_refl _)
  have a1 := exp_all r3 r1 1 lets.length (Nat.le_refl _) 12 (by omega) e r2 [] 3 4 (by omega) (by omega) (by omega) (by simp)
  have hcl : compP lets e = if 2000 ≤ (compL lets e).length then ([], 6) else (compL lets e ++ [⟨14, 0, []⟩], 0) := by unfold compP; rw [if_pos hra]
  rw [hcl]
  have hcc : genT (nmC lets (shF lets) lets.length) (shF lets lets.length) e [] = compL lets e := rfl
  have hcap : (compL lets e).length ≤ 2001 := genT_cap (nmC_cap lets.length) e [] (by simp)
  rw [hcc] at a1
  generalize compL lets e = L at *
  have a2 := full_fun (letsU lets) (boolsU (shsL lets lets.length)) L
  have e1 := allU2_insR L
  have e2 := insR_take L
  have e3 := insR_len L
  have a3 := put_x lets (shsL lets lets.length) L ⟨14, 0, []⟩ 1 4 5 (by omega) (by omega) (by omega) (by omega)
  have htk : List.take lets.length ((shsL lets lets.length).map fun b => [U.bool b]) = (shsL lets lets.length).map fun b => [U.bool b] := by
    exact List.take_of_length_le (by simp [hL])
  have hpL : putC L ⟨14, 0, []⟩ = if 2000 ≤ L.length then putC L ⟨14, 0, []⟩ else L ++ [⟨14, 0, []⟩] := by
    split
    · rfl
    · unfold putC; rw [if_pos (by omega)]
  by_cases hf : 2000 ≤ L.length
  · rw [if_pos hf]
    have hf2 : (decide (2000 ≤ L.length)) = true := by simpa using hf
    rw [hf2] at a2
    simp only [letsU, eagg, Vm.inss, boolsU] at a1 a2 ⊢
    (refine Fun.of_bodyW Try.func9 rfl (by simp) fun Γ hn => ?_); simp only [entry, List.zipIdx_cons, List.zipIdx_nil, List.map_cons, List.map_nil, Nat.zero_add, Try.ntmps9]
    repeat' (first
    | (refine H_cons ?_; simp [r1'])
    | (refine H_nil ?_; simp [r1'])
    | (refine V_sseq ?_; simp [r1'])
    | (refine V_scond ?_; simp [r1'])
    | (refine V_sblock ?_; simp [r1'])
    | (refine V_skip ?_; simp only [RunK])
    | (refine CallP.fun_ (h1) (by first | rfl | fail) (by first | assumption | (simp; done) | fail) (by first | (simp [r1']; done) | (simp [r1']; rfl) | fail) (by first | (simp; done) | fail) (fun d hd => ?_); subst hd; (try simp [r1']))
    | (refine CallP.fun_ (h2) (by first | rfl | fail) (by first | assumption | (simp; done) | fail) (by first | (simp [r1']; done) | (simp [r1']; rfl) | fail) (by first | (simp; done) | fail) (fun d hd => ?_); subst hd; (try simp [r1']))
    | fail)
    refine V_wk _ (Wk.ownC 1 _ 1 4 1 (by decide) rfl rfl) ?_
    simp [St.ownC]
    refine V_wk _ (Wk.ownC 1 _ 2 45 3 (by decide) rfl rfl) ?_
    simp [St.ownC]
    refine V_loopO (α := { i : Nat // i ≤ lets.length }) [0, 3, 7, 26, 27] (fun i => [(28, .u (.int .i64 i.1))])
      (fun i => [(0, .box [.u (.int .i64 e.op), .u (.int .i64 e.n), .u (.int .i64 e.unit), .u (.str e.s), .u (.sl (e.args.map Exp.row))]), (1, .box [.u (.sl (lets.map fun l => [.str l.name, .int .i64 l.body.op, .int .i64 l.body.n, .int .i64 l.body.unit, .str l.body.s, .sl (l.body.args.map Exp.row)])), .vec 2 i.1, .vec 3 0]), (2, .vec 4 1 (boolR' (shsL lets i.1))), (3, kOb [])]) 4 (fun i => lets.length - i.1) ⟨0, by omega⟩ ?_ ?_
    · exact (Wk.cut rfl (by simp [hn, St.lp]) (by simp [wkO, St.lp, getK_cons, getK, Ob.under, D.under, under_rowsD, under_entD, shsL, boolR', kOb, insR]) (by simp [wkU, St.lp, keepE, getK_cons, getK, D.under, shsL, boolR', kOb, insR]) (by simp [wkE, St.lp, keepE, getK_cons, getK, shsL, boolR', kOb, insR] <;> (try (intros; simp_all; done)) <;> (try (intros; omega)) <;> (try grind)))
    rintro ⟨i, hi⟩
    simp [St.lp, St.only, keepE, getK_cons, getK]
    by_cases hil : i < lets.length
    case pos =>
      have hx : lets[i]? = some lets[i] := List.getElem?_eq_getElem hil
      have hsl := shsL_len (lets := lets) (n := i) (by omega)
      have h5 := share_fun' lets (shsL lets i) (.sl []) i (by omega) (by omega) (by omega) 12 _ (r3 _ (List.mem_of_getElem? hx))
      have hsucc : shsL lets (i + 1) = shsL lets i ++ [shareS (nmS lets (shsL lets i) i) (lets[i]).body] := by
        rw [shsL, hx]
        simp only
        rw [show nmS lets (shsL lets i) i = sF (mOf [] (lets.take i)) from funext fun s => nmS_eq (by omega) (Nat.le_refl _) s]
      have hp := pure_boolR' (shsL lets (i + 1))
      have hss : boolR' (shsL lets (i + 1)) = boolR' (shsL lets (i + 1)) := rfl
      conv at hss => rhs; rw [hsucc]
      rw [hsucc] at hp
      generalize shareS (nmS lets (shsL lets i) i) (lets[i]).body = b at *
      generalize lets[i] = l at *
      have hb1 := allU2_boolR (shsL lets i)
      have hb2 := boolR_take (shsL lets i)
      rw [hsl] at hb2
      have hb3 : (boolR' (shsL lets i)).length = i := by simp [boolR', hsl]
      have hb4 := boolR_lenR (shsL lets i)
      have hb5 : boolR' (shsL lets i ++ [b]) = boolR' (shsL lets i) ++ [[.u (.bool b)]] := by simp [boolR']
      rw [hb5] at hp hss
      clear hsucc hb5
      generalize boolR' (shsL lets i) = R at *
      simp only [eagg, letsU, boolsU] at h5
      repeat' (first
    | (refine H_cons ?_; simp [hx, hb1, hb2, hb3, hb4, kOb, insR])
    | (refine HD4_val rfl ?_; simp [hx, hb1, hb2, hb3, hb4, kOb, insR])
    | (refine HD4_chg rfl ?_; simp [hx, hb1, hb2, hb3, hb4, kOb, insR])
    | (refine H_nil ?_; simp [hx, hb1, hb2, hb3, hb4, kOb, insR])
    | (refine ⟨by omega, ?_⟩)
    | (refine V_sseq ?_; simp [hx, hb1, hb2, hb3, hb4, kOb, insR])
    | (refine HD4_nil (hC _ (by kernel_rfl)) (hk _ ?_); clear hC hk C k; simp only [RunK])
    | (refine V_drawX rfl (by kernel_rfl) (by first | (simp [hn]; done) | (simp [hn]; omega) | fail) fun C k hC hk => ?_; simp [hx, hb1, hb2, hb3, hb4, kOb, insR])
    | (refine V_sregion ?_; simp [hx, hb1, hb2, hb3, hb4, kOb, insR])
    | (refine V_skip ?_; simp only [RunK])
    | (refine ⟨?_, by omega⟩)
    | (intro hc <;> (try (exfalso; omega)))
    | (refine CallV.fun_ (h5) (by first | rfl | fail) (by first | assumption | (simp; done) | fail) (by first | (simp [hx, hb1, hb2, hb3, hb4, kOb, insR]; done) | (simp [hx, hb1, hb2, hb3, hb4, kOb, insR]; rfl) | fail) (by first | (simp; done) | fail) ?_ <;> (try simp [hx, hb1, hb2, hb3, hb4, kOb, insR]))
    | fail)
      refine LoopW.next ⟨i + 1, by omega⟩ (by simp; omega) ?_
      exact (Wk.ren ((fun j => if j = 2 then 6 else j)) rfl (by first | (simp [hn]; done) | (intro i hi; rw [hn] at hi; constructor <;> (try simp) <;> (try (intro _)) <;> omega)) (by simp [wkER, St.lp, keepE, getK_cons, getK, getK_del, getK_setOb, D.under, D.le, D.ren, hss, hp, kOb, insR] <;> (try (intros; simp_all; done)) <;> (try omega)) (by simp [wkR, St.lp, getK_cons, getK, getK_del, getK_setOb, obR, leU, pureRow, pureRows, Ob.under, D.under, D.le, D.ren, hss, hp, kOb, insR] <;> (try (intros; simp_all; done)) <;> (try omega)) (by simp [hss, hp, kOb, insR]))
    obtain rfl : i = lets.length := by omega
    refine V_wk _ (Wk.frz (e := 4) (sz := 1) 2 [1] (us := (shsL lets lets.length).map fun b => [U.bool b]) (by simp [getK_cons]) (allU2_boolR _)) ?_
    simp [St.frz, St.frzS, frzS, fv, fzVec, frzObS, del, hL, htk]
    repeat' (first
    | (refine H_cons ?_; simp [kOb, cOb, letsU, boolsU, e1, e2, e3])
    | (refine H_nil ?_; simp [kOb, cOb, letsU, boolsU, e1, e2, e3])
    | (refine V_sseq ?_; simp [kOb, cOb, letsU, boolsU, e1, e2, e3])
    | (refine V_scond ?_; simp [kOb, cOb, letsU, boolsU, e1, e2, e3])
    | (refine V_ret ?_; simp only [RunK])
    | (refine V_exit ?_; simp [RunK])
    | (refine CallP.fun_ (a2) (by first | rfl | fail) (by first | assumption | (simp; done) | fail) (by first | (simp [kOb, cOb, letsU, boolsU, e1, e2, e3]; done) | (simp [kOb, cOb, letsU, boolsU, e1, e2, e3]; rfl) | fail) (by first | (simp; done) | fail) (fun d hd => ?_); subst hd; (try simp [kOb, cOb, letsU, boolsU, e1, e2, e3]))
    | (refine CallP.okL (a1) (by first | (simp [kOb, cOb, letsU, boolsU, e1, e2, e3, getK_cons, getK, getK_append, getK_del, getK_setOb, applyW, del]; done) | fail) (by rfl) (by first | assumption | (simp; done) | fail) (by rfl) (by simp) ?_; (try simp [kOb, cOb, letsU, boolsU, e1, e2, e3, delL, del]))
    | fail)
    refine EndW.norm (EndW.here ?_)
    (refine EndOK.val (.inr rfl) ?_; simp [resD, oneOrTup, pureD, Try.results9, frz_obs, frz_env, norm_obs, norm_env, frz, frzOb, frzS, fv, fzVec, fzMap, fzBox, frzObS, frz_entD, frz_rowsD, normD, normU, norm1, normOb])
  · rw [if_neg hf]
    have hf2 : (decide (2000 ≤ L.length)) = false := by simpa using hf
    rw [hf2] at a2
    rw [hpL, if_neg hf] at a3
    have g1 := allU2_insR (L ++ [⟨14, 0, []⟩])
    simp only [letsU, eagg, Vm.inss, boolsU] at a1 a2 a3 ⊢
    (refine Fun.of_bodyW Try.func9 rfl (by simp) fun Γ hn => ?_); simp only [entry, List.zipIdx_cons, List.zipIdx_nil, List.map_cons, List.map_nil, Nat.zero_add, Try.ntmps9]
    repeat' (first
    | (refine H_cons ?_; simp [r1'])
    | (refine H_nil ?_; simp [r1'])
    | (refine V_sseq ?_; simp [r1'])
    | (refine V_scond ?_; simp [r1'])
    | (refine V_sblock ?_; simp [r1'])
    | (refine V_skip ?_; simp only [RunK])
    | (refine CallP.fun_ (h1) (by first | rfl | fail) (by first | assumption | (simp; done) | fail) (by first | (simp [r1']; done) | (simp [r1']; rfl) | fail) (by first | (simp; done) | fail) (fun d hd => ?_); subst hd; (try simp [r1']))
    | (refine CallP.fun_ (h2) (by first | rfl | fail) (by first | assumption | (simp; done) | fail) (by first | (simp [r1']; done) | (simp [r1']; rfl) | fail) (by first | (simp; done) | fail) (fun d hd => ?_); subst hd; (try simp [r1']))
    | fail)
    refine V_wk _ (Wk.ownC 1 _ 1 4 1 (by decide) rfl rfl) ?_
    simp [St.ownC]
    refine V_wk _ (Wk.ownC 1 _ 2 45 3 (by decide) rfl rfl) ?_
    simp [St.ownC]
    refine V_loopO (α := { i : Nat // i ≤ lets.length }) [0, 3, 7, 26, 27] (fun i => [(28, .u (.int .i64 i.1))])
      (fun i => [(0, .box [.u (.int .i64 e.op), .u (.int .i64 e.n), .u (.int .i64 e.unit), .u (.str e.s), .u (.sl (e.args.map Exp.row))]), (1, .box [.u (.sl (lets.map fun l => [.str l.name, .int .i64 l.body.op, .int .i64 l.body.n, .int .i64 l.body.unit, .str l.body.s, .sl (l.body.args.map Exp.row)])), .vec 2 i.1, .vec 3 0]), (2, .vec 4 1 (boolR' (shsL lets i.1))), (3, kOb [])]) 4 (fun i => lets.length - i.1) ⟨0, by omega⟩ ?_ ?_
    · exact (Wk.cut rfl (by simp [hn, St.lp]) (by simp [wkO, St.lp, getK_cons, getK, Ob.under, D.under, under_rowsD, under_entD, shsL, boolR', kOb, insR]) (by simp [wkU, St.lp, keepE, getK_cons, getK, D.under, shsL, boolR', kOb, insR]) (by simp [wkE, St.lp, keepE, getK_cons, getK, shsL, boolR', kOb, insR] <;> (try (intros; simp_all; done)) <;> (try (intros; omega)) <;> (try grind)))
    rintro ⟨i, hi⟩
    simp [St.lp, St.only, keepE, getK_cons, getK]
    by_cases hil : i < lets.length
    case pos =>
      have hx : lets[i]? = some lets[i] := List.getElem?_eq_getElem hil
      have hsl := shsL_len (lets := lets) (n := i) (by omega)
      have h5 := share_fun' lets (shsL lets i) (.sl []) i (by omega) (by omega) (by omega) 12 _ (r3 _ (List.mem_of_getElem? hx))
      have hsucc : shsL lets (i + 1) = shsL lets i ++ [shareS (nmS lets (shsL lets i) i) (lets[i]).body] := by
        rw [shsL, hx]
        simp only
        rw [show nmS lets (shsL lets i) i = sF (mOf [] (lets.take i)) from funext fun s => nmS_eq (by omega) (Nat.le_refl _) s]
      have hp := pure_boolR' (shsL lets (i + 1))
      have hss : boolR' (shsL lets (i + 1)) = boolR' (shsL lets (i + 1)) := rfl
      conv at hss => rhs; rw [hsucc]
      rw [hsucc] at hp
      generalize shareS (nmS lets (shsL lets i) i) (lets[i]).body = b at *
      generalize lets[i] = l at *
      have hb1 := allU2_boolR (shsL lets i)
      have hb2 := boolR_take (shsL lets i)
      rw [hsl] at hb2
      have hb3 : (boolR' (shsL lets i)).length = i := by simp [boolR', hsl]
      have hb4 := boolR_lenR (shsL lets i)
      have hb5 : boolR' (shsL lets i ++ [b]) = boolR' (shsL lets i) ++ [[.u (.bool b)]] := by simp [boolR']
      rw [hb5] at hp hss
      clear hsucc hb5
      generalize boolR' (shsL lets i) = R at *
      simp only [eagg, letsU, boolsU] at h5
      repeat' (first
    | (refine H_cons ?_; simp [hx, hb1, hb2, hb3, hb4, kOb, insR])
    | (refine HD4_val rfl ?_; simp [hx, hb1, hb2, hb3, hb4, kOb, insR])
    | (refine HD4_chg rfl ?_; simp [hx, hb1, hb2, hb3, hb4, kOb, insR])
    | (refine H_nil ?_; simp [hx, hb1, hb2, hb3, hb4, kOb, insR])
    | (refine ⟨by omega, ?_⟩)
    | (refine V_sseq ?_; simp [hx, hb1, hb2, hb3, hb4, kOb, insR])
    | (refine HD4_nil (hC _ (by kernel_rfl)) (hk _ ?_); clear hC hk C k; simp only [RunK])
    | (refine V_drawX rfl (by kernel_rfl) (by first | (simp [hn]; done) | (simp [hn]; omega) | fail) fun C k hC hk => ?_; simp [hx, hb1, hb2, hb3, hb4, kOb, insR])
    | (refine V_sregion ?_; simp [hx, hb1, hb2, hb3, hb4, kOb, insR])
    | (refine V_skip ?_; simp only [RunK])
    | (refine ⟨?_, by omega⟩)
    | (intro hc <;> (try (exfalso; omega)))
    | (refine CallV.fun_ (h5) (by first | rfl | fail) (by first | assumption | (simp; done) | fail) (by first | (simp [hx, hb1, hb2, hb3, hb4, kOb, insR]; done) | (simp [hx, hb1, hb2, hb3, hb4, kOb, insR]; rfl) | fail) (by first | (simp; done) | fail) ?_ <;> (try simp [hx, hb1, hb2, hb3, hb4, kOb, insR]))
    | fail)
      refine LoopW.next ⟨i + 1, by omega⟩ (by simp; omega) ?_
      exact (Wk.ren ((fun j => if j = 2 then 6 else j)) rfl (by first | (simp [hn]; done) | (intro i hi; rw [hn] at hi; constructor <;> (try simp) <;> (try (intro _)) <;> omega)) (by simp [wkER, St.lp, keepE, getK_cons, getK, getK_del, getK_setOb, D.under, D.le, D.ren, hss, hp, kOb, insR] <;> (try (intros; simp_all; done)) <;> (try omega)) (by simp [wkR, St.lp, getK_cons, getK, getK_del, getK_setOb, obR, leU, pureRow, pureRows, Ob.under, D.under, D.le, D.ren, hss, hp, kOb, insR] <;> (try (intros; simp_all; done)) <;> (try omega)) (by simp [hss, hp, kOb, insR]))
    obtain rfl : i = lets.length := by omega
    refine V_wk _ (Wk.frz (e := 4) (sz := 1) 2 [1] (us := (shsL lets lets.length).map fun b => [U.bool b]) (by simp [getK_cons]) (allU2_boolR _)) ?_
    simp [St.frz, St.frzS, frzS, fv, fzVec, frzObS, del, hL, htk]
    repeat' (first
    | (refine H_cons ?_; simp [kOb, cOb, letsU, boolsU, e1, e2, e3])
    | (refine H_nil ?_; simp [kOb, cOb, letsU, boolsU, e1, e2, e3])
    | (refine V_sseq ?_; simp [kOb, cOb, letsU, boolsU, e1, e2, e3])
    | (refine V_scond ?_; simp [kOb, cOb, letsU, boolsU, e1, e2, e3])
    | (refine V_ret ?_; simp only [RunK])
    | (refine V_skip ?_; simp only [RunK])
    | (refine V_exit ?_; simp [RunK])
    | (refine CallP.fun_ (a2) (by first | rfl | fail) (by first | assumption | (simp; done) | fail) (by first | (simp [kOb, cOb, letsU, boolsU, e1, e2, e3]; done) | (simp [kOb, cOb, letsU, boolsU, e1, e2, e3]; rfl) | fail) (by first | (simp; done) | fail) (fun d hd => ?_); subst hd; (try simp [kOb, cOb, letsU, boolsU, e1, e2, e3]))
    | (refine CallP.okL (a1) (by first | (simp [kOb, cOb, letsU, boolsU, e1, e2, e3, getK_cons, getK, getK_append, getK_del, getK_setOb, applyW, del]; done) | fail) (by rfl) (by first | assumption | (simp; done) | fail) (by rfl) (by simp) ?_; (try simp [kOb, cOb, letsU, boolsU, e1, e2, e3, delL, del]))
    | (refine CallP.okL (a3) (by first | (simp [kOb, cOb, letsU, boolsU, e1, e2, e3, getK_cons, getK, getK_append, getK_del, getK_setOb, applyW, del]; done) | fail) (by rfl) (by first | assumption | (simp; done) | fail) (by rfl) (by simp) ?_; (try simp [kOb, cOb, letsU, boolsU, e1, e2, e3, delL, del]))
    | fail)
    refine EndW.wk _ (Wk.frz (e := 45) (sz := 3) 5 [1] (us := (L ++ [⟨14, 0, []⟩] : Code).map fun i => [U.int .i64 i.op, .int .i64 i.a, .str i.s]) (rows := insR (L ++ [⟨14, 0, []⟩])) (by simp [getK_cons, insR]) g1) ?_
    simp [St.frz, St.frzS, frzS, fv, fzVec, frzObS, del]
    refine EndW.norm (EndW.here ?_)
    (refine EndOK.val (.inr rfl) ?_; simp [resD, oneOrTup, pureD, Try.results9, frz_obs, frz_env, norm_obs, norm_env, frz, frzOb, frzS, fv, fzVec, fzMap, fzBox, frzObS, frz_entD, frz_rowsD, normD, normU, norm1, normOb])
end Go.Proofs.Ytmoohdpnmkkgpaa
namespace Go.Proofs.Ytmoohdpnmkkgpaa.Vm
open Go Go.VL
attribute [local simp] hcons hstep evPure opd uOf putOK St.put St.at getK binD binI binS binB nilD aggD eqUs cmpK lookD lookR rangeD Go.VL.nextD entryD keyD valU keyU lookK mkV entD_nil lookK_entD updK_entD1 updK_entD3 allUE allUE_entD makeMapD mapUpdD mapEff updK valM Key.kk shiftI arith unD convD pickD loadD cellsAt fieldAddrD fieldD indexAddrD indexD sliceD cutD lenD minmaxD nilCheckD buildD fillD cellsD isOne ones setAll mkAgg allU allocD boxD storeD St.add buildSliceD appendD rowsOf makeD setOb getK_setOb getK_del getK_cons stripL strip guardTmp entry chunks zcells valD argsV argsW argW argU1 argU0 argsU0 argsU1 calleeOf scalarD scalarU delAll effD St.effS RK_seq RK_seq_ret RK_seq_exit RK_blk RK_blk_ret RK_blk_exit RK_loop RK_loop_ret RK_loop_exit RK_done vs_seq vs_block vs_cond vs_region vs_loop vs_draw applyW mkD rdIds lentIds callOf calleeOf freeOp D.ids Op.operands Call.operands isEffOp makeIfD typeAssertD conc concs conc1 uOfV panicD IntKind.bits allU2 List.take_of_length_le List.range_succ
attribute [local irreducible] V G H HD HD2 RunK Eff CallP CallV EndOK Fun Ret FinOK LoopI LoopW EndW
theorem is_fun (code : List Ins) (vs : List Var) (v n e : Int) : Fun Try.prog 11 [.u (inss code), .u (vars vs), .u (.int .i64 v), .u (.int .i64 n), .u (.int .i64 e)]
    (· = .u (.bool (decide (runM code vs 9 = (v, n, e))))) := by
  (refine Fun.of_body Try.func11 rfl (by simp) fun Γ hn => ?_); simp only [entry, List.zipIdx_cons, List.zipIdx_nil, List.map_cons, List.map_nil, Nat.zero_add, Try.ntmps11]
  repeat' (first
    | (refine H_cons ?_; simp)
    | (refine H_nil ?_; simp)
    | (refine V_sseq ?_; simp)
    | (refine V_ret ?_; simp only [RunK])
    | (refine ⟨fun hc => ?_, fun hc => ?_⟩ <;> (try (exfalso; omega)))
    | (refine CallP.fun_ (run_fun code vs 9) (by first | rfl | fail) (by first | assumption | (simp; done) | fail) (by first | (simp; done) | (simp; rfl) | fail) (by first | (simp; done) | fail) (fun d hd => ?_); subst hd; (try simp))
    | fail)
  all_goals
    (refine EndOK.val (.inr rfl) ?_; simp [resD, oneOrTup, pureD, Try.results11])
  all_goals simp_all [Prod.ext_iff]
def pot1 : List Var := [⟨[112, 111, 116], 0, 999⟩]
def codeA : List Ins := [⟨1, 0, [112, 111, 116]⟩, ⟨0, 50, []⟩, ⟨6, 0, []⟩, ⟨14, 0, []⟩]
def codeB : List Ins := [⟨0, -7, []⟩, ⟨0, 2, []⟩, ⟨5, 0, []⟩, ⟨14, 0, []⟩]
def codeC : List Ins := [⟨0, 0, []⟩, ⟨13, 3, []⟩, ⟨12, 0, []⟩, ⟨0, 1, []⟩, ⟨14, 0, []⟩]
theorem small_fun : Fun Try.prog 4 [] (· = .u (.bool true)) := by
  have h1 := is_fun codeA pot1 49 4 0
  have h2 := is_fun codeB [] (-4) 4 0
  have h3 := is_fun codeC [] 1 4 0
  have h4 := is_fun [⟨12, 0, []⟩] [] 0 9 16
  have h5 := is_fun [⟨2, 0, []⟩] [] 0 1 2
  rw [show decide (runM codeA pot1 9 = (49, 4, 0)) = true by decide +kernel] at h1
  rw [show decide (runM codeB [] 9 = (-4, 4, 0)) = true by decide +kernel] at h2
  rw [show decide (runM codeC [] 9 = (1, 4, 0)) = true by decide +kernel] at h3
  rw [show decide (runM [⟨12, 0, []⟩] [] 9 = (0, 9, 16)) = true by decide +kernel] at h4
  rw [show decide (runM [⟨2, 0, []⟩] [] 9 = (0, 1, 2)) = true by decide +kernel] at h5
  simp [inss, vars, codeA, codeB, codeC, pot1] at h1 h2 h3 h4 h5
  (refine Fun.of_body Try.func4 rfl (by simp) fun Γ hn => ?_); simp only [entry, List.zipIdx_cons, List.zipIdx_nil, List.map_cons, List.map_nil, Nat.zero_add, Try.ntmps4]
  repeat' (first
    | (refine H_cons ?_; simp [zcells, chunks, List.range_succ])
    | (refine H_nil ?_; simp [zcells, chunks, List.range_succ])
    | (refine V_sseq ?_; simp [zcells, chunks, List.range_succ])
    | (refine V_ret ?_; simp only [RunK])
    | (refine CallP.fun_ (h1) (by first | rfl | fail) (by first | assumption | (simp; done) | fail) (by first | (simp [zcells, chunks, List.range_succ]; done) | (simp [zcells, chunks, List.range_succ]; rfl) | fail) (by first | (simp; done) | fail) (fun d hd => ?_); subst hd; (try simp [zcells, chunks, List.range_succ]))
    | (refine CallP.fun_ (h2) (by first | rfl | fail) (by first | assumption | (simp; done) | fail) (by first | (simp [zcells, chunks, List.range_succ]; done) | (simp [zcells, chunks, List.range_succ]; rfl) | fail) (by first | (simp; done) | fail) (fun d hd => ?_); subst hd; (try simp [zcells, chunks, List.range_succ]))
    | (refine CallP.fun_ (h3) (by first | rfl | fail) (by first | assumption | (simp; done) | fail) (by first | (simp [zcells, chunks, List.range_succ]; done) | (simp [zcells, chunks, List.range_succ]; rfl) | fail) (by first | (simp; done) | fail) (fun d hd => ?_); subst hd; (try simp [zcells, chunks, List.range_succ]))
    | (refine CallP.fun_ (h4) (by first | rfl | fail) (by first | assumption | (simp; done) | fail) (by first | (simp [zcells, chunks, List.range_succ]; done) | (simp [zcells, chunks, List.range_succ]; rfl) | fail) (by first | (simp; done) | fail) (fun d hd => ?_); subst hd; (try simp [zcells, chunks, List.range_succ]))
    | (refine CallP.fun_ (h5) (by first | rfl | fail) (by first | assumption | (simp; done) | fail) (by first | (simp [zcells, chunks, List.range_succ]; done) | (simp [zcells, chunks, List.range_succ]; rfl) | fail) (by first | (simp; done) | fail) (fun d hd => ?_); subst hd; (try simp [zcells, chunks, List.range_succ]))
    | fail)
  all_goals
    (refine EndOK.val (.inr rfl) ?_; simp [resD, oneOrTup, pureD, Try.results4])
end Go.Proofs.Ytmoohdpnmkkgpaa.Vm
namespace Go.VL
/-- A slice within a struct that came in has a length that an int holds. -/
theorem V_lenA {P : Program} {Γ : Ctx} {c : Code} {s : St} {Q : Exit → St → Prop} {x j : Nat} {cells : List U} {rows : List (List U)} (hx : getK s.env x = some (.u (.agg cells))) (hj : cells[j]? = some (.sl rows)) (h : rows.length ≤ 9223372036854775807 → V P Γ c s Q) : V P Γ c s Q :=
  V_know (fun K a w hs => by
    have hr := (hs.getK hx).2
    obtain ⟨vs, hl, _, hr⟩ := rep_uagg hr
    have hr := hr j _ hj
    generalize vs.getD j undef = v at hr
    cases hr with
    | slE => simp
    | sl _ b o sz c f hc hcx => unfold maxLen at hcx; omega) h
end Go.VL
namespace Go.Proofs.Ytmoohdpnmkkgpaa
open Go Go.VL
attribute [local simp] hcons hstep evPure opd uOf putOK St.put St.at getK binD binI binS binB nilD aggD eqUs cmpK lookD lookR rangeD Go.VL.nextD entryD keyD valU keyU lookK mkV entD_nil lookK_entD updK_entD1 updK_entD3 allUE allUE_entD makeMapD mapUpdD mapEff updK valM Key.kk shiftI arith unD convD pickD loadD cellsAt fieldAddrD fieldD indexAddrD indexD sliceD cutD lenD minmaxD nilCheckD buildD fillD cellsD isOne ones setAll mkAgg allU allocD boxD storeD St.add buildSliceD appendD rowsOf makeD setOb getK_setOb getK_del getK_cons stripL strip guardTmp entry chunks zcells valD argsV argsW argW argU1 argU0 argsU0 argsU1 calleeOf scalarD scalarU delAll effD St.effS RK_seq RK_seq_ret RK_seq_exit RK_blk RK_blk_ret RK_blk_exit RK_loop RK_loop_ret RK_loop_exit RK_done vs_seq vs_block vs_cond vs_region vs_loop vs_draw applyW mkD rdIds lentIds callOf calleeOf freeOp D.ids Op.operands Call.operands isEffOp makeIfD typeAssertD conc concs conc1 uOfV panicD IntKind.bits allU2 List.take_of_length_le List.range_succ
attribute [local irreducible] V G H HD HD2 RunK Eff CallP CallV EndOK Fun Ret FinOK LoopI LoopW EndW
def nodesS : Nat → Exp → Int → Int
  | 0, _, most => most + 1
  | L + 1, e, most => if 60 < e.s.length then most + 1 else e.args.foldl (fun n x => if n ≤ most then n + nodesS L x (most - n) else n) 1
theorem nodesS_succ (L : Nat) (e : Exp) (most : Int) : nodesS (L + 1) e most = if 60 < e.s.length then most + 1 else e.args.foldl (fun n x => if n ≤ most then n + nodesS L x (most - n) else n) 1 := by rw [nodesS]
theorem nodes_bound : ∀ (L : Nat) (e : Exp) (most : Int), 0 ≤ most → 1 ≤ nodesS L e most ∧ nodesS L e most ≤ most + 1
  | 0, e, most, h => by rw [nodesS]; omega
  | L + 1, e, most, h => by
    rw [nodesS]
    split
    · omega
    · have : ∀ (l : List Exp) (n : Int), 1 ≤ n → n ≤ most + 1 → 1 ≤ l.foldl (fun n x => if n ≤ most then n + nodesS L x (most - n) else n) n ∧ l.foldl (fun n x => if n ≤ most then n + nodesS L x (most - n) else n) n ≤ most + 1 := by
        intro l
        induction l with
        | nil => intro n h1 h2; exact ⟨h1, h2⟩
        | cons a l ih =>
          intro n h1 h2
          rw [List.foldl_cons]
          split
          · rename_i hn
            have := nodes_bound L a (most - n) (by omega)
            exact ih _ (by omega) (by omega)
          · exact ih n h1 h2
      exact this _ 1 (by omega) (by omega)
theorem foldl_done {L : Nat} {most : Int} : ∀ (l : List Exp) (n : Int), ¬ n ≤ most → l.foldl (fun n x => if n ≤ most then n + nodesS L x (most - n) else n) n = n
  | [], _, _ => rfl
  | a :: l, n, h => by rw [List.foldl_cons, if_neg h]; exact foldl_done l n h
theorem nodes_fun : ∀ (L : Nat) (e : Exp) (most : Int), 0 ≤ most → most ≤ 1000 → (L : Int) ≤ 100 → Fun Try.prog 13 [eagg e, .u (.int .i64 most), .u (.int .i64 L)] (· = .u (.int .i64 (nodesS L e most)))
  | 0, e, most, _, _, _ => by
    rw [nodesS]
    (refine Fun.of_body Try.func13 rfl (by simp) fun Γ hn => ?_); simp only [entry, List.zipIdx_cons, List.zipIdx_nil, List.map_cons, List.map_nil, Nat.zero_add, Try.ntmps13]
    simp only [eagg]
    repeat' (first
    | (refine H_cons ?_; simp)
    | (refine H_nil ?_; simp)
    | (refine ⟨by omega, ?_⟩)
    | (refine V_sseq ?_; simp)
    | (refine V_scond ?_; simp)
    | (refine V_ret ?_; simp only [RunK])
    | fail)
    (refine EndOK.val (.inr rfl) ?_; simp [resD, oneOrTup, pureD, Try.results13])
  | L + 1, e, most, h0, h1, hL => by
    rw [nodesS_succ]
    by_cases hs : 60 < e.s.length
    · rw [if_pos hs]
      (refine Fun.of_body Try.func13 rfl (by simp) fun Γ hn => ?_); simp only [entry, List.zipIdx_cons, List.zipIdx_nil, List.map_cons, List.map_nil, Nat.zero_add, Try.ntmps13]
      simp only [eagg]
      repeat' (first
    | (refine H_cons ?_; simp)
    | (refine H_nil ?_; simp)
    | (refine ⟨by omega, ?_⟩)
    | (refine V_sseq ?_; simp)
    | (refine V_scond ?_; simp)
    | (refine V_ret ?_; simp only [RunK])
    | (refine ⟨?_, by omega⟩)
    | (intro hc <;> (try (exfalso; omega)))
    | fail)
      all_goals first
        | (exfalso; omega)
        | ((refine EndOK.val (.inr rfl) ?_; simp [resD, oneOrTup, pureD, Try.results13]); done)
    rw [if_neg hs]
    generalize hg : (e.args.foldl (fun n x => if n ≤ most then n + nodesS L x (most - n) else n) 1) = g
    (refine Fun.of_body Try.func13 rfl (by simp) fun Γ hn => ?_); simp only [entry, List.zipIdx_cons, List.zipIdx_nil, List.map_cons, List.map_nil, Nat.zero_add, Try.ntmps13]
    simp only [eagg]
    refine V_lenA (x := 0) (j := 4) rfl rfl fun hl => ?_
    simp only [List.length_map] at hl
    repeat' (first
    | (refine H_cons ?_; simp)
    | (refine H_nil ?_; simp)
    | (refine ⟨by omega, ?_⟩)
    | (refine V_sseq ?_; simp)
    | (refine V_scond ?_; simp)
    | (refine V_sblock ?_; simp)
    | (refine V_skip ?_; simp only [RunK])
    | (refine ⟨?_, by omega⟩)
    | (intro hc <;> (try (exfalso; omega)))
    | fail)
    refine V_loopF (α := { p : Nat × Int // p.1 ≤ e.args.length ∧ 1 ≤ p.2 ∧ p.2 ≤ most + 1 ∧ g = (e.args.drop p.1).foldl (fun n x => if n ≤ most then n + nodesS L x (most - n) else n) p.2 }) [1, 2, 3] (fun p => [(7, .u (.int .i64 p.1.2)), (8, .u (.int .i64 p.1.1))]) (fun p => e.args.length - p.1.1) ⟨(0, 1), by simp, by simp, by simp; omega, by simp [hg]⟩ ?_ ?_
    · exact (Wk.cut rfl (by simp [hn, St.lp]) (by simp [wkO, St.lp, getK_cons, getK, Ob.under, D.under, under_rowsD, under_entD]) (by simp [wkU, St.lp, keepE, getK_cons, getK, D.under]) (by simp [wkE, St.lp, keepE, getK_cons, getK] <;> (try (intros; simp_all; done)) <;> (try (intros; omega)) <;> (try grind)))
    rintro ⟨⟨i, n⟩, hi, hn1, hn2, hgn⟩
    simp only at hi hn1 hn2 hgn
    simp [St.lp, St.only, keepE, getK_cons, getK]
    rcases hx : e.args[i]? with _ | x
    · have hge : e.args.length ≤ i := by simpa using hx
      rw [List.drop_of_length_le hge] at hgn
      repeat' (first
    | (refine H_cons ?_; simp [hx])
    | (refine H_nil ?_; simp [hx])
    | (refine ⟨by omega, ?_⟩)
    | (refine V_sseq ?_; simp [hx])
    | (refine V_scond ?_; simp [hx])
    | (refine V_ret ?_; simp only [RunK])
    | (refine V_exit ?_; simp [RunK])
    | (intro hc <;> (try (exfalso; omega)))
    | fail)
      (refine EndOK.val (.inr rfl) ?_; simp [resD, oneOrTup, pureD, Try.results13])
      rw [hgn]; rfl
    · have hlt : i < e.args.length := (List.getElem?_eq_some_iff.1 hx).1
      by_cases hm : n ≤ most
      · have h5 := nodes_fun L x (most - n) (by omega) (by omega) (by omega)
        have hb := nodes_bound L x (most - n) (by omega)
        simp only [eagg] at h5
        rw [List.drop_eq_getElem_cons hlt, List.foldl_cons, if_pos hm, (List.getElem?_eq_some_iff.1 hx).2] at hgn
        generalize nodesS L x (most - n) = y at h5 hb hgn
        repeat' (first
    | (refine H_cons ?_; simp [hx, x.row_eq])
    | (refine H_nil ?_; simp [hx, x.row_eq])
    | (refine ⟨by omega, ?_⟩)
    | (refine V_sseq ?_; simp [hx, x.row_eq])
    | (refine V_scond ?_; simp [hx, x.row_eq])
    | (refine V_sregion ?_; simp [hx, x.row_eq])
    | (refine V_skip ?_; simp only [RunK])
    | (refine ⟨?_, by omega⟩)
    | (intro hc <;> (try (exfalso; omega)))
    | (refine CallP.fun_ (h5) (by first | rfl | fail) (by first | assumption | (simp; done) | fail) (by first | (simp [hx, x.row_eq]; done) | (simp [hx, x.row_eq]; rfl) | fail) (by first | (simp; done) | fail) (fun d hd => ?_); subst hd; (try simp [hx, x.row_eq]))
    | fail)
        refine LoopW.next ⟨(i + 1, n + y), (by omega : i + 1 ≤ e.args.length), (by omega : 1 ≤ n + y), (by omega : n + y ≤ most + 1), hgn⟩ (by simp; omega) ?_
        exact (Wk.cut rfl (by simp [hn, St.lp]) (by simp [wkO, St.lp, getK_cons, getK, Ob.under, D.under, under_rowsD, under_entD]) (by simp [wkU, St.lp, keepE, getK_cons, getK, D.under]) (by simp [wkE, St.lp, keepE, getK_cons, getK] <;> (try (intros; simp_all; done)) <;> (try (intros; omega)) <;> (try grind)))
      · rw [foldl_done _ _ hm] at hgn
        repeat' (first
    | (refine H_cons ?_; simp [hx])
    | (refine H_nil ?_; simp [hx])
    | (refine ⟨by omega, ?_⟩)
    | (refine V_sseq ?_; simp [hx])
    | (refine V_scond ?_; simp [hx])
    | (refine V_ret ?_; simp only [RunK])
    | (refine V_exit ?_; simp [RunK])
    | (refine ⟨?_, by omega⟩)
    | (intro hc <;> (try (exfalso; omega)))
    | fail)
        (refine EndOK.val (.inr rfl) ?_; simp [resD, oneOrTup, pureD, Try.results13])
        rw [hgn]
def fewE (e : Exp) (n : Int) : Bool := decide (nodesS 16 e n ≤ n)
theorem fewExp_fun (e : Exp) (n : Int) (h0 : 0 ≤ n) (h1 : n ≤ 1000) : Fun Try.prog 7 [eagg e, .u (.int .i64 n)] (· = .u (.bool (fewE e n))) := by
  have h2 := nodes_fun 16 e n h0 h1 (by omega)
  unfold fewE
  simp only [eagg] at h2 ⊢
  generalize nodesS 16 e n = y at h2 ⊢
  (refine Fun.of_body Try.func7 rfl (by simp) fun Γ hn => ?_); simp only [entry, List.zipIdx_cons, List.zipIdx_nil, List.map_cons, List.map_nil, Nat.zero_add, Try.ntmps7]
  repeat' (first
    | (refine H_cons ?_; simp)
    | (refine H_nil ?_; simp)
    | (refine V_sseq ?_; simp)
    | (refine V_ret ?_; simp only [RunK])
    | (refine CallP.fun_ (h2) (by first | rfl | fail) (by first | assumption | (simp; done) | fail) (by first | (simp; done) | (simp; rfl) | fail) (by first | (simp; done) | fail) (fun d hd => ?_); subst hd; (try simp))
    | fail)
  (refine EndOK.val (.inr rfl) ?_; simp [resD, oneOrTup, pureD, Try.results7])
mutual
def namesN : Exp → Int
  | .mk op _ _ _ args => (if op = 1 then 1 else 0) + namesNL args
def namesNL : List Exp → Int
  | [] => 0
  | e :: r => namesN e + namesNL r
end
theorem namesN_eq (e : Exp) : namesN e = (if e.op = 1 then 1 else 0) + namesNL e.args := by cases e with | mk op n u s args => rw [namesN]; rfl
mutual
theorem namesN_nonneg : ∀ e : Exp, 0 ≤ namesN e
  | .mk op n u s args => by
    rw [namesN]
    have := namesNL_nonneg args
    split <;> omega
theorem namesNL_nonneg : ∀ l : List Exp, 0 ≤ namesNL l
  | [] => by rw [namesNL]; omega
  | e :: r => by
    rw [namesNL]
    have := namesN_nonneg e
    have := namesNL_nonneg r
    omega
end
theorem namesNL_at {l : List Exp} {i : Nat} {x : Exp} (h : l[i]? = some x) : namesNL (l.take (i + 1)) = namesNL (l.take i) + namesN x := by
  induction l generalizing i with
  | nil => simp at h
  | cons a l ih =>
    cases i with
    | zero => simp at h; subst h; simp [namesNL]
    | succ i => rw [List.take_succ_cons, List.take_succ_cons, namesNL, namesNL, ih (i := i) (by simpa using h)]; omega
theorem namesNL_le {l : List Exp} (i : Nat) : namesNL (l.take i) ≤ namesNL l := by
  induction l generalizing i with
  | nil => simp
  | cons a l ih =>
    cases i with
    | zero => rw [List.take_zero]; have := namesNL_nonneg (a :: l); rw [show namesNL [] = 0 by rw [namesNL]]; exact this
    | succ i => rw [List.take_succ_cons, namesNL, namesNL]; have := ih i; omega
/-- Few nodes: few names. -/
theorem few_names : ∀ (L : Nat) (e : Exp) (most : Int), 0 ≤ most → nodesS L e most ≤ most → namesN e ≤ nodesS L e most
  | 0, e, most, _, h => by rw [nodesS] at h; omega
  | L + 1, e, most, h0, h => by
    rw [nodesS_succ] at h ⊢
    by_cases hs : 60 < e.s.length
    · rw [if_pos hs] at h; omega
    rw [if_neg hs] at h ⊢
    have key : ∀ (l : List Exp) (n : Int), 1 ≤ n → l.foldl (fun n x => if n ≤ most then n + nodesS L x (most - n) else n) n ≤ most → n + namesNL l ≤ l.foldl (fun n x => if n ≤ most then n + nodesS L x (most - n) else n) n := by
      intro l
      induction l with
      | nil => intro n _ _; rw [namesNL]; simp
      | cons a l ih =>
        intro n h1 h2
        rw [List.foldl_cons] at h2 ⊢
        by_cases hn : n ≤ most
        · rw [if_pos hn] at h2 ⊢
          have hb := nodes_bound L a (most - n) (by omega)
          have h3 := ih _ (by omega) h2
          have h4 : n + nodesS L a (most - n) ≤ most := by
            rcases Int.lt_or_le most (n + nodesS L a (most - n)) with h5 | h5
            · rw [foldl_done _ _ (by omega)] at h2; omega
            · exact h5
          have h5 := few_names L a (most - n) (by omega) (by omega)
          rw [namesNL]
          omega
        · rw [if_neg hn, foldl_done _ _ hn] at h2; omega
    have h1 := key e.args 1 (by omega) h
    rw [namesN_eq]
    by_cases h3 : e.op = 1
    · rw [if_pos h3]; omega
    · rw [if_neg h3]; omega
theorem rnames_fun : ∀ (m : Nat) (e : Exp), SizeOf.sizeOf e ≤ m → namesN e ≤ 1000000 → Fun Try.prog 12 [eagg e] (· = .u (.int .i64 (namesN e)))
  | 0, e, hm, _ => by cases e; simp at hm
  | m + 1, e, hm, hN => by
    have hch : ∀ x ∈ e.args, SizeOf.sizeOf x ≤ m := fun x hx => by
      cases e with
      | mk op n u s args =>
        have h1 := List.sizeOf_lt_of_mem (show x ∈ args from hx)
        simp at hm
        omega
    rw [namesN_eq] at hN ⊢
    have hnn := namesNL_nonneg e.args
    generalize hk : (if e.op = 1 then (1 : Int) else 0) = k0 at hN ⊢
    have hk01 : 0 ≤ k0 ∧ k0 ≤ 1 := by rw [← hk]; split <;> omega
    (refine Fun.of_body Try.func12 rfl (by simp) fun Γ hn => ?_); simp only [entry, List.zipIdx_cons, List.zipIdx_nil, List.map_cons, List.map_nil, Nat.zero_add, Try.ntmps12]
    simp only [eagg]
    refine V_lenA (x := 0) (j := 4) rfl rfl fun hl => ?_
    simp only [List.length_map] at hl
    repeat' (first
    | (refine H_cons ?_; simp)
    | (refine H_nil ?_; simp)
    | (refine V_sseq ?_; simp)
    | (refine V_scond ?_; simp)
    | (refine V_sblock ?_; simp)
    | (refine V_sregion ?_; simp)
    | (refine V_skip ?_; simp only [RunK])
    | (refine ⟨fun hc => ?_, fun hc => ?_⟩ <;> (try (exfalso; omega)))
    | fail)
    all_goals
      refine V_loopF (α := { i : Nat // i ≤ e.args.length }) [1] (fun i => [(3, .u (.int .i64 (k0 + namesNL (e.args.take i.1)))), (4, .u (.int .i64 i.1))]) (fun i => e.args.length - i.1) ⟨0, by omega⟩ ?_ ?_
      · exact (Wk.cut rfl (by simp [hn, St.lp]) (by simp [wkO, St.lp, getK_cons, getK, Ob.under, D.under, under_rowsD, under_entD, namesNL]) (by simp [wkU, St.lp, keepE, getK_cons, getK, D.under, namesNL]) (by simp [wkE, St.lp, keepE, getK_cons, getK, namesNL] <;> (try (intros; simp_all; done)) <;> (try (intros; omega)) <;> (try grind)))
      rintro ⟨i, hi⟩
      simp [St.lp, St.only, keepE, getK_cons, getK]
      rcases hx : e.args[i]? with _ | x
      · have hge : e.args.length ≤ i := by simpa using hx
        obtain rfl : i = e.args.length := by omega
        repeat' (first
    | (refine H_cons ?_; simp [hx])
    | (refine H_nil ?_; simp [hx])
    | (refine V_sseq ?_; simp [hx])
    | (refine V_scond ?_; simp [hx])
    | (refine V_ret ?_; simp only [RunK])
    | (refine V_exit ?_; simp [RunK])
    | fail)
        (refine EndOK.val (.inr rfl) ?_; simp [resD, oneOrTup, pureD, Try.results12])
      · have hlt : i < e.args.length := (List.getElem?_eq_some_iff.1 hx).1
        have hat := namesNL_at hx
        have hle := namesNL_le (l := e.args) (i + 1)
        have hn0 := namesNL_nonneg (e.args.take i)
        have hnx := namesN_nonneg x
        have h5 := rnames_fun m x (hch x (List.mem_of_getElem? hx)) (by omega)
        simp only [eagg] at h5
        repeat' (first
    | (refine H_cons ?_; simp [hx, x.row_eq])
    | (refine H_nil ?_; simp [hx, x.row_eq])
    | (refine ⟨by omega, ?_⟩)
    | (refine V_sseq ?_; simp [hx, x.row_eq])
    | (refine V_scond ?_; simp [hx, x.row_eq])
    | (refine V_sregion ?_; simp [hx, x.row_eq])
    | (refine V_skip ?_; simp only [RunK])
    | (refine ⟨?_, by omega⟩)
    | (intro hc <;> (try (exfalso; omega)))
    | (refine CallP.fun_ (h5) (by first | rfl | fail) (by first | assumption | (simp; done) | fail) (by first | (simp [hx, x.row_eq]; done) | (simp [hx, x.row_eq]; rfl) | fail) (by first | (simp; done) | fail) (fun d hd => ?_); subst hd; (try simp [hx, x.row_eq]))
    | fail)
        all_goals
          refine LoopW.next ⟨i + 1, by omega⟩ (by simp; omega) ?_
          exact (Wk.cut rfl (by simp [hn, St.lp]) (by simp [wkO, St.lp, getK_cons, getK, Ob.under, D.under, under_rowsD, under_entD, hat, Int.add_assoc]) (by simp [wkU, St.lp, keepE, getK_cons, getK, D.under, hat, Int.add_assoc]) (by simp [wkE, St.lp, keepE, getK_cons, getK, hat, Int.add_assoc] <;> (try (intros; simp_all; done)) <;> (try (intros; omega)) <;> (try grind)))
end Go.Proofs.Ytmoohdpnmkkgpaa
namespace Go.Proofs.Ytmoohdpnmkkgpaa
open Go Go.VL
attribute [local simp] hcons hstep evPure opd uOf putOK St.put St.at getK binD binI binS binB nilD aggD eqUs cmpK lookD lookR rangeD Go.VL.nextD entryD keyD valU keyU lookK mkV entD_nil lookK_entD updK_entD1 updK_entD3 allUE allUE_entD makeMapD mapUpdD mapEff updK valM Key.kk shiftI arith unD convD pickD loadD cellsAt fieldAddrD fieldD indexAddrD indexD sliceD cutD lenD minmaxD nilCheckD buildD fillD cellsD isOne ones setAll mkAgg allU allocD boxD storeD St.add buildSliceD appendD rowsOf makeD setOb getK_setOb getK_del getK_cons stripL strip guardTmp entry chunks zcells valD argsV argsW argW argU1 argU0 argsU0 argsU1 calleeOf scalarD scalarU delAll effD St.effS RK_seq RK_seq_ret RK_seq_exit RK_blk RK_blk_ret RK_blk_exit RK_loop RK_loop_ret RK_loop_exit RK_done vs_seq vs_block vs_cond vs_region vs_loop vs_draw applyW mkD rdIds lentIds callOf calleeOf freeOp D.ids Op.operands Call.operands isEffOp makeIfD typeAssertD conc concs conc1 uOfV panicD IntKind.bits allU2 List.take_of_length_le List.range_succ
attribute [local irreducible] V G H HD HD2 RunK Eff CallP CallV EndOK Fun Ret FinOK LoopI LoopW EndW
def fewN (l : List Var) (n : Int) : Bool := (l.take (n.toNat + 1)).all (fun v => decide (v.name.length ≤ 60)) && decide ((l.length : Int) ≤ n)
theorem fewNames_fun (l : List Var) (n : Int) (h0 : 0 ≤ n) (h1 : n ≤ 1000) : Fun Try.prog 6 [.u (varsU l), .u (.int .i64 n)] (· = .u (.bool (fewN l n))) := by
  unfold fewN
  generalize hB : ((l.take (n.toNat + 1)).all fun v => decide (v.name.length ≤ 60)) = B
  (refine Fun.of_body Try.func6 rfl (by simp) fun Γ hn => ?_); simp only [entry, List.zipIdx_cons, List.zipIdx_nil, List.map_cons, List.map_nil, Nat.zero_add, Try.ntmps6]
  simp only [varsU]
  refine V_len (x := 0) rfl fun hl => ?_
  simp only [List.length_map] at hl
  repeat' (first
    | (refine H_cons ?_; simp)
    | (refine H_nil ?_; simp)
    | (refine V_sseq ?_; simp)
    | (refine V_sblock ?_; simp)
    | fail)
  refine V_loopF (α := { i : Nat // i ≤ l.length ∧ (i : Int) ≤ n + 1 ∧ ∀ v ∈ l.take i, decide (v.name.length ≤ 60) = true }) [0, 1] (fun i => [(5, .u (.int .i64 i.1))]) (fun i => l.length - i.1) ⟨0, by omega, by omega, by simp⟩ ?_ ?_
  · exact (Wk.env rfl rfl rfl (by simp [wkE, St.lp, keepE, getK_cons, getK] <;> (try (intros; simp_all; done)) <;> (try (intros; omega)) <;> (try grind)))
  rintro ⟨i, hi, hin, hb⟩
  simp [St.lp, St.only, keepE, getK_cons, getK]
  have fin : (i = l.length ∨ (i : Int) = n + 1) → B = true := fun h => by
    rw [← hB, List.all_eq_true]
    intro v hv
    refine hb v ?_
    rcases h with h | h
    · rw [h, List.take_length]; exact List.mem_of_mem_take hv
    · rw [show i = n.toNat + 1 by omega]; exact hv
  rcases hx : l[i]? with _ | v
  · have hge : l.length ≤ i := by simpa using hx
    obtain rfl : i = l.length := by omega
    have := fin (.inl rfl)
    repeat' (first
    | (refine H_cons ?_; simp [hx])
    | (refine H_nil ?_; simp [hx])
    | (refine V_sseq ?_; simp [hx])
    | (refine V_scond ?_; simp [hx])
    | (refine V_ret ?_; simp only [RunK])
    | (refine V_exit ?_; simp [RunK])
    | fail)
    all_goals
      (refine EndOK.val (.inr rfl) ?_; simp [resD, oneOrTup, pureD, Try.results6])
    all_goals simp [this]
  · have hlt : i < l.length := (List.getElem?_eq_some_iff.1 hx).1
    by_cases hm : (i : Int) ≤ n
    · repeat' (first
    | (refine H_cons ?_; simp [hx, hm])
    | (refine H_nil ?_; simp [hx, hm])
    | (refine ⟨by omega, ?_⟩)
    | (refine V_sseq ?_; simp [hx, hm])
    | (refine V_scond ?_; simp [hx, hm])
    | (refine V_sregion ?_; simp [hx, hm])
    | (refine V_ret ?_; simp only [RunK])
    | (refine V_skip ?_; simp only [RunK])
    | (refine ⟨?_, by omega⟩)
    | (refine ⟨fun hc => ?_, fun hc => ?_⟩ <;> (try (exfalso; omega)))
    | (intro hc <;> (try (exfalso; omega)))
    | fail)
      · (refine EndOK.val (.inr rfl) ?_; simp [resD, oneOrTup, pureD, Try.results6])
        have : B = false := by
          rw [← hB, List.all_eq_false]
          exact ⟨v, List.mem_of_getElem? (i := i) (by rw [List.getElem?_take, if_pos (by omega)]; exact hx), by simp; omega⟩
        simp [this]
      · refine LoopW.next ⟨i + 1, by omega, by omega, take_succ_all hx hb (by simp; omega)⟩ (by simp; omega) ?_
        exact (Wk.env rfl rfl rfl (by simp [wkE, St.lp, keepE, getK_cons, getK] <;> (try (intros; simp_all; done)) <;> (try (intros; omega)) <;> (try grind)))
    · have := fin (.inr (by omega))
      repeat' (first
    | (refine H_cons ?_; simp [hx, hm])
    | (refine H_nil ?_; simp [hx, hm])
    | (refine V_sseq ?_; simp [hx, hm])
    | (refine V_scond ?_; simp [hx, hm])
    | (refine V_ret ?_; simp only [RunK])
    | (refine V_exit ?_; simp [RunK])
    | (refine ⟨?_, by omega⟩)
    | (intro hc <;> (try (exfalso; omega)))
    | fail)
      (refine EndOK.val (.inr rfl) ?_; simp [resD, oneOrTup, pureD, Try.results6])
      simp [this]
/-- What the loop over the lets finds. -/
def fewLG (n m : Int) : List Let → Int → Int → Bool
  | [], _, _ => true
  | l :: r, i, p => if i ≤ m then (if 60 < l.name.length ∨ fewE l.body n = false then false else if 2000 < p * (1 + namesN l.body) then false else fewLG n m r (i + 1) (p * (1 + namesN l.body))) else true
def fewL (l : List Let) (m n : Int) : Bool := fewLG n m l 0 1 && decide ((l.length : Int) ≤ m)
theorem fewLets_fun (l : List Let) (m n : Int) (h0 : 0 ≤ n) (h1 : n ≤ 1000) (h2 : 0 ≤ m) (h3 : m ≤ 1000) : Fun Try.prog 5 [.u (letsU l), .u (.int .i64 m), .u (.int .i64 n)] (· = .u (.bool (fewL l m n))) := by
  unfold fewL
  generalize hB : fewLG n m l 0 1 = B
  (refine Fun.of_body Try.func5 rfl (by simp) fun Γ hn => ?_); simp only [entry, List.zipIdx_cons, List.zipIdx_nil, List.map_cons, List.map_nil, Nat.zero_add, Try.ntmps5]
  simp only [letsU]
  refine V_len (x := 0) rfl fun hl => ?_
  simp only [List.length_map] at hl
  repeat' (first
    | (refine H_cons ?_; simp)
    | (refine H_nil ?_; simp)
    | (refine V_sseq ?_; simp)
    | (refine V_sblock ?_; simp)
    | fail)
  refine V_loopF (α := { q : Nat × Int // q.1 ≤ l.length ∧ (q.1 : Int) ≤ m + 1 ∧ 1 ≤ q.2 ∧ q.2 ≤ 2000 ∧ B = fewLG n m (l.drop q.1) q.1 q.2 }) [0, 1, 2] (fun q => [(7, .u (.int .i64 q.1.2)), (8, .u (.int .i64 q.1.1))]) (fun q => l.length - q.1.1) ⟨(0, 1), by simp, by simp; omega, by simp, by simp, by simp [hB]⟩ ?_ ?_
  · exact (Wk.env rfl rfl rfl (by simp [wkE, St.lp, keepE, getK_cons, getK] <;> (try (intros; simp_all; done)) <;> (try (intros; omega)) <;> (try grind)))
  rintro ⟨⟨i, p⟩, hi, him, hp1, hp2, hb⟩
  simp only at hi him hp1 hp2 hb
  simp [St.lp, St.only, keepE, getK_cons, getK]
  rcases hx : l[i]? with _ | x
  · have hge : l.length ≤ i := by simpa using hx
    obtain rfl : i = l.length := by omega
    rw [List.drop_length, fewLG] at hb
    repeat' (first
    | (refine H_cons ?_; simp [hx])
    | (refine H_nil ?_; simp [hx])
    | (refine V_sseq ?_; simp [hx])
    | (refine V_scond ?_; simp [hx])
    | (refine V_ret ?_; simp only [RunK])
    | (refine V_exit ?_; simp [RunK])
    | fail)
    all_goals
      (refine EndOK.val (.inr rfl) ?_; simp [resD, oneOrTup, pureD, Try.results5])
    all_goals simp [hb]
  · have hlt : i < l.length := (List.getElem?_eq_some_iff.1 hx).1
    rw [List.drop_eq_getElem_cons hlt, (List.getElem?_eq_some_iff.1 hx).2, fewLG] at hb
    by_cases hm : (i : Int) ≤ m
    · rw [if_pos hm] at hb
      have h5 := fewExp_fun x.body n h0 h1
      simp only [eagg] at h5
      by_cases hn60 : 60 < x.name.length
      · rw [if_pos (.inl hn60)] at hb
        cases hf : fewE x.body n
        all_goals
          rw [hf] at h5
          repeat' (first
    | (refine H_cons ?_; simp [hx, hm])
    | (refine H_nil ?_; simp [hx, hm])
    | (refine ⟨by omega, ?_⟩)
    | (refine V_sseq ?_; simp [hx, hm])
    | (refine V_scond ?_; simp [hx, hm])
    | (refine V_ret ?_; simp only [RunK])
    | (refine V_skip ?_; simp only [RunK])
    | (refine ⟨?_, by omega⟩)
    | (intro hc <;> (try (exfalso; omega)))
    | fail)
          all_goals first
            | (exfalso; omega)
            | ((refine EndOK.val (.inr rfl) ?_; simp [resD, oneOrTup, pureD, Try.results5]); simp [hb]; done)
      · cases hf : fewE x.body n with
        | false =>
          rw [if_pos (.inr hf)] at hb
          rw [hf] at h5
          repeat' (first
    | (refine H_cons ?_; simp [hx, hm])
    | (refine H_nil ?_; simp [hx, hm])
    | (refine V_sseq ?_; simp [hx, hm])
    | (refine V_scond ?_; simp [hx, hm])
    | (refine V_ret ?_; simp only [RunK])
    | (refine V_skip ?_; simp only [RunK])
    | (refine ⟨?_, by omega⟩)
    | (intro hc <;> (try (exfalso; omega)))
    | (refine CallP.fun_ (h5) (by first | rfl | fail) (by first | assumption | (simp; done) | fail) (by first | (simp [hx, hm]; done) | (simp [hx, hm]; rfl) | fail) (by first | (simp; done) | fail) (fun d hd => ?_); subst hd; (try simp [hx, hm]))
    | fail)
          all_goals first
            | (exfalso; omega)
            | ((refine EndOK.val (.inr rfl) ?_; simp [resD, oneOrTup, pureD, Try.results5]); simp [hb]; done)
        | true =>
          rw [if_neg (by simp [hn60, hf])] at hb
          rw [hf] at h5
          have hfn : namesN x.body ≤ 1000 := by
            unfold fewE at hf
            simp only [decide_eq_true_eq] at hf
            have := few_names 16 x.body n h0 hf
            omega
          have hnn := namesN_nonneg x.body
          have h6 := rnames_fun _ x.body (Nat.le_refl _) (by omega)
          simp only [eagg] at h6
          generalize namesN x.body = y at h6 hb hfn hnn
          have hpy : p * (1 + y) ≤ 2000 * 1001 := Int.mul_le_mul hp2 (by omega) (by omega) (by omega)
          have hpy1 : 1 ≤ p * (1 + y) := by
            have := Int.mul_le_mul hp1 (show (1 : Int) ≤ 1 + y by omega) (by omega) (by omega)
            omega
          repeat' (first
    | (refine H_cons ?_; simp [hx, hm])
    | (refine H_nil ?_; simp [hx, hm])
    | (refine ⟨by omega, ?_⟩)
    | (refine V_sseq ?_; simp [hx, hm])
    | (refine V_scond ?_; simp [hx, hm])
    | (refine V_sregion ?_; simp [hx, hm])
    | (refine V_ret ?_; simp only [RunK])
    | (refine V_skip ?_; simp only [RunK])
    | (refine ⟨?_, by omega⟩)
    | (refine ⟨fun hc => ?_, fun hc => ?_⟩ <;> (try (exfalso; omega)))
    | (intro hc <;> (try (exfalso; omega)))
    | (refine CallP.fun_ (h5) (by first | rfl | fail) (by first | assumption | (simp; done) | fail) (by first | (simp [hx, hm]; done) | (simp [hx, hm]; rfl) | fail) (by first | (simp; done) | fail) (fun d hd => ?_); subst hd; (try simp [hx, hm]))
    | (refine CallP.fun_ (h6) (by first | rfl | fail) (by first | assumption | (simp; done) | fail) (by first | (simp [hx, hm]; done) | (simp [hx, hm]; rfl) | fail) (by first | (simp; done) | fail) (fun d hd => ?_); subst hd; (try simp [hx, hm]))
    | fail)
          all_goals first
            | (exfalso; omega)
            | ((refine EndOK.val (.inr rfl) ?_; simp [resD, oneOrTup, pureD, Try.results5]); rw [if_pos (by omega)] at hb; simp [hb]; done)
            | (refine LoopW.next ⟨(i + 1, p * (1 + y)), (by omega : i + 1 ≤ l.length), (by simp; omega), hpy1, (by omega : p * (1 + y) ≤ 2000), by rw [if_neg (by omega)] at hb; simpa using hb⟩ (by simp; omega) ?_; exact (Wk.env rfl rfl rfl (by simp [wkE, St.lp, keepE, getK_cons, getK] <;> (try (intros; simp_all; done)) <;> (try (intros; omega)) <;> (try grind))))
    · rw [if_neg hm] at hb
      repeat' (first
    | (refine H_cons ?_; simp [hx, hm])
    | (refine H_nil ?_; simp [hx, hm])
    | (refine V_sseq ?_; simp [hx, hm])
    | (refine V_scond ?_; simp [hx, hm])
    | (refine V_ret ?_; simp only [RunK])
    | (refine V_exit ?_; simp [RunK])
    | (refine ⟨?_, by omega⟩)
    | (intro hc <;> (try (exfalso; omega)))
    | fail)
      (refine EndOK.val (.inr rfl) ?_; simp [resD, oneOrTup, pureD, Try.results5])
      simp [hb]
end Go.Proofs.Ytmoohdpnmkkgpaa
namespace Go.Proofs.Ytmoohdpnmkkgpaa
open Go Go.VL
theorem valueP_1 {lets : List Let} {vars : List Var} {e : Exp} (h : (valueP lets vars e).2 = 1) : (valueP lets vars e).1 = 0 := by
  rw [valueP_eq] at h ⊢
  split at h
  · rename_i hc
    rw [if_pos hc]
    cases hx : valX lets (gF (gV vars)) lets.length e with
    | ok v => rw [hx] at h; simp [entX] at h
    | error er => rfl
  · rename_i hc
    rw [if_neg hc]
attribute [local simp] hcons hstep evPure opd uOf putOK St.put St.at getK binD binI binS binB nilD aggD eqUs cmpK lookD lookR rangeD Go.VL.nextD entryD keyD valU keyU lookK mkV entD_nil lookK_entD updK_entD1 updK_entD3 allUE allUE_entD makeMapD mapUpdD mapEff updK valM Key.kk shiftI arith unD convD pickD loadD cellsAt fieldAddrD fieldD indexAddrD indexD sliceD cutD lenD minmaxD nilCheckD buildD fillD cellsD isOne ones setAll mkAgg allU allocD boxD storeD St.add buildSliceD appendD rowsOf makeD setOb getK_setOb getK_del getK_cons stripL strip guardTmp entry chunks zcells valD argsV argsW argW argU1 argU0 argsU0 argsU1 calleeOf scalarD scalarU delAll effD St.effS RK_seq RK_seq_ret RK_seq_exit RK_blk RK_blk_ret RK_blk_exit RK_loop RK_loop_ret RK_loop_exit RK_done vs_seq vs_block vs_cond vs_region vs_loop vs_draw applyW mkD rdIds lentIds callOf calleeOf freeOp D.ids Op.operands Call.operands isEffOp makeIfD typeAssertD conc concs conc1 uOfV panicD IntKind.bits allU2 List.take_of_length_le List.range_succ
attribute [local irreducible] V G H HD HD2 RunK Eff CallP CallV EndOK Fun Ret FinOK LoopI LoopW EndW
set_option maxHeartbeats 16000000 in
theorem evals_fun (lets : List Let) (vars : List Var) (e : Exp) : Fun Try.prog 3 [.u (letsU lets), .u (varsU vars), eagg e] (· = .u (.bool true)) := by
  have h0 := Vm.small_fun
  have h1 := fewLets_fun lets 10 20 (by omega) (by omega) (by omega) (by omega)
  have h2 := fewNames_fun vars 20 (by omega) (by omega)
  have h3 := fewExp_fun e 30 (by omega) (by omega)
  have h4 := value_fun lets vars e
  have h5 := compile_fun lets e
  have hvs : Vm.vars (vsV vars) = varsU vars := by simp [Vm.vars, vsV, varsU]
  generalize fewL lets 10 20 = x1 at *
  generalize fewN vars 20 = x2 at *
  generalize fewE e 30 = x3 at *
  by_cases hfew : (x1 && x2 && x3) = true
  case neg =>
    simp only [letsU, varsU, eagg] at h1 h2 h3 ⊢
    (refine Fun.of_body Try.func3 rfl (by simp) fun Γ hn => ?_); simp only [entry, List.zipIdx_cons, List.zipIdx_nil, List.map_cons, List.map_nil, Nat.zero_add, Try.ntmps3]
    repeat' (first
    | (refine H_cons ?_; simp)
    | (refine H_nil ?_; simp)
    | (refine V_sseq ?_; simp)
    | (refine V_scond ?_; simp)
    | (refine V_sblock ?_; simp)
    | (refine V_ret ?_; simp only [RunK])
    | (refine V_skip ?_; simp only [RunK])
    | (refine ⟨fun hc => ?_, fun hc => ?_⟩ <;> (try (exfalso; omega)))
    | (refine CallP.fun_ (h0) (by first | rfl | fail) (by first | assumption | (simp; done) | fail) (by first | (simp; done) | (simp; rfl) | fail) (by first | (simp; done) | fail) (fun d hd => ?_); subst hd; (try simp))
    | (refine CallP.fun_ (h1) (by first | rfl | fail) (by first | assumption | (simp; done) | fail) (by first | (simp; done) | (simp; rfl) | fail) (by first | (simp; done) | fail) (fun d hd => ?_); subst hd; (try simp))
    | (refine CallP.fun_ (h2) (by first | rfl | fail) (by first | assumption | (simp; done) | fail) (by first | (simp; done) | (simp; rfl) | fail) (by first | (simp; done) | fail) (fun d hd => ?_); subst hd; (try simp))
    | (refine CallP.fun_ (h3) (by first | rfl | fail) (by first | assumption | (simp; done) | fail) (by first | (simp; done) | (simp; rfl) | fail) (by first | (simp; done) | fail) (fun d hd => ?_); subst hd; (try simp))
    | fail)
    all_goals first
      | ((refine EndOK.val (.inr rfl) ?_; simp [resD, oneOrTup, pureD, Try.results3]); done)
      | (exfalso; apply hfew; simp_all; done)
  obtain ⟨⟨rfl, rfl⟩, rfl⟩ : (x1 = true ∧ x2 = true) ∧ x3 = true := by simpa using hfew
  have hval1 := fun h => valueP_1 (lets := lets) (vars := vars) (e := e) h
  -- the runs
  have hrun : (∀ l ∈ lets, ∀ v ∈ vars, l.name ≠ v.name) → ¬ (valueP lets vars e).2 = 1 → (compP lets e).2 = 0 → ∃ q : Int, q ≤ (compP lets e).1.length ∧
      Vm.runM (compP lets e).1 (vsV vars) (min ((compP lets e).1.length : Int) 100000) = ((valueP lets vars e).1, q, (valueP lets vars e).2) := fun hd hb hw => by
    have hra : rightAll lets e = true := by
      apply Classical.byContradiction
      intro hn
      unfold compP at hw
      rw [if_neg hn] at hw
      cases hw
    have hv : vars.all inCB = true := by
      apply Classical.byContradiction
      intro hn
      rw [valueP_eq, if_neg (fun h => hn h.2)] at hb
      exact hb rfl
    have hl : (compL lets e).length < 2000 := by
      apply Classical.byContradiction
      intro hn
      unfold compP at hw
      rw [if_pos hra, if_pos (by omega)] at hw
      cases hw
    have := run_compiled hra hv hd hl
    have hcp : (compP lets e).1 = compL lets e ++ [⟨14, 0, []⟩] := by unfold compP; rw [if_pos hra, if_neg (by omega)]
    rw [hcp]
    exact this
  have h6 := Vm.run_fun (compP lets e).1 (vsV vars) (min ((compP lets e).1.length : Int) 100000)
  rw [hvs] at h6
  generalize valueP lets vars e = w at *
  generalize compP lets e = cp at *
  obtain ⟨v, bad⟩ := w
  obtain ⟨code, worse⟩ := cp
  simp only at hval1 hrun h4 h5 h6
  generalize hR : Vm.runM code (vsV vars) (min (code.length : Int) 100000) = R at *
  obtain ⟨R1, R2, R3⟩ := R
  simp only at h6
  simp only [letsU, varsU, eagg, Vm.inss] at h1 h2 h3 h4 h5 h6 ⊢
  clear hvs hfew
  (refine Fun.of_body Try.func3 rfl (by simp) fun Γ hn => ?_); simp only [entry, List.zipIdx_cons, List.zipIdx_nil, List.map_cons, List.map_nil, Nat.zero_add, Try.ntmps3]
  repeat' (first
    | (refine H_cons ?_; simp)
    | (refine H_nil ?_; simp)
    | (refine V_sseq ?_; simp)
    | (refine V_scond ?_; simp)
    | (refine V_sblock ?_; simp)
    | (refine V_skip ?_; simp only [RunK])
    | (refine CallP.fun_ (h0) (by first | rfl | fail) (by first | assumption | (simp; done) | fail) (by first | (simp; done) | (simp; rfl) | fail) (by first | (simp; done) | fail) (fun d hd => ?_); subst hd; (try simp))
    | (refine CallP.fun_ (h1) (by first | rfl | fail) (by first | assumption | (simp; done) | fail) (by first | (simp; done) | (simp; rfl) | fail) (by first | (simp; done) | fail) (fun d hd => ?_); subst hd; (try simp))
    | (refine CallP.fun_ (h2) (by first | rfl | fail) (by first | assumption | (simp; done) | fail) (by first | (simp; done) | (simp; rfl) | fail) (by first | (simp; done) | fail) (fun d hd => ?_); subst hd; (try simp))
    | (refine CallP.fun_ (h3) (by first | rfl | fail) (by first | assumption | (simp; done) | fail) (by first | (simp; done) | (simp; rfl) | fail) (by first | (simp; done) | fail) (fun d hd => ?_); subst hd; (try simp))
    | fail)
  refine V_len (x := 0) rfl fun hl1 => ?_
  refine V_len (x := 1) rfl fun hl2 => ?_
  simp only [List.length_map] at hl1 hl2
  refine V_loopF (α := { i : Nat // i ≤ lets.length ∧ ∀ l ∈ lets.take i, ∀ v ∈ vars, l.name ≠ v.name }) [0, 1, 5, 7] (fun i => [(8, .u (.int .i64 i.1))]) (fun i => lets.length - i.1) ⟨0, by omega, by simp⟩ ?_ ?_
  · exact (Wk.cut rfl (by simp [hn, St.lp]) (by simp [wkO, St.lp, getK_cons, getK, Ob.under, D.under, under_rowsD, under_entD]) (by simp [wkU, St.lp, keepE, getK_cons, getK, D.under]) (by simp [wkE, St.lp, keepE, getK_cons, getK] <;> (try (intros; simp_all; done)) <;> (try (intros; omega)) <;> (try grind)))
  rintro ⟨i, hi, hinv⟩
  simp [St.lp, St.only, keepE, getK_cons, getK]
  by_cases hil : i < lets.length
  case pos =>
    have hx : lets[i]? = some lets[i] := List.getElem?_eq_getElem hil
    have htk := List.take_succ_eq_append_getElem hil
    generalize lets[i] = l at hx htk
    repeat' (first
    | (refine H_cons ?_; simp [hx])
    | (refine H_nil ?_; simp [hx])
    | (refine V_sseq ?_; simp [hx])
    | (refine V_scond ?_; simp [hx])
    | (refine V_sblock ?_; simp [hx])
    | (refine V_skip ?_; simp only [RunK])
    | (refine ⟨?_, by omega⟩)
    | (intro hc <;> (try (exfalso; omega)))
    | fail)
    refine V_loopF (α := { j : Nat // j ≤ vars.length ∧ ∀ v ∈ vars.take j, l.name ≠ v.name }) [0, 1, 5, 7, 8] (fun j => [(9, .u (.int .i64 j.1))]) (fun j => vars.length - j.1) ⟨0, by omega, by simp⟩ ?_ ?_
    · exact (Wk.cut rfl (by simp [hn, St.lp]) (by simp [wkO, St.lp, getK_cons, getK, Ob.under, D.under, under_rowsD, under_entD]) (by simp [wkU, St.lp, keepE, getK_cons, getK, D.under]) (by simp [wkE, St.lp, keepE, getK_cons, getK] <;> (try (intros; simp_all; done)) <;> (try (intros; omega)) <;> (try grind)))
    rintro ⟨j, hj, hinv2⟩
    simp [St.lp, St.only, keepE, getK_cons, getK]
    by_cases hjl : j < vars.length
    · have hy : vars[j]? = some vars[j] := List.getElem?_eq_getElem hjl
      have htk2 := List.take_succ_eq_append_getElem hjl
      generalize vars[j] = u at hy htk2
      by_cases hnm : l.name = u.name
      · repeat' (first
    | (refine H_cons ?_; simp [hx, hy, hnm])
    | (refine HD_cons ?_; simp [hx, hy, hnm])
    | (refine H_nil ?_; simp [hx, hy, hnm])
    | (refine V_sseq ?_; simp [hx, hy, hnm])
    | (refine V_scond ?_; simp [hx, hy, hnm])
    | (refine HD_nil ?_)
    | (refine hk _ ?_; clear hk k; simp only [RunK])
    | (refine V_drawV rfl (by kernel_rfl) (by kernel_rfl) fun k hk => ?_; simp [hx, hy, hnm])
    | (refine V_ret ?_; simp only [RunK])
    | (refine V_skip ?_; simp only [RunK])
    | (refine ⟨?_, by omega⟩)
    | (intro hc <;> (try (exfalso; omega)))
    | fail)
        (refine EndOK.val (.inr rfl) ?_; simp [resD, oneOrTup, pureD, Try.results3])
      · repeat' (first
    | (refine H_cons ?_; simp [hx, hy, hnm])
    | (refine HD_cons ?_; simp [hx, hy, hnm])
    | (refine H_nil ?_; simp [hx, hy, hnm])
    | (refine ⟨by omega, ?_⟩)
    | (refine V_sseq ?_; simp [hx, hy, hnm])
    | (refine V_scond ?_; simp [hx, hy, hnm])
    | (refine HD_nil ?_)
    | (refine hk _ ?_; clear hk k; simp only [RunK])
    | (refine V_drawV rfl (by kernel_rfl) (by kernel_rfl) fun k hk => ?_; simp [hx, hy, hnm])
    | (refine V_sregion ?_; simp [hx, hy, hnm])
    | (refine V_skip ?_; simp only [RunK])
    | (refine ⟨?_, by omega⟩)
    | (intro hc <;> (try (exfalso; omega)))
    | fail)
        refine LoopW.next ⟨j + 1, by omega, by
          rw [htk2]
          intro v hv
          rcases List.mem_append.1 hv with hv | hv
          · exact hinv2 v hv
          · simp at hv; subst hv; exact hnm⟩ (by simp; omega) ?_
        exact (Wk.cut rfl (by simp [hn, St.lp]) (by simp [wkO, St.lp, getK_cons, getK, Ob.under, D.under, under_rowsD, under_entD]) (by simp [wkU, St.lp, keepE, getK_cons, getK, D.under]) (by simp [wkE, St.lp, keepE, getK_cons, getK] <;> (try (intros; simp_all; done)) <;> (try (intros; omega)) <;> (try grind)))
    · obtain rfl : j = vars.length := by omega
      repeat' (first
    | (refine H_cons ?_; simp [hx])
    | (refine H_nil ?_; simp [hx])
    | (refine ⟨by omega, ?_⟩)
    | (refine V_sseq ?_; simp [hx])
    | (refine V_scond ?_; simp [hx])
    | (refine V_sregion ?_; simp [hx])
    | (refine V_exit ?_; simp [RunK])
    | fail)
      refine LoopW.next ⟨i + 1, by omega, by
        rw [htk]
        intro l' hl'
        rcases List.mem_append.1 hl' with hl' | hl'
        · exact hinv l' hl'
        · simp at hl'; subst hl'
          intro v hv
          exact hinv2 v (by rw [List.take_length]; exact hv)⟩ (by simp; omega) ?_
      exact (Wk.cut rfl (by simp [hn, St.lp]) (by simp [wkO, St.lp, getK_cons, getK, Ob.under, D.under, under_rowsD, under_entD]) (by simp [wkU, St.lp, keepE, getK_cons, getK, D.under]) (by simp [wkE, St.lp, keepE, getK_cons, getK] <;> (try (intros; simp_all; done)) <;> (try (intros; omega)) <;> (try grind)))
  obtain rfl : i = lets.length := by omega
  have hdis : ∀ l ∈ lets, ∀ v ∈ vars, l.name ≠ v.name := fun l hl => hinv l (by rw [List.take_length]; exact hl)
  by_cases hb : bad = 1
  · have hv0 := hval1 hb
    subst hv0
    repeat' (first
    | (refine H_cons ?_; simp [hb])
    | (refine H_nil ?_; simp [hb])
    | (refine V_sseq ?_; simp [hb])
    | (refine V_scond ?_; simp [hb])
    | (refine V_ret ?_; simp only [RunK])
    | (refine V_exit ?_; simp [RunK])
    | (refine CallP.fun_ (h4) (by first | rfl | fail) (by first | assumption | (simp; done) | fail) (by first | (simp [hb]; done) | (simp [hb]; rfl) | fail) (by first | (simp; done) | fail) (fun d hd => ?_); subst hd; (try simp [hb]))
    | (refine CallP.fun_ (h5) (by first | rfl | fail) (by first | assumption | (simp; done) | fail) (by first | (simp [hb]; done) | (simp [hb]; rfl) | fail) (by first | (simp; done) | fail) (fun d hd => ?_); subst hd; (try simp [hb]))
    | fail)
    (refine EndOK.val (.inr rfl) ?_; simp [resD, oneOrTup, pureD, Try.results3])
  by_cases hw : worse = 0
  · obtain ⟨q, hq, hqR⟩ := hrun hdis hb hw
    simp only [Prod.mk.injEq] at hqR
    obtain ⟨rfl, rfl, rfl⟩ := hqR
    repeat' (first
    | (refine H_cons ?_; simp [hb, hw, hq])
    | (refine H_nil ?_; simp [hb, hw, hq])
    | (refine V_sseq ?_; simp [hb, hw, hq])
    | (refine V_scond ?_; simp [hb, hw, hq])
    | (refine V_ret ?_; simp only [RunK])
    | (refine V_skip ?_; simp only [RunK])
    | (refine V_exit ?_; simp [RunK])
    | (refine CallP.fun_ (h4) (by first | rfl | fail) (by first | assumption | (simp; done) | fail) (by first | (simp [hb, hw, hq]; done) | (simp [hb, hw, hq]; rfl) | fail) (by first | (simp; done) | fail) (fun d hd => ?_); subst hd; (try simp [hb, hw, hq]))
    | (refine CallP.fun_ (h5) (by first | rfl | fail) (by first | assumption | (simp; done) | fail) (by first | (simp [hb, hw, hq]; done) | (simp [hb, hw, hq]; rfl) | fail) (by first | (simp; done) | fail) (fun d hd => ?_); subst hd; (try simp [hb, hw, hq]))
    | (refine CallP.fun_ (h6) (by first | rfl | fail) (by first | assumption | (simp; done) | fail) (by first | (simp [hb, hw, hq]; done) | (simp [hb, hw, hq]; rfl) | fail) (by first | (simp; done) | fail) (fun d hd => ?_); subst hd; (try simp [hb, hw, hq]))
    | fail)
    (refine EndOK.val (.inr rfl) ?_; simp [resD, oneOrTup, pureD, Try.results3])
  · repeat' (first
    | (refine H_cons ?_; simp [hb, hw])
    | (refine H_nil ?_; simp [hb, hw])
    | (refine V_sseq ?_; simp [hb, hw])
    | (refine V_scond ?_; simp [hb, hw])
    | (refine V_ret ?_; simp only [RunK])
    | (refine V_exit ?_; simp [RunK])
    | (refine CallP.fun_ (h4) (by first | rfl | fail) (by first | assumption | (simp; done) | fail) (by first | (simp [hb, hw]; done) | (simp [hb, hw]; rfl) | fail) (by first | (simp; done) | fail) (fun d hd => ?_); subst hd; (try simp [hb, hw]))
    | (refine CallP.fun_ (h5) (by first | rfl | fail) (by first | assumption | (simp; done) | fail) (by first | (simp [hb, hw]; done) | (simp [hb, hw]; rfl) | fail) (by first | (simp; done) | fail) (fun d hd => ?_); subst hd; (try simp [hb, hw]))
    | fail)
    (refine EndOK.val (.inr rfl) ?_; simp [resD, oneOrTup, pureD, Try.results3])
end Go.Proofs.Ytmoohdpnmkkgpaa
namespace Go.Proofs.Ytmoohdpnmkkgpaa
open Go Go.VL Go.ChangeShapes Go.WideShapes Go.ChangeAt Go.RowKit
theorem Try.own : ownKnob Try.prog.godebug = none := by kernel_rfl
theorem Try.laidOut : laidOutB Try.prog = true := by kernel_rfl
theorem Try.seqs : seqAll Try.prog = true := by kernel_rfl
theorem exp_of : ∀ (m : Nat) (r : List U), SizeOf.sizeOf r ≤ m → HasRow Try.prog 26 r → ∃ e : Exp, r = e.row
  | 0, r, hm, _ => by cases r <;> simp at hm
  | m + 1, r, hm, h => by
    obtain ⟨rs, hr, h⟩ := h.of_struct sf26
    match rs, h with
    | [a, b, c, d, f], h =>
      obtain ⟨h1, h2, h3, h4, h5, _⟩ := h
      obtain ⟨x, rfl, _⟩ := h1.of_int io3
      obtain ⟨y, rfl, _⟩ := h2.of_int io3
      obtain ⟨z, rfl, _⟩ := h3.of_int io3
      obtain ⟨s, rfl, _⟩ := h4.of_str (by simp)
      obtain ⟨rows, rfl, _, h6⟩ := h5.of_slice es24
      have hsz : ∀ q ∈ rows, SizeOf.sizeOf q ≤ m := fun q hq => by
        have := List.sizeOf_lt_of_mem hq
        rw [hr] at hm
        simp at hm
        omega
      obtain ⟨l, rfl, _⟩ := rows_list Exp.row (fun _ => True) (rows := rows) fun q hq => by
        obtain ⟨e, he⟩ := exp_of m q (hsz q hq) (h6 q hq)
        exact ⟨e, he, trivial⟩
      exact ⟨.mk x y z s l, by rw [hr, Exp.row_eq]; rfl⟩
theorem expU_of {r : List U} (h : HasRow Try.prog 26 r) : ∃ e : Exp, r = [.int .i64 e.op, .int .i64 e.n, .int .i64 e.unit, .str e.s, .sl (e.args.map Exp.row)] := by
  obtain ⟨e, rfl⟩ := exp_of _ r (Nat.le_refl _) h
  exact ⟨e, e.row_eq⟩
theorem let_of {r : List U} (h : HasRow Try.prog 32 r) : ∃ l : Let, r = [.str l.name, .int .i64 l.body.op, .int .i64 l.body.n, .int .i64 l.body.unit, .str l.body.s, .sl (l.body.args.map Exp.row)] ∧ True := by
  obtain ⟨rs, hr, h⟩ := h.of_struct sf32
  match rs, h with
  | [a, b], h =>
    obtain ⟨h1, h2, _⟩ := h
    obtain ⟨x, rfl, _⟩ := h1.of_str (by simp)
    obtain ⟨e, rfl⟩ := expU_of h2
    exact ⟨⟨x, e⟩, by rw [hr]; rfl, trivial⟩
theorem var_of {r : List U} (h : HasRow Try.prog 34 r) : ∃ c : Var, r = [.str c.name, .int .i64 c.unit, .int .i64 c.n] ∧ True := by
  obtain ⟨rs, hr, h⟩ := h.of_struct sf34
  match rs, h with
  | [a, b, c], h =>
    obtain ⟨h1, h2, h3, _⟩ := h
    obtain ⟨x, rfl, _⟩ := h1.of_str (by simp)
    obtain ⟨y, rfl, _⟩ := h2.of_int io3
    obtain ⟨z, rfl, _⟩ := h3.of_int io3
    exact ⟨⟨x, y, z⟩, hr, trivial⟩
theorem lets_of {u : U} (h : ArgU Try.prog 22 u) : ∃ l, u = letsU l := by
  obtain ⟨rows, h1, _, h2⟩ := (h.one (by simp) (by simp)).of_slice es22
  obtain ⟨l, rfl, _⟩ := rows_list (fun l : Let => [.str l.name, .int .i64 l.body.op, .int .i64 l.body.n, .int .i64 l.body.unit, .str l.body.s, .sl (l.body.args.map Exp.row)]) (fun _ => True) fun r hr => let_of (h2 r hr)
  exact ⟨l, by simp at h1; exact h1⟩
theorem vars_of {u : U} (h : ArgU Try.prog 23 u) : ∃ l : List Var, u = .sl (l.map fun v => [.str v.name, .int .i64 v.unit, .int .i64 v.n]) := by
  obtain ⟨rows, h1, _, h2⟩ := (h.one (by simp) (by simp)).of_slice es23
  obtain ⟨l, rfl, _⟩ := rows_list (fun v : Var => [.str v.name, .int .i64 v.unit, .int .i64 v.n]) (fun _ => True) fun r hr => var_of (h2 r hr)
  exact ⟨l, by simp at h1; exact h1⟩
end Go.Proofs.Ytmoohdpnmkkgpaa
