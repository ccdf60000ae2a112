/- The calculus of values: a statement of any order that makes or changes objects, evaluated step by step in the text's order. -/
import Derived.Test.YtblmompdcammeaaVLv
set_option linter.all false
namespace Go.VL
open Go

abbrev Ent := D × Wr × Option Nat × List Nat
def tT (E : Nat → Ent) (j : Nat) : D := (E j).1
def tW (E : Nat → Ent) (j : Nat) : Wr := (E j).2.1
def tC (E : Nat → Ent) (j : Nat) : Option Nat := (E j).2.2.1
def tR (E : Nat → Ent) (j : Nat) : List Nat := (E j).2.2.2
def cnt (E : Nat → Ent) : Nat → Nat
  | 0 => 0
  | i + 1 => cnt E i + if (tC E i).isSome then 1 else 0
abbrev Fp := List (List Nat × List Nat)
def tF (E : Nat → Ent) (n : Nat) : Fp := (List.range n).map fun j => (tR E j, keys (tW E j))

def Op2 (P : Program) (s : St) (o : O1) (e : Ent) : Prop :=
  match o.guard with
  | none => Op1 P s o.op o.dst e.1 e.2.1 e.2.2.1 e.2.2.2
  | some (t, want) => (∃ b, getK s.env t = some (.u (.bool b)) ∧ if b = want then valD P s o.op (· = e.1) ∧ e.2.1 = [] ∧ e.2.2.1 = none ∧ e.2.2.2 = rdIds s o.op else e.1 = .un ∧ e.2.1 = [] ∧ e.2.2.1 = none) ∨
    (getK s.env t = some .un ∧ e.1 = .un ∧ e.2.1 = [] ∧ e.2.2.1 = none)
def St.app (s : St) (dst : Option Tmp) (e : Ent) : St :=
  ({ s with obs := applyW e.2.1 s.obs, next := s.next + if e.2.2.1.isSome then 1 else 0 } : St).put dst e.1
def chain2 (P : Program) : List O1 → St → Fp → (St → Fp → Prop) → Prop
  | [], s, fp, k => k s fp
  | o :: rest, s, fp, k => ∃ e : Ent, putOK o.dst s ∧ Op2 P s o e ∧ (∀ x, e.2.2.1 = some x → x = s.next) ∧ chain2 P rest (s.app o.dst e) (fp ++ [(e.2.2.2, keys e.2.1)]) k
def HD2 (P : Program) (l : List O1) (s : St) (fp : Fp) (C : Fp → Prop) (k : St → Prop) : Prop :=
  ∀ s0 : St, s0.Eqo s → chain2 P l s0 fp fun s1 fp => C fp ∧ ∃ s', s1.Eqo s' ∧ k s'

theorem St.Eqo.refl (s : St) : s.Eqo s := ⟨rfl, fun _ => rfl, rfl, fun _ => rfl⟩
theorem St.Eqo.trans {a b c : St} (h : a.Eqo b) (g : b.Eqo c) : a.Eqo c := ⟨h.1.trans g.1, fun x => (h.2.1 x).trans (g.2.1 x), h.2.2.1.trans g.2.2.1, fun x => (h.2.2.2 x).trans (g.2.2.2 x)⟩
theorem St.Eqo.put {s s' : St} (h : s.Eqo s') (x : Option Tmp) (d : D) : (s.put x d).Eqo (s'.put x d) := by
  cases x with
  | none => exact h
  | some x => exact ⟨h.1, h.2.1, h.2.2.1, fun y => by simp only [St.put, getK_cons, h.2.2.2 y]⟩
theorem opd_eqo {s s' : St} (h : s.Eqo s') (x : Operand) : opd s x = opd s' x := by
  cases x with
  | tmp t => simp only [opd, St.at, h.2.2.2 t]
  | _ => rfl
theorem argsV_eqo {s s' : St} (h : s.Eqo s') (ds : List D) : argsV s ds = argsV s' ds := by
  cases hx : argsV s ds with
  | some p => exact (argsW_loc (o' := s'.obs) hx fun i _ => h.2.1 i).symm
  | none =>
    cases hy : argsV s' ds with
    | none => rfl
    | some p => rw [show argsV s ds = some p from argsW_loc (o' := s.obs) hy fun i _ => (h.2.1 i).symm] at hx; cases hx
theorem rdIds_eqo {s s' : St} (h : s.Eqo s') (op : Op) : rdIds s op = rdIds s' op := by
  unfold rdIds
  have e : (opd s) = opd s' := funext fun x => opd_eqo h x
  split
  · unfold lentIds
    simp only [e, argsV_eqo h]
  · rw [show (fun x => (opd s x).ids) = fun x => (opd s' x).ids from funext fun x => by rw [opd_eqo h]]
theorem St.Eqo.symm {s s' : St} (h : s.Eqo s') : s'.Eqo s := ⟨h.1.symm, fun x => (h.2.1 x).symm, h.2.2.1.symm, fun x => (h.2.2.2 x).symm⟩
theorem valD_eqo {P} {s s' : St} (h : s.Eqo s') (op : Op) (r : D → Prop) : valD P s op r = valD P s' op r :=
  propext ⟨valD_loc (fun _ _ => h.2.1 _) fun x _ => opd_eqo h x, valD_loc (fun _ _ => h.symm.2.1 _) fun x _ => opd_eqo h.symm x⟩
theorem effD_eqo {P} {s s' : St} (h : s.Eqo s') (op : Op) (r : ERes → Prop) : effD P s op r = effD P s' op r :=
  propext ⟨effD_loc (fun _ _ => h.2.1 _) fun x _ => opd_eqo h x, effD_loc (fun _ _ => h.symm.2.1 _) fun x _ => opd_eqo h.symm x⟩

theorem HD2_nil {P s fp C k} (hC : C fp) (h : k s) : HD2 P [] s fp C k := fun s0 e => ⟨hC, s, e, h⟩
theorem HD2_cons {P s dst op rest fp C k} (h : valD P s op fun d => putOK dst s ∧ HD2 P rest (s.put dst d) (fp ++ [(rdIds s op, [])]) C k) : HD2 P (⟨dst, op, none⟩ :: rest) s fp C k := fun s0 e => by
  obtain ⟨d, hv, hp, hr⟩ := Lin.valD.2 _ h
  refine ⟨(d, [], none, rdIds s op), by cases dst <;> simp_all [putOK, e.1], .inl ⟨?_, rfl, rfl, (rdIds_eqo e op).symm⟩, fun x hx => (by cases hx), ?_⟩
  · rw [valD_eqo e]; exact hv
  · exact hr _ (e.put dst d)
theorem HD2_eff {P s dst op rest fp C k} (h : effD P s op fun e => putOK dst s ∧ (e.nw = none → dst = none) ∧
    HD2 P rest (s.effS e dst) (fp ++ [(rdIds s op, match e.nw with | none => e.U.map (·.1) | some _ => s.next :: e.U.map (·.1))]) C k) : HD2 P (⟨dst, op, none⟩ :: rest) s fp C k := fun s0 e0 => by
  obtain ⟨e, hv, hp, hd, hr⟩ := Lin.effD.2 _ h
  have hp0 : putOK dst s0 := by cases dst <;> simp_all [putOK, e0.1]
  have hv0 : effD P s0 op (· = e) := by rw [effD_eqo e0]; exact hv
  cases hn : e.nw with
  | none =>
    obtain rfl := hd hn
    refine ⟨(.any, e.U, none, rdIds s op), hp0, .inr ⟨e, hv0, (rdIds_eqo e0 op).symm, by rw [hn]; exact ⟨rfl, rfl, rfl⟩⟩, fun x hx => (by cases hx), ?_⟩
    rw [hn] at hr
    refine hr _ ?_
    simp only [St.app, St.effS, hn, St.put]
    exact ⟨e0.1, fun x => by simp only [getK_applyW, e0.2.1 x], e0.2.2.1, e0.2.2.2⟩
  | some ob =>
    refine ⟨(mkD e.how s0.next, (s0.next, some ob) :: e.U, some s0.next, rdIds s op), hp0, .inr ⟨e, hv0, (rdIds_eqo e0 op).symm, by rw [hn]; exact ⟨s0.next, rfl, rfl, rfl⟩⟩, fun x hx => (by cases hx; rfl), ?_⟩
    rw [hn] at hr
    have h1 := hr (s0.app dst (mkD e.how s0.next, (s0.next, some ob) :: e.U, some s0.next, rdIds s op)) (by
      simp only [St.app, St.effS, hn, e0.2.2.1]
      apply St.Eqo.put
      refine ⟨e0.1, fun x => ?_, by simp, e0.2.2.2⟩
      simp only [applyW, getK_setOb, getK_cons, getK_applyW, e0.2.1 x])
    simp only [keys, List.map_cons]
    rw [e0.2.2.1] at h1 ⊢
    exact h1
theorem HD2_guard {P s dst op rest fp C k t want b} (hb : getK s.env t = some (.u (.bool b))) (hp : putOK dst s)
    (hy : b = want → valD P (s.put (some t) (.u (.bool want))) op fun d => HD2 P rest ((s.put (some t) (.u (.bool want))).put dst d) (fp ++ [(rdIds (s.put (some t) (.u (.bool want))) op, [])]) C k)
    (hn : b = !want → HD2 P rest ((s.put (some t) (.u (.bool (!want)))).put dst .un) (fp ++ [([], [])]) C k) : HD2 P (⟨dst, op, some (t, want)⟩ :: rest) s fp C k := fun s0 e => by
  have lit : ∀ b', b = b' → s.Eqo (s.put (some t) (.u (.bool b'))) := fun b' e' => ⟨rfl, fun _ => rfl, rfl, fun x => by
    subst e'
    simp only [St.put, getK_cons]
    split
    · rename_i hx; rw [hx, hb]
    · rfl⟩
  have hp0 : putOK dst s0 := by cases dst <;> simp_all [putOK, e.1]
  by_cases hw : b = want
  · have e1 := e.trans (lit want hw)
    obtain ⟨d, hv, hr⟩ := Lin.valD.2 _ (hy hw)
    refine ⟨(d, [], none, rdIds (s.put (some t) (.u (.bool want))) op), hp0, .inl ⟨b, by rw [e.2.2.2 t]; exact hb, ?_⟩, fun x hx => (by cases hx), hr _ (e1.put dst d)⟩
    rw [if_pos hw]
    exact ⟨by rw [valD_eqo e1]; exact hv, rfl, rfl, (rdIds_eqo e1 op).symm⟩
  · have hw' : b = !want := by cases b <;> cases want <;> simp_all
    have e1 := e.trans (lit _ hw')
    exact ⟨(.un, [], none, []), hp0, .inl ⟨b, by rw [e.2.2.2 t]; exact hb, by rw [if_neg hw]; exact ⟨rfl, rfl, rfl⟩⟩, fun x hx => (by cases hx), hn hw' _ (e1.put dst .un)⟩
theorem HD2_guardU {P s dst op rest fp C k t want} (hb : getK s.env t = some .un) (hp : putOK dst s) (hn : HD2 P rest (s.put dst .un) (fp ++ [([], [])]) C k) :
    HD2 P (⟨dst, op, some (t, want)⟩ :: rest) s fp C k := fun s0 e =>
  ⟨(.un, [], none, []), by cases dst <;> simp_all [putOK, e.1], .inr ⟨by rw [e.2.2.2 t]; exact hb, rfl, rfl, rfl⟩, fun x hx => (by cases hx), hn _ (e.put dst .un)⟩

-- the table of one evaluation
def stE (ops : List Oper) (s0 : St) (E : Nat → Ent) (i : Nat) : St :=
  { n := s0.n, env := envF (tT E) (fun j => decide (j < i)) ops 0 s0.env, obs := applyW (wlog (tW E) (fun _ => true) i) s0.obs, next := s0.next + cnt E i }
theorem envF_congrT (T T' : Nat → D) (S : Nat → Bool) (h : ∀ j, S j = true → T j = T' j) : ∀ (l : List Oper) (i : Nat) (e : List (Nat × D)), envF T S l i e = envF T' S l i e
  | [], _, _ => rfl
  | o :: l, i, e => by
    simp only [envF]
    cases hS : S i with
    | true => rw [h i hS]; exact envF_congrT T T' S h l (i + 1) _
    | false => exact envF_congrT T T' S h l (i + 1) _
theorem wlog_congrW (W W' : Nat → Wr) (S : Nat → Bool) : ∀ m, (∀ j, j < m → W j = W' j) → wlog W S m = wlog W' S m
  | 0, _ => rfl
  | m + 1, h => by simp only [wlog, h m (by omega), wlog_congrW W W' S m fun j hj => h j (by omega)]
theorem cnt_congr (E E' : Nat → Ent) : ∀ i, (∀ j, j < i → E j = E' j) → cnt E i = cnt E' i
  | 0, _ => rfl
  | i + 1, h => by
    simp only [cnt, tC, h i (by omega), cnt_congr E E' i fun j hj => h j (by omega)]
    rfl
theorem stE_congr {ops s0} {E E' : Nat → Ent} {i : Nat} (h : ∀ j, j < i → E j = E' j) : stE ops s0 E i = stE ops s0 E' i := by
  simp only [stE]
  rw [envF_congrT (tT E) (tT E') _ (fun j hj => by simp at hj; simp only [tT, h j hj]), wlog_congrW (tW E) (tW E') _ i (fun j hj => by simp only [tW, h j hj]), cnt_congr E E' i h]
theorem tF_congr {E E' : Nat → Ent} {i : Nat} (h : ∀ j, j < i → E j = E' j) : tF E i = tF E' i := by
  refine List.map_congr_left fun j hj => ?_
  simp only [tR, tW, h j (List.mem_range.1 hj)]
theorem applyW_append : ∀ (a b : Wr) (o : List (Nat × Ob)), applyW (a ++ b) o = applyW a (applyW b o)
  | [], _, _ => rfl
  | (i, some ob) :: a, b, o => by simp only [List.cons_append, applyW, applyW_append a b o]
  | (i, none) :: a, b, o => by simp only [List.cons_append, applyW, applyW_append a b o]
theorem wlog_take (W : Nat → Wr) (i : Nat) : ∀ m, i ≤ m → wlog W (fun j => decide (j < i)) m = wlog W (fun _ => true) i
  | 0, h => by obtain rfl : i = 0 := by omega
               rfl
  | m + 1, h => by
    by_cases he : i = m + 1
    · subst he
      have : ∀ q, q ≤ m + 1 → wlog W (fun j => decide (j < m + 1)) q = wlog W (fun _ => true) q := by
        intro q
        induction q with
        | zero => intro _; rfl
        | succ q ih =>
          intro hq
          simp only [wlog]
          rw [ih (by omega), if_pos (by simp; omega), if_pos trivial]
      exact this _ (Nat.le_refl _)
    · simp only [wlog]
      rw [if_neg (by simp; omega)]
      exact wlog_take W i m (by omega)

theorem chain2_T {P : Program} {all : Array Oper} {s0 : St} {ops : List Oper} {k : St → Fp → Prop} : ∀ (l : List O1) (tail : List Oper) (i : Nat) (E : Nat → Ent), stripL all tail = some l → (∀ j, tail[j]? = ops[i + j]?) →
    chain2 P l (stE ops s0 E i) (tF E i) k → ∃ E' : Nat → Ent, (∀ j, j < i → E' j = E j) ∧
      (∀ j o, i ≤ j → ops[j]? = some o → putOK o.dst s0 ∧ OpG P all (stE ops s0 E' j) o (tT E' j) (tW E' j) (tC E' j) (tR E' j) ∧ ∀ x, tC E' j = some x → x = s0.next + cnt E' j) ∧
      k (stE ops s0 E' (i + tail.length)) (tF E' (i + tail.length))
  | [], tail, i, E, hs, ht, h => by
    cases tail with
    | nil => exact ⟨E, fun _ _ => rfl, fun j o hj ho => by have := ht (j - i); rw [show i + (j - i) = j by omega, ho] at this; simp at this, by simpa [chain2] using h⟩
    | cons x l => simp only [stripL] at hs; split at hs <;> simp at hs
  | o1 :: l, tail, i, E, hs, ht, h => by
    obtain ⟨x, tl, rfl, hx, hr⟩ := stripL_cons hs
    obtain ⟨e, hp, hv, hnx, hc⟩ := h
    have hxi : ops[i]? = some x := by have := ht 0; simpa using this.symm
    have hdst : o1.dst = x.dst := by
      unfold strip at hx
      split at hx
      · simp at hx; subst hx; rfl
      · split at hx
        · simp at hx; subst hx; rfl
        · cases hx
    let E1 : Nat → Ent := fun j => if j = i then e else E j
    have h1 : ∀ j, j < i → E j = E1 j := fun j hj => by simp only [E1]; rw [if_neg (by omega)]
    have hi : E1 i = e := by simp [E1]
    have hstep : (stE ops s0 E i).app o1.dst e = stE ops s0 E1 (i + 1) := by
      rw [stE_congr h1, hdst]
      simp only [stE, St.app]
      rw [envF_step (tT E1) i ops 0 s0.env x (Nat.zero_le _) (by simpa using hxi)]
      have hw : wlog (tW E1) (fun _ => true) (i + 1) = e.2.1 ++ wlog (tW E1) (fun _ => true) i := by
        rw [wlog, if_pos rfl, show tW E1 i = e.2.1 by simp only [tW, hi]]
      have hcn : cnt E1 (i + 1) = cnt E1 i + if e.2.2.1.isSome then 1 else 0 := by
        rw [cnt, show tC E1 i = e.2.2.1 by simp only [tC, hi]]
      rw [hw, applyW_append, hcn]
      have hT : tT E1 i = e.1 := by simp only [tT, hi]
      cases x.dst with
      | none => simp only [St.put, Nat.add_assoc]
      | some y => simp only [St.put, hT, Nat.add_assoc]
    have hfp : tF E i ++ [(e.2.2.2, keys e.2.1)] = tF E1 (i + 1) := by
      rw [tF_congr h1]
      simp only [tF, List.range_succ, List.map_append, List.map_cons, List.map_nil]
      rw [show tR E1 i = e.2.2.2 by simp only [tR, hi], show tW E1 i = e.2.1 by simp only [tW, hi]]
    rw [hstep, hfp] at hc
    obtain ⟨E', g1, g2, g3⟩ := chain2_T l tl (i + 1) E1 hr (fun j => by have := ht (j + 1); rw [show i + 1 + j = i + (j + 1) by omega, ← this]; simp) hc
    refine ⟨E', fun j hj => by rw [g1 j (by omega), h1 j hj], fun j o hj ho => ?_, ?_⟩
    · rcases Nat.lt_or_ge i j with h' | h'
      · exact g2 j o h' ho
      · obtain rfl : i = j := by omega
        rw [hxi] at ho
        cases ho
        have hEi : E' i = e := by rw [g1 i (by omega), hi]
        have hst : stE ops s0 E' i = stE ops s0 E i := stE_congr fun j hj => by rw [g1 j (by omega), ← h1 j hj]
        refine ⟨by rw [hdst] at hp; exact hp, ?_, fun y hy => ?_⟩
        · rw [hst]
          simp only [tT, tW, tC, tR, hEi]
          unfold strip at hx
          unfold OpG
          unfold Op2 at hv
          split at hx
          · rename_i hg
            simp at hx
            subst hx
            rw [hg]
            exact hv
          · rename_i q want hg
            split at hx
            · rename_i t ht'
              simp at hx
              subst hx
              rw [hg]
              exact ⟨t, ht', hv⟩
            · cases hx
        · have : tC E' i = e.2.2.1 := by simp only [tC, hEi]
          rw [this] at hy
          have := hnx y hy
          rw [this, cnt_congr E' E i fun j hj => by rw [g1 j (by omega), ← h1 j hj]]
          rfl
    · rw [show i + (x :: tl).length = i + 1 + tl.length by simp; omega]
      exact g3

def disjB (a b : List Nat) : Bool := a.all fun y => !b.contains y
/-- Operations without an order between them do not touch what the other one changes. -/
def okP (ops : List Oper) (fp : Fp) : Bool :=
  (List.range ops.length).all fun j => (List.range j).all fun i => befB ops ops.length i j ||
    (disjB (fp.getD i ([], [])).2 ((fp.getD j ([], [])).1 ++ (fp.getD j ([], [])).2) && disjB (fp.getD j ([], [])).2 (fp.getD i ([], [])).1)
theorem disjB_out {a b : List Nat} (h : disjB a b = true) : ∀ y ∈ a, y ∉ b := fun y hy => by
  have := (List.all_eq_true.1 h) y hy
  simpa using this

theorem V_draw3 {P Γ s} {Q : Exit → St → Prop} {kt : Kt} {id : Nat} {l : List Oper} (hm : P.follows .mixedOrders = true) (hord : ordOK l = true) (hn0 : Γ.n0 ≤ s.next)
    (h : ∀ (C : Fp → Prop) (k : St → Prop), (∀ fp, okP l fp = true → C fp) → (∀ s', RunK P Γ Q kt .normal s' → k s') → match stripL l.toArray l with | some l' => HD2 P l' s [] C k | none => False) :
    V P Γ (.region id l.toArray true) s (RunK P Γ Q kt) := by
  have := h (fun fp => okP l fp = true) _ (fun _ h => h) fun _ h => h
  split at this
  · rename_i l' hl
    have h0 : stE l s (fun _ => default) 0 = s := by
      have hnone : ∀ (l : List Oper) (i : Nat) (e : List (Nat × D)), envF (tT fun _ => default) (fun j => decide (j < 0)) l i e = e := by
        intro l
        induction l with
        | nil => intro i e; rfl
        | cons o l ih => intro i e; exact ih (i + 1) e
      simp only [stE, hnone]
      rfl
    have hc := this s (.refl s)
    rw [← h0] at hc
    obtain ⟨E, _, h2, hok, s', h3, h4⟩ := chain2_T l' l 0 (fun _ => default) hl (fun j => by rw [Nat.zero_add]) hc
    rw [Nat.zero_add] at hok h3
    have hlen : ∀ i, i < l.length → (tF E l.length).getD i ([], []) = (tR E i, keys (tW E i)) := fun i hi => by
      simp [tF, hi]
    have mono : ∀ i j, i ≤ j → cnt E i ≤ cnt E j := fun i j hij => by
      induction hij with
      | refl => exact Nat.le_refl _
      | step _ ih => simp only [cnt]; omega
    have hcr : ∀ i x, i < l.length → tC E i = some x → x = s.next + cnt E i ∧ cnt E (i + 1) = cnt E i + 1 := fun i x hi hx => by
      have := (h2 i _ (Nat.zero_le _) (List.getElem?_eq_getElem hi)).2.2 x hx
      exact ⟨this, by simp only [cnt, hx]; rfl⟩
    -- behind the operations nothing is made
    let cr : Nat → Option Nat := fun i => if i < l.length then tC E i else none
    refine V_draw2 (T := tT E) (W := tW E) (cr := cr) (R := tR E) (M := s.next + cnt E l.length) hm hord hn0 (by omega) (fun i x hx => ?_) (fun i j x hi hj => ?_) (fun i j hij hj hb => ?_) (fun i o ho => ?_) ⟨s', ?_, h4⟩
    · simp only [cr] at hx
      split at hx
      · rename_i hi
        obtain ⟨e1, e2⟩ := hcr i x hi hx
        have := mono (i + 1) l.length hi
        omega
      · cases hx
    · simp only [cr] at hi hj
      split at hi
      · rename_i hil
        split at hj
        · rename_i hjl
          obtain ⟨e1, e2⟩ := hcr i x hil hi
          obtain ⟨e3, e4⟩ := hcr j x hjl hj
          rcases Nat.lt_trichotomy i j with hlt | hlt | hlt
          · have := mono (i + 1) j hlt
            omega
          · exact hlt
          · have := mono (j + 1) i hlt
            omega
        · cases hj
      · cases hi
    · have := (List.all_eq_true.1 ((List.all_eq_true.1 hok) j (List.mem_range.2 hj))) i (List.mem_range.2 hij)
      rw [hb, hlen i (by omega), hlen j hj] at this
      simp only [Bool.false_or, Bool.and_eq_true] at this
      refine ⟨fun y hy => ?_, fun y hy => disjB_out this.2 y hy⟩
      have := disjB_out this.1 y hy
      rw [List.mem_append, not_or] at this
      exact this
    · have hi := (List.getElem?_eq_some_iff.1 ho).1
      obtain ⟨g1, g2, g3⟩ := h2 i o (Nat.zero_le _) ho
      refine ⟨g1, ?_⟩
      have hst : stW l (tT E) (tW E) s (s.next + cnt E l.length) (fun j => decide (j < i)) = { stE l s E i with next := s.next + cnt E l.length } := by
        simp only [stW, stE]
        rw [wlog_take (tW E) i l.length (by omega)]
      have hcri : cr i = tC E i := by simp only [cr]; rw [if_pos hi]
      rw [hst, hcri]
      have eqo : ∀ (op : Op) (r : D → Prop), valD P { stE l s E i with next := s.next + cnt E l.length } op r = valD P (stE l s E i) op r := fun op r => valD_congr rfl fun x _ => by cases x <;> rfl
      have ero : ∀ (op : Op), rdIds { stE l s E i with next := s.next + cnt E l.length } op = rdIds (stE l s E i) op := fun op => by
        have e : opd { stE l s E i with next := s.next + cnt E l.length } = opd (stE l s E i) := funext fun x => by cases x <;> rfl
        unfold rdIds lentIds argsV
        rw [e]
      have efo : ∀ (op : Op) (r : ERes → Prop), effD P { stE l s E i with next := s.next + cnt E l.length } op r = effD P (stE l s E i) op r := fun op r =>
        propext ⟨effD_loc (fun _ _ => rfl) fun x _ => by cases x <;> rfl, effD_loc (fun _ _ => rfl) fun x _ => by cases x <;> rfl⟩
      unfold OpG at g2 ⊢
      unfold Op1 at g2 ⊢
      simp only [eqo, ero, efo]
      exact g2
    · refine St.Eqo.trans (b := stE l s E l.length) ⟨rfl, fun x => ?_, rfl, fun x => ?_⟩ h3
      · simp only [stW, stE]
      · simp only [stW, stE]
        exact envF_congr (tT E) _ _ x l 0 s.env s.env rfl fun j o hj _ => by
          have := (List.getElem?_eq_some_iff.1 hj).1
          simp [this]
  · exact this.elim
end Go.VL
