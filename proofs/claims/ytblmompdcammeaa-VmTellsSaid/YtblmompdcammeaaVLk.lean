/- The calculus of values: statements, loops, functions. -/
import Derived.Test.YtblmompdcammeaaVLj
set_option linter.all false
namespace Go.VL
open Go

/-- A piece of code from a state on: however it ends, the state is one that Q admits. -/
def V (P : Program) (Γ : Ctx) (c : Code) (s : St) (Q : Exit → St → Prop) : Prop :=
  ∀ K a w, In Γ K w → Sim K Γ.own s a w → c.wp P (fun e a' w' => ∃ K' s', In Γ K' w' ∧ Sim K' Γ.own s' a' w' ∧ Q e s') a w

theorem V.mono {P Γ c s Q Q'} (h : V P Γ c s Q) (hq : ∀ e s, Q e s → Q' e s) : V P Γ c s Q' :=
  fun K a w hin hs => wp_mono (h K a w hin hs) fun _ _ _ ⟨K', s', h1, h2, h3⟩ => ⟨K', s', h1, h2, hq _ _ h3⟩

/-- What is left to do behind a piece of code. -/
inductive Kt where
  | done
  | seq (b : Code) (k : Kt)
  | blk (id : Nat) (k : Kt)
  | loop (I : St → Prop) (k : Kt)

def RunK (P : Program) (Γ : Ctx) (Q : Exit → St → Prop) : Kt → Exit → St → Prop
  | .done, e, s => Q e s
  | .seq b k, .normal, s => V P Γ b s (RunK P Γ Q k)
  | .seq _ k, e, s => RunK P Γ Q k e s
  | .blk id k, .exit id', s => if id' = id then RunK P Γ Q k .normal s else RunK P Γ Q k (.exit id') s
  | .blk _ k, e, s => RunK P Γ Q k e s
  | .loop I _, .normal, s => I s
  | .loop _ k, e, s => RunK P Γ Q k e s

section
variable {P : Program} {Γ : Ctx} {Q : Exit → St → Prop} {k : Kt} {s : St}

theorem V_seq {a b : Code} (h : V P Γ a s (RunK P Γ Q (.seq b k))) : V P Γ (.seq a b) s (RunK P Γ Q k) :=
  fun K ac w hin hs => wp_seq (wp_mono (h K ac w hin hs) fun e a' w' ⟨K', s', h1, h2, h3⟩ => by
    cases e with
    | normal => exact h3 K' a' w' h1 h2
    | _ => exact ⟨K', s', h1, h2, h3⟩)
theorem V_block {id : Nat} {c : Code} (h : V P Γ c s (RunK P Γ Q (.blk id k))) : V P Γ (.block id c) s (RunK P Γ Q k) :=
  fun K ac w hin hs => wp_block (wp_mono (h K ac w hin hs) fun e a' w' ⟨K', s', h1, h2, h3⟩ => by
    cases e with
    | exit id' =>
      simp only [RunK] at h3
      simp only [Exit.inBlock]
      split
      · rename_i he; rw [if_pos he] at h3; exact ⟨K', s', h1, h2, h3⟩
      · rename_i he; rw [if_neg he] at h3; exact ⟨K', s', h1, h2, h3⟩
    | _ => exact ⟨K', s', h1, h2, h3⟩)
theorem V_skip (h : RunK P Γ Q k .normal s) : V P Γ .skip s (RunK P Γ Q k) := fun K _ _ hin hs => wp_skip ⟨K, s, hin, hs, h⟩
theorem V_label {l} (h : RunK P Γ Q k .normal s) : V P Γ (.label l) s (RunK P Γ Q k) := fun K _ _ hin hs => wp_label ⟨K, s, hin, hs, h⟩
theorem V_exit {id} (h : RunK P Γ Q k (.exit id) s) : V P Γ (.exit id) s (RunK P Γ Q k) := fun K _ _ hin hs => wp_exit ⟨K, s, hin, hs, h⟩
theorem V_ret (h : RunK P Γ Q k .ret s) : V P Γ .ret s (RunK P Γ Q k) := fun K _ _ hin hs => wp_ret ⟨K, s, hin, hs, h⟩

theorem R_seq {b : Code} (h : V P Γ b s (RunK P Γ Q k)) : RunK P Γ Q (.seq b k) .normal s := h
theorem R_seq_ret {b : Code} (h : RunK P Γ Q k .ret s) : RunK P Γ Q (.seq b k) .ret s := h
theorem R_seq_exit {b : Code} {i} (h : RunK P Γ Q k (.exit i) s) : RunK P Γ Q (.seq b k) (.exit i) s := h
theorem R_blk {id} (h : RunK P Γ Q k .normal s) : RunK P Γ Q (.blk id k) .normal s := h
theorem R_blk_ret {id} (h : RunK P Γ Q k .ret s) : RunK P Γ Q (.blk id k) .ret s := h
theorem R_blk_exit {id} (h : RunK P Γ Q k .normal s) : RunK P Γ Q (.blk id k) (.exit id) s := by simp only [RunK, if_true]; exact h
theorem R_blk_other {id id'} (hne : id' ≠ id) (h : RunK P Γ Q k (.exit id') s) : RunK P Γ Q (.blk id k) (.exit id') s := by simp only [RunK, if_neg hne]; exact h
theorem R_loop_ret {I} (h : RunK P Γ Q k .ret s) : RunK P Γ Q (.loop I k) .ret s := h
theorem R_loop_exit {I i} (h : RunK P Γ Q k (.exit i) s) : RunK P Γ Q (.loop I k) (.exit i) s := h
theorem R_loop {I : St → Prop} (h : I s) : RunK P Γ Q (.loop I k) .normal s := h
theorem R_done {e} (h : Q e s) : RunK P Γ Q .done e s := h

theorem V_cond {c : Operand} {x y : Code} {t : Bool} (hc : opd s c = .u (.bool t)) (ht : t = true → V P Γ x s (RunK P Γ Q k)) (hf : t = false → V P Γ y s (RunK P Γ Q k)) :
    V P Γ (.cond c x y) s (RunK P Γ Q k) := fun K a w hin hs => by
  have hr := opd_rep hs c
  rw [hc] at hr
  exact wp_cond_split (rep_bool hr) (fun e => ht e K a w hin hs) (fun e => hf e K a w hin hs)
end

-- weaker states
def D.ren (ρ : Nat → Nat) : D → D
  | .u x => .u x
  | .ptr i o => .ptr (ρ i) o
  | .vec i l => .vec (ρ i) l
  | .elt i a b c => .elt (ρ i) a b c
  | .fnc f caps => .fnc f (caps.map fun d => d.ren ρ)
  | .agg cs => .agg (cs.map fun d => d.ren ρ)
  | .tup cs => .tup (cs.map fun d => d.ren ρ)
  | .any => .any
def D.under (n : Nat) : D → Bool
  | .u _ => true
  | .ptr i _ => decide (i < n)
  | .vec i _ => decide (i < n)
  | .elt i _ _ _ => decide (i < n)
  | .fnc _ caps => (caps.map fun d => d.under n).all id
  | .agg cs => (cs.map fun d => d.under n).all id
  | .tup cs => (cs.map fun d => d.under n).all id
  | .any => true
/-- A value that tells less. -/
def D.le (ρ : Nat → Nat) (d d' : D) : Prop := d' = .any ∨ d = d'.ren ρ ∨ (d = .u .nil ∧ d' = .u (.sl []))

/-- The knowledge under other numbers. -/
def Kr.ren (k : Kr) (ρ : Nat → Nat) (n : Nat) : Kr := { k with hdr := fun i => if i < n then k.hdr (ρ i) else none }

theorem Rep.unren {k : Kr} {ρ : Nat → Nat} {n : Nat} : ∀ {d : D} {v : Value}, Rep k (d.ren ρ) v → d.under n = true → Rep (k.ren ρ n) d v
  | .u x, v, h, _ => by
    rw [D.ren] at h
    cases h with | u _ _ h => exact .u _ _ h
  | .any, v, h, _ => .any v
  | .ptr i o, v, h, hb => by
    rw [D.ren] at h
    obtain ⟨b, c, h1, rfl⟩ := rep_ptr h
    simp [D.under] at hb
    exact .ptr _ _ b c (by simp [Kr.ren, hb, h1])
  | .vec i l, v, h, hb => by
    rw [D.ren] at h
    obtain ⟨g, h1, rfl⟩ := rep_vec h
    simp [D.under] at hb
    exact .vec _ _ g (by simp [Kr.ren, hb, h1])
  | .elt i a o c, v, h, hb => by
    rw [D.ren] at h
    obtain ⟨b, g, h1, rfl⟩ := rep_elt h
    simp [D.under] at hb
    exact .elt _ _ _ _ b g (by simp [Kr.ren, hb, h1])
  | .fnc f caps, v, h, hb => by
    rw [D.ren] at h
    obtain ⟨vs, h1, rfl, h2⟩ := rep_fnc h
    refine .fnc f caps vs (by simpa using h1) fun j d hj => ?_
    have hm := List.mem_of_getElem? hj
    have hbd : d.under n = true := by
      rw [D.under] at hb
      exact (List.all_eq_true.1 hb) _ (List.mem_map.2 ⟨d, hm, rfl⟩)
    exact Rep.unren (h2 j (d.ren ρ) (by simp [hj])) hbd
  | .agg caps, v, h, hb => by
    rw [D.ren] at h
    obtain ⟨vs, h1, rfl, h2⟩ := rep_agg h
    refine .agg caps vs (by simpa using h1) fun j d hj => ?_
    have hm := List.mem_of_getElem? hj
    have hbd : d.under n = true := by
      rw [D.under] at hb
      exact (List.all_eq_true.1 hb) _ (List.mem_map.2 ⟨d, hm, rfl⟩)
    exact Rep.unren (h2 j (d.ren ρ) (by simp [hj])) hbd
  | .tup caps, v, h, hb => by
    rw [D.ren] at h
    obtain ⟨vs, h1, rfl, h2⟩ := rep_tup h
    refine .tup caps vs (by simpa using h1) fun j d hj => ?_
    have hm := List.mem_of_getElem? hj
    have hbd : d.under n = true := by
      rw [D.under] at hb
      exact (List.all_eq_true.1 hb) _ (List.mem_map.2 ⟨d, hm, rfl⟩)
    exact Rep.unren (h2 j (d.ren ρ) (by simp [hj])) hbd
termination_by d => SizeOf.sizeOf d
decreasing_by
  all_goals
    simp_wf
    have := List.sizeOf_lt_of_mem hm
    omega

theorem Rep.weak {k : Kr} {ρ n d d' v} (h : Rep k d v) (hle : D.le ρ d d') (hb : d'.under n = true) : Rep (k.ren ρ n) d' v := by
  rcases hle with rfl | rfl | ⟨rfl, rfl⟩
  · exact .any v
  · exact h.unren hb
  · obtain rfl := rep_nil h
    exact .u _ _ (.slE _ _ fun _ => rfl)

/-- An object that tells less: other numbers, fewer rows. -/
def Ob.le (ρ : Nat → Nat) : Ob → Ob → Prop
  | .box cs, .box cs' => cs.length = cs'.length ∧ ∀ (j : Nat) (c c' : D), cs[j]? = some c → cs'[j]? = some c' → D.le ρ c c'
  | .vec e sz rows, .vec e' sz' rows' => e = e' ∧ sz = sz' ∧ rows'.length ≤ rows.length ∧ ∀ (i : Nat) (r r' : List D), rows[i]? = some r → rows'[i]? = some r' → r.length = r'.length ∧ ∀ (j : Nat) (c c' : D), r[j]? = some c → r'[j]? = some c' → D.le ρ c c'
  | _, _ => False
def Ob.under (n : Nat) : Ob → Bool
  | .box cs => cs.all (·.under n)
  | .vec _ _ rows => rows.all fun r => r.all (·.under n)

theorem ObAt.weak {k : Kr} {w ρ n h ob ob'} (ho : ObAt k w h ob) (hle : Ob.le ρ ob ob') (hb : ob'.under n = true) : ObAt (k.ren ρ n) w h ob' := by
  cases ob with
  | box cs =>
    cases ob' with
    | vec => exact hle.elim
    | box cs' =>
      obtain ⟨b, vs, t, h1, h2, h3, h4⟩ := ho
      obtain ⟨hl, hle⟩ := hle
      refine ⟨b, vs, t, h1, h2, by omega, fun j d hj => ?_⟩
      have hlt := (List.getElem?_eq_some_iff.1 hj).1
      have hc : cs[j]? = some cs[j] := List.getElem?_eq_getElem (by omega)
      exact ⟨(h4 j _ hc).1, (h4 j _ hc).2.weak (hle j _ _ hc hj) ((List.all_eq_true.1 hb) d (List.mem_of_getElem? hj))⟩
  | vec e sz rows =>
    cases ob' with
    | box => exact hle.elim
    | vec e' sz' rows' =>
      obtain ⟨xs, h1, h2, h3, h4⟩ := ho
      obtain ⟨rfl, rfl, hl, hle⟩ := hle
      have hmul : rows'.length * sz ≤ rows.length * sz := Nat.mul_le_mul_right _ hl
      have hrow : ∀ (i : Nat) (r' : List D), rows'[i]? = some r' → ∃ r : List D, rows[i]? = some r ∧ r.length = r'.length ∧ ∀ (j : Nat) (c c' : D), r[j]? = some c → r'[j]? = some c' → D.le ρ c c' := fun i r' hi => by
        have hlt := (List.getElem?_eq_some_iff.1 hi).1
        have hr : rows[i]? = some rows[i] := List.getElem?_eq_getElem (by omega)
        exact ⟨_, hr, hle i _ _ hr hi⟩
      refine ⟨xs.take (rows'.length * sz), ownsRow_take h1 hl, h2, fun r' hr => ?_, fun i r' hi j d hj => ?_⟩
      · obtain ⟨i, hi⟩ := List.getElem?_of_mem hr
        obtain ⟨r, hr, hlen, _⟩ := hrow i r' hi
        rw [← hlen]
        exact h3 r (List.mem_of_getElem? hr)
      · obtain ⟨r, hr, hlen, hcl⟩ := hrow i r' hi
        have hjl := (List.getElem?_eq_some_iff.1 hj).1
        have hc : r[j]? = some r[j] := List.getElem?_eq_getElem (by omega)
        have hrl := h3 r (List.mem_of_getElem? hr)
        have hil := (List.getElem?_eq_some_iff.1 hi).1
        have hlt : i * sz + j < rows'.length * sz := by
          have : (i + 1) * sz ≤ rows'.length * sz := Nat.mul_le_mul_right _ hil
          rw [Nat.add_mul, Nat.one_mul] at this
          omega
        have e1 : (xs.take (rows'.length * sz)).getD (i * sz + j) undef = xs.getD (i * sz + j) undef := by
          simp [List.getElem?_take, hlt]
        rw [e1]
        have := h4 i r hr j _ hc
        refine ⟨this.1, this.2.weak (hcl j _ _ hc hj) ?_⟩
        exact (List.all_eq_true.1 ((List.all_eq_true.1 hb) r' (List.mem_of_getElem? hi))) d (List.mem_of_getElem? hj)

/-- s' tells no more than s does, its objects under the numbers ρ. -/
structure St.Le (n0 : Nat) (ρ : Nat → Nat) (s s' : St) : Prop where
  n : s'.n = s.n
  env : ∀ x d', getK s'.env x = some d' → D.le ρ (s.at x) d' ∧ d'.under s'.next = true
  dom : ∀ x d', getK s'.env x = some d' → x < s.n
  obs : ∀ i ob', getK s'.obs i = some ob' → i < s'.next ∧ ∃ ob, getK s.obs (ρ i) = some ob ∧ Ob.le ρ ob ob' ∧ ob'.under s'.next = true
  inj : ∀ i j ob ob', getK s'.obs i = some ob → getK s'.obs j = some ob' → ρ i = ρ j → i = j
  keep : ∀ i, i < n0 → ρ i = i ∧ i < s'.next

theorem Sim.weak {Γ : Ctx} {k s s' a w ρ} (hin : In Γ k w) (hs : Sim k Γ.own s a w) (hle : St.Le Γ.n0 ρ s s') : In Γ (k.ren ρ s'.next) w ∧ Sim (k.ren ρ s'.next) Γ.own s' a w := by
  refine ⟨⟨⟨hin.le.mem, fun i h hi => ?_⟩, hin.none0, hin.memNew, hin.fresh, hin.os, hin.tape, hin.output, hin.size, hin.block⟩,
    ⟨⟨hs.sat.mem, fun i ob' hi => ?_, fun i j x y h g b hx hy hij hh hg hb => ?_⟩, hs.defers, by rw [hle.n]; exact hs.size, fun x d' hx => ?_, fun i hi => ?_⟩⟩
  · have hlt : i < Γ.n0 := by
      rcases Nat.lt_or_ge i Γ.n0 with h' | h'
      · exact h'
      · rw [hin.none0 i h'] at hi; cases hi
    obtain ⟨h1, h2⟩ := hle.keep i hlt
    simp only [Kr.ren, h1]
    rw [if_pos h2]
    exact hin.le.hdr i h hi
  · obtain ⟨h1, ob, h2, h3, h4⟩ := hle.obs i ob' hi
    obtain ⟨h, h5, h6, h7⟩ := hs.sat.ob _ ob h2
    exact ⟨h, by simp [Kr.ren, h1, h5], h6, h7.weak h3 h4⟩
  · obtain ⟨i1, ox, h2, _⟩ := hle.obs i x hx
    obtain ⟨j1, oy, h2', _⟩ := hle.obs j y hy
    simp only [Kr.ren, if_pos i1] at hh
    simp only [Kr.ren, if_pos j1] at hg
    exact hs.sat.apart _ _ ox oy h g b h2 h2' (fun e => hij (hle.inj i j x y hx hy e)) hh hg hb
  · obtain ⟨h1, h2⟩ := hle.env x d' hx
    exact ⟨by rw [hle.n]; exact hle.dom x d' hx, (hs.at x).weak h1 h2⟩
  · simp only [Kr.ren]
    rw [if_neg (by omega)]

theorem V.weak {P Γ c s s' Q ρ} (hle : St.Le Γ.n0 ρ s s') (h : V P Γ c s' Q) : V P Γ c s Q := fun K a w hin hs =>
  let ⟨h1, h2⟩ := Sim.weak hin hs hle
  h _ a w h1 h2

/-- The next round's state is one of the family, and closer to the end. -/
def LoopI {α : Type} (n0 : Nat) (S : α → St) (μ : α → Nat) (x : α) (s : St) : Prop := ∃ y ρ, μ y < μ x ∧ St.Le n0 ρ s (S y)

theorem V_loop {P Γ Q k s} {c : Code} {α : Type} (S : α → St) (μ : α → Nat) (x0 : α) (ρ : Nat → Nat) (h0 : St.Le Γ.n0 ρ s (S x0))
    (h : ∀ x, V P Γ c (S x) (RunK P Γ Q (.loop (LoopI Γ.n0 S μ x) k))) : V P Γ (.loop c) s (RunK P Γ Q k) := by
  intro K a w hin hs
  obtain ⟨hin0, hs0⟩ := Sim.weak hin hs h0
  have key : ∀ (m : Nat) (x : α) (K : Kr) (a : Act) (w : World), μ x = m → In Γ K w → Sim K Γ.own (S x) a w →
      ∀ (b : Frame) (kk : List Item) (cs : List Frame), ∃ e a' w', (∃ K' s', In Γ K' w' ∧ Sim K' Γ.own s' a' w' ∧ RunK P Γ Q k e s') ∧
        Arrives P (lone (b.at a (.code c :: .inLoop c :: kk)) cs w) b kk cs e a' w' := by
    intro m
    induction m using Nat.strongRecOn with
    | _ m ih =>
      intro x K a w hm hin hs b kk cs
      obtain ⟨e, a1, w1, ⟨K1, s1, h1, h2, h3⟩, harr⟩ := h x K a w hin hs b (.inLoop c :: kk) cs
      cases e with
      | normal =>
        obtain ⟨y, ρ', hlt, hle⟩ := h3
        obtain ⟨h4, h5⟩ := Sim.weak h1 h2 hle
        obtain ⟨e2, a2, w2, hq, harr2⟩ := ih (μ y) (hm ▸ hlt) y _ a1 w1 rfl h4 h5 b kk cs
        exact ⟨e2, a2, w2, hq, .of_steps (Steps.trans harr (.one step_inLoop)) harr2⟩
      | exit id => exact ⟨_, a1, w1, ⟨K1, s1, h1, h2, h3⟩, .pass (x := .inLoop c) rfl (fun _ _ => .inl (by simp)) harr⟩
      | goto l => exact ⟨_, a1, w1, ⟨K1, s1, h1, h2, h3⟩, .pass (x := .inLoop c) rfl (fun _ _ => .inl (by simp)) harr⟩
      | ret => exact ⟨_, a1, w1, ⟨K1, s1, h1, h2, h3⟩, .pass (x := .inLoop c) rfl (fun _ _ => .inl (by simp)) harr⟩
      | panic ch => exact ⟨_, a1, w1, ⟨K1, s1, h1, h2, h3⟩, .pass (x := .inLoop c) rfl (fun _ _ => .inl (by simp)) harr⟩
      | outgrown => exact ⟨_, a1, w1, ⟨K1, s1, h1, h2, h3⟩, .pass (x := .inLoop c) rfl (fun _ _ => .inl (by simp)) harr⟩
  intro b kk cs
  obtain ⟨e, a', w', hq, harr⟩ := key _ x0 _ a w rfl hin0 hs0 b kk cs
  exact ⟨e, a', w', hq, .of_steps (.one step_loop) harr⟩

end Go.VL
