/- The calculus of values (VLk, VLl, VLm, VLn, VLo, VLp). -/
import Derived.Test.YtdkadmchdocjbaaVLjb
import Derived.Orders
set_option linter.all false
set_option maxRecDepth 100000
set_option maxHeartbeats 8000000
/- The calculus of values: statements, loops, functions. -/
namespace Go.VL
open Go

/-- A piece of code from a state on: however it ends, the state is one that Q admits. -/
def Qx (Γ : Ctx) (Q : Exit → St → Prop) : Exit → St → Prop
  | .panic ch, s => Γ.pan ch s
  | e, s => Q e s
/-- An end of the whole function. -/
def lastE : Exit → Prop
  | .ret => True
  | .panic _ => True
  | _ => False
def VPost (Γ : Ctx) (Q : Exit → St → Prop) (e : Exit) (a : Act) (w : World) : Prop := (∃ K s, In Γ K w ∧ Sim K Γ.own s a w ∧ Qx Γ Q e s) ∨ (lastE e ∧ Γ.esc e a w)
def V (P : Program) (Γ : Ctx) (c : Code) (s : St) (Q : Exit → St → Prop) : Prop :=
  ∀ K a w, In Γ K w → Sim K Γ.own s a w → c.wp P (VPost Γ Q) a w
theorem VPost.mono {Γ Q Q' e a w} (h : VPost Γ Q e a w) (hq : ∀ e s, Q e s → Q' e s) : VPost Γ Q' e a w := by
  rcases h with ⟨K', s', h1, h2, h3⟩ | h
  · refine .inl ⟨K', s', h1, h2, ?_⟩
    cases e with
    | panic ch => exact h3
    | _ => exact hq _ _ h3
  · exact .inr h

theorem V.mono {P Γ c s Q Q'} (h : V P Γ c s Q) (hq : ∀ e s, Q e s → Q' e s) : V P Γ c s Q' :=
  fun K a w hin hs => wp_mono (h K a w hin hs) fun _ _ _ h => h.mono hq

/-- What is left to do behind a piece of code. -/
inductive Kt where
  | done
  | seq (b : Code) (k : Kt)
  | blk (id : Nat) (k : Kt)
  | loop (I : St → Prop) (k : Kt)

def RunK (P : Program) (Γ : Ctx) (Q : Exit → St → Prop) : Kt → Exit → St → Prop
  | .done, e, s => Q e s
  | .seq b k, .normal, s => V P Γ b s (RunK P Γ Q k)
  | .seq _ k, e, s => RunK P Γ Q k e s
  | .blk id k, .exit id', s => if id' = id then RunK P Γ Q k .normal s else RunK P Γ Q k (.exit id') s
  | .blk _ k, e, s => RunK P Γ Q k e s
  | .loop I _, .normal, s => I s
  | .loop _ k, e, s => RunK P Γ Q k e s

section
variable {P : Program} {Γ : Ctx} {Q : Exit → St → Prop} {k : Kt} {s : St}

theorem V_seq {a b : Code} (h : V P Γ a s (RunK P Γ Q (.seq b k))) : V P Γ (.seq a b) s (RunK P Γ Q k) :=
  fun K ac w hin hs => wp_seq (wp_mono (h K ac w hin hs) fun e a' w' h => by
    rcases h with ⟨K', s', h1, h2, h3⟩ | h
    · cases e with
      | normal => exact h3 K' a' w' h1 h2
      | _ => exact .inl ⟨K', s', h1, h2, h3⟩
    · cases e with
      | normal => exact h.1.elim
      | _ => exact .inr h)
theorem V_block {id : Nat} {c : Code} (h : V P Γ c s (RunK P Γ Q (.blk id k))) : V P Γ (.block id c) s (RunK P Γ Q k) :=
  fun K ac w hin hs => wp_block (wp_mono (h K ac w hin hs) fun e a' w' h => by
    rcases h with ⟨K', s', h1, h2, h3⟩ | h
    · cases e with
      | exit id' =>
        simp only [Qx, RunK] at h3
        simp only [Exit.inBlock]
        split
        · rename_i he; rw [if_pos he] at h3; exact .inl ⟨K', s', h1, h2, h3⟩
        · rename_i he; rw [if_neg he] at h3; exact .inl ⟨K', s', h1, h2, h3⟩
      | _ => exact .inl ⟨K', s', h1, h2, h3⟩
    · cases e with
      | exit => exact h.1.elim
      | _ => exact .inr h)
theorem V_skip (h : RunK P Γ Q k .normal s) : V P Γ .skip s (RunK P Γ Q k) := fun K _ _ hin hs => wp_skip (.inl ⟨K, s, hin, hs, h⟩)
theorem V_label {l} (h : RunK P Γ Q k .normal s) : V P Γ (.label l) s (RunK P Γ Q k) := fun K _ _ hin hs => wp_label (.inl ⟨K, s, hin, hs, h⟩)
theorem V_exit {id} (h : RunK P Γ Q k (.exit id) s) : V P Γ (.exit id) s (RunK P Γ Q k) := fun K _ _ hin hs => wp_exit (.inl ⟨K, s, hin, hs, h⟩)
theorem V_ret (h : RunK P Γ Q k .ret s) : V P Γ .ret s (RunK P Γ Q k) := fun K _ _ hin hs => wp_ret (.inl ⟨K, s, hin, hs, h⟩)

theorem R_seq {b : Code} (h : V P Γ b s (RunK P Γ Q k)) : RunK P Γ Q (.seq b k) .normal s := h
theorem R_seq_ret {b : Code} (h : RunK P Γ Q k .ret s) : RunK P Γ Q (.seq b k) .ret s := h
theorem R_seq_exit {b : Code} {i} (h : RunK P Γ Q k (.exit i) s) : RunK P Γ Q (.seq b k) (.exit i) s := h
theorem R_blk {id} (h : RunK P Γ Q k .normal s) : RunK P Γ Q (.blk id k) .normal s := h
theorem R_blk_ret {id} (h : RunK P Γ Q k .ret s) : RunK P Γ Q (.blk id k) .ret s := h
theorem R_blk_exit {id} (h : RunK P Γ Q k .normal s) : RunK P Γ Q (.blk id k) (.exit id) s := by simp only [RunK, if_true]; exact h
theorem R_blk_other {id id'} (hne : id' ≠ id) (h : RunK P Γ Q k (.exit id') s) : RunK P Γ Q (.blk id k) (.exit id') s := by simp only [RunK, if_neg hne]; exact h
theorem R_loop_ret {I} (h : RunK P Γ Q k .ret s) : RunK P Γ Q (.loop I k) .ret s := h
theorem R_loop_exit {I i} (h : RunK P Γ Q k (.exit i) s) : RunK P Γ Q (.loop I k) (.exit i) s := h
theorem R_loop {I : St → Prop} (h : I s) : RunK P Γ Q (.loop I k) .normal s := h
theorem R_done {e} (h : Q e s) : RunK P Γ Q .done e s := h

theorem V_cond {c : Operand} {x y : Code} {t : Bool} (hc : opd s c = .u (.bool t)) (ht : t = true → V P Γ x s (RunK P Γ Q k)) (hf : t = false → V P Γ y s (RunK P Γ Q k)) :
    V P Γ (.cond c x y) s (RunK P Γ Q k) := fun K a w hin hs => by
  have hr := opd_rep hs c
  rw [hc] at hr
  exact wp_cond_split (rep_bool hr) (fun e => ht e K a w hin hs) (fun e => hf e K a w hin hs)
end

-- weaker states
def D.ren (ρ : Nat → Nat) : D → D
  | .u x => .u x
  | .ptr i o => .ptr (ρ i) o
  | .vec i l => .vec (ρ i) l
  | .elt i a b c => .elt (ρ i) a b c
  | .mp i => .mp (ρ i)
  | .fnc f caps => .fnc f (caps.map fun d => d.ren ρ)
  | .agg cs => .agg (cs.map fun d => d.ren ρ)
  | .tup cs => .tup (cs.map fun d => d.ren ρ)
  | .any => .any
def D.under (n : Nat) : D → Bool
  | .u _ => true
  | .ptr i _ => decide (i < n)
  | .vec i _ => decide (i < n)
  | .elt i _ _ _ => decide (i < n)
  | .mp i => decide (i < n)
  | .fnc _ caps => (caps.map fun d => d.under n).all id
  | .agg cs => (cs.map fun d => d.under n).all id
  | .tup cs => (cs.map fun d => d.under n).all id
  | .any => true
/-- A value that tells less. -/
def D.le (ρ : Nat → Nat) (d d' : D) : Prop := d' = .any ∨ d = d'.ren ρ ∨ (d = .u .nil ∧ d' = .u (.sl []))

/-- The knowledge under other numbers. -/
def Kr.ren (k : Kr) (ρ : Nat → Nat) (n : Nat) : Kr := { k with hdr := fun i => if i < n then k.hdr (ρ i) else none }

theorem Rep.unren {k : Kr} {ρ : Nat → Nat} {n : Nat} : ∀ {d : D} {v : Value}, Rep k (d.ren ρ) v → d.under n = true → Rep (k.ren ρ n) d v
  | .u x, v, h, _ => by
    rw [D.ren] at h
    cases h with | u _ _ h => exact .u _ _ h
  | .any, v, h, _ => .any v
  | .ptr i o, v, h, hb => by
    rw [D.ren] at h
    obtain ⟨b, c, h1, rfl⟩ := rep_ptr h
    simp [D.under] at hb
    exact .ptr _ _ b c (by simp [Kr.ren, hb, h1])
  | .vec i l, v, h, hb => by
    rw [D.ren] at h
    obtain ⟨g, h1, rfl⟩ := rep_vec h
    simp [D.under] at hb
    exact .vec _ _ g (by simp [Kr.ren, hb, h1])
  | .mp i, v, h, hb => by
    rw [D.ren] at h
    obtain ⟨b, c, h1, rfl⟩ := rep_mp h
    simp [D.under] at hb
    exact .mp _ b c (by simp [Kr.ren, hb, h1])
  | .elt i a o c, v, h, hb => by
    rw [D.ren] at h
    obtain ⟨b, g, h1, rfl⟩ := rep_elt h
    simp [D.under] at hb
    exact .elt _ _ _ _ b g (by simp [Kr.ren, hb, h1])
  | .fnc f caps, v, h, hb => by
    rw [D.ren] at h
    obtain ⟨vs, h1, rfl, h2⟩ := rep_fnc h
    refine .fnc f caps vs (by simpa using h1) fun j d hj => ?_
    have hm := List.mem_of_getElem? hj
    have hbd : d.under n = true := by
      rw [D.under] at hb
      exact (List.all_eq_true.1 hb) _ (List.mem_map.2 ⟨d, hm, rfl⟩)
    exact Rep.unren (h2 j (d.ren ρ) (by simp [hj])) hbd
  | .agg caps, v, h, hb => by
    rw [D.ren] at h
    obtain ⟨vs, h1, rfl, h2⟩ := rep_agg h
    refine .agg caps vs (by simpa using h1) fun j d hj => ?_
    have hm := List.mem_of_getElem? hj
    have hbd : d.under n = true := by
      rw [D.under] at hb
      exact (List.all_eq_true.1 hb) _ (List.mem_map.2 ⟨d, hm, rfl⟩)
    exact Rep.unren (h2 j (d.ren ρ) (by simp [hj])) hbd
  | .tup caps, v, h, hb => by
    rw [D.ren] at h
    obtain ⟨vs, h1, rfl, h2⟩ := rep_tup h
    refine .tup caps vs (by simpa using h1) fun j d hj => ?_
    have hm := List.mem_of_getElem? hj
    have hbd : d.under n = true := by
      rw [D.under] at hb
      exact (List.all_eq_true.1 hb) _ (List.mem_map.2 ⟨d, hm, rfl⟩)
    exact Rep.unren (h2 j (d.ren ρ) (by simp [hj])) hbd
termination_by d => SizeOf.sizeOf d
decreasing_by
  all_goals
    simp_wf
    have := List.sizeOf_lt_of_mem hm
    omega

theorem Rep.weak {k : Kr} {ρ n d d' v} (h : Rep k d v) (hle : D.le ρ d d') (hb : d'.under n = true) : Rep (k.ren ρ n) d' v := by
  rcases hle with rfl | rfl | ⟨rfl, rfl⟩
  · exact .any v
  · exact h.unren hb
  · obtain rfl := rep_nil h
    exact .u _ _ (.slE _ _ fun _ => rfl)

/-- An object that tells less: other numbers, fewer rows. -/
def Ob.le (ρ : Nat → Nat) : Ob → Ob → Prop
  | .box cs, .box cs' => cs.length = cs'.length ∧ ∀ (j : Nat) (c c' : D), cs[j]? = some c → cs'[j]? = some c' → D.le ρ c c'
  | .vec e sz rows, .vec e' sz' rows' => e = e' ∧ sz = sz' ∧ rows'.length ≤ rows.length ∧ ∀ (i : Nat) (r r' : List D), rows[i]? = some r → rows'[i]? = some r' → r.length = r'.length ∧ ∀ (j : Nat) (c c' : D), r[j]? = some c → r'[j]? = some c' → D.le ρ c c'
  | .map kk ag es, .map kk' ag' es' => kk = kk' ∧ ag = ag' ∧ es.map (·.1) = es'.map (·.1) ∧ ∀ (i : Nat) (p p' : Key × List D), es[i]? = some p → es'[i]? = some p' → p.2.length = p'.2.length ∧ ∀ (j : Nat) (c c' : D), p.2[j]? = some c → p'.2[j]? = some c' → D.le ρ c c'
  | .it kk ag es left cur, .it kk' ag' es' left' cur' => kk = kk' ∧ ag = ag' ∧ es = es' ∧ left = left' ∧ cur = cur'
  | _, _ => False
def Ob.under (n : Nat) : Ob → Bool
  | .box cs => cs.all (·.under n)
  | .vec _ _ rows => rows.all fun r => r.all (·.under n)
  | .map _ _ es => es.all fun p => p.2.all (·.under n)
  | .it _ _ _ _ _ => true

theorem perm_zip {α : Type} {R : α → α → Prop} {l1 l : List α} (hp : l1.Perm l) : ∀ {es' : List α}, l.length = es'.length → (∀ (i : Nat) (p p' : α), l[i]? = some p → es'[i]? = some p' → R p p') →
    ∃ l2 : List α, l2.Perm es' ∧ l1.length = l2.length ∧ ∀ (i : Nat) (p p' : α), l1[i]? = some p → l2[i]? = some p' → R p p' := by
  induction hp with
  | nil => intro es' hl h; exact ⟨es', .refl _, hl, h⟩
  | cons x hp ih =>
    intro es' hl h
    cases es' with
    | nil => simp at hl
    | cons y t =>
      obtain ⟨l2, h1, h2, h3⟩ := ih (es' := t) (by simpa using hl) (fun i p p' hp hp' => h (i + 1) p p' (by simpa using hp) (by simpa using hp'))
      refine ⟨y :: l2, h1.cons _, by simp [h2], fun i p p' hp hp' => ?_⟩
      cases i with
      | zero => exact h 0 p p' hp hp'
      | succ i => exact h3 i p p' (by simpa using hp) (by simpa using hp')
  | swap x y l =>
    intro es' hl h
    match es', hl, h with
    | a :: b :: t, hl, h =>
      refine ⟨b :: a :: t, .swap _ _ _, by simpa using hl, fun i p p' hp hp' => ?_⟩
      match i, hp, hp' with
      | 0, hp, hp' => exact h 1 p p' hp hp'
      | 1, hp, hp' => exact h 0 p p' hp hp'
      | i + 2, hp, hp' => exact h (i + 2) p p' hp hp'
    | [a], hl, _ => simp at hl
    | [], hl, _ => simp at hl
  | trans p1 p2 ih1 ih2 =>
    intro es' hl h
    obtain ⟨l2, h1, h2, h3⟩ := ih2 hl h
    obtain ⟨l3, h4, h5, h6⟩ := ih1 h2 h3
    exact ⟨l3, h4.trans h1, h5, h6⟩
theorem ObAt.weak {k : Kr} {w ρ n h ob ob'} (ho : ObAt k w h ob) (hle : Ob.le ρ ob ob') (hb : ob'.under n = true) : ObAt (k.ren ρ n) w h ob' := by
  cases ob with
  | it kk ag es left cur =>
    cases ob' with
    | box => exact hle.elim
    | vec => exact hle.elim
    | map => exact hle.elim
    | it kk' ag' es' left' cur' =>
      obtain ⟨rfl, rfl, rfl, rfl, rfl⟩ := hle
      exact ho
  | map kk ag es =>
    cases ob' with
    | box => exact hle.elim
    | vec => exact hle.elim
    | it => exact hle.elim
    | map kk' ag' es' =>
      obtain ⟨rfl, rfl, hkey, hle⟩ := hle
      obtain ⟨b, ents, clock, es1, h1, h2, hpm, h3⟩ := ho
      obtain ⟨es2, hpm2, hkey, hle⟩ : ∃ es2 : List (Key × List D), es2.Perm es' ∧ es1.map (·.1) = es2.map (·.1) ∧ ∀ (i : Nat) (p p' : Key × List D), es1[i]? = some p → es2[i]? = some p' → p.2.length = p'.2.length ∧ ∀ (j : Nat) (c c' : D), p.2[j]? = some c → p'.2[j]? = some c' → D.le ρ c c' := by
        obtain ⟨es2, h4, h5, h6⟩ := perm_zip (R := fun p p' => p.1 = p'.1 ∧ p.2.length = p'.2.length ∧ ∀ (j : Nat) (c c' : D), p.2[j]? = some c → p'.2[j]? = some c' → D.le ρ c c') hpm (es' := es') (by have := congrArg List.length hkey; simpa using this) (fun i p p' hp hp' => ⟨by
          have := congrArg (fun l => l[i]?) hkey
          simp only [List.getElem?_map, hp, hp', Option.map_some, Option.some.injEq] at this
          exact this, hle i p p' hp hp'⟩)
        refine ⟨es2, h4, ?_, fun i p p' hp hp' => (h6 i p p' hp hp').2⟩
        refine List.ext_getElem? fun i => ?_
        simp only [List.getElem?_map]
        cases hp : es1[i]? with
        | none =>
          have : es2[i]? = none := by simp at hp ⊢; omega
          rw [this]
        | some p =>
          have hl := (List.getElem?_eq_some_iff.1 hp).1
          obtain ⟨p', hp'⟩ : ∃ p', es2[i]? = some p' := ⟨es2[i], List.getElem?_eq_getElem (by omega)⟩
          rw [hp']
          exact congrArg some (h6 i p p' hp hp').1
      have hb : Ob.under n (.map kk ag es2) = true := by
        simp only [Ob.under, List.all_eq_true] at hb ⊢
        exact fun p hp => hb p (hpm2.mem_iff.1 hp)
      clear hpm
      generalize es1 = es at *
      have hlen : es.length = es2.length := by have := congrArg List.length hkey; simpa using this
      have hrow : ∀ (i : Nat) (p' : Key × List D), es2[i]? = some p' → ∃ p, es[i]? = some p ∧ p.1 = p'.1 := fun i p' hp => by
        have hlt := (List.getElem?_eq_some_iff.1 hp).1
        have hp0 : es[i]? = some es[i] := List.getElem?_eq_getElem (by omega)
        refine ⟨_, hp0, ?_⟩
        have := congrArg (fun l => l[i]?) hkey
        simp only [List.getElem?_map, hp0, hp, Option.map_some, Option.some.injEq] at this
        exact this
      refine ⟨b, ents, clock, es2, h1, h2, hpm2, ⟨by rw [h3.size, hlen], fun p' hp => ?_, ?_, fun i p' hp => ?_, h3.born, h3.apart⟩⟩
      · obtain ⟨i, hi⟩ := List.getElem?_of_mem hp
        obtain ⟨p, h4, h5⟩ := hrow i p' hi
        rw [← h5]
        exact h3.kind p (List.mem_of_getElem? h4)
      · have h4 := h3.once
        have e1 : es.Pairwise (fun p q => p.1 ≠ q.1) ↔ (es.map (·.1)).Pairwise (· ≠ ·) := by rw [List.pairwise_map]
        have e2 : es2.Pairwise (fun p q => p.1 ≠ q.1) ↔ (es2.map (·.1)).Pairwise (· ≠ ·) := by rw [List.pairwise_map]
        rw [e2, ← hkey, ← e1]
        exact h4
      · obtain ⟨p, h4, h5⟩ := hrow i p' hp
        obtain ⟨en, h6, h7, h8⟩ := h3.ent i p h4
        refine ⟨en, h6, by rw [h7, h5], ?_⟩
        obtain ⟨hl2, hc⟩ := hle i p p' h4 hp
        have hub : ∀ c ∈ p'.2, c.under n = true := (List.all_eq_true.1 ((List.all_eq_true.1 hb) p' (List.mem_of_getElem? hp)))
        unfold MV at h8 ⊢
        split
        · rename_i hag
          rw [if_pos hag] at h8
          obtain ⟨vs, h9, h10, h11⟩ := h8
          refine ⟨vs, h9, by omega, fun j d hj => ?_⟩
          have hlt := (List.getElem?_eq_some_iff.1 hj).1
          have hpj : p.2[j]? = some (p.2[j]'(by omega)) := List.getElem?_eq_getElem (by omega)
          exact ⟨(h11 j _ hpj).1, (h11 j _ hpj).2.weak (hc j _ _ hpj hj) (hub d (List.mem_of_getElem? hj))⟩
        · rename_i hag
          rw [if_neg hag] at h8
          obtain ⟨d, h9, h10⟩ := h8
          have hl1 : p'.2.length = 1 := by rw [← hl2, h9]; rfl
          obtain ⟨d', hd'⟩ := List.length_eq_one_iff.1 hl1
          exact ⟨d', hd', h10.1, h10.2.weak (hc 0 d d' (by simp [h9]) (by simp [hd'])) (hub d' (by simp [hd']))⟩
  | box cs =>
    cases ob' with
    | vec => exact hle.elim
    | map => exact hle.elim
    | it => exact hle.elim
    | box cs' =>
      obtain ⟨b, vs, t, h1, h2, h3, h4⟩ := ho
      obtain ⟨hl, hle⟩ := hle
      refine ⟨b, vs, t, h1, h2, by omega, fun j d hj => ?_⟩
      have hlt := (List.getElem?_eq_some_iff.1 hj).1
      have hc : cs[j]? = some cs[j] := List.getElem?_eq_getElem (by omega)
      exact ⟨(h4 j _ hc).1, (h4 j _ hc).2.weak (hle j _ _ hc hj) ((List.all_eq_true.1 hb) d (List.mem_of_getElem? hj))⟩
  | vec e sz rows =>
    cases ob' with
    | box => exact hle.elim
    | map => exact hle.elim
    | it => exact hle.elim
    | vec e' sz' rows' =>
      obtain ⟨xs, h1, h2, h3, h4⟩ := ho
      obtain ⟨rfl, rfl, hl, hle⟩ := hle
      have hmul : rows'.length * sz ≤ rows.length * sz := Nat.mul_le_mul_right _ hl
      have hrow : ∀ (i : Nat) (r' : List D), rows'[i]? = some r' → ∃ r : List D, rows[i]? = some r ∧ r.length = r'.length ∧ ∀ (j : Nat) (c c' : D), r[j]? = some c → r'[j]? = some c' → D.le ρ c c' := fun i r' hi => by
        have hlt := (List.getElem?_eq_some_iff.1 hi).1
        have hr : rows[i]? = some rows[i] := List.getElem?_eq_getElem (by omega)
        exact ⟨_, hr, hle i _ _ hr hi⟩
      refine ⟨xs.take (rows'.length * sz), ownsRow_take h1 hl, h2, fun r' hr => ?_, fun i r' hi j d hj => ?_⟩
      · obtain ⟨i, hi⟩ := List.getElem?_of_mem hr
        obtain ⟨r, hr, hlen, _⟩ := hrow i r' hi
        rw [← hlen]
        exact h3 r (List.mem_of_getElem? hr)
      · obtain ⟨r, hr, hlen, hcl⟩ := hrow i r' hi
        have hjl := (List.getElem?_eq_some_iff.1 hj).1
        have hc : r[j]? = some r[j] := List.getElem?_eq_getElem (by omega)
        have hrl := h3 r (List.mem_of_getElem? hr)
        have hil := (List.getElem?_eq_some_iff.1 hi).1
        have hlt : i * sz + j < rows'.length * sz := by
          have : (i + 1) * sz ≤ rows'.length * sz := Nat.mul_le_mul_right _ hil
          rw [Nat.add_mul, Nat.one_mul] at this
          omega
        have e1 : (xs.take (rows'.length * sz)).getD (i * sz + j) undef = xs.getD (i * sz + j) undef := by
          simp [List.getElem?_take, hlt]
        rw [e1]
        have := h4 i r hr j _ hc
        refine ⟨this.1, this.2.weak (hcl j _ _ hc hj) ?_⟩
        exact (List.all_eq_true.1 ((List.all_eq_true.1 hb) r' (List.mem_of_getElem? hi))) d (List.mem_of_getElem? hj)

/-- s' tells no more than s does, its objects under the numbers ρ. -/
structure St.Le (n0 : Nat) (ρ : Nat → Nat) (s s' : St) : Prop where
  n : s'.n = s.n
  env : ∀ x d', getK s'.env x = some d' → D.le ρ (s.at x) d' ∧ d'.under s'.next = true
  dom : ∀ x d', getK s'.env x = some d' → x < s.n
  obs : ∀ i ob', getK s'.obs i = some ob' → i < s'.next ∧ ∃ ob, getK s.obs (ρ i) = some ob ∧ Ob.le ρ ob ob' ∧ ob'.under s'.next = true
  inj : ∀ i j ob ob', getK s'.obs i = some ob → getK s'.obs j = some ob' → ρ i = ρ j → i = j
  keep : ∀ i, i < n0 → ρ i = i ∧ i < s'.next

theorem Sim.weak {Γ : Ctx} {k s s' a w ρ} (hin : In Γ k w) (hs : Sim k Γ.own s a w) (hle : St.Le Γ.n0 ρ s s') : In Γ (k.ren ρ s'.next) w ∧ Sim (k.ren ρ s'.next) Γ.own s' a w := by
  refine ⟨⟨⟨hin.le.mem, fun i h hi => ?_⟩, hin.none0, hin.memNew, hin.fresh, hin.os, hin.tape, hin.output, hin.size, hin.block⟩,
    ⟨⟨hs.sat.mem, fun i ob' hi => ?_, fun i j x y h g b hx hy hij hh hg hb => ?_⟩, hs.defers, by rw [hle.n]; exact hs.size, fun x d' hx => ?_, fun i hi => ?_⟩⟩
  · have hlt : i < Γ.n0 := by
      rcases Nat.lt_or_ge i Γ.n0 with h' | h'
      · exact h'
      · rw [hin.none0 i h'] at hi; cases hi
    obtain ⟨h1, h2⟩ := hle.keep i hlt
    simp only [Kr.ren, h1]
    rw [if_pos h2]
    exact hin.le.hdr i h hi
  · obtain ⟨h1, ob, h2, h3, h4⟩ := hle.obs i ob' hi
    obtain ⟨h, h5, h6, h7⟩ := hs.sat.ob _ ob h2
    exact ⟨h, by simp [Kr.ren, h1, h5], h6, h7.weak h3 h4⟩
  · obtain ⟨i1, ox, h2, _⟩ := hle.obs i x hx
    obtain ⟨j1, oy, h2', _⟩ := hle.obs j y hy
    simp only [Kr.ren, if_pos i1] at hh
    simp only [Kr.ren, if_pos j1] at hg
    exact hs.sat.apart _ _ ox oy h g b h2 h2' (fun e => hij (hle.inj i j x y hx hy e)) hh hg hb
  · obtain ⟨h1, h2⟩ := hle.env x d' hx
    exact ⟨by rw [hle.n]; exact hle.dom x d' hx, (hs.at x).weak h1 h2⟩
  · simp only [Kr.ren]
    rw [if_neg (by omega)]

theorem V.weak {P Γ c s s' Q ρ} (hle : St.Le Γ.n0 ρ s s') (h : V P Γ c s' Q) : V P Γ c s Q := fun K a w hin hs =>
  let ⟨h1, h2⟩ := Sim.weak hin hs hle
  h _ a w h1 h2

/-- The next round's state is one of the family, and closer to the end. -/
def LoopI {α : Type} (n0 : Nat) (S : α → St) (μ : α → Nat) (x : α) (s : St) : Prop := ∃ y ρ, μ y < μ x ∧ St.Le n0 ρ s (S y)

theorem V_loop {P Γ Q k s} {c : Code} {α : Type} (S : α → St) (μ : α → Nat) (x0 : α) (ρ : Nat → Nat) (h0 : St.Le Γ.n0 ρ s (S x0))
    (h : ∀ x, V P Γ c (S x) (RunK P Γ Q (.loop (LoopI Γ.n0 S μ x) k))) : V P Γ (.loop c) s (RunK P Γ Q k) := by
  intro K a w hin hs
  obtain ⟨hin0, hs0⟩ := Sim.weak hin hs h0
  have key : ∀ (m : Nat) (x : α) (K : Kr) (a : Act) (w : World), μ x = m → In Γ K w → Sim K Γ.own (S x) a w →
      ∀ (b : Frame) (kk : List Item) (cs : List Frame), ∃ e a' w', VPost Γ (RunK P Γ Q k) e a' w' ∧
        Arrives P (lone (b.at a (.code c :: .inLoop c :: kk)) cs w) b kk cs e a' w' := by
    intro m
    induction m using Nat.strongRecOn with
    | _ m ih =>
      intro x K a w hm hin hs b kk cs
      obtain ⟨e, a1, w1, hv1, harr⟩ := h x K a w hin hs b (.inLoop c :: kk) cs
      rcases hv1 with ⟨K1, s1, h1, h2, h3⟩ | hv1
      · cases e with
        | normal =>
          obtain ⟨y, ρ', hlt, hle⟩ := h3
          obtain ⟨h4, h5⟩ := Sim.weak h1 h2 hle
          obtain ⟨e2, a2, w2, hq, harr2⟩ := ih (μ y) (hm ▸ hlt) y _ a1 w1 rfl h4 h5 b kk cs
          exact ⟨e2, a2, w2, hq, .of_steps (Steps.trans harr (.one step_inLoop)) harr2⟩
        | exit id => exact ⟨.exit id, a1, w1, .inl ⟨K1, s1, h1, h2, h3⟩, .pass (x := .inLoop c) rfl (fun _ _ => .inl (by simp)) harr⟩
        | goto l => exact ⟨.goto l, a1, w1, .inl ⟨K1, s1, h1, h2, h3⟩, .pass (x := .inLoop c) rfl (fun _ _ => .inl (by simp)) harr⟩
        | ret => exact ⟨.ret, a1, w1, .inl ⟨K1, s1, h1, h2, h3⟩, .pass (x := .inLoop c) rfl (fun _ _ => .inl (by simp)) harr⟩
        | panic ch => exact ⟨.panic ch, a1, w1, .inl ⟨K1, s1, h1, h2, h3⟩, .pass (x := .inLoop c) rfl (fun _ _ => .inl (by simp)) harr⟩
        | outgrown => exact ⟨.outgrown, a1, w1, .inl ⟨K1, s1, h1, h2, h3⟩, .pass (x := .inLoop c) rfl (fun _ _ => .inl (by simp)) harr⟩
      · cases e with
        | normal => exact hv1.1.elim
        | _ => exact ⟨_, a1, w1, .inr hv1, .pass (x := .inLoop c) rfl (fun _ _ => .inl (by simp)) harr⟩
  intro b kk cs
  obtain ⟨e, a', w', hq, harr⟩ := key _ x0 _ a w rfl hin0 hs0 b kk cs
  exact ⟨e, a', w', hq, .of_steps (.one step_loop) harr⟩

end Go.VL

/- The calculus of values: lists of operations, functions, calls. -/
namespace Go.VL
open Go

/-- A list of operations from a state on. -/
def G (P : Program) (Γ : Ctx) (all : Array Oper) (ops : List Oper) (s : St) (k : St → Prop) : Prop :=
  ∀ K a w, In Γ K w → Sim K Γ.own s a w → ∀ (Q : Exit → Act → World → Prop), (∀ K' a' w' s', In Γ K' w' → Sim K' Γ.own s' a' w' → k s' → Q .normal a' w') →
    (∀ ch K' a' w' s', In Γ K' w' → Sim K' Γ.own s' a' w' → Γ.pan ch s' → Q (.panic ch) a' w') → wpList P all Q ops a w

section
variable {P : Program} {Γ : Ctx} {all : Array Oper} {rest : List Oper} {s : St} {k : St → Prop}

theorem G_nil (h : k s) : G P Γ all [] s k := fun K a w hin hs Q hQ _ => hQ K a w s hin hs h

theorem G_eff {dst : Option Tmp} {op : Op} {type : TypeId} {pos : String} {after : Array Edge}
    (h : Eff P Γ { dst, op, type, pos, after, guard := none } s fun s' => G P Γ all rest s' k) : G P Γ all ({ dst, op, type, pos, after, guard := none } :: rest) s k :=
  fun K a w hin hs Q hQ hP => wpList_plain rfl fun Kont hK => h K a w hin hs Kont Q fun K' a' w' s' h1 h2 h3 => hK a' w' (h3 K' a' w' h1 h2 Q hQ hP)
theorem G_effP {dst : Option Tmp} {op : Op} {type : TypeId} {pos : String} {after : Array Edge}
    (h : EffP P Γ { dst, op, type, pos, after, guard := none } s fun s' => G P Γ all rest s' k) : G P Γ all ({ dst, op, type, pos, after, guard := none } :: rest) s k :=
  fun K a w hin hs Q hQ hP => wpList_plain rfl fun Kont hK => h K a w hin hs Kont Q (fun K' a' w' s' h1 h2 h3 => hK a' w' (h3 K' a' w' h1 h2 Q hQ hP)) hP

def guardTmp (all : Array Oper) (j : Nat) : Option Tmp := (all[j]?).bind (·.dst)

theorem Sim.getK {k own s a w} (h : Sim k own s a w) {x d} (hx : getK s.env x = some d) : x < a.tmps.size ∧ Rep k d (a.tmps.getD x undef) :=
  ⟨by rw [h.size]; exact (h.env x d hx).1, (h.env x d hx).2⟩

/-- What the slot of an operation holds that was not wanted. -/
abbrev D.un : D := .u (.oth undef)
/-- A guarded operation whose guard was not wanted itself. -/
theorem G_guardU {dst : Option Tmp} {op : Op} {type : TypeId} {pos : String} {after : Array Edge} {j : Nat} {want : Bool} {t : Tmp}
    (hj : guardTmp all j = some t) (hb : getK s.env t = some .un) (hp : putOK dst s) (hn : G P Γ all rest (s.put dst .un) k) :
    G P Γ all ({ dst, op, type, pos, after, guard := some (j, want) } :: rest) s k := by
  intro K a w hin hs Q hQ hP
  obtain ⟨hlt, hr⟩ := hs.getK hb
  have hv := rep_oth hr
  have hyd : yielded all a.tmps j = none := by
    unfold yielded
    unfold guardTmp at hj
    rw [hj]
    simp only [Option.bind_some]
    have : a.tmps[t]? = some undef := by
      rw [Array.getElem?_eq_getElem hlt]
      simp [hlt] at hv
      rw [hv]
    rw [this]
    rfl
  have e1 : Region.wanted { dst, op, type, pos, after, guard := some (j, want) } (yielded all a.tmps) = false := by
    simp [Region.wanted, hyd]
  refine wpList_skip e1 ?_
  exact hn K _ w hin (hs.put hp (.u _ _ (.oth _))) Q hQ hP
/-- A guarded operation: the ways part. -/
theorem G_guard {dst : Option Tmp} {op : Op} {type : TypeId} {pos : String} {after : Array Edge} {j : Nat} {want b : Bool} {t : Tmp}
    (hj : guardTmp all j = some t) (hb : getK s.env t = some (.u (.bool b))) (hp : putOK dst s)
    (hy : b = want → G P Γ all ({ dst, op, type, pos, after, guard := none } :: rest) (s.put (some t) (.u (.bool want))) k)
    (hn : b = !want → G P Γ all rest ((s.put (some t) (.u (.bool (!want)))).put dst .un) k) :
    G P Γ all ({ dst, op, type, pos, after, guard := some (j, want) } :: rest) s k := by
  intro K a w hin hs Q hQ hP
  obtain ⟨hlt, hr⟩ := hs.getK hb
  have hv := rep_bool hr
  have hyd : yielded all a.tmps j = some b := by
    unfold yielded
    unfold guardTmp at hj
    rw [hj]
    simp only [Option.bind_some]
    have : a.tmps[t]? = some (.bool b) := by
      rw [Array.getElem?_eq_getElem hlt]
      simp [hlt] at hv
      rw [hv]
    rw [this]
  have same : ∀ b', b = b' → Sim K Γ.own (s.put (some t) (.u (.bool b'))) a w := fun b' e => by
    subst e
    refine ⟨hs.sat, hs.defers, hs.size, fun x d hx => ?_, hs.hdr⟩
    simp only [St.put, getK_cons] at hx
    split at hx
    · rename_i e
      subst e
      cases hx
      exact hs.env _ _ hb
    · exact hs.env x d hx
  by_cases hw : b = want
  · have := hy hw K a w hin (same want hw) Q hQ hP
    unfold wpList at this ⊢
    have e1 : Region.wanted { dst, op, type, pos, after, guard := some (j, want) } (yielded all a.tmps) = true := by
      simp [Region.wanted, hyd, hw]
    have e2 : Region.wanted { dst, op, type, pos, after, guard := none } (yielded all a.tmps) = true := rfl
    rw [if_pos e2] at this
    rw [if_pos e1]
    exact this
  · have hb' : b = !want := by cases b <;> cases want <;> simp_all
    have e1 : Region.wanted { dst, op, type, pos, after, guard := some (j, want) } (yielded all a.tmps) = false := by
      simp [Region.wanted, hyd, hw]
    refine wpList_skip e1 ?_
    exact hn hb' K _ w hin ((same _ hb').put (by cases dst <;> simp_all [putOK, St.put]) (.u _ _ (.oth _))) Q hQ hP

theorem V_region {Q : Exit → St → Prop} {kt : Kt} {id : Nat} {l : List Oper} (h : G P Γ l.toArray l s (RunK P Γ Q kt .normal)) : V P Γ (.region id l.toArray false) s (RunK P Γ Q kt) :=
  fun K a w hin hs => wp_region_lit (h K a w hin hs _ (fun K' a' w' s' h1 h2 h3 => .inl ⟨K', s', h1, h2, h3⟩) fun ch K' a' w' s' h1 h2 h3 => .inl ⟨K', s', h1, h2, h3⟩)
end

-- functions
def resD (P : Program) (s : St) : List ResultVar → (List D → Prop) → Prop
  | [], k => k []
  | .tmp t :: r, k => resD P s r fun ds => k (s.at t :: ds)
  | .cell a t :: r, k => loadD P s t (s.at a) fun d => resD P s r fun ds => k (d :: ds)
def oneOrTup : List D → D
  | [d] => d
  | ds => .tup ds
theorem resD_run {P : Program} {s : St} {k : Kr} {own a w} (hs : Sim k own s a w) : ∀ (rs : List ResultVar) (K : List D → Prop), resD P s rs K →
    ∃ ds vs, K ds ∧ (rs.mapM (fun (r : ResultVar) => match r with | .tmp t => (pure (a.tmps.getD t undef) : Sem Value) | .cell x t => do loadVar t (← asAddr (a.tmps.getD x undef)))).run P w = .ok vs w ∧
      ds.length = vs.length ∧ ∀ j d, ds[j]? = some d → Rep k d (vs.getD j undef)
  | [], K, h => ⟨[], [], h, by simp, rfl, by simp⟩
  | .tmp t :: r, K, h => by
    obtain ⟨ds, vs, h1, h2, h3, h4⟩ := resD_run hs r _ h
    refine ⟨_, a.tmps.getD t undef :: vs, h1, ?_, by simp [h3], fun j d hj => ?_⟩
    · simp only [List.mapM_cons, Sem.run_bind, Sem.run_pure, Result.andThen_ok, h2]
    · cases j with
      | zero => simp at hj; subst hj; exact hs.at t
      | succ j => simpa using h4 j d (by simpa using hj)
  | .cell x t :: r, K, h => by
    obtain ⟨d0, h, u, hu, hr⟩ := loadD_run h hs (hs.at x)
    obtain ⟨ds, vs, h1, h2, h3, h4⟩ := resD_run hs r _ h
    have hload : (do loadVar t (← asAddr (a.tmps.getD x undef)) : Sem Value).run P w = .ok u w := by
      unfold Instr.loadAt Instr.sureAddr at hu
      split at hu
      · rename_i ad hv
        rw [hv]
        simpa [asAddr] using hu
      · simp at hu
    refine ⟨_, u :: vs, h1, ?_, by simp [h3], fun j d hj => ?_⟩
    · simp only [List.mapM_cons, Sem.run_bind, Result.andThen_ok, Sem.run_pure] at hload ⊢
      rw [hload]
      simp only [Result.andThen_ok, h2]
    · cases j with
      | zero => simp at hj; subst hj; simpa using hr
      | succ j => simpa using h4 j d (by simpa using hj)

/-- What a call gives back. -/
def Ret (P : Program) (f : FuncId) (ds : List D) (obs : List (Nat × Ob)) (nx : Nat) (post : D → List (Nat × Ob) → Nat → Prop) : Prop :=
  ∀ (k : Kr) (own : Nat → Prop) (w : World) (vs : Array Value), Sat k own obs w → (∀ i, nx ≤ i → k.hdr i = none) → (∀ b, w.heap.size ≤ b → own b) → RepL k ds vs →
    Calls P f vs w fun e w' => ∃ v d obs' nx' k', e = .returned v ∧ In (.of own k nx w) k' w' ∧ Sat k' own obs' w' ∧ (∀ i, nx' ≤ i → k'.hdr i = none) ∧ nx ≤ nx' ∧ Rep k' d v ∧ post d obs' nx'

/-- At a function's end. -/
def FinOK (n0 : Nat) (post : D → List (Nat × Ob) → Nat → Prop) (s : St) (d : D) : Prop :=
  (∃ s' ρ d', St.Le n0 ρ s s' ∧ D.le ρ d d' ∧ d'.under s'.next = true ∧ n0 ≤ s'.next ∧ post d' s'.obs s'.next) ∨ (n0 ≤ s.next ∧ post d s.obs s.next)

def EndOK (P : Program) (fn : Func) (n0 : Nat) (post : D → List (Nat × Ob) → Nat → Prop) (e : Exit) (s : St) : Prop :=
  (e = .normal ∨ e = .ret) ∧ resD P s fn.results.toList fun ds => FinOK n0 post s (oneOrTup ds)

def entry (ds : List D) (nt : Nat) (obs : List (Nat × Ob)) (nx : Nat) : St := { n := nt, env := (ds.zipIdx 0).map fun p => (p.2, p.1), obs, next := nx }

theorem getK_zipIdx (ds : List D) (i x : Nat) : getK ((ds.zipIdx i).map fun p => (p.2, p.1)) x = if i ≤ x then ds[x - i]? else none := by
  induction ds generalizing i with
  | nil => simp [getK]
  | cons d ds ih =>
    simp only [List.zipIdx_cons, List.map_cons, getK_cons, ih]
    by_cases h1 : x = i
    · subst h1; simp
    · rw [if_neg h1]
      by_cases h2 : i + 1 ≤ x
      · rw [if_pos h2, if_pos (by omega)]
        have : x - i = (x - (i + 1)) + 1 := by omega
        rw [this, List.getElem?_cons_succ]
      · rw [if_neg h2, if_neg (by omega)]

theorem Ret.of_body {P f fn c ds obs nx post} (hf : P.funcs[f]? = some fn) (hb : fn.body = some c) (hn : ds.length ≤ fn.ntmps)
    (h : ∀ Γ : Ctx, Γ.n0 = nx → V P Γ c (entry ds fn.ntmps obs nx) (RunK P Γ (EndOK P fn nx post) .done)) : Ret P f ds obs nx post := by
  intro k own w vs hsat hhdr hfresh hrep
  have hsz : vs.size = ds.length := hrep.1
  refine calls_of_wp hf hb (wp_mono (h (.of own k nx w) rfl k _ w ⟨.refl _, hhdr, fun b o v e => .inl e, hfresh, rfl, rfl, rfl, Nat.le_refl _, fun _ _ => rfl⟩
    ⟨hsat, rfl, ?_, fun x d hx => ?_, hhdr⟩) ?_)
  · simp [entry, hsz]; omega
  · simp only [entry, getK_zipIdx, Nat.zero_le, if_true, Nat.sub_zero] at hx
    have hlt := (List.getElem?_eq_some_iff.1 hx).1
    refine ⟨by simp [entry]; omega, ?_⟩
    have := hrep.2 x d hx
    have e : (vs ++ Array.replicate (fn.ntmps - vs.size) undef).getD x undef = vs.getD x undef := by
      simp [Array.getElem?_append, show x < vs.size by omega]
    rw [e]
    exact this
  · rintro e a' w' (⟨K', s', hin, hs, hend⟩ | hesc)
    case inr => exact hesc.2.elim
    have hend : EndOK P fn nx post e s' := by
      cases e with
      | panic ch => exact False.elim hend
      | _ => exact hend
    obtain ⟨he, hres⟩ := hend
    obtain ⟨rs, rv, hfin, hrun, hlen, hr⟩ := resD_run hs _ _ hres
    have hres' : (results fn a'.tmps).run P w' = .ok (if h : rv.toArray.size = 1 then rv.toArray[0] else .tuple rv.toArray) w' := by
      unfold results
      rw [Array.mapM_eq_mapM_toList]
      have e : (fn.results.toList.mapM fun (x : ResultVar) => match x with | .tmp t => (pure (a'.tmps.getD t undef) : Sem Value) | .cell a t => do loadVar t (← asAddr (a'.tmps.getD a undef))).run P w' = .ok rv w' := hrun
      simp only [Sem.run_bind, Sem.run_map, Result.andThen_ok]
      erw [e]
      simp
    have hrepv : Rep K' (oneOrTup rs) (if h : rv.toArray.size = 1 then rv.toArray[0] else .tuple rv.toArray) := by
      match rs, rv, hlen, hr with
      | [], [], _, hr => exact .tup [] [] rfl (by simp)
      | [d], [v], _, hr => simpa [oneOrTup] using hr 0 d rfl
      | d :: d1 :: ds, v :: v1 :: vs, hlen, hr =>
        simp only [oneOrTup]
        rw [dif_neg (by simp)]
        exact .tup _ _ hlen hr
    have hfinal : bodyPost P fn (fun e w' => ∃ v d obs' nx' k', e = .returned v ∧ In (.of own k nx w) k' w' ∧ Sat k' own obs' w' ∧ (∀ i, nx' ≤ i → k'.hdr i = none) ∧ nx ≤ nx' ∧ Rep k' d v ∧ post d obs' nx') .ret a' w' := by
      rcases hfin with ⟨s2, ρ, d', hle, hd, hu, hnx, hpost⟩ | ⟨hnx, hpost⟩
      · obtain ⟨h1, h2⟩ := Sim.weak hin hs hle
        exact ⟨hs.defers, _, hres', _, d', s2.obs, s2.next, _, rfl, h1, h2.sat, h2.hdr, hnx, hrepv.weak hd hu, hpost⟩
      · exact ⟨hs.defers, _, hres', _, _, s'.obs, s'.next, K', rfl, hin, hs.sat, hs.hdr, hnx, hrepv, hpost⟩
    rcases he with rfl | rfl
    · exact hfinal
    · exact hfinal

end Go.VL

/- The calculus of values: calls. -/
namespace Go.VL
open Go

def callable (P : Program) (f : FuncId) : Bool := match P.funcs[f]? with | some fn => fn.body.isSome && fn.name != "runtime.NumGoroutine" | none => false

/-- A function value and what comes with it. -/
def calleeOf : D → Option (FuncId × List D)
  | .fnc (.func f) caps => some (f, caps)
  | _ => none

theorem call_run {P : Program} {k own s a w} (hs : Sim k own s a w) {fop : Operand} {args : Array Operand} {ts : Array TypeId} {ty : TypeId} {f caps} (hf : calleeOf (opd s fop) = some (f, caps)) (hc : callable P f = true)
    (dst : Option Tmp) (pos : String) (after : Array Edge) (g : Option (Nat × Bool)) :
    ∃ vs, RepL k (args.toList.map (opd s) ++ caps) vs ∧ (execOp a.eval { dst, op := .call { callee := .value fop, args, argTypes := ts }, type := ty, pos, after, guard := g }).run P w = .ok (.enter f vs) w := by
  unfold calleeOf at hf
  split at hf
  · rename_i f' caps' hd
    simp at hf
    obtain ⟨rfl, rfl⟩ := hf
    have hr := opd_rep hs fop
    rw [hd] at hr
    obtain ⟨cv, hl, hv, hcap⟩ := rep_fnc hr
    refine ⟨args.map a.eval ++ cv.toArray, ⟨by simp [hl], fun j d hj => ?_⟩, ?_⟩
    · by_cases hlt : j < args.size
      · rw [List.getElem?_append_left (by simpa using hlt)] at hj
        have := listRep hs args.toList j d hj
        have e : (args.map a.eval ++ cv.toArray).getD j undef = (args.toList.map a.eval).getD j undef := by
          simp [Array.getElem?_append, hlt]
        rw [e]
        exact this
      · rw [List.getElem?_append_right (by simpa using Nat.le_of_not_lt hlt)] at hj
        have := hcap (j - args.size) d (by simpa using hj)
        have e : (args.map a.eval ++ cv.toArray).getD j undef = cv.getD (j - args.size) undef := by
          simp [Array.getElem?_append, hlt]
        rw [e]
        exact this
    · unfold callable at hc
      split at hc
      · rename_i fn hfn
        simp at hc
        obtain ⟨hb, hname⟩ := hc
        have hb' : fn.body.isNone = false := by cases hbb : fn.body <;> simp_all
        have hname' : (fn.name == "runtime.NumGoroutine") = false := by simpa using hname
        simp only [execOp]
        simp [resolve, hv, Deferred.ofValue, invoke, callFunc, hfn, hname', hb', hname]
        intro h0
        rw [h0] at hb
        simp at hb
      · cases hc
  · cases hf

/-- A call by what it does to the objects. -/
theorem Eff.callRet {P Γ s k} {fop : Operand} {args : Array Operand} {ts : Array TypeId} {ty : TypeId} {f caps dst pos after} {ds : List D} {post : D → List (Nat × Ob) → Nat → Prop}
    (hf : calleeOf (opd s fop) = some (f, caps)) (hc : callable P f = true) (hds : args.toList.map (opd s) ++ caps = ds) (hret : Ret P f ds s.obs s.next post) (hp : putOK dst s)
    (hk : ∀ d obs' nx', s.next ≤ nx' → post d obs' nx' → k (({ s with obs := obs', next := nx' } : St).put dst d)) :
    Eff P Γ { dst, op := .call { callee := .value fop, args, argTypes := ts }, type := ty, pos, after, guard := none } s k := by
  intro K a w hin hs Kont Q hK
  obtain ⟨vs, hrep, hrun⟩ := call_run hs (args := args) (ts := ts) (ty := ty) hf hc dst pos after none
  rw [hds] at hrep
  unfold Oper.wp
  rw [hrun]
  refine Calls.mono (hret K Γ.own w vs hs.sat hs.hdr (fun b hb => hin.own_of_ge hb) hrep) ?_
  rintro e w' ⟨v, d, obs', nx', k', rfl, hin', hsat', hhdr', hnx, hr, hpost⟩
  have hle : K.le k' := hin'.le
  have hin2 : In Γ k' w' := hin.step hle (fun b o v e => hin'.memNew b o v e) hin'.os hin'.tape hin'.output hin'.size hin'.block
  have hsim : Sim k' Γ.own ({ s with obs := obs', next := nx' } : St) a w' := ⟨hsat', hs.defers, hs.size, fun x d hx => ⟨(hs.env x d hx).1, (hs.env x d hx).2.mono hle⟩, hhdr'⟩
  exact hK k' _ w' _ hin2 (hsim.put (by cases dst <;> simp_all [putOK]) hr) (hk d obs' nx' hnx hpost)

-- handing over by value
def allU2 : List (List D) → Option (List (List U))
  | [] => some []
  | r :: l => match allU r, allU2 l with | some a, some b => some (a :: b) | _, _ => none
theorem allU_map (l : List U) : allU (l.map .u) = some l := by induction l <;> simp_all [allU]
theorem allU_inv : ∀ {l : List D} {r : List U}, allU l = some r → l = r.map .u
  | [], r, h => by simp [allU] at h; subst h; rfl
  | d :: l, r, h => by
    cases d <;> simp [allU] at h
    cases hl : allU l with
    | none => simp [hl] at h
    | some q => simp [hl] at h; subst h; simp [allU_inv hl]
theorem allU2_inv : ∀ {l : List (List D)} {r : List (List U)}, allU2 l = some r → l = r.map (·.map .u)
  | [], r, h => by simp [allU2] at h; subst h; rfl
  | x :: l, r, h => by
    simp only [allU2] at h
    split at h
    · rename_i a b ha hb
      simp at h
      subst h
      simp [allU_inv ha, allU2_inv hb]
    · cases h
@[simp] theorem allU2_map (l : List (List U)) : allU2 (l.map (·.map .u)) = some l := by induction l <;> simp_all [allU2, allU_map]
@[simp] theorem allU2_take_map (l : List (List U)) (n : Nat) : allU2 ((l.map (·.map D.u)).take n) = some (l.take n) := by rw [← List.map_take]; exact allU2_map _
@[simp] theorem allU2_rowsD (l : List (List U)) : allU2 (rowsD l) = some l := allU2_map l
theorem allU2_append (a b : List (List D)) : allU2 (a ++ b) = match allU2 a, allU2 b with | some x, some y => some (x ++ y) | _, _ => none := by
  induction a with
  | nil => simp only [List.nil_append, allU2]; cases allU2 b <;> rfl
  | cons r a ih =>
    simp only [List.cons_append, allU2, ih]
    cases allU r <;> cases allU2 a <;> cases allU2 b <;> rfl

def allUE : List (Key × List D) → Option (List (Key × List U))
  | [] => some []
  | p :: l => match allU p.2, allUE l with | some a, some b => some ((p.1, a) :: b) | _, _ => none
theorem allUE_inv : ∀ {l : List (Key × List D)} {r : List (Key × List U)}, allUE l = some r → l = r.map fun p => (p.1, p.2.map .u)
  | [], r, h => by simp [allUE] at h; subst h; rfl
  | x :: l, r, h => by
    simp only [allUE] at h
    split at h
    · rename_i a b ha hb
      simp at h
      subst h
      simp [← allU_inv ha, ← allUE_inv hb]
    · cases h
theorem perm_unmap {es : List (Key × List D)} {us : List (Key × List U)} (h : es.Perm (us.map fun p => (p.1, p.2.map D.u))) : ∃ us' : List (Key × List U), es = (us'.map fun p => (p.1, p.2.map .u)) ∧ us'.Perm us := by
  generalize hx : (us.map fun p => (p.1, p.2.map D.u)) = xs at h
  induction h generalizing us with
  | nil => exact ⟨[], rfl, by cases us <;> simp at hx ⊢⟩
  | cons x hp ih =>
    cases us with
    | nil => simp at hx
    | cons q l =>
      simp only [List.map_cons, List.cons.injEq] at hx
      obtain ⟨us', e, hp'⟩ := ih hx.2
      exact ⟨q :: us', by rw [List.map_cons, hx.1, e], hp'.cons _⟩
  | swap x y l =>
    match us, hx with
    | q :: r :: l', hx =>
      simp only [List.map_cons, List.cons.injEq] at hx
      exact ⟨r :: q :: l', by rw [List.map_cons, List.map_cons, hx.1, hx.2.1, hx.2.2], .swap _ _ _⟩
    | [q], hx => simp at hx
    | [], hx => simp at hx
  | trans p1 p2 ih1 ih2 =>
    obtain ⟨us2, e2, hp2⟩ := ih2 hx
    obtain ⟨us1, e1, hp1⟩ := ih1 e2.symm
    exact ⟨us1, e1, hp1.trans hp2⟩
theorem allUE_entD : ∀ (us : List (Key × List U)), allUE (entD us) = some us
  | [] => rfl
  | p :: l => by
    have h1 : allUE (entD (p :: l)) = match allU (p.2.map .u), allUE (entD l) with | some a, some b => some ((p.1, a) :: b) | _, _ => none := rfl
    rw [h1, allU_map, allUE_entD l]
/-- A value as it is handed over, and the objects that are lent for it. -/
def argU0 (o : List (Nat × Ob)) : D → Option (U × List Nat)
  | .u .nil => some (.sl [], [])
  | .u x => some (x, [])
  | .vec i len => match getK o i with
    | some (.vec _ _ rows) => if len ≤ rows.length then match allU2 (rows.take len) with
      | some us => some (.sl us, [i])
      | none => none else none
    | _ => none
  | .mp i => match getK o i with
    | some (.map kk ag es) => match allUE es with
      | some us => some (.map kk ag us, [i])
      | none => none
    | _ => none
  | .ptr i off => match getK o i with
    | some (.box cells) => match allU cells with
      | some us => some (.row us off, [i])
      | none => none
    | _ => none
  | _ => none
def argsU0 (o : List (Nat × Ob)) : List D → Option (List U × List Nat)
  | [] => some ([], [])
  | d :: ds => match argU0 o d, argsU0 o ds with
    | some (a, l), some (as, ls) => some (a :: as, l ++ ls)
    | _, _ => none
/-- A variable is lent with what it holds. -/
def argU1 (o : List (Nat × Ob)) : D → Option (U × List Nat)
  | .ptr i off => match getK o i with
    | some (.box cells) => match argsU0 o cells with
      | some (us, l) => some (.row us off, i :: l)
      | none => none
    | _ => none
  | .agg cells => match argsU0 o cells with
    | some (us, l) => some (.agg us, l)
    | none => none
  | d => argU0 o d
def argsU1 (o : List (Nat × Ob)) : List D → Option (List U × List Nat)
  | [] => some ([], [])
  | d :: ds => match argU1 o d, argsU1 o ds with
    | some (a, l), some (as, ls) => some (a :: as, l ++ ls)
    | _, _ => none
def argW (o : List (Nat × Ob)) : D → Option (D × List Nat)
  | .fnc f caps => match argsU1 o caps with
    | some (us, l) => some (.fnc f (us.map .u), l)
    | none => none
  | d => match argU1 o d with
    | some (x, l) => some (.u x, l)
    | none => none
def argsW (o : List (Nat × Ob)) : List D → Option (List D × List Nat)
  | [] => some ([], [])
  | d :: ds => match argW o d, argsW o ds with
    | some (a, l), some (as, ls) => some (a :: as, l ++ ls)
    | _, _ => none
def argsV (s : St) (ds : List D) : Option (List D × List Nat) := argsW s.obs ds

-- it hangs on the objects that are lent alone
section
variable {o o' : List (Nat × Ob)}
theorem argU0_loc {d x l} (h : argU0 o d = some (x, l)) (he : ∀ i ∈ l, getK o i = getK o' i) : argU0 o' d = some (x, l) := by
  unfold argU0 at h ⊢
  split at h
  · exact h
  · rename_i h'
    cases h
    rfl
  · rename_i i len
    split at h
    · rename_i e sz rows hg
      split at h
      · rename_i hl
        split at h
        · rename_i us hu
          cases h
          rw [← he i (by simp), hg]
          simp only [if_pos hl, hu]
        · cases h
      · cases h
    · cases h
  · rename_i i
    split at h
    · rename_i kk ag es hg
      split at h
      · rename_i us hu
        cases h
        rw [← he i (by simp), hg]
        simp only [hu]
      · cases h
    · cases h
  · rename_i i off
    split at h
    · rename_i cells hg
      split at h
      · rename_i us hu
        cases h
        rw [← he i (by simp), hg]
        simp only [hu]
      · cases h
    · cases h
  · cases h
theorem argsU0_loc : ∀ {ds xs l}, argsU0 o ds = some (xs, l) → (∀ i ∈ l, getK o i = getK o' i) → argsU0 o' ds = some (xs, l)
  | [], _, _, h, _ => h
  | d :: ds, xs, l, h, he => by
    unfold argsU0 at h ⊢
    split at h
    · rename_i a l1 as l2 h1 h2
      cases h
      rw [argU0_loc h1 fun i hi => he i (List.mem_append_left _ hi), argsU0_loc h2 fun i hi => he i (List.mem_append_right _ hi)]
    · cases h
theorem argU1_loc {d x l} (h : argU1 o d = some (x, l)) (he : ∀ i ∈ l, getK o i = getK o' i) : argU1 o' d = some (x, l) := by
  unfold argU1 at h ⊢
  split at h
  · rename_i i off
    split at h
    · rename_i cells hg
      split at h
      · rename_i us l1 h1
        cases h
        rw [← he i (by simp), hg]
        simp only [argsU0_loc h1 fun i hi => he i (List.mem_cons_of_mem _ hi)]
      · cases h
    · cases h
  · split at h
    · rename_i us l1 h1
      cases h
      simp only [argsU0_loc h1 he]
    · cases h
  · exact argU0_loc h he
theorem argsU1_loc : ∀ {ds xs l}, argsU1 o ds = some (xs, l) → (∀ i ∈ l, getK o i = getK o' i) → argsU1 o' ds = some (xs, l)
  | [], _, _, h, _ => h
  | d :: ds, xs, l, h, he => by
    unfold argsU1 at h ⊢
    split at h
    · rename_i a l1 as l2 h1 h2
      cases h
      rw [argU1_loc h1 fun i hi => he i (List.mem_append_left _ hi), argsU1_loc h2 fun i hi => he i (List.mem_append_right _ hi)]
    · cases h
theorem argW_loc {d x l} (h : argW o d = some (x, l)) (he : ∀ i ∈ l, getK o i = getK o' i) : argW o' d = some (x, l) := by
  unfold argW at h ⊢
  split at h
  · split at h
    · rename_i us l1 h1
      cases h
      simp only [argsU1_loc h1 he]
    · cases h
  · split at h
    · rename_i x1 l1 h1
      cases h
      rw [argU1_loc h1 he]
    · cases h
theorem argsW_loc : ∀ {ds xs l}, argsW o ds = some (xs, l) → (∀ i ∈ l, getK o i = getK o' i) → argsW o' ds = some (xs, l)
  | [], _, _, h, _ => h
  | d :: ds, xs, l, h, he => by
    unfold argsW at h ⊢
    split at h
    · rename_i a l1 as l2 h1 h2
      cases h
      rw [argW_loc h1 fun i hi => he i (List.mem_append_left _ hi), argsW_loc h2 fun i hi => he i (List.mem_append_right _ hi)]
    · cases h
end

def scalarU : U → Bool
  | .int _ _ | .bool _ | .str _ | .nil | .oth _ => true
  | .agg cs => (cs.map fun c => scalarU c).all id
  | _ => false
def scalarD : D → Bool
  | .u x => scalarU x
  | .tup ds => (ds.map fun d => scalarD d).all id
  | _ => false
theorem RepU.scalar {m m' : Mem} : ∀ {x : U} {v : Value}, RepU m x v → scalarU x = true → RepU m' x v
  | _, _, .int k n, _ => .int k n
  | _, _, .bool b, _ => .bool b
  | _, _, .str l, _ => .str l
  | _, _, .nil, _ => .nil
  | _, _, .oth v, _ => .oth v
  | _, _, .slE a c _, h => by simp [scalarU] at h
  | _, _, .sl .., h => by simp [scalarU] at h
  | _, _, .row .., h => by simp [scalarU] at h
  | _, _, .map .., h => by simp [scalarU] at h
  | _, _, .agg cs vs hl hr, h => .agg cs vs hl fun j u hj => by
    rw [scalarU] at h
    have hu := (List.all_eq_true.1 h) _ (List.mem_map.2 ⟨u, List.mem_of_getElem? hj, rfl⟩)
    have hm := List.mem_of_getElem? hj
    exact RepU.scalar (hr j u hj) hu
termination_by x => SizeOf.sizeOf x
decreasing_by
  simp_wf
  have := List.sizeOf_lt_of_mem hm
  omega
theorem Rep.scalar {k k' : Kr} : ∀ {d : D} {v : Value}, Rep k d v → scalarD d = true → Rep k' d v
  | .u x, v, h, hs => by
    rw [scalarD] at hs
    cases h with | u _ _ h => exact .u _ _ (h.scalar hs)
  | .tup ds, v, h, hs => by
    obtain ⟨vs, hl, rfl, hr⟩ := rep_tup h
    refine .tup ds vs hl fun j d hj => ?_
    rw [scalarD] at hs
    have hu := (List.all_eq_true.1 hs) _ (List.mem_map.2 ⟨d, List.mem_of_getElem? hj, rfl⟩)
    have hm := List.mem_of_getElem? hj
    exact Rep.scalar (hr j d hj) hu
  | .any, _, _, hs => by simp [scalarD] at hs
  | .ptr .., _, _, hs => by simp [scalarD] at hs
  | .vec .., _, _, hs => by simp [scalarD] at hs
  | .elt .., _, _, hs => by simp [scalarD] at hs
  | .mp .., _, _, hs => by simp [scalarD] at hs
  | .fnc .., _, _, hs => by simp [scalarD] at hs
  | .agg .., _, _, hs => by simp [scalarD] at hs
termination_by d => SizeOf.sizeOf d
decreasing_by
  simp_wf
  have := List.sizeOf_lt_of_mem hm
  omega
/-- No object is named. -/
def pureD : D → Bool
  | .u _ => true
  | .tup ds => (ds.map fun d => pureD d).all id
  | _ => false
theorem Rep.pure {k k' : Kr} (hm : k.mem.le k'.mem) : ∀ {d : D} {v : Value}, Rep k d v → pureD d = true → Rep k' d v
  | .u x, v, h, hs => by
    cases h with | u _ _ h => exact .u _ _ (h.mono hm)
  | .tup ds, v, h, hs => by
    obtain ⟨vs, hl, rfl, hr⟩ := rep_tup h
    refine .tup ds vs hl fun j d hj => ?_
    rw [pureD] at hs
    have hu := (List.all_eq_true.1 hs) _ (List.mem_map.2 ⟨d, List.mem_of_getElem? hj, rfl⟩)
    have hmm := List.mem_of_getElem? hj
    exact Rep.pure hm (hr j d hj) hu
  | .any, _, _, hs => by simp [pureD] at hs
  | .ptr .., _, _, hs => by simp [pureD] at hs
  | .vec .., _, _, hs => by simp [pureD] at hs
  | .elt .., _, _, hs => by simp [pureD] at hs
  | .mp .., _, _, hs => by simp [pureD] at hs
  | .fnc .., _, _, hs => by simp [pureD] at hs
  | .agg .., _, _, hs => by simp [pureD] at hs
termination_by d => SizeOf.sizeOf d
decreasing_by
  simp_wf
  have := List.sizeOf_lt_of_mem hmm
  omega

/-- The block of a lent object. -/
def Lent (k : Kr) (L : List Nat) (b : Nat) : Prop := ∃ i ∈ L, ∃ c, k.hdr i = some (some b, c)
open Classical in
noncomputable def lentMem (k : Kr) (L : List Nat) (w : World) : Mem := fun b o => if Lent k L b then look w b o else k.mem b o

section
variable {k : Kr} {own : Own} {s : St} {a : Act} {w : World} (hs : Sim k own s a w) (L' : List Nat) (h0 : Nat → Option (Option Nat × Nat))
include hs
theorem lent_le : k.mem.le (lentMem k L' w) := fun b o x hx => by
  unfold lentMem
  split
  · exact hs.sat.mem b o x hx
  · exact hx
theorem lent_glob : GlobIn (lentMem k L' w) := k.glob.mono (lent_le hs L')
theorem argU0_rep {d d' L v} (h : argU0 s.obs d = some (d', L)) (hr : Rep k d v) (hL : ∀ i ∈ L, i ∈ L') :
    RepU (lentMem k L' w) d' v ∧ ∀ i ∈ L, ∃ ob, getK s.obs i = some ob := by
  have hle := lent_le hs L'
  unfold argU0 at h
  split at h
  · simp at h
    obtain ⟨rfl, rfl⟩ := h
    obtain rfl := rep_nil hr
    exact ⟨.slE _ _ fun _ => rfl, by simp⟩
  · simp at h
    obtain ⟨rfl, rfl⟩ := h
    cases hr with | u _ _ hr => exact ⟨hr.mono hle, by simp⟩
  · rename_i i len
    split at h
    · rename_i e sz rows hg
      split at h
      · rename_i hlen
        split at h
        · rename_i us hus
          simp at h
          obtain ⟨rfl, rfl⟩ := h
          refine ⟨?_, fun j hj => by simp at hj; subst hj; exact ⟨_, hg⟩⟩
          have hinv := allU2_inv hus
          have hul : us.length = len := by
            have := congrArg List.length hinv
            simp at this
            omega
          obtain ⟨g, hg', rfl⟩ := rep_vec hr
          obtain ⟨g2, xs, hg2, hrow, hpos, hlen2, hcs, hno⟩ := (hs.sat.ob _ _ hg).vec
          rw [hg'] at hg2
          simp only [Option.some.injEq] at hg2
          subst hg2
          obtain ⟨gb, gc⟩ := g
          by_cases hz : len = 0
          · subst hz
            have : us = [] := List.eq_nil_of_length_eq_zero hul
            subst this
            exact .slE _ _ fun e => ownsRow_capNone hrow (by simpa using e)
          · rcases hrow.2 with ⟨hv, hn⟩ | ⟨b, cap, cur, hv, _, hheap, hncap, hcm, hcs', htake⟩
            · omega
            · have hgb : gb = some b ∧ gc = cap := by
                simp only [headVal, Value.slice.injEq, Option.map_eq_some_iff] at hv
                obtain ⟨⟨b', hb', e⟩, _, hc⟩ := hv
                simp only [Addr.mk.injEq] at e
                exact ⟨by rw [hb', e.1], hc⟩
              obtain ⟨rfl, rfl⟩ := hgb
              have hlent : Lent k L' b := ⟨i, hL i (by simp), gc, hg'⟩
              have hxl := hrow.1
              have hcell : ∀ j u, xs[j]? = some u → w.cell? ⟨b, j, none⟩ = some u := fun j u hj => by
                have := hrow.cells (g := b) (by simp [headVal, Value.ownBlock]) j u hj
                rwa [addr_add, Nat.zero_add] at this
              have hr0 : ∀ i r, us[i]? = some r → rows[i]? = some (r.map .u) ∧ i < len := fun i r hi => by
                have hil := (List.getElem?_eq_some_iff.1 hi).1
                have : (rows.take len)[i]? = some (r.map .u) := by rw [hinv]; simp [hi]
                rw [List.getElem?_take, if_pos (by omega)] at this
                exact ⟨this, by omega⟩
              have hmul : ∀ i, i < len → i * sz + sz ≤ xs.length := fun i hi => by
                rw [hxl]
                have : (i + 1) * sz ≤ rows.length * sz := Nat.mul_le_mul_right _ (by omega)
                rw [Nat.add_mul, Nat.one_mul] at this
                exact this
              have e : headVal (some b, gc) len = .slice (some ⟨b, 0, none⟩) us.length gc := by rw [hul]; rfl
              rw [e]
              refine (.sl us b 0 sz gc (fun i j => xs.getD (i * sz + j) undef) (by omega) hcm (fun r hr => ?_) (fun i hi j hj => ?_) (fun i r hi j u hj => ?_))
              · obtain ⟨i, hi⟩ := List.getElem?_of_mem hr
                have := hlen2 _ (List.mem_of_getElem? (hr0 i r hi).1)
                simpa using this
              · simp only [lentMem, if_pos hlent, Nat.zero_add]
                have hb := hmul i (by omega)
                exact look_cell (hcell _ _ (by simp [show i * sz + j < xs.length by omega]))
              · obtain ⟨h1, h2⟩ := hr0 i r hi
                have := (hcs i _ h1 j (.u u) (by simp [hj])).2
                cases this with | u _ _ this => exact this.mono hle
        · cases h
      · cases h
    · cases h
  · rename_i i
    split at h
    · rename_i kk ag es hg
      split at h
      · rename_i us hus
        simp at h
        obtain ⟨rfl, rfl⟩ := h
        refine ⟨?_, fun j hj => by simp at hj; subst hj; exact ⟨_, hg⟩⟩
        obtain ⟨b, c, hg', rfl⟩ := rep_mp hr
        obtain ⟨b', c', ents, clock, es0, hh, hown, hheap, hpm, hm, hno⟩ := (hs.sat.ob _ _ hg).map
        rw [hg'] at hh
        cases hh
        have hlent : Lent k L' b := ⟨i, hL i (by simp), c, hg'⟩
        obtain ⟨us1, e1, hp1⟩ := perm_unmap (es := es0) (us := us) (by rw [← allUE_inv hus]; exact hpm)
        exact hm.toU e1 hp1 (by simp only [lentMem, if_pos hlent]; exact look_of_map hheap) hle
      · cases h
    · cases h
  · rename_i i off
    split at h
    · rename_i cells hg
      split at h
      · rename_i us hus
        simp at h
        obtain ⟨rfl, rfl⟩ := h
        obtain ⟨b, c, vs, t, hh, hown, hheap, hsz, hcells, hno⟩ := (hs.sat.ob i _ hg).box
        obtain ⟨b', c', hh', rfl⟩ := rep_ptr hr
        rw [hh] at hh'
        simp only [Option.some.injEq, Prod.mk.injEq] at hh'
        obtain ⟨rfl, rfl⟩ := hh'
        obtain ⟨h1, h2⟩ := allU_get hus
        have hlent : Lent k L' b := ⟨i, hL i (by simp), c, hh⟩
        refine ⟨?_, fun j hj => by simp at hj; subst hj; exact ⟨_, hg⟩⟩
        have := RepU.row (m := lentMem k L' w) us off b 0 (fun j => vs.getD j undef) (fun j hj => by
          simp only [lentMem, if_pos hlent, Nat.zero_add]
          refine look_cell ?_
          rw [cell_of_row w b j vs t (0, 0) hheap]
          simp [show j < vs.size by omega]) (fun j u hj => by
          have h3 := (hcells j _ (h2 j u hj)).2
          cases h3 with | u _ _ h3 => exact h3.mono hle)
        simpa using this
      · cases h
    · cases h
  · cases h

theorem argsU0_rep : ∀ {ds : List D} {xs : List U} {L : List Nat} (f : Nat → Value), argsU0 s.obs ds = some (xs, L) → (∀ j d, ds[j]? = some d → Rep k d (f j)) → (∀ i ∈ L, i ∈ L') →
    xs.length = ds.length ∧ (∀ j x, xs[j]? = some x → RepU (lentMem k L' w) x (f j)) ∧ ∀ i ∈ L, ∃ ob, getK s.obs i = some ob
  | [], xs, L, f, h, hr, hL => by
    simp [argsU0] at h
    obtain ⟨rfl, rfl⟩ := h
    exact ⟨rfl, by simp, by simp⟩
  | d :: ds, xs, L, f, h, hr, hL => by
    unfold argsU0 at h
    split at h
    · rename_i a' l as ls ha has
      simp at h
      obtain ⟨rfl, rfl⟩ := h
      obtain ⟨h1, h2⟩ := argU0_rep hs L' ha (hr 0 d rfl) (fun i hi => hL i (List.mem_append_left _ hi))
      obtain ⟨h3, h4, h5⟩ := argsU0_rep (fun j => f (j + 1)) has (fun j e hj => by simpa using hr (j + 1) e (by simpa using hj)) (fun i hi => hL i (List.mem_append_right _ hi))
      refine ⟨by simp [h3], fun j e hj => ?_, fun i hi => (List.mem_append.1 hi).elim (h2 i) (h5 i)⟩
      cases j with
      | zero => simp at hj; subst hj; exact h1
      | succ j => exact h4 j e (by simpa using hj)
    · cases h
theorem argU1_rep {d d' L v} (h : argU1 s.obs d = some (d', L)) (hr : Rep k d v) (hL : ∀ i ∈ L, i ∈ L') :
    RepU (lentMem k L' w) d' v ∧ ∀ i ∈ L, ∃ ob, getK s.obs i = some ob := by
  unfold argU1 at h
  split at h
  · rename_i i off
    split at h
    · rename_i cells hg
      split at h
      · rename_i us l hus
        simp at h
        obtain ⟨rfl, rfl⟩ := h
        obtain ⟨b, c, vs, t, hh, hown, hheap, hsz, hcells, hno⟩ := (hs.sat.ob i _ hg).box
        obtain ⟨b', c', hh', rfl⟩ := rep_ptr hr
        rw [hh] at hh'
        simp only [Option.some.injEq, Prod.mk.injEq] at hh'
        obtain ⟨rfl, rfl⟩ := hh'
        obtain ⟨h1, h2, h3⟩ := argsU0_rep hs L' (fun j => vs.getD j undef) hus (fun j d hj => (hcells j d hj).2) (fun i hi => hL i (List.mem_cons_of_mem _ hi))
        have hlent : Lent k L' b := ⟨i, hL i (by simp), c, hh⟩
        refine ⟨?_, fun j hj => ?_⟩
        · have := RepU.row (m := lentMem k L' w) us off b 0 (fun j => vs.getD j undef) (fun j hj => by
            simp only [lentMem, if_pos hlent, Nat.zero_add]
            refine look_cell ?_
            rw [cell_of_row w b j vs t (0, 0) hheap]
            simp [show j < vs.size by omega]) h2
          simpa using this
        · rcases List.mem_cons.1 hj with rfl | hj
          · exact ⟨_, hg⟩
          · exact h3 j hj
      · cases h
    · cases h
  · rename_i cells
    split at h
    · rename_i us l hus
      simp at h
      obtain ⟨rfl, rfl⟩ := h
      obtain ⟨vs, hl, rfl, hrr⟩ := rep_agg hr
      obtain ⟨h1, h2, h3⟩ := argsU0_rep hs L' (fun j => vs.getD j undef) hus (fun j d hj => hrr j d hj) hL
      exact ⟨.agg us vs (by omega) h2, h3⟩
    · cases h
  · exact argU0_rep hs L' h hr hL
theorem argsU1_rep : ∀ {ds : List D} {xs : List U} {L : List Nat} (f : Nat → Value), argsU1 s.obs ds = some (xs, L) → (∀ j d, ds[j]? = some d → Rep k d (f j)) → (∀ i ∈ L, i ∈ L') →
    xs.length = ds.length ∧ (∀ j x, xs[j]? = some x → RepU (lentMem k L' w) x (f j)) ∧ ∀ i ∈ L, ∃ ob, getK s.obs i = some ob
  | [], xs, L, f, h, hr, hL => by
    simp [argsU1] at h
    obtain ⟨rfl, rfl⟩ := h
    exact ⟨rfl, by simp, by simp⟩
  | d :: ds, xs, L, f, h, hr, hL => by
    unfold argsU1 at h
    split at h
    · rename_i a' l as ls ha has
      simp at h
      obtain ⟨rfl, rfl⟩ := h
      obtain ⟨h1, h2⟩ := argU1_rep hs L' ha (hr 0 d rfl) (fun i hi => hL i (List.mem_append_left _ hi))
      obtain ⟨h3, h4, h5⟩ := argsU1_rep (fun j => f (j + 1)) has (fun j e hj => by simpa using hr (j + 1) e (by simpa using hj)) (fun i hi => hL i (List.mem_append_right _ hi))
      refine ⟨by simp [h3], fun j e hj => ?_, fun i hi => (List.mem_append.1 hi).elim (h2 i) (h5 i)⟩
      cases j with
      | zero => simp at hj; subst hj; exact h1
      | succ j => exact h4 j e (by simpa using hj)
    · cases h
theorem argW_rep {d d' L v} (h : argW s.obs d = some (d', L)) (hr : Rep k d v) (hL : ∀ i ∈ L, i ∈ L') :
    Rep ⟨lentMem k L' w, h0, lent_glob hs L'⟩ d' v ∧ ∀ i ∈ L, ∃ ob, getK s.obs i = some ob := by
  unfold argW at h
  split at h
  · rename_i f caps
    split at h
    · rename_i us l hus
      simp at h
      obtain ⟨rfl, rfl⟩ := h
      obtain ⟨vs, hl, rfl, hc⟩ := rep_fnc hr
      obtain ⟨h1, h2, h3⟩ := argsU1_rep hs L' (fun j => vs.getD j undef) hus hc hL
      refine ⟨.fnc f _ vs (by simpa using h1.trans hl) fun j d hj => ?_, h3⟩
      rw [List.getElem?_map] at hj
      cases hx : us[j]? with
      | none => simp [hx] at hj
      | some x =>
        simp [hx] at hj
        subst hj
        exact .u _ _ (h2 j x hx)
    · cases h
  · split at h
    · rename_i x l hx
      simp at h
      obtain ⟨rfl, rfl⟩ := h
      obtain ⟨h1, h2⟩ := argU1_rep hs L' hx hr hL
      exact ⟨.u _ _ h1, h2⟩
    · cases h
end
theorem argsV_rep {k own s a w} (hs : Sim k own s a w) (L' : List Nat) (h0 : Nat → Option (Option Nat × Nat)) : ∀ {ds ds' : List D} {L : List Nat} {vs : List Value}, argsV s ds = some (ds', L) → ds.length = vs.length →
    (∀ j d, ds[j]? = some d → Rep k d (vs.getD j undef)) → (∀ i ∈ L, i ∈ L') →
    ds'.length = vs.length ∧ (∀ j d, ds'[j]? = some d → Rep ⟨lentMem k L' w, h0, lent_glob hs L'⟩ d (vs.getD j undef)) ∧ ∀ i ∈ L, ∃ ob, getK s.obs i = some ob
  | [], ds', L, vs, h, hl, hr, hL => by
    simp [argsV, argsW] at h
    obtain ⟨rfl, rfl⟩ := h
    exact ⟨hl, by simp, by simp⟩
  | d :: ds, ds', L, [], h, hl, hr, hL => by simp at hl
  | d :: ds, ds', L, v :: vs, h, hl, hr, hL => by
    simp only [argsV, argsW] at h
    split at h
    · rename_i a' l as ls ha has
      simp at h
      obtain ⟨rfl, rfl⟩ := h
      obtain ⟨h1, h2⟩ := argW_rep hs L' h0 ha (hr 0 d rfl) (fun i hi => hL i (List.mem_append_left _ hi))
      obtain ⟨h3, h4, h5⟩ := argsV_rep hs L' h0 has (by simpa using hl) (fun j e hj => by simpa using hr (j + 1) e (by simpa using hj)) (fun i hi => hL i (List.mem_append_right _ hi))
      refine ⟨by simp [h3], fun j e hj => ?_, fun i hi => (List.mem_append.1 hi).elim (h2 i) (h5 i)⟩
      cases j with
      | zero => simp at hj; subst hj; simpa using h1
      | succ j => simpa using h4 j e (by simpa using hj)
    · cases h

def delAll (obs : List (Nat × Ob)) (L : List Nat) : List (Nat × Ob) := L.foldl del obs
theorem getK_delAll : ∀ (L : List Nat) (obs : List (Nat × Ob)) (j : Nat), getK (delAll obs L) j = if j ∈ L then none else getK obs j
  | [], obs, j => by simp [delAll]
  | i :: L, obs, j => by
    show getK (delAll (del obs i) L) j = _
    rw [getK_delAll L, getK_del]
    by_cases h1 : j ∈ L
    · simp [h1]
    · by_cases h2 : j = i <;> simp [h1, h2]
theorem Sat.delAll {k own w} : ∀ (L : List Nat) {obs : List (Nat × Ob)}, Sat k own obs w → Sat k own (VL.delAll obs L) w
  | [], _, h => h
  | i :: L, _, h => Sat.delAll L (h.del i)

/-- What a function does that is handed values alone. -/
def Fun (P : Program) (f : FuncId) (ds : List D) (post : D → Prop) : Prop := Ret P f ds [] 0 fun d _ _ => pureD d = true ∧ post d

/-- A call by value, told whole. -/
theorem callFun_core {P Γ s} {fop : Operand} {args : Array Operand} {ts : Array TypeId} {ty : TypeId} {f caps dst pos after guard} {ds : List D} {L : List Nat} {post : D → Prop}
    (hf : calleeOf (opd s fop) = some (f, caps)) (hc : callable P f = true) (hds : argsV s (args.toList.map (opd s) ++ caps) = some (ds, L)) (hret : Fun P f ds post)
    {K : Kr} {a : Act} {w : World} (hin : In Γ K w) (hs : Sim K Γ.own s a w) {Kont : Act → World → Prop} {Q : Exit → Act → World → Prop}
    (hK : ∀ K' v d w', In Γ K' w' → K.le K' → K'.hdr = K.hdr → Sat K' Γ.own (if scalarD d then s.obs else delAll s.obs L) w' → Rep K' d v → post d → Kont (a.put dst v) w') :
    Oper.wp P { dst, op := .call { callee := .value fop, args, argTypes := ts }, type := ty, pos, after, guard } a w Kont Q := by
  obtain ⟨vs, hrep, hrun⟩ := call_run hs (args := args) (ts := ts) (ty := ty) hf hc dst pos after guard
  obtain ⟨h1, h2, hLo⟩ := argsV_rep hs L (fun _ => none) (vs := vs.toList) hds (by simpa using hrep.1.symm) (fun j d hj => by simpa using hrep.2 j d hj) (fun _ h => h)
  unfold Oper.wp
  rw [hrun]
  have hmem1 : K.mem.le (lentMem K L w) := fun b o x hx => by
    unfold lentMem
    split
    · exact hs.sat.mem b o x hx
    · exact hx
  have hsat1 : Sat ⟨lentMem K L w, fun _ => none, lent_glob hs L⟩ (fun b => w.heap.size ≤ b) [] w := ⟨fun b o v hv => by
      simp only [lentMem] at hv
      split at hv
      · exact hv
      · exact hs.sat.mem b o v hv, fun i ob hi => by simp [VL.getK] at hi, fun i j x y h g b hx => by simp [VL.getK] at hx⟩
  refine Calls.mono (hret ⟨lentMem K L w, fun _ => none, lent_glob hs L⟩ (fun b => w.heap.size ≤ b) w vs hsat1 (fun _ _ => rfl) (fun b hb => hb) ⟨by simpa using h1.symm, fun j d hj => by simpa using h2 j d hj⟩) ?_
  rintro e w' ⟨v, d, obs', nx', k', rfl, hin', hsat', hhdr', hnx, hr, hpure, hpost⟩
  have hheap : ∀ b, b < w.heap.size → w'.heap[b]? = w.heap[b]? := fun b hb => hin'.block b (by simpa [Ctx.of] using hb)
  -- the lent blocks are of the call's own
  have hlentOwn : ∀ b, Lent K L b → Γ.own b ∧ b < w.heap.size := fun b ⟨i, hi, c, hh⟩ => by
    obtain ⟨ob, hob⟩ := hLo i hi
    obtain ⟨g, h3, h4, _⟩ := hs.sat.ob i ob hob
    rw [hh] at h3
    cases h3
    exact ⟨(h4 b rfl).1, hs.sat.lt ⟨i, ob, _, hob, hh, rfl⟩⟩
  by_cases hsc : scalarD d = true
  · have hin2 : In Γ K w' := hin.step (.refl _) (fun b o v e => .inl e) hin'.os hin'.tape hin'.output hin'.size fun b hb => by
      rcases Nat.lt_or_ge b w.heap.size with h | h
      · exact hheap b h
      · exact absurd (hin.own_of_ge h) hb
    have hsat2 : Sat K Γ.own s.obs w' := hs.sat.keep (.refl _) (fun b hb => hheap b (hs.sat.lt hb)) (fun b o v hv => by
      rw [cell_of_heap (hheap b (hs.sat.memLt hv))]
      exact hs.sat.mem b o v hv) (fun b ⟨i, ob, g, h3, h4, h5⟩ o => by
      obtain ⟨g', h6, h7, _⟩ := hs.sat.ob i ob h3
      rw [h4] at h6
      cases h6
      exact (h7 b h5).2 o)
    exact hK K v d w' hin2 (.refl _) rfl (by rw [if_pos hsc]; exact hsat2) (hr.scalar hsc) hpost
  · have hmemk : K.mem.le k'.mem := hmem1.trans hin'.le.mem
    have hleK : K.le ⟨k'.mem, K.hdr, k'.glob⟩ := ⟨hmemk, fun _ _ h => h⟩
    have hnew : ∀ b o v, k'.mem b o = some v → K.mem b o = some v ∨ Lent K L b ∨ w.heap.size ≤ b := fun b o v hv => by
      rcases hin'.memNew b o v hv with h | h
      · simp only [Ctx.of, lentMem] at h
        split at h
        · rename_i hl; exact .inr (.inl hl)
        · exact .inl h
      · exact .inr (.inr h)
    have hin2 : In Γ ⟨k'.mem, K.hdr, k'.glob⟩ w' := hin.step hleK (fun b o v e => (hnew b o v e).imp id fun h => h.elim (fun h => (hlentOwn b h).1) fun h => hin.own_of_ge h) hin'.os hin'.tape hin'.output hin'.size fun b hb => by
      rcases Nat.lt_or_ge b w.heap.size with h | h
      · exact hheap b h
      · exact absurd (hin.own_of_ge h) hb
    have hd := Sat.delAll L hs.sat
    have hsat2 : Sat ⟨k'.mem, K.hdr, k'.glob⟩ Γ.own (delAll s.obs L) w' := hd.keep hleK (fun b hb => hheap b (hd.lt hb)) (fun b o v hv => hsat'.mem b o v hv) (fun b ⟨i, ob, g, h3, h4, h5⟩ o => by
      cases hm : k'.mem b o with
      | none => rfl
      | some v =>
        exfalso
        rw [getK_delAll] at h3
        split at h3
        · cases h3
        · rename_i hiL
          obtain ⟨g', h6, h7, _⟩ := hs.sat.ob i ob h3
          rw [show K.hdr i = some g from h4] at h6
          cases h6
          rcases hnew b o v hm with h | ⟨j, hj, c, hh⟩ | h
          · rw [(h7 b h5).2 o] at h; cases h
          · obtain ⟨oj, hoj⟩ := hLo j hj
            exact hs.sat.apart j i oj ob _ g b hoj h3 (fun e => hiL (e ▸ hj)) hh h4 rfl h5
          · exact absurd (hs.sat.lt ⟨i, ob, g, h3, h4, h5⟩) (by omega))
    have hfin : Rep ⟨k'.mem, K.hdr, k'.glob⟩ d v := Rep.pure (k := k') (k' := ⟨k'.mem, K.hdr, k'.glob⟩) (fun _ _ _ e => e) hr hpure
    exact hK _ v d w' hin2 hleK rfl (by rw [if_neg hsc]; exact hsat2) hfin hpost

/-- A call by value. -/
theorem Eff.callFun {P Γ s k} {fop : Operand} {args : Array Operand} {ts : Array TypeId} {ty : TypeId} {f caps dst pos after} {ds : List D} {L : List Nat} {post : D → Prop}
    (hf : calleeOf (opd s fop) = some (f, caps)) (hc : callable P f = true) (hds : argsV s (args.toList.map (opd s) ++ caps) = some (ds, L)) (hret : Fun P f ds post) (hp : putOK dst s)
    (hk : ∀ d, post d → k (({ s with obs := if scalarD d then s.obs else delAll s.obs L } : St).put dst d)) :
    Eff P Γ { dst, op := .call { callee := .value fop, args, argTypes := ts }, type := ty, pos, after, guard := none } s k := by
  intro K a w hin hs Kont Q hK
  refine callFun_core hf hc hds hret hin hs fun K' v d w' h1 h2 h3 h4 h5 h6 => ?_
  have hsim : Sim K' Γ.own ({ s with obs := if scalarD d then s.obs else delAll s.obs L } : St) a w' := ⟨h4, hs.defers, hs.size, fun x d hx => ⟨(hs.env x d hx).1, (hs.env x d hx).2.mono h2⟩, fun i hi => by rw [h3]; exact hs.hdr i hi⟩
  exact hK K' _ w' _ h1 (hsim.put (by cases dst <;> simp_all [putOK]) h5) (hk d h6)

end Go.VL

/- The calculus of values: the steps as they are taken. -/
namespace Go.VL
open Go

section
variable {P : Program} {Γ : Ctx} {all : Array Oper} {rest : List Oper} {s : St} {k : St → Prop} {dst : Option Tmp} {type : TypeId} {pos : String} {after : Array Edge}

theorem G_pure {op : Op} (h : evPure P s op fun d => putOK dst s ∧ G P Γ all rest (s.put dst d) k) : G P Γ all ({ dst, op, type, pos, after, guard := none } :: rest) s k := G_eff (Eff.pure h)
theorem G_move {x : Operand} (hp : putOK dst s) (h : G P Γ all rest (s.put dst (opd s x)) k) : G P Γ all ({ dst, op := .move x, type, pos, after, guard := none } :: rest) s k := G_pure ⟨hp, h⟩
theorem G_assign {x : Operand} (hp : putOK dst s) (h : G P Γ all rest (s.put dst (opd s x)) k) : G P Γ all ({ dst, op := .assign x, type, pos, after, guard := none } :: rest) s k := G_pure ⟨hp, h⟩
theorem G_alloc {t} (h : allocD P t s dst fun s' => G P Γ all rest s' k) : G P Γ all ({ dst, op := .alloc t, type, pos, after, guard := none } :: rest) s k := G_eff (Eff.alloc rfl h)
theorem G_box {t x} (h : boxD (opd s x) s dst fun s' => G P Γ all rest s' k) : G P Γ all ({ dst, op := .box t x, type, pos, after, guard := none } :: rest) s k := G_eff (Eff.box rfl h)
theorem G_store {t x y} (h : storeD P t (opd s x) (opd s y) s fun s' => G P Γ all rest s' k) : G P Γ all ({ dst := none, op := .store t x y, type, pos, after, guard := none } :: rest) s k := G_eff (Eff.store rfl rfl h)
theorem G_build {t n} {parts : List (Nat × Operand)} (h : buildSliceD P t n (parts.map fun p => (p.1, opd s p.2)) s dst fun s' => G P Γ all rest s' k) :
    G P Γ all ({ dst, op := .buildSlice t n parts.toArray, type, pos, after, guard := none } :: rest) s k := G_eff (Eff.buildSlice rfl h)
theorem G_append {t x y} (h : appendD P t (opd s x) (opd s y) s dst fun s' => G P Γ all rest s' k) :
    G P Γ all ({ dst, op := .call { callee := .builtin .append, args := #[x, y], argTypes := #[t, t] }, type, pos, after, guard := none } :: rest) s k := G_eff (Eff.append rfl h)
theorem G_make {t x y} (h : makeD P t (opd s x) (opd s y) s dst fun s' => G P Γ all rest s' k) : G P Γ all ({ dst, op := .makeSlice t x y, type, pos, after, guard := none } :: rest) s k := G_eff (Eff.make rfl h)
theorem G_callFun {fop : Operand} {args : List Operand} {ts : Array TypeId} {f caps} {ds : List D} {L : List Nat} {post : D → Prop} (hret : Fun P f ds post)
    (hf : calleeOf (opd s fop) = some (f, caps)) (hc : callable P f = true) (hds : argsV s (args.map (opd s) ++ caps) = some (ds, L)) (hp : putOK dst s)
    (hk : ∀ d, post d → G P Γ all rest (({ s with obs := if scalarD d then s.obs else delAll s.obs L } : St).put dst d) k) :
    G P Γ all ({ dst, op := .call { callee := .value fop, args := args.toArray, argTypes := ts }, type, pos, after, guard := none } :: rest) s k := G_eff (Eff.callFun hf hc hds hret hp hk)
theorem G_callRet {fop : Operand} {args : List Operand} {ts : Array TypeId} {f caps} {ds : List D} {post : D → List (Nat × Ob) → Nat → Prop} (hret : Ret P f ds s.obs s.next post)
    (hf : calleeOf (opd s fop) = some (f, caps)) (hc : callable P f = true) (hds : args.map (opd s) ++ caps = ds) (hp : putOK dst s)
    (hk : ∀ d obs' nx', s.next ≤ nx' → post d obs' nx' → G P Γ all rest (({ s with obs := obs', next := nx' } : St).put dst d) k) :
    G P Γ all ({ dst, op := .call { callee := .value fop, args := args.toArray, argTypes := ts }, type, pos, after, guard := none } :: rest) s k := G_eff (Eff.callRet hf hc hds hret hp hk)
end

/-- At the end of a function that was handed values alone. -/
theorem FinOK.val {s : St} {d : D} {post : D → Prop} (hp : pureD d = true) (h : post d) : FinOK 0 (fun d _ _ => pureD d = true ∧ post d) s d :=
  .inl ⟨{ n := s.n, env := [], obs := [], next := 0 }, id, d, ⟨rfl, fun x d' hx => by simp [getK] at hx, fun x d' hx => by simp [getK] at hx, fun i ob hi => by simp [getK] at hi, fun i j a b hi => by simp [getK] at hi, fun i hi => by omega⟩,
    .inr (.inl (ren_pure d hp).symm), under_pure d hp, Nat.le_refl _, hp, h⟩
where
  ren_pure : ∀ (d : D), pureD d = true → d.ren id = d
    | .u x, _ => by rw [D.ren]
    | .tup ds, h => by
      rw [pureD] at h
      rw [D.ren]
      congr 1
      apply List.ext_getElem?
      intro j
      rw [List.getElem?_map]
      cases hj : ds[j]? with
      | none => rfl
      | some d =>
        have hm := List.mem_of_getElem? hj
        have := (List.all_eq_true.1 h) _ (List.mem_map.2 ⟨d, hm, rfl⟩)
        simp [ren_pure d this]
    | .any, h => by simp [pureD] at h
    | .ptr .., h => by simp [pureD] at h
    | .vec .., h => by simp [pureD] at h
    | .elt .., h => by simp [pureD] at h
    | .mp .., h => by simp [pureD] at h
    | .fnc .., h => by simp [pureD] at h
    | .agg .., h => by simp [pureD] at h
  termination_by d => SizeOf.sizeOf d
  decreasing_by
    simp_wf
    have := List.sizeOf_lt_of_mem hm
    omega
  under_pure : ∀ (d : D), pureD d = true → d.under 0 = true
    | .u x, _ => by rw [D.under]
    | .tup ds, h => by
      rw [pureD] at h
      rw [D.under]
      refine List.all_eq_true.2 fun b hb => ?_
      obtain ⟨d, hm, rfl⟩ := List.mem_map.1 hb
      have := (List.all_eq_true.1 h) _ (List.mem_map.2 ⟨d, hm, rfl⟩)
      exact under_pure d this
    | .any, h => by simp [pureD] at h
    | .ptr .., h => by simp [pureD] at h
    | .vec .., h => by simp [pureD] at h
    | .elt .., h => by simp [pureD] at h
    | .mp .., h => by simp [pureD] at h
    | .fnc .., h => by simp [pureD] at h
    | .agg .., h => by simp [pureD] at h
  termination_by d => SizeOf.sizeOf d
  decreasing_by
    simp_wf
    have := List.sizeOf_lt_of_mem hm
    omega

theorem EndOK.val {P fn e s} {post : D → Prop} (he : e = .normal ∨ e = .ret) (h : resD P s fn.results.toList fun ds => pureD (oneOrTup ds) = true ∧ post (oneOrTup ds)) :
    EndOK P fn 0 (fun d _ _ => pureD d = true ∧ post d) e s := ⟨he, by
  have mono : ∀ (rs : List ResultVar) (K K' : List D → Prop), (∀ ds, K ds → K' ds) → resD P s rs K → resD P s rs K' := by
    intro rs
    induction rs with
    | nil => intro K K' hk h; exact hk _ h
    | cons r rs ih =>
      intro K K' hk h
      cases r with
      | tmp t => exact ih _ _ (fun ds => hk _) h
      | cell a t =>
        have lm : ∀ (x : D) (A B : D → Prop), (∀ d, A d → B d) → loadD P s t x A → loadD P s t x B := by
          intro x A B hab h
          unfold loadD at h ⊢
          have cm : ∀ {α : Type} (cells : List α) (off : Nat) (l : Option Nat) (o o' : α → Prop) (m m' : List α → Prop), (∀ x, o x → o' x) → (∀ x, m x → m' x) → cellsAt cells off l o m → cellsAt cells off l o' m' := by
            intro α cells off l o o' m m' h1 h2 h
            unfold cellsAt at h ⊢
            split at h
            · obtain ⟨u, hu, h⟩ := h; exact ⟨u, hu, h1 _ h⟩
            · exact ⟨h.1, h2 _ h.2⟩
          split at h
          · exact h
          · split at h
            · exact cm _ _ _ _ _ _ _ (fun _ => hab _) (fun _ => hab _) h
            · split at h
              · exact cm _ _ _ _ _ _ _ (fun _ => hab _) (fun _ => hab _) h
              · exact h
            · split at h
              · obtain ⟨h0, r, hr, h⟩ := h
                exact ⟨h0, r, hr, cm _ _ _ _ _ _ _ (fun _ => hab _) (fun _ => hab _) h⟩
              · exact h
            · exact h
        exact lm _ _ _ (fun d => ih _ _ (fun ds => hk _)) h
  exact mono _ _ _ (fun ds h => FinOK.val h.1 h.2) h⟩

end Go.VL

/- The calculus of values: one step at a time, over operations told shortly. -/
namespace Go.VL
open Go

/-- An operation without its type, place and edges; the guard by the slot that decides. -/
structure O1 where
  dst : Option Tmp
  op : Op
  guard : Option (Tmp × Bool)

def strip (all : Array Oper) (o : Oper) : Option O1 :=
  match o.guard with
  | none => some ⟨o.dst, o.op, none⟩
  | some (j, b) => match guardTmp all j with
    | some t => some ⟨o.dst, o.op, some (t, b)⟩
    | none => none
def stripL (all : Array Oper) : List Oper → Option (List O1)
  | [] => some []
  | o :: l => match strip all o, stripL all l with | some a, some b => some (a :: b) | _, _ => none

def H (P : Program) (Γ : Ctx) (l : List O1) (s : St) (k : St → Prop) : Prop := ∀ all ops, stripL all ops = some l → G P Γ all ops s k

/-- A call of a Go function: to be met by its contract. -/
def CallP (P : Program) (Γ : Ctx) (fop : Operand) (args : List Operand) (dst : Option Tmp) (s : St) (k : St → Prop) : Prop :=
  ∀ ts ty pos after, EffP P Γ { dst, op := .call { callee := .value fop, args := args.toArray, argTypes := ts }, type := ty, pos, after, guard := none } s k

section
variable {P : Program} {Γ : Ctx} {s : St} {k : St → Prop} {dst : Option Tmp}

theorem CallP.fun_ {fop : Operand} {args : List Operand} {f caps} {ds : List D} {L : List Nat} {post : D → Prop} (hret : Fun P f ds post)
    (hf : calleeOf (opd s fop) = some (f, caps)) (hc : callable P f = true) (hds : argsV s (args.map (opd s) ++ caps) = some (ds, L)) (hp : putOK dst s)
    (hk : ∀ d, post d → k (({ s with obs := if scalarD d then s.obs else delAll s.obs L } : St).put dst d)) : CallP P Γ fop args dst s k :=
  fun _ _ _ _ => Eff.p (Eff.callFun hf hc hds hret hp hk)
theorem CallP.ret_ {fop : Operand} {args : List Operand} {f caps} {ds : List D} {post : D → List (Nat × Ob) → Nat → Prop} (hret : Ret P f ds s.obs s.next post)
    (hf : calleeOf (opd s fop) = some (f, caps)) (hc : callable P f = true) (hds : args.map (opd s) ++ caps = ds) (hp : putOK dst s)
    (hk : ∀ d obs' nx', s.next ≤ nx' → post d obs' nx' → k (({ s with obs := obs', next := nx' } : St).put dst d)) : CallP P Γ fop args dst s k :=
  fun _ _ _ _ => Eff.p (Eff.callRet hf hc hds hret hp hk)
end

/-- A panic by an interface value. -/
def panicD (d : D) (ret : List PanicEntry → Prop) : Prop := match d with
  | .u (.oth (.iface t v)) => ret [{ v := .iface t v, recovered := false }]
  | _ => False
theorem EffP.panic {P Γ s k} {dst type pos after guard} {x : Operand} (h : panicD (opd s x) fun ch => Γ.pan ch s) : EffP P Γ { dst, op := .panic x, type, pos, after, guard } s k := by
  intro K a w hin hs Kont Q hK hP
  unfold panicD at h
  split at h
  · rename_i t v hd
    have hr := opd_rep hs x
    rw [hd] at hr
    have hv := rep_oth hr
    unfold Oper.wp
    have : (execOp a.eval { dst, op := .panic x, type, pos, after, guard }).run P w = .halt (.panic (.iface t v)) w := by
      simp [execOp, hv]
      rfl
    rw [this]
    exact hP _ K a w s hin hs h
  · exact h.elim

def hstep (P : Program) (Γ : Ctx) (dst : Option Tmp) (op : Op) (s : St) (k : St → Prop) : Prop :=
  match op with
  | .alloc t => allocD P t s dst k
  | .box t x => boxD (opd s x) s dst k
  | .store t x y => dst = none ∧ storeD P t (opd s x) (opd s y) s k
  | .buildSlice t n parts => buildSliceD P t n (parts.toList.map fun p => (p.1, opd s p.2)) s dst k
  | .makeSlice t x y => makeD P t (opd s x) (opd s y) s dst k
  | .makeMap t none => makeMapD P t s dst k
  | .mapUpdate t m i v => dst = none ∧ mapUpdD P t (opd s m) (opd s i) (opd s v) s k
  | .insert t m i v => dst = none ∧ mapUpdD P t (opd s m) (opd s i) (opd s v) s k
  | .range t x => rangeD P t (opd s x) s dst k
  | .next x false => nextD (opd s x) s dst k
  | .entry x => entryD (opd s x) s fun d => putOK dst s ∧ k (s.put dst d)
  | .panic x => panicD (opd s x) fun ch => Γ.pan ch s
  | .call c => match c.callee with
    | .value f => CallP P Γ f c.args.toList dst s k
    | .builtin .append => match c.args, c.argTypes with
      | ⟨[x, y]⟩, ⟨[t, t']⟩ => t = t' ∧ appendD P t (opd s x) (opd s y) s dst k
      | _, _ => False
    | _ => evPure P s op fun d => putOK dst s ∧ k (s.put dst d)
  | _ => evPure P s op fun d => putOK dst s ∧ k (s.put dst d)

theorem hstep_effG {P : Program} {Γ : Ctx} {o : Oper} {s : St} {k : St → Prop} (h : hstep P Γ o.dst o.op s k) : EffP P Γ o s k := by
  obtain ⟨dst, op, type, pos, after, guard⟩ := o
  simp only at h
  cases op
  case alloc t => exact Eff.p (Eff.alloc rfl h)
  case box t x => exact Eff.p (Eff.box rfl h)
  case store t x y =>
    obtain ⟨h1, h2⟩ := h
    exact Eff.p (Eff.store rfl h1 h2)
  case buildSlice t n parts => exact Eff.p (Eff.buildSlice rfl h)
  case makeSlice t x y => exact Eff.p (Eff.make rfl h)
  case makeMap t r =>
    cases r with
    | none => exact Eff.p (Eff.makeMap rfl h)
    | some r => exact Eff.p (Eff.pure h)
  case mapUpdate t m i v =>
    obtain ⟨h1, h2⟩ := h
    exact Eff.p (Eff.mapUpdate (.inl rfl) h1 h2)
  case insert t m i v =>
    obtain ⟨h1, h2⟩ := h
    exact Eff.p (Eff.mapUpdate (.inr rfl) h1 h2)
  case range t x => exact Eff.p (Eff.range rfl h)
  case next x b =>
    cases b with
    | false => exact Eff.p (Eff.next rfl h)
    | true => exact Eff.p (Eff.pure h)
  case entry x => exact Eff.p (Eff.entry rfl h)
  case call c =>
    obtain ⟨callee, args, ts⟩ := c
    cases callee
    case value f =>
      obtain ⟨args⟩ := args
      exact h ts type pos after
    case invoke r m => exact Eff.p (Eff.pure h)
    case builtin b =>
      cases b
      case append =>
        simp only [hstep] at h
        split at h
        · obtain ⟨rfl, h⟩ := h
          exact Eff.p (Eff.append rfl h)
        · exact h.elim
      all_goals exact Eff.p (Eff.pure h)
  case panic x => exact EffP.panic h
  all_goals exact Eff.p (Eff.pure h)

theorem hstep_eff {P : Program} {Γ : Ctx} {o : Oper} {s : St} {k : St → Prop} (h : hstep P Γ o.dst o.op s k) (_ : o.guard = none) : EffP P Γ o s k := hstep_effG h
/-- One step of a list of operations. -/
def hcons (P : Program) (Γ : Ctx) (o : O1) (rest : List O1) (s : St) (k : St → Prop) : Prop :=
  match o.guard with
  | none => hstep P Γ o.dst o.op s fun s' => H P Γ rest s' k
  | some (t, want) => match getK s.env t with
    | some (.u (.bool b)) => putOK o.dst s ∧
        (b = want → hstep P Γ o.dst o.op (s.put (some t) (.u (.bool want))) fun s' => H P Γ rest s' k) ∧
        (b = !want → H P Γ rest ((s.put (some t) (.u (.bool (!want)))).put o.dst .un) k)
    | some (.u (.oth v)) => v = undef ∧ putOK o.dst s ∧ H P Γ rest (s.put o.dst .un) k
    | _ => False

theorem stripL_cons {all : Array Oper} {ops : List Oper} {o : O1} {rest : List O1} (h : stripL all ops = some (o :: rest)) :
    ∃ op ops', ops = op :: ops' ∧ strip all op = some o ∧ stripL all ops' = some rest := by
  cases ops with
  | nil => simp [stripL] at h
  | cons x l =>
    simp only [stripL] at h
    split at h
    · rename_i a b ha hb
      simp at h
      obtain ⟨rfl, rfl⟩ := h
      exact ⟨x, l, rfl, ha, hb⟩
    · cases h

theorem H_nil {P Γ s k} (h : k s) : H P Γ [] s k := fun all ops e => by
  cases ops with
  | nil => exact G_nil h
  | cons x l => simp only [stripL] at e; split at e <;> simp at e

theorem Eff.mono {P Γ o s} {k k' : St → Prop} (h : Eff P Γ o s k) (hk : ∀ s, k s → k' s) : Eff P Γ o s k' :=
  fun K a w hin hs Kont Q hK => h K a w hin hs Kont Q fun K' a' w' s' h1 h2 h3 => hK K' a' w' s' h1 h2 (hk s' h3)

theorem EffP.mono {P Γ o s} {k k' : St → Prop} (h : EffP P Γ o s k) (hk : ∀ s, k s → k' s) : EffP P Γ o s k' :=
  fun K a w hin hs Kont Q hK hP => h K a w hin hs Kont Q (fun K' a' w' s' h1 h2 h3 => hK K' a' w' s' h1 h2 (hk s' h3)) hP

theorem H_cons {P Γ o rest s k} (h : hcons P Γ o rest s k) : H P Γ (o :: rest) s k := by
  intro all ops e
  obtain ⟨x, ops', rfl, hx, hr⟩ := stripL_cons e
  obtain ⟨dst, op, type, pos, after, guard⟩ := x
  unfold strip at hx
  unfold hcons at h
  simp only at hx
  cases guard with
  | none =>
    simp at hx
    subst hx
    simp only at h
    exact G_effP ((hstep_eff (o := { dst, op, type, pos, after, guard := none }) h rfl).mono fun s' h => h all ops' hr)
  | some g =>
    obtain ⟨j, b⟩ := g
    simp only at hx
    split at hx
    · rename_i t ht
      simp at hx
      subst hx
      simp only at h
      split at h
      · rename_i b' hb
        obtain ⟨hp, hy, hn⟩ := h
        refine G_guard ht hb hp (fun e => ?_) (fun e => hn e all ops' hr)
        exact G_effP ((hstep_eff (o := { dst, op, type, pos, after, guard := none }) (hy e) rfl).mono fun s' h => h all ops' hr)
      · rename_i v hb
        obtain ⟨rfl, hp, hn⟩ := h
        exact G_guardU ht hb hp (hn all ops' hr)
      · exact h.elim
    · cases hx

theorem V_region1 {P Γ s} {Q : Exit → St → Prop} {kt : Kt} {id : Nat} {l : List Oper}
    (h : ∀ k : St → Prop, (∀ s', RunK P Γ Q kt .normal s' → k s') → match stripL l.toArray l with | some l' => H P Γ l' s k | none => False) : V P Γ (.region id l.toArray false) s (RunK P Γ Q kt) := by
  refine V_region ?_
  have := h _ fun _ h => h
  split at this
  · rename_i l' hl
    exact this _ _ hl
  · exact this.elim

theorem V_know {P Γ c s Q} {A : Prop} (hA : ∀ K a w, Sim K Γ.own s a w → A) (h : A → V P Γ c s Q) : V P Γ c s Q := fun K a w hin hs => h (hA K a w hs) K a w hin hs
/-- A slice that came in has a length that an int holds. -/
theorem V_len {P Γ c s Q} {x : Nat} {rows : List (List U)} (hx : getK s.env x = some (.u (.sl rows))) (h : rows.length ≤ 9223372036854775807 → V P Γ c s Q) : V P Γ c s Q :=
  V_know (fun K a w hs => by
    have hr := (hs.getK hx).2
    cases hr with
    | u _ _ hr =>
      generalize a.tmps.getD x undef = v at hr
      cases hr with
      | slE => simp
      | sl _ b o sz c f hc hcx => unfold maxLen at hcx; omega) h

end Go.VL

/- The calculus of values: statements whose operations Go may carry out in more than one order. -/
namespace Go.VL
open Go

-- what an evaluation hands out does not hang on what is asked of it
def Lin {α : Type} (T : (α → Prop) → Prop) : Prop := (∀ r r' : α → Prop, (∀ d, r d → r' d) → T r → T r') ∧ ∀ r, T r → ∃ d, T (· = d) ∧ r d
theorem Lin.ret {α : Type} (d : α) : Lin fun r : α → Prop => r d := ⟨fun _ _ h => h d, fun _ h => ⟨d, rfl, h⟩⟩
theorem Lin.false_ {α : Type} : Lin fun _ : α → Prop => False := ⟨fun _ _ _ h => h, fun _ h => h.elim⟩
theorem Lin.and {α : Type} {A : Prop} {T : (α → Prop) → Prop} (h : Lin T) : Lin fun r => A ∧ T r :=
  ⟨fun _ _ hr ⟨a, t⟩ => ⟨a, h.1 _ _ hr t⟩, fun _ ⟨a, t⟩ => let ⟨d, h1, h2⟩ := h.2 _ t; ⟨d, ⟨a, h1⟩, h2⟩⟩
theorem Lin.and' {α : Type} {A : Prop} {T : (α → Prop) → Prop} (h : Lin T) : Lin fun r => T r ∧ A :=
  ⟨fun _ _ hr ⟨t, a⟩ => ⟨h.1 _ _ hr t, a⟩, fun _ ⟨t, a⟩ => let ⟨d, h1, h2⟩ := h.2 _ t; ⟨d, ⟨h1, a⟩, h2⟩⟩
theorem Lin.ex {α β : Type} {T : β → (α → Prop) → Prop} (h : ∀ b, Lin (T b)) : Lin fun r => ∃ b, T b r :=
  ⟨fun _ _ hr ⟨b, t⟩ => ⟨b, (h b).1 _ _ hr t⟩, fun _ ⟨b, t⟩ => let ⟨d, h1, h2⟩ := (h b).2 _ t; ⟨d, ⟨b, h1⟩, h2⟩⟩
theorem Lin.map {α β : Type} {T : (α → Prop) → Prop} (h : Lin T) (f : α → β) : Lin fun r : β → Prop => T fun a => r (f a) :=
  ⟨fun _ _ hr t => h.1 _ _ (fun a => hr (f a)) t, fun _ t => let ⟨d, h1, h2⟩ := h.2 _ t; ⟨f d, h.1 _ _ (fun _ e => congrArg f e) h1, h2⟩⟩

theorem Lin.arith {k n} : Lin (arith k n) := by
  unfold VL.arith
  split <;> first | exact (Lin.ret _).and | exact Lin.ret _
theorem Lin.binI {op k a b} : Lin (binI op k a b) := by
  unfold VL.binI
  split <;> first | exact Lin.arith | exact Lin.arith.and | exact (Lin.ret _).and | exact Lin.ret _ | exact Lin.false_
theorem Lin.binS {op a b} : Lin (binS op a b) := by
  unfold VL.binS
  split <;> first | exact (Lin.ret _).and | exact Lin.ret _ | exact Lin.false_
theorem Lin.binB {P op t a b} : Lin (binB P op t a b) := by
  unfold VL.binB
  refine Lin.and ?_
  split <;> first | exact Lin.ret _ | exact Lin.false_
theorem Lin.shiftI {op k a b} : Lin (shiftI op k a b) := by
  unfold VL.shiftI
  refine Lin.and ?_
  split <;> first | exact Lin.arith | exact Lin.ret _ | exact Lin.false_
theorem Lin.nilD {op b} : Lin (nilD op b) := by
  unfold VL.nilD
  split <;> first | exact Lin.ret _ | exact Lin.false_
theorem Lin.aggD {P op t xs ys} : Lin (aggD P op t xs ys) := by
  unfold VL.aggD
  split
  · split
    · exact Lin.nilD
    · exact Lin.false_
  · exact Lin.false_
theorem Lin.binD {P op t x y} : Lin (binD P op t x y) := by
  unfold VL.binD
  split <;> first | exact (Lin.nilD.map _).and | exact Lin.aggD.map _ | exact Lin.shiftI.map _ | exact (Lin.binI.map _).and | exact Lin.binS.map _ | exact Lin.binB.map _ | exact Lin.false_
theorem Lin.unD {op x} : Lin (unD op x) := by
  unfold VL.unD
  split <;> first | exact Lin.arith.map _ | exact Lin.ret _ | exact Lin.false_
theorem Lin.convD {P a b x} : Lin (convD P a b x) := by
  unfold VL.convD
  split
  · refine Lin.and ?_
    split <;> first | exact Lin.arith.map _ | exact Lin.false_
  · exact (Lin.ret _).and.and
  · exact Lin.false_
theorem Lin.cellsAt {α : Type} {cells : List α} {off l} {f : α → D} {g : List α → D} : Lin fun r : D → Prop => cellsAt cells off l (fun a => r (f a)) (fun a => r (g a)) := by
  unfold VL.cellsAt
  split
  · exact Lin.ex fun _ => (Lin.ret _).and
  · exact (Lin.ret _).and
theorem Lin.loadD {P s t x} : Lin (loadD P s t x) := by
  unfold VL.loadD
  split
  · exact Lin.false_
  · split
    · exact Lin.cellsAt (f := fun u => .u u) (g := fun u => .u (.agg u))
    · split
      · exact Lin.cellsAt (f := id) (g := mkAgg)
      · exact Lin.false_
    · split
      · exact Lin.and (Lin.ex fun _ => Lin.and (Lin.cellsAt (f := id) (g := mkAgg)))
      · exact Lin.false_
    · exact Lin.false_
theorem Lin.fieldAddrD {P t x f} : Lin (fieldAddrD P t x f) := by
  unfold VL.fieldAddrD
  split
  · exact Lin.false_
  · split <;> first | exact Lin.ret _ | exact Lin.false_
theorem Lin.fieldD {P t x f} : Lin (fieldD P t x f) := by
  unfold VL.fieldD
  split
  · exact Lin.false_
  · split
    · exact Lin.cellsAt (f := fun u => .u u) (g := fun u => .u (.agg u))
    · exact Lin.cellsAt (f := id) (g := mkAgg)
    · exact Lin.false_
theorem Lin.indexAddrD {P s t x i} : Lin (indexAddrD P s t x i) := by
  unfold VL.indexAddrD
  split
  · split
    · exact Lin.and (Lin.ex fun _ => Lin.and (Lin.and (Lin.ret _)))
    · exact Lin.and (Lin.and (Lin.and' (Lin.ret _)))
    · exact Lin.false_
  · exact Lin.false_
theorem Lin.indexD {P t x i} : Lin (indexD P t x i) := by
  unfold VL.indexD
  split
  · exact ((Lin.ex fun _ => (Lin.ret _).and).and).and
  · exact ((Lin.ex fun _ => (Lin.ret _).and).and).and
  · exact Lin.false_
theorem Lin.lookR {ag z r ok} : Lin (lookR ag z r ok) := by
  unfold VL.lookR
  split
  · split <;> first | exact Lin.ret _ | exact Lin.false_
  · split <;> first | exact Lin.ret _ | exact Lin.false_
theorem Lin.lookD {P s t x i ok} : Lin (lookD P s t x i ok) := by
  unfold VL.lookD
  split
  · split
    · exact Lin.and (Lin.and (Lin.and Lin.lookR))
    · exact Lin.false_
  · split
    · exact Lin.and (Lin.and (Lin.and Lin.lookR))
    · exact Lin.false_
  · exact Lin.false_
theorem Lin.cutD {n lo hi} {T : Nat → Nat → (D → Prop) → Prop} (h : ∀ a b, Lin (T a b)) : Lin fun r => cutD n lo hi fun a b => T a b r := by
  unfold VL.cutD
  split <;> first | exact h _ _ | exact (h _ _).and | exact Lin.false_
theorem Lin.sliceD {P s t x lo hi} : Lin (sliceD P s t x lo hi) := by
  unfold VL.sliceD
  split
  · exact Lin.and (Lin.cutD fun a b => Lin.ret _)
  · split
    · exact Lin.and (Lin.cutD fun a b => Lin.ret _)
    · exact Lin.false_
  · split
    · exact Lin.and (Lin.and (Lin.cutD fun a b => Lin.and (Lin.ret _)))
    · exact Lin.false_
  · exact Lin.false_
theorem Lin.lenD {P s t x} : Lin (lenD P s t x) := by
  unfold VL.lenD
  split
  · exact (Lin.ret _).and
  · exact (Lin.ret _).and
  · exact (Lin.ret _).and
  · refine Lin.and ?_
    split <;> first | exact (Lin.ret _).and | exact Lin.false_
  · exact Lin.false_
theorem Lin.minmaxD {b l} : Lin (minmaxD b l) := by
  unfold VL.minmaxD
  split
  · exact (Lin.ret _).and
  · exact (Lin.ret _).and.and
  · exact Lin.false_
theorem Lin.nilCheckD {x} : Lin (nilCheckD x) := by
  unfold VL.nilCheckD
  split <;> first | exact Lin.ret _ | exact Lin.false_
theorem Lin.fillD {places} : ∀ {parts : List (Nat × D)} {cs : List D}, Lin (fillD places parts cs)
  | [], cs => Lin.ret _
  | (f, d) :: rest, cs => by
    rw [show VL.fillD places ((f, d) :: rest) cs = fun k => match places[f]?, cellsD d with
      | some (off, n), some new => new.length = n ∧ off + n ≤ cs.length ∧ VL.fillD places rest (setAll cs off new) k
      | _, _ => False from rfl]
    split
    · exact Lin.and (Lin.and Lin.fillD)
    · exact Lin.false_
theorem Lin.buildD {P t parts} : Lin (buildD P t parts) := by
  unfold VL.buildD
  split
  · exact Lin.fillD.map _
  · exact Lin.false_
theorem Lin.makeIfD {P t x} : Lin (makeIfD P t x) := by
  unfold VL.makeIfD
  split
  · split
    · exact (Lin.ret _).and
    · exact Lin.false_
  · exact Lin.false_
theorem Lin.typeAssertD {P x t ok} : Lin (typeAssertD P x t ok) := by
  unfold VL.typeAssertD
  split
  · exact (((Lin.ret _).and).and).and
  · exact ((Lin.ex fun _ => Lin.ex fun _ => ((Lin.ret _).and).and).and).and
  · exact Lin.false_
theorem Lin.evPure {P s op} : Lin (evPure P s op) := by
  unfold VL.evPure
  split
  · exact Lin.ret _
  · exact Lin.ret _
  · split <;> first | exact Lin.ret _ | exact Lin.false_
  · exact Lin.loadD
  · exact Lin.binD
  · exact Lin.unD
  · exact Lin.convD
  · exact Lin.fieldAddrD
  · exact Lin.fieldD
  · exact Lin.indexAddrD
  · exact Lin.indexD
  · exact Lin.lookD
  · exact Lin.and Lin.sliceD
  · split
    · exact Lin.ex fun _ => (Lin.ret _).and
    · exact Lin.false_
  · exact Lin.nilCheckD
  · exact (Lin.ret _).and
  · exact Lin.buildD
  · exact Lin.makeIfD
  · exact Lin.typeAssertD
  · split
    · split <;> first | exact Lin.lenD | exact Lin.false_
    · exact Lin.minmaxD
    · exact Lin.minmaxD
    · exact Lin.false_
  · exact Lin.false_

end Go.VL
