/- The calculus of values: that a state tells no more than another one, by a look at its slots and objects. -/
import Derived.Test.YtblmompdcammeaaVLx
set_option linter.all false
namespace Go.VL
open Go
def leEnv (ρ : Nat → Nat) (s : St) (nx : Nat) : List (Nat × D) → Prop
  | [] => True
  | p :: l => (D.le ρ (s.at p.1) p.2 ∧ p.2.under nx = true ∧ p.1 < s.n) ∧ leEnv ρ s nx l
def leObs (ρ : Nat → Nat) (s : St) (nx : Nat) : List (Nat × Ob) → Prop
  | [] => True
  | p :: l => (p.1 < nx ∧ ∃ ob, getK s.obs (ρ p.1) = some ob ∧ Ob.le ρ ob p.2 ∧ p.2.under nx = true) ∧ leObs ρ s nx l
def leL (ρ : Nat → Nat) : List D → List D → Prop
  | [], [] => True
  | a :: as, b :: bs => D.le ρ a b ∧ leL ρ as bs
  | _, _ => False
theorem leL_out {ρ} : ∀ {a b : List D}, leL ρ a b → a.length = b.length ∧ ∀ (j : Nat) (c c' : D), a[j]? = some c → b[j]? = some c' → D.le ρ c c'
  | [], [], _ => ⟨rfl, by simp⟩
  | a :: as, b :: bs, h => by
    obtain ⟨h1, h2⟩ := leL_out h.2
    refine ⟨by simp [h1], fun j c c' hj hj' => ?_⟩
    cases j with
    | zero => simp at hj hj'; subst hj; subst hj'; exact h.1
    | succ j => exact h2 j c c' (by simpa using hj) (by simpa using hj')
  | [], b :: bs, h => h.elim
  | a :: as, [], h => h.elim
theorem leEnv_out {ρ s nx} : ∀ {l : List (Nat × D)}, leEnv ρ s nx l → ∀ x d', getK l x = some d' → D.le ρ (s.at x) d' ∧ d'.under nx = true ∧ x < s.n
  | [], _, x, d', h => by simp [getK] at h
  | (y, d) :: l, h, x, d', hx => by
    rw [getK_cons] at hx
    by_cases e : x = y
    · rw [if_pos e] at hx; cases hx; subst e; exact h.1
    · rw [if_neg e] at hx; exact leEnv_out h.2 x d' hx
theorem leObs_out {ρ s nx} : ∀ {l : List (Nat × Ob)}, leObs ρ s nx l → ∀ x d', getK l x = some d' → x < nx ∧ ∃ ob, getK s.obs (ρ x) = some ob ∧ Ob.le ρ ob d' ∧ d'.under nx = true
  | [], _, x, d', h => by simp [getK] at h
  | (y, d) :: l, h, x, d', hx => by
    rw [getK_cons] at hx
    by_cases e : x = y
    · rw [if_pos e] at hx; cases hx; subst e; exact h.1
    · rw [if_neg e] at hx; exact leObs_out h.2 x d' hx
theorem getK_mem {α : Type} : ∀ {l : List (Nat × α)} {x : Nat} {d : α}, getK l x = some d → x ∈ l.map (·.1)
  | [], x, d, h => by simp [getK] at h
  | (y, e) :: l, x, d, h => by
    rw [getK_cons] at h
    by_cases hx : x = y
    · subst hx; simp
    · rw [if_neg hx] at h; exact List.mem_cons_of_mem _ (getK_mem h)
theorem St.le_of {n0 : Nat} {ρ : Nat → Nat} {s s' : St} (hn : s'.n = s.n) (he : leEnv ρ s s'.next s'.env) (ho : leObs ρ s s'.next s'.obs)
    (hi : ∀ i ∈ s'.obs.map (·.1), ∀ j ∈ s'.obs.map (·.1), ρ i = ρ j → i = j) (hk : ∀ i, i < n0 → ρ i = i ∧ i < s'.next) : St.Le n0 ρ s s' :=
  ⟨hn, fun x d' hx => ⟨(leEnv_out he x d' hx).1, (leEnv_out he x d' hx).2.1⟩, fun x d' hx => (leEnv_out he x d' hx).2.2, fun i ob hob => leObs_out ho i ob hob,
    fun i j ob ob' hi' hj' e => hi i (getK_mem hi') j (getK_mem hj') e, hk⟩
theorem Ob.le_box {ρ cs cs'} (h : leL ρ cs cs') : Ob.le ρ (.box cs) (.box cs') := leL_out h
/-- Rows of plain values. -/
def uRows (rows : List (List D)) : Prop := ∀ r ∈ rows, ∀ c ∈ r, ∃ x, c = .u x
theorem uRows_map {α : Type} (l : List α) (f : α → List U) : uRows (l.map fun x => (f x).map .u) := by
  intro r hr c hc
  obtain ⟨x, _, rfl⟩ := List.mem_map.1 hr
  obtain ⟨u, _, rfl⟩ := List.mem_map.1 hc
  exact ⟨u, rfl⟩
theorem uRows_rowsD (l : List (List U)) : uRows (rowsD l) := uRows_map l fun r => r
theorem uRows_append {a b : List (List D)} (ha : uRows a) (hb : uRows b) : uRows (a ++ b) := fun r hr => (List.mem_append.1 hr).elim (ha r) (hb r)
theorem uRows_take {a : List (List D)} (n : Nat) (ha : uRows a) : uRows (a.take n) := fun r hr => ha r (List.mem_of_mem_take hr)
theorem uRows_nil : uRows [] := fun _ h => by cases h
theorem uRows_cons {r : List D} {a : List (List D)} (hr : ∀ c ∈ r, ∃ x, c = D.u x) (ha : uRows a) : uRows (r :: a) := fun q hq => by
  rcases List.mem_cons.1 hq with rfl | hq
  · exact hr
  · exact ha q hq
theorem uRows_set {a : List (List D)} {n : Nat} {r : List D} (hr : ∀ c ∈ r, ∃ x, c = D.u x) (ha : uRows a) : uRows (a.set n r) := fun q hq => by
  rcases List.mem_or_eq_of_mem_set hq with hq | rfl
  · exact ha q hq
  · exact hr
theorem Ob.le_vec {ρ e sz rows rows'} (hu : uRows rows) (hl : rows'.length ≤ rows.length) (hp : ∀ i, i < rows'.length → rows'[i]? = rows[i]?) : Ob.le ρ (.vec e sz rows) (.vec e sz rows') := by
  refine ⟨rfl, rfl, hl, fun i r r' hi hi' => ?_⟩
  have := hp i (List.getElem?_eq_some_iff.1 hi').1
  rw [hi, hi'] at this
  cases this
  refine ⟨rfl, fun j c c' hj hj' => ?_⟩
  rw [hj] at hj'
  cases hj'
  obtain ⟨x, rfl⟩ := hu _ (List.mem_of_getElem? hi) _ (List.mem_of_getElem? hj)
  exact .inr (.inl (by simp [D.ren]))
theorem Ob.le_vec_refl {ρ e sz rows} (hu : uRows rows) : Ob.le ρ (.vec e sz rows) (.vec e sz rows) := Ob.le_vec hu (Nat.le_refl _) fun _ _ => rfl
theorem Ob.under_vec {n e sz rows} (hu : uRows rows) : Ob.under n (.vec e sz rows) = true := by
  simp only [Ob.under, List.all_eq_true]
  intro r hr c hc
  obtain ⟨x, rfl⟩ := hu r hr c hc
  simp [D.under]
theorem LoopI.next {α : Type} {n0 : Nat} {S : α → St} {μ : α → Nat} {x : α} {s : St} (y : α) (ρ : Nat → Nat) (h1 : μ y < μ x) (h2 : St.Le n0 ρ s (S y)) : LoopI n0 S μ x s := ⟨y, ρ, h1, h2⟩
theorem EndOK.fin {P : Program} {fn : Func} {n0 : Nat} {e : Exit} {s : St} {post : D → List (Nat × Ob) → Nat → Prop} (he : e = .normal ∨ e = .ret)
    (h : resD P s fn.results.toList fun ds => FinOK n0 post s (oneOrTup ds)) : EndOK P fn n0 post e s := ⟨he, h⟩
theorem FinOK.intro {n0 : Nat} {post : D → List (Nat × Ob) → Nat → Prop} {s : St} {d : D} (s' : St) (ρ : Nat → Nat) (d' : D) (h1 : St.Le n0 ρ s s') (h2 : D.le ρ d d') (h3 : d'.under s'.next = true)
    (h4 : n0 ≤ s'.next) (h5 : post d' s'.obs s'.next) : FinOK n0 post s d := .inl ⟨s', ρ, d', h1, h2, h3, h4, h5⟩
theorem FinOK.here {n0 : Nat} {post : D → List (Nat × Ob) → Nat → Prop} {s : St} {d : D} (hn : n0 ≤ s.next) (h : post d s.obs s.next) : FinOK n0 post s d := .inr ⟨hn, h⟩
theorem V_vlen {P Γ c s Q} {i e sz : Nat} {rows : List (List D)} (hx : getK s.obs i = some (.vec e sz rows)) (h : rows.length ≤ 9223372036854775807 → V P Γ c s Q) : V P Γ c s Q :=
  V_know (fun K a w hs => by
    obtain ⟨g2, xs, hg2, hrow, hpos, hlen2, hcs, hno⟩ := (hs.sat.ob _ _ hx).vec
    rcases hrow.2 with ⟨hv, hn⟩ | ⟨b, cap, cur, hv, _, hheap, hncap, hcm, hcs', htake⟩
    · omega
    · exact Nat.le_trans hncap hcm) h
theorem map_fix {f : D → D} : ∀ {l : List D}, (∀ d ∈ l, f d = d) → l.map f = l
  | [], _ => rfl
  | d :: l, h => by rw [List.map_cons, h d (by simp), map_fix fun e he => h e (by simp [he])]
theorem D.ren_id : ∀ d : D, d.ren (fun i => i) = d
  | .u _ => by rw [D.ren]
  | .any => by rw [D.ren]
  | .ptr .. => by rw [D.ren]
  | .vec .. => by rw [D.ren]
  | .elt .. => by rw [D.ren]
  | .fnc f caps => by rw [D.ren, map_fix fun d hd => D.ren_id d]
  | .agg cs => by rw [D.ren, map_fix fun d hd => D.ren_id d]
  | .tup cs => by rw [D.ren, map_fix fun d hd => D.ren_id d]
termination_by d => SizeOf.sizeOf d
decreasing_by
  all_goals
    simp_wf
    have := List.sizeOf_lt_of_mem hd
    omega
theorem D.le_id (d : D) : D.le (fun i => i) d d := .inr (.inl (D.ren_id d).symm)
theorem Ob.le_id (ob : Ob) : Ob.le (fun i => i) ob ob := by
  cases ob with
  | box cs => exact ⟨rfl, fun j c c' h h' => by rw [h] at h'; cases h'; exact D.le_id _⟩
  | vec e sz rows => exact ⟨rfl, rfl, Nat.le_refl _, fun i r r' h h' => by
      rw [h] at h'
      cases h'
      exact ⟨rfl, fun j c c' h h' => by rw [h] at h'; cases h'; exact D.le_id _⟩⟩
/-- The state without its slots. -/
theorem FinOK.same {n0 : Nat} {post : D → List (Nat × Ob) → Nat → Prop} {s : St} {d : D} (ho : ∀ p ∈ s.obs, p.1 < s.next ∧ p.2.under s.next = true) (hd : d.under s.next = true) (hn : n0 ≤ s.next)
    (h : post d s.obs s.next) : FinOK n0 post s d := by
  have hg : ∀ i ob, getK s.obs i = some ob → (i, ob) ∈ s.obs := by
    have : ∀ (l : List (Nat × Ob)) i ob, getK l i = some ob → (i, ob) ∈ l := by
      intro l
      induction l with
      | nil => intro i ob h; simp [getK] at h
      | cons p l ih =>
        obtain ⟨k, o⟩ := p
        intro i ob h
        rw [getK_cons] at h
        by_cases hk : i = k
        · rw [if_pos hk] at h; cases h; subst hk; simp
        · rw [if_neg hk] at h; exact List.mem_cons_of_mem _ (ih i ob h)
    exact this s.obs
  exact .inl ⟨{ s with env := [] }, fun i => i, d, ⟨rfl, fun x d' hx => by simp [getK] at hx, fun x d' hx => by simp [getK] at hx,
    fun i ob hi => ⟨(ho _ (hg i ob hi)).1, ob, hi, Ob.le_id ob, (ho _ (hg i ob hi)).2⟩, fun _ _ _ _ _ _ h => h, fun i hi => ⟨rfl, Nat.lt_of_lt_of_le hi hn⟩⟩, D.le_id d, hd, hn, h⟩
theorem getK_in {α : Type} : ∀ {l : List (Nat × α)} {i : Nat} {ob : α}, getK l i = some ob → (i, ob) ∈ l
  | [], i, ob, h => by simp [getK] at h
  | (k, o) :: l, i, ob, h => by
    rw [getK_cons] at h
    by_cases hk : i = k
    · rw [if_pos hk] at h; cases h; subst hk; simp
    · rw [if_neg hk] at h; exact List.mem_cons_of_mem _ (getK_in h)
/-- The state without its slots, and without some objects. -/
theorem FinOK.sub {n0 : Nat} {post : D → List (Nat × Ob) → Nat → Prop} {s : St} {d : D} (obs : List (Nat × Ob)) (ho : ∀ p ∈ obs, getK s.obs p.1 = some p.2 ∧ p.1 < s.next ∧ p.2.under s.next = true) (hd : d.under s.next = true) (hn : n0 ≤ s.next)
    (h : post d obs s.next) : FinOK n0 post s d :=
  .inl ⟨{ s with env := [], obs := obs }, fun i => i, d, ⟨rfl, fun x d' hx => by simp [getK] at hx, fun x d' hx => by simp [getK] at hx,
    fun i ob hi => ⟨(ho _ (getK_in hi)).2.1, ob, (ho _ (getK_in hi)).1, Ob.le_id ob, (ho _ (getK_in hi)).2.2⟩, fun _ _ _ _ _ _ h => h, fun i hi => ⟨rfl, Nat.lt_of_lt_of_le hi hn⟩⟩, D.le_id d, hd, hn, h⟩
theorem Ob.under_box {n : Nat} {cs : List D} : Ob.under n (.box cs) = cs.all (·.under n) := rfl
theorem Ret.mono {P f ds obs nx} {p q : D → List (Nat × Ob) → Nat → Prop} (h : Ret P f ds obs nx p) (hq : ∀ d o n, p d o n → q d o n) : Ret P f ds obs nx q := fun k own w vs h1 h2 h3 h4 =>
  Calls.mono (h k own w vs h1 h2 h3 h4) fun _ _ ⟨v, d, o, n, k', e, a, b, c, g, r, hpost⟩ => ⟨v, d, o, n, k', e, a, b, c, g, r, hq d o n hpost⟩
theorem D.le_refl_u {ρ x} : D.le ρ (.u x) (.u x) := .inr (.inl (by simp [D.ren]))
end Go.VL
