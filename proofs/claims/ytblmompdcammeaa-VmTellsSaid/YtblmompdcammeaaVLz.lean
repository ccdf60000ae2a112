/- The calculus of values: what a state may be told as instead: an empty slice as rows of the call's own, rows that no one will write any more as a value; loops and ends of functions up to that. -/
import Derived.Test.YtblmompdcammeaaVLy
set_option linter.all false
namespace Go.VL
open Go

/-- The state can be told as s' as well. -/
def Wk (Γ : Ctx) (s s' : St) : Prop := ∀ K a w, In Γ K w → Sim K Γ.own s a w → ∃ K', In Γ K' w ∧ Sim K' Γ.own s' a w
theorem Wk.refl {Γ : Ctx} (s : St) : Wk Γ s s := fun K _ _ h g => ⟨K, h, g⟩
theorem Wk.trans {Γ : Ctx} {a b c : St} (h : Wk Γ a b) (g : Wk Γ b c) : Wk Γ a c := fun K x w h1 h2 =>
  let ⟨K1, h3, h4⟩ := h K x w h1 h2
  g K1 x w h3 h4
theorem Wk.le {Γ : Ctx} {s s' : St} (ρ : Nat → Nat) (h : St.Le Γ.n0 ρ s s') : Wk Γ s s' := fun _ _ _ h1 h2 => ⟨_, Sim.weak h1 h2 h⟩
theorem V_wk {P Γ c s Q} (s' : St) (hw : Wk Γ s s') (h : V P Γ c s' Q) : V P Γ c s Q := fun K a w hin hs =>
  let ⟨K', h1, h2⟩ := hw K a w hin hs
  h K' a w h1 h2

/-- The next round's state can be told as one of the family, closer to the end. -/
def LoopW {α : Type} (Γ : Ctx) (S : α → St) (μ : α → Nat) (x : α) (s : St) : Prop := ∃ y, μ y < μ x ∧ Wk Γ s (S y)
theorem LoopW.next {α : Type} {Γ : Ctx} {S : α → St} {μ : α → Nat} {x : α} {s : St} (y : α) (h1 : μ y < μ x) (h2 : Wk Γ s (S y)) : LoopW Γ S μ x s := ⟨y, h1, h2⟩
theorem V_loopW {P Γ Q k s} {c : Code} {α : Type} (S : α → St) (μ : α → Nat) (x0 : α) (h0 : Wk Γ s (S x0))
    (h : ∀ x, V P Γ c (S x) (RunK P Γ Q (.loop (LoopW Γ S μ x) k))) : V P Γ (.loop c) s (RunK P Γ Q k) := by
  intro K a w hin hs
  obtain ⟨K0, hin0, hs0⟩ := h0 K a w hin hs
  have key : ∀ (m : Nat) (x : α) (K : Kr) (a : Act) (w : World), μ x = m → In Γ K w → Sim K Γ.own (S x) a w →
      ∀ (b : Frame) (kk : List Item) (cs : List Frame), ∃ e a' w', (∃ K' s', In Γ K' w' ∧ Sim K' Γ.own s' a' w' ∧ RunK P Γ Q k e s') ∧
        Arrives P (lone (b.at a (.code c :: .inLoop c :: kk)) cs w) b kk cs e a' w' := by
    intro m
    induction m using Nat.strongRecOn with
    | _ m ih =>
      intro x K a w hm hin hs b kk cs
      obtain ⟨e, a1, w1, ⟨K1, s1, h1, h2, h3⟩, harr⟩ := h x K a w hin hs b (.inLoop c :: kk) cs
      cases e with
      | normal =>
        obtain ⟨y, hlt, hle⟩ := h3
        obtain ⟨K2, h4, h5⟩ := hle K1 a1 w1 h1 h2
        obtain ⟨e2, a2, w2, hq, harr2⟩ := ih (μ y) (hm ▸ hlt) y _ a1 w1 rfl h4 h5 b kk cs
        exact ⟨e2, a2, w2, hq, .of_steps (Steps.trans harr (.one step_inLoop)) harr2⟩
      | exit id => exact ⟨_, a1, w1, ⟨K1, s1, h1, h2, h3⟩, .pass (x := .inLoop c) rfl (fun _ _ => .inl (by simp)) harr⟩
      | goto l => exact ⟨_, a1, w1, ⟨K1, s1, h1, h2, h3⟩, .pass (x := .inLoop c) rfl (fun _ _ => .inl (by simp)) harr⟩
      | ret => exact ⟨_, a1, w1, ⟨K1, s1, h1, h2, h3⟩, .pass (x := .inLoop c) rfl (fun _ _ => .inl (by simp)) harr⟩
      | panic ch => exact ⟨_, a1, w1, ⟨K1, s1, h1, h2, h3⟩, .pass (x := .inLoop c) rfl (fun _ _ => .inl (by simp)) harr⟩
      | outgrown => exact ⟨_, a1, w1, ⟨K1, s1, h1, h2, h3⟩, .pass (x := .inLoop c) rfl (fun _ _ => .inl (by simp)) harr⟩
  intro b kk cs
  obtain ⟨e, a', w', hq, harr⟩ := key _ x0 K0 a w rfl hin0 hs0 b kk cs
  exact ⟨e, a', w', hq, .of_steps (.one step_loop) harr⟩

/-- At a function's end, up to what the state may be told as. -/
def EndW (P : Program) (Γ : Ctx) (fn : Func) (n0 : Nat) (post : D → List (Nat × Ob) → Nat → Prop) (e : Exit) (s : St) : Prop := ∃ s', Wk Γ s s' ∧ EndOK P fn n0 post e s'
theorem EndW.here {P Γ fn n0 post e s} (h : EndOK P fn n0 post e s) : EndW P Γ fn n0 post e s := ⟨s, .refl s, h⟩
theorem EndW.wk {P Γ fn n0 post e s} (s' : St) (hw : Wk Γ s s') (h : EndW P Γ fn n0 post e s') : EndW P Γ fn n0 post e s :=
  let ⟨s2, h1, h2⟩ := h
  ⟨s2, hw.trans h1, h2⟩
theorem V_doneW {P Γ c s fn n0 post} (h : V P Γ c s (RunK P Γ (EndW P Γ fn n0 post) .done)) : V P Γ c s (RunK P Γ (EndOK P fn n0 post) .done) := by
  intro K a w hin hs
  have h1 := h K a w hin hs
  refine Code.wp_mono ?_ h1
  rintro e a' w' ⟨K', s', h2, h3, s2, hw, he⟩
  obtain ⟨K2, h4, h5⟩ := hw K' a' w' h2 h3
  exact ⟨K2, s2, h4, h5, he⟩
theorem Fun.of_bodyW {P f fn c ds post} (hf : P.funcs[f]? = some fn) (hb : fn.body = some c) (hn : ds.length ≤ fn.ntmps)
    (h : ∀ Γ : Ctx, Γ.n0 = 0 → V P Γ c (entry ds fn.ntmps [] 0) (RunK P Γ (EndW P Γ fn 0 fun d _ _ => pureD d = true ∧ post d) .done)) : Fun P f ds post :=
  Fun.of_body hf hb hn fun Γ hn => V_doneW (h Γ hn)
theorem Ret.of_bodyW {P f fn c ds obs nx post} (hf : P.funcs[f]? = some fn) (hb : fn.body = some c) (hn : ds.length ≤ fn.ntmps)
    (h : ∀ Γ : Ctx, Γ.n0 = nx → V P Γ c (entry ds fn.ntmps obs nx) (RunK P Γ (EndW P Γ fn nx post) .done)) : Ret P f ds obs nx post :=
  Ret.of_body hf hb hn fun Γ hn => V_doneW (h Γ hn)

/-- The nil slice in a slot, told as no rows of the call's own. -/
def St.own (s : St) (x e sz : Nat) : St := { s with env := (x, .vec s.next 0) :: s.env, obs := (s.next, .vec e sz []) :: s.obs, next := s.next + 1 }
theorem addNil {Γ : Ctx} {k s a w} (e sz : Nat) (hsz : 0 < sz) (hin : In Γ k w) (hs : Sim k Γ.own s a w) :
    In Γ (k.add s.next (none, 0)) w ∧ Sim (k.add s.next (none, 0)) Γ.own { s with obs := (s.next, .vec e sz []) :: s.obs, next := s.next + 1 } a w := by
  have hi := hs.hdr s.next (Nat.le_refl _)
  have hle := Kr.le_add (h := (none, 0)) hi
  refine ⟨hin.step hle (fun b o v e => .inl e) rfl rfl rfl (Nat.le_refl _) fun _ _ => rfl, ⟨?_, hs.defers, hs.size, fun x d hx => ⟨(hs.env x d hx).1, (hs.env x d hx).2.mono hle⟩, fun i hi' => ?_⟩⟩
  · exact hs.sat.add hi (fun b hb => by cases hb) (fun _ _ => rfl) ⟨[], ⟨by simp, .inl ⟨rfl, rfl⟩⟩, hsz, by simp, by simp⟩
  · simp only [Kr.add]
    rw [if_neg (by simp only at hi'; omega)]
    exact hs.hdr i (by simp only at hi'; omega)
theorem Wk.own {Γ : Ctx} {s : St} (x e sz : Nat) (hsz : 0 < sz) (hx : getK s.env x = some (.u .nil)) : Wk Γ s (s.own x e sz) := by
  intro k a w hin hs
  obtain ⟨h1, h2⟩ := addNil e sz hsz hin hs
  refine ⟨_, h1, ⟨h2.sat, h2.defers, h2.size, fun y d hy => ?_, h2.hdr⟩⟩
  simp only [St.own, getK_cons] at hy
  by_cases hyx : y = x
  · subst hyx
    rw [if_pos rfl] at hy
    cases hy
    obtain ⟨h3, h4⟩ := hs.env y _ hx
    refine ⟨h3, ?_⟩
    rw [rep_nil h4]
    exact .vec s.next 0 (none, 0) (by simp [Kr.add])
  · rw [if_neg hyx] at hy
    exact h2.env y d hy
/-- The nil slice in a variable's cell, told as no rows of the call's own. -/
def St.ownC (s : St) (i : Nat) (cells : List D) (j e sz : Nat) : St := { s with obs := (s.next, .vec e sz []) :: setOb s.obs i (.box (cells.set j (.vec s.next 0))), next := s.next + 1 }
theorem Wk.ownC {Γ : Ctx} {s : St} (i : Nat) (cells : List D) (j e sz : Nat) (hsz : 0 < sz) (hi : getK s.obs i = some (.box cells)) (hj : cells[j]? = some (.u .nil)) : Wk Γ s (s.ownC i cells j e sz) := by
  intro k a w hin hs
  obtain ⟨h1, h2⟩ := addNil e sz hsz hin hs
  have hne : i ≠ s.next := fun h => by
    obtain ⟨g, h3, _⟩ := hs.sat.ob i _ hi
    rw [h, hs.hdr s.next (Nat.le_refl _)] at h3
    cases h3
  refine ⟨_, h1, ⟨?_, h2.defers, h2.size, h2.env, h2.hdr⟩⟩
  have hi' : getK ((s.next, Ob.vec e sz []) :: s.obs) i = some (.box cells) := by rw [getK_cons, if_neg hne]; exact hi
  obtain ⟨g, hg, hg1, b, vs, t, e1, h3, h4, h5⟩ := h2.sat.ob i _ hi'
  refine Sat.congr (Sat.set h2.sat hi' hg (fun _ _ => rfl) (ob' := .box (cells.set j (.vec s.next 0))) ⟨b, vs, t, e1, h3, by simpa using h4, fun y d hy => ?_⟩) fun y => ?_
  · rw [List.getElem?_set] at hy
    by_cases hyj : j = y
    · subst hyj
      rw [if_pos rfl] at hy
      have hlt := (List.getElem?_eq_some_iff.1 hj).1
      rw [if_pos hlt] at hy
      cases hy
      obtain ⟨h6, h7⟩ := h5 j _ hj
      refine ⟨h6, ?_⟩
      rw [rep_nil h7]
      exact .vec s.next 0 (none, 0) (by simp [Kr.add])
    · rw [if_neg hyj] at hy
      exact h5 y d hy
  · simp only [St.ownC, getK_cons, getK_setOb]
    by_cases hy : y = i
    · subst hy; simp [hne]
    · simp [hy]

-- rows that no one writes any more
def frz (i : Nat) (us : List (List U)) : D → D
  | .u x => .u x
  | .ptr j o => .ptr j o
  | .vec j len => if j = i ∧ len ≤ us.length then .u (.sl (us.take len)) else .vec j len
  | .elt j a b c => .elt j a b c
  | .fnc f caps => .fnc f (caps.map fun d => frz i us d)
  | .agg cs => mkAgg (cs.map fun d => frz i us d)
  | .tup cs => .tup (cs.map fun d => frz i us d)
  | .any => .any
theorem Rep.frz {k k' : Kr} {i : Nat} {us : List (List U)} (hle : k.le k') (hf : ∀ h len, k.hdr i = some h → len ≤ us.length → RepU k'.mem (.sl (us.take len)) (headVal h len)) :
    ∀ {d : D} {v : Value}, Rep k d v → Rep k' (frz i us d) v := by
  intro d v h
  induction h with
  | u x v h => rw [VL.frz]; exact .u x v (h.mono hle.mem)
  | any v => rw [VL.frz]; exact .any v
  | ptr j off b c h => rw [VL.frz]; exact .ptr j off b c (hle.hdr _ _ h)
  | vec j len h hh =>
    rw [VL.frz]
    split
    · rename_i hc
      obtain ⟨rfl, hl⟩ := hc
      exact .u _ _ (hf h len hh hl)
    · exact .vec j len h (hle.hdr _ _ hh)
  | elt j sz idx off b c h => rw [VL.frz]; exact .elt j sz idx off b c (hle.hdr _ _ h)
  | fnc f caps vs hl hr ih =>
    rw [VL.frz]
    refine .fnc f _ vs (by simpa using hl) fun j d hj => ?_
    rw [List.getElem?_map] at hj
    cases hc : caps[j]? with
    | none => rw [hc] at hj; cases hj
    | some e => rw [hc] at hj; cases hj; exact ih j e hc
  | agg cells vs hl hr ih =>
    rw [VL.frz]
    refine mkAgg_rep (by simpa using hl) fun j d hj => ?_
    rw [List.getElem?_map] at hj
    cases hc : cells[j]? with
    | none => rw [hc] at hj; cases hj
    | some e => rw [hc] at hj; cases hj; exact ih j e hc
  | tup cells vs hl hr ih =>
    rw [VL.frz]
    refine .tup _ vs (by simpa using hl) fun j d hj => ?_
    rw [List.getElem?_map] at hj
    cases hc : cells[j]? with
    | none => rw [hc] at hj; cases hj
    | some e => rw [hc] at hj; cases hj; exact ih j e hc
def frzOb (i : Nat) (us : List (List U)) : Ob → Ob
  | .box cs => .box (cs.map (frz i us))
  | .vec e sz rows => .vec e sz (rows.map fun r => r.map (frz i us))
theorem ObAt.frz {k k' : Kr} {i : Nat} {us : List (List U)} (hle : k.le k') (hf : ∀ h len, k.hdr i = some h → len ≤ us.length → RepU k'.mem (.sl (us.take len)) (headVal h len)) {w h ob} (ho : ObAt k w h ob) : ObAt k' w h (frzOb i us ob) := by
  cases ob with
  | box cs =>
    obtain ⟨b, vs, t, e, h1, h2, h3⟩ := ho
    refine ⟨b, vs, t, e, h1, by simpa using h2, fun j d hj => ?_⟩
    rw [List.getElem?_map] at hj
    cases hc : cs[j]? with
    | none => rw [hc] at hj; cases hj
    | some e => rw [hc] at hj; cases hj; exact ⟨(h3 j e hc).1, (h3 j e hc).2.frz hle hf⟩
  | vec e sz rows =>
    obtain ⟨xs, h1, h2, h3, h4⟩ := ho
    refine ⟨xs, by simpa using h1, h2, fun r hr => ?_, fun j r hr y d hy => ?_⟩
    · obtain ⟨q, hq, rfl⟩ := List.mem_map.1 hr
      simpa using h3 q hq
    · rw [List.getElem?_map] at hr
      cases hc : rows[j]? with
      | none => rw [hc] at hr; cases hr
      | some q =>
        rw [hc] at hr
        cases hr
        rw [List.getElem?_map] at hy
        cases hd : q[y]? with
        | none => rw [hd] at hy; cases hy
        | some e => rw [hd] at hy; cases hy; exact ⟨(h4 j q hc y e hd).1, (h4 j q hc y e hd).2.frz hle hf⟩
/-- The rows under i are a value from now on; the objects js that name them are told anew. -/
def St.frz (s : St) (i : Nat) (us : List (List U)) (js : List Nat) : St :=
  { s with env := s.env.map (fun p => (p.1, VL.frz i us p.2)), obs := (del s.obs i).map fun p => if js.contains p.1 then (p.1, frzOb i us p.2) else p }
theorem getK_map {α β : Type} (f : Nat → α → β) : ∀ (l : List (Nat × α)) (x : Nat), getK (l.map fun p => (p.1, f p.1 p.2)) x = (getK l x).map (f x)
  | [], _ => rfl
  | (k, d) :: l, x => by
    simp only [List.map_cons, getK_cons, getK_map f l x]
    by_cases h : x = k
    · subst h; simp
    · simp [h]
theorem Wk.frz {Γ : Ctx} {s : St} (i : Nat) (js : List Nat) {e sz : Nat} {rows : List (List D)} {us : List (List U)} (hi : getK s.obs i = some (.vec e sz rows)) (hu : allU2 rows = some us) : Wk Γ s (s.frz i us js) := by
  intro k a w hin hs
  obtain ⟨h, xs, hh, hrow, hpos, hlen, hcells, hno⟩ := (hs.sat.ob i _ hi).vec
  have hrw := allU2_inv hu
  have hul : us.length = rows.length := by rw [hrw]; simp
  -- the new knowledge
  let k' : Kr := { mem := fun b o => if h.1 = some b then (if o < rows.length * sz then xs[o]? else none) else k.mem b o, hdr := k.hdr }
  have hle : k.le k' := ⟨fun b o v hm => by
    show (if h.1 = some b then _ else _) = _
    rw [if_neg (fun hb => by rw [(hno b hb).2 o] at hm; cases hm)]
    exact hm, fun _ _ h => h⟩
  have hcell : ∀ b, h.1 = some b → ∀ j u, xs[j]? = some u → w.cell? ⟨b, j, none⟩ = some u := fun b hb j u hj => by
    have := hrow.cells (g := b) (by simp [headVal, Value.ownBlock, hb]) j u hj
    rwa [addr_add, Nat.zero_add] at this
  have hmem' : ∀ b o v, k'.mem b o = some v → w.cell? ⟨b, o, none⟩ = some v := fun b o v hm => by
    have hm' : (if h.1 = some b then (if o < rows.length * sz then xs[o]? else none) else k.mem b o) = some v := hm
    by_cases hb : h.1 = some b
    · rw [if_pos hb] at hm'
      split at hm'
      · exact hcell b hb o v hm'
      · cases hm'
    · rw [if_neg hb] at hm'
      exact hs.sat.mem b o v hm'
  have hf : ∀ g len, k.hdr i = some g → len ≤ us.length → RepU k'.mem (.sl (us.take len)) (headVal g len) := fun g len hg hl => by
    rw [hh] at hg
    cases hg
    by_cases h0 : len = 0
    · subst h0
      rw [List.take_zero]
      exact .slE _ _ fun e => ownsRow_capNone hrow (by simpa using e)
    · rcases hrow.2 with ⟨hv, hz⟩ | ⟨g, cap, cur, hv, _, hheap, hncap, hcm, _, htake⟩
      · omega
      · obtain ⟨hb1, hb2⟩ : h.1 = some g ∧ h.2 = cap := by
          simp only [headVal, Value.slice.injEq, Option.map_eq_some_iff] at hv
          obtain ⟨⟨b, hb, e⟩, _, e2⟩ := hv
          simp only [Addr.mk.injEq] at e
          exact ⟨by rw [hb, e.1], e2⟩
        have hxl := hrow.1
        have := RepU.sl (m := k'.mem) (us.take len) g 0 sz h.2 (fun p q => xs.getD (p * sz + q) undef) (by simp; omega) (by omega) (fun r hr => ?_) (fun p hp q hq => ?_) (fun p r hr q u hq => ?_)
        · simpa [headVal, hb1, Nat.min_eq_left hl] using this
        · have hm := List.mem_of_mem_take hr
          have : r.map D.u ∈ rows := by rw [hrw]; exact List.mem_map.2 ⟨r, hm, rfl⟩
          simpa using hlen _ this
        · have hp' : p < rows.length := by simp at hp; omega
          have hb : p * sz + q < rows.length * sz := by
            have : (p + 1) * sz ≤ rows.length * sz := Nat.mul_le_mul_right _ hp'
            rw [Nat.add_mul, Nat.one_mul] at this
            omega
          show (if h.1 = some g then (if 0 + p * sz + q < rows.length * sz then xs[0 + p * sz + q]? else none) else _) = _
          rw [if_pos hb1, if_pos (by omega), Nat.zero_add, List.getD_eq_getElem?_getD, List.getElem?_eq_getElem (by omega)]
          rfl
        · rw [List.getElem?_take] at hr
          split at hr
          · have hr' : rows[p]? = some (r.map D.u) := by rw [hrw, List.getElem?_map, hr]; rfl
            have hd := (hcells p _ hr' q (.u u) (by rw [List.getElem?_map, hq]; rfl)).2
            cases hd with | u _ _ hd => exact hd.mono hle.mem
          · cases hr
  refine ⟨k', hin.step hle (fun b o v hm => ?_) rfl rfl rfl (Nat.le_refl _) (fun _ _ => rfl), ⟨⟨hmem', fun j ob hj => ?_, fun x y ox oy g g' b hx hy hxy hg hg' hb' => ?_⟩, hs.defers, hs.size, fun x d hx => ?_, hs.hdr⟩⟩
  · have hm' : (if h.1 = some b then (if o < rows.length * sz then xs[o]? else none) else k.mem b o) = some v := hm
    by_cases hb : h.1 = some b
    · exact .inr (hno b hb).1
    · rw [if_neg hb] at hm'
      exact .inl hm'
  · obtain ⟨ob0, h1, h2, h3⟩ : ∃ ob0, getK s.obs j = some ob0 ∧ j ≠ i ∧ (ob = ob0 ∨ ob = frzOb i us ob0) := by
      have : getK ((del s.obs i).map fun p => (p.1, if js.contains p.1 then frzOb i us p.2 else p.2)) j = some ob := by
        rw [← hj]
        simp only [St.frz]
        congr 1
        apply List.map_congr_left
        intro p _
        split <;> rfl
      rw [getK_map (fun x (o : Ob) => if js.contains x then frzOb i us o else o), getK_del] at this
      by_cases hji : j = i
      · rw [if_pos hji] at this; cases this
      · rw [if_neg hji] at this
        cases ho : getK s.obs j with
        | none => rw [ho] at this; cases this
        | some ob0 =>
          rw [ho] at this
          simp only [Option.map_some, Option.some.injEq] at this
          refine ⟨ob0, rfl, hji, ?_⟩
          rw [← this]
          split
          · exact .inr rfl
          · exact .inl rfl
    obtain ⟨g, hg, hg1, hg2⟩ := hs.sat.ob j ob0 h1
    refine ⟨g, hg, fun b hb => ⟨(hg1 b hb).1, fun o => ?_⟩, ?_⟩
    · have hne : h.1 ≠ some b := fun e => hs.sat.apart i j _ ob0 h g b hi h1 (Ne.symm h2) hh hg e hb
      show (if h.1 = some b then _ else _) = _
      rw [if_neg hne]
      exact (hg1 b hb).2 o
    · rcases h3 with rfl | rfl
      · exact hg2.keep hle fun _ _ => rfl
      · exact hg2.frz hle hf
  · have conv : ∀ x ox, getK (s.frz i us js).obs x = some ox → ∃ o', getK s.obs x = some o' := fun x ox hx => by
      have : getK ((del s.obs i).map fun p => (p.1, if js.contains p.1 then frzOb i us p.2 else p.2)) x = some ox := by
        rw [← hx]
        simp only [St.frz]
        congr 1
        apply List.map_congr_left
        intro p _
        split <;> rfl
      rw [getK_map (fun x (o : Ob) => if js.contains x then frzOb i us o else o), getK_del] at this
      by_cases hji : x = i
      · rw [if_pos hji] at this; cases this
      · rw [if_neg hji] at this
        cases ho : getK s.obs x with
        | none => rw [ho] at this; cases this
        | some ob0 => exact ⟨ob0, rfl⟩
    obtain ⟨o1, h1⟩ := conv x ox hx
    obtain ⟨o2, h2⟩ := conv y oy hy
    exact hs.sat.apart x y o1 o2 g g' b h1 h2 hxy hg hg' hb'
  · have hx' : getK (s.env.map fun p => (p.1, VL.frz i us p.2)) x = some d := hx
    rw [getK_map (fun _ d => VL.frz i us d)] at hx'
    cases he : getK s.env x with
    | none => rw [he] at hx'; cases hx'
    | some d0 =>
      rw [he] at hx'
      cases hx'
      exact ⟨(hs.env x d0 he).1, (hs.env x d0 he).2.frz hle hf⟩

-- only some slots; loops told by what they change
/-- The state with these slots alone, of which some are told anew. -/
def keepE (env : List (Nat × D)) : List Nat → List (Nat × D)
  | [] => []
  | x :: l => match getK env x with
    | some d => (x, d) :: keepE env l
    | none => keepE env l
def St.only (s : St) (live : List Nat) : St := { s with env := keepE s.env live }
theorem keepE_get {env : List (Nat × D)} : ∀ {live : List Nat} {x d}, getK (keepE env live) x = some d → getK env x = some d
  | [], x, d, h => by simp [keepE, getK] at h
  | y :: l, x, d, h => by
    simp only [keepE] at h
    split at h
    · rename_i e he
      rw [getK_cons] at h
      by_cases hx : x = y
      · rw [if_pos hx] at h; cases h; subst hx; exact he
      · rw [if_neg hx] at h; exact keepE_get h
    · exact keepE_get h
theorem Wk.only {Γ : Ctx} {s : St} (live : List Nat) : Wk Γ s (s.only live) := fun k _ _ hin hs =>
  ⟨k, hin, ⟨hs.sat, hs.defers, hs.size, fun x d hx => hs.env x d (keepE_get hx), hs.hdr⟩⟩
def St.lp (s : St) (live : List Nat) (F : List (Nat × D)) : St := { s with env := F ++ keepE s.env live }
/-- Slots told weaker, objects as they are. -/
def wkE (s : St) : List (Nat × D) → Prop
  | [] => True
  | p :: l => (∃ d, getK s.env p.1 = some d ∧ (d = p.2 ∨ p.2 = .any ∨ (d = .u .nil ∧ p.2 = .u (.sl [])))) ∧ wkE s l
theorem wkE_get {s : St} : ∀ {l : List (Nat × D)} {x d}, wkE s l → getK l x = some d → ∃ d0, getK s.env x = some d0 ∧ (d0 = d ∨ d = .any ∨ (d0 = .u .nil ∧ d = .u (.sl [])))
  | [], x, d, _, h => by simp [getK] at h
  | (y, e) :: l, x, d, hw, h => by
    rw [getK_cons] at h
    by_cases hx : x = y
    · rw [if_pos hx] at h; cases h; subst hx; exact hw.1
    · rw [if_neg hx] at h; exact wkE_get hw.2 h
/-- The same objects, the slots told weaker. -/
theorem Wk.env {Γ : Ctx} {s s' : St} (hn : s'.n = s.n) (ho : s'.obs = s.obs) (hx : s'.next = s.next) (he : wkE s s'.env) : Wk Γ s s' := by
  intro k a w hin hs
  refine ⟨k, hin, ⟨by rw [ho]; exact hs.sat, hs.defers, by rw [hn]; exact hs.size, fun x d hxd => ?_, fun i hi => hs.hdr i (by rw [← hx]; exact hi)⟩⟩
  obtain ⟨d0, h1, h2⟩ := wkE_get he hxd
  obtain ⟨h3, h4⟩ := hs.env x d0 h1
  refine ⟨by rw [hn]; exact h3, ?_⟩
  rcases h2 with rfl | rfl | ⟨rfl, rfl⟩
  · exact h4
  · exact .any _
  · rw [rep_nil h4]
    exact .u _ _ (.slE _ _ fun _ => rfl)
theorem V_loopF {P Γ Q k s} {c : Code} {α : Type} (live : List Nat) (F : α → List (Nat × D)) (μ : α → Nat) (x0 : α) (h0 : Wk Γ s (s.lp live (F x0)))
    (h : ∀ x, V P Γ c (s.lp live (F x)) (RunK P Γ Q (.loop (LoopW Γ (fun x => s.lp live (F x)) μ x) k))) : V P Γ (.loop c) s (RunK P Γ Q k) := V_loopW _ μ x0 h0 h
theorem V_loopO {P Γ Q k s} {c : Code} {α : Type} (live : List Nat) (F : α → List (Nat × D)) (O : α → List (Nat × Ob)) (nx : Nat) (μ : α → Nat) (x0 : α) (h0 : Wk Γ s { s.lp live (F x0) with obs := O x0, next := nx })
    (h : ∀ x, V P Γ c { s.lp live (F x) with obs := O x, next := nx } (RunK P Γ Q (.loop (LoopW Γ (fun x => { s.lp live (F x) with obs := O x, next := nx }) μ x) k))) : V P Γ (.loop c) s (RunK P Γ Q k) := V_loopW _ μ x0 h0 h
-- an empty slice: nil or not
theorem V_nilsplit {P Γ c s Q} {x : Nat} (hx : getK s.env x = some (.u (.sl []))) (h1 : V P Γ c { s with env := (x, .u .nil) :: s.env } Q)
    (h2 : ∀ a cp, V P Γ c { s with env := (x, .u (.oth (.slice (some a) 0 cp))) :: s.env } Q) : V P Γ c s Q := by
  intro K a w hin hs
  obtain ⟨hlt, hr⟩ := hs.env x _ hx
  have put : ∀ d, Rep K d (a.tmps.getD x undef) → Sim K Γ.own { s with env := (x, d) :: s.env } a w := fun d hd => ⟨hs.sat, hs.defers, hs.size, fun y e hy => by
    rw [getK_cons] at hy
    by_cases hyx : y = x
    · subst hyx; rw [if_pos rfl] at hy; cases hy; exact ⟨hlt, hd⟩
    · rw [if_neg hyx] at hy; exact hs.env y e hy, hs.hdr⟩
  generalize hv : a.tmps.getD x undef = v at hr
  cases hr with
  | u _ _ hr =>
    cases hr with
    | slE ad cp hn =>
      cases ad with
      | none =>
        have : cp = 0 := hn rfl
        subst this
        exact h1 K a w hin (put _ (by rw [hv]; exact .u _ _ .nil))
      | some ad => exact h2 ad cp K a w hin (put _ (by rw [hv]; exact .u _ _ (.oth _)))
    | sl _ b o sz cp f hc hxm hsz hm hr => exact h2 ⟨b, o, none⟩ cp K a w hin (put _ (by rw [hv]; exact .u _ _ (.oth _)))

-- what a call does not know of stays as it is
theorem Ret.congr {P f ds obs obs' nx post} (h : Ret P f ds obs nx post) (e : ∀ i, getK obs' i = getK obs i) : Ret P f ds obs' nx post :=
  fun k own w vs hsat hhdr hfresh hrep => h k own w vs (Sat.congr hsat fun i => (e i).symm) hhdr hfresh hrep
theorem Ret.frame {P f ds obs nx post} (F : List (Nat × Ob)) (hF : ∀ i ob, getK F i = some ob → getK obs i = none) (h : Ret P f ds obs nx post) :
    Ret P f ds (F ++ obs) nx (fun d o n => ∃ o1, o = F ++ o1 ∧ post d o1 n) := by
  intro k own w vs hsat hhdr hfresh hrep
  have hob : ∀ i ob, getK obs i = some ob → getK F i = none ∧ getK (F ++ obs) i = some ob := fun i ob hi => by
    have hn : getK F i = none := by
      cases hf : getK F i with
      | none => rfl
      | some x => rw [hF i x hf] at hi; cases hi
    exact ⟨hn, by rw [getK_append, hn]; exact hi⟩
  have hfo : ∀ i ob, getK F i = some ob → getK (F ++ obs) i = some ob := fun i ob hi => by rw [getK_append, hi]
  have hbf : ∀ b, Blk k F b → Blk k (F ++ obs) b := fun b ⟨i, ob, g, h1, h2, h3⟩ => ⟨i, ob, g, hfo i ob h1, h2, h3⟩
  have hsat' : Sat k (fun b => own b ∧ ¬ Blk k F b) obs w := by
    refine ⟨hsat.mem, fun i ob hi => ?_, fun i j x y g g' b hx hy hij => ?_⟩
    · obtain ⟨hn, hi'⟩ := hob i ob hi
      obtain ⟨g, h1, h2, h3⟩ := hsat.ob i ob hi'
      refine ⟨g, h1, fun b hb => ⟨⟨(h2 b hb).1, ?_⟩, (h2 b hb).2⟩, h3⟩
      rintro ⟨j, oj, g', h4, h5, h6⟩
      exact hsat.apart i j ob oj g g' b hi' (hfo j oj h4) (fun e => by subst e; rw [hn] at h4; cases h4) h1 h5 hb h6
    · exact hsat.apart i j x y g g' b (hob i x hx).2 (hob j y hy).2 hij
  refine (h k _ w vs hsat' hhdr (fun b hb => ⟨hfresh b hb, fun hB => absurd (hsat.lt (hbf b hB)) (by omega)⟩) hrep).mono ?_
  rintro e w' ⟨v, d, o1, n', k', he, hin, hs1, hh1, hle, hr1, hp⟩
  refine ⟨v, d, F ++ o1, n', k', he, ⟨hin.le, hin.none0, fun b o x hx => (hin.memNew b o x hx).imp id (·.1), hfresh, hin.os, hin.tape, hin.output, hin.size, fun b hb => hin.block b fun hb' => hb hb'.1⟩, ?_, hh1, hle, hr1, o1, rfl, hp⟩
  have hFat : ∀ i ob, getK F i = some ob → ∃ g, k.hdr i = some g ∧ k'.hdr i = some g ∧ (∀ b, g.1 = some b → own b ∧ (∀ o, k'.mem b o = none) ∧ Blk k F b) ∧ ObAt k' w' g ob := fun i ob hi => by
    obtain ⟨g, h1, h2, h3⟩ := hsat.ob i ob (hfo i ob hi)
    have hB : ∀ b, g.1 = some b → Blk k F b := fun b hb => ⟨i, ob, g, hi, h1, hb⟩
    refine ⟨g, h1, hin.le.hdr i g h1, fun b hb => ⟨(h2 b hb).1, fun o => ?_, hB b hb⟩, h3.keep hin.le fun b hb => hin.block b fun hb' => hb'.2 (hB b hb)⟩
    cases hm : k'.mem b o with
    | none => rfl
    | some x =>
      rcases hin.memNew b o x hm with h4 | h4
      · have h4' : k.mem b o = some x := h4
        rw [(h2 b hb).2 o] at h4'; cases h4'
      · exact absurd (hB b hb) h4.2
  refine ⟨hs1.mem, fun i ob hi => ?_, fun i j x y g g' b hx hy hij hg hg' hb => ?_⟩
  · rw [getK_append] at hi
    cases hf : getK F i with
    | some x =>
      rw [hf] at hi
      cases hi
      obtain ⟨g, _, h2, h3, h4⟩ := hFat i _ hf
      exact ⟨g, h2, fun b hb => ⟨(h3 b hb).1, (h3 b hb).2.1⟩, h4⟩
    | none =>
      rw [hf] at hi
      obtain ⟨g, h1, h2, h3⟩ := hs1.ob i ob hi
      exact ⟨g, h1, fun b hb => ⟨(h2 b hb).1.1, (h2 b hb).2⟩, h3⟩
  · rw [getK_append] at hx hy
    cases hfx : getK F i with
    | some x' =>
      obtain ⟨g1, k1, k2, k3, _⟩ := hFat i _ hfx
      rw [hg] at k2
      cases k2
      cases hfy : getK F j with
      | some y' =>
        obtain ⟨g2, l1, l2, l3, _⟩ := hFat j _ hfy
        rw [hg'] at l2
        cases l2
        exact hsat.apart i j x' y' g g' b (hfo i _ hfx) (hfo j _ hfy) hij k1 l1 hb
      | none =>
        rw [hfy] at hy
        obtain ⟨g2, l1, l2, _⟩ := hs1.ob j y hy
        rw [hg'] at l1
        cases l1
        exact fun e => (l2 b e).1.2 (k3 b hb).2.2
    | none =>
      rw [hfx] at hx
      cases hfy : getK F j with
      | some y' =>
        obtain ⟨g2, l1, l2, l3, _⟩ := hFat j _ hfy
        rw [hg'] at l2
        cases l2
        obtain ⟨g1, k1, k2, _⟩ := hs1.ob i x hx
        rw [hg] at k1
        cases k1
        exact fun e => (k2 b hb).1.2 (l3 b e).2.2
      | none =>
        rw [hfy] at hy
        exact hs1.apart i j x y g g' b hx hy hij hg hg' hb
/-- A call of which the objects obs alone are told; the objects F stay. -/
theorem CallP.retF {P : Program} {Γ : Ctx} {s : St} {k : St → Prop} {dst : Option Tmp} {fop : Operand} {args : List Operand} {f caps} {ds : List D} {post : D → List (Nat × Ob) → Nat → Prop} (F obs : List (Nat × Ob)) (hret : Ret P f ds obs s.next post)
    (heq : ∀ i, getK s.obs i = getK (F ++ obs) i) (hF : ∀ i ob, getK F i = some ob → getK obs i = none)
    (hf : calleeOf (opd s fop) = some (f, caps)) (hc : callable P f = true) (hds : args.map (opd s) ++ caps = ds) (hp : putOK dst s)
    (hk : ∀ d o1 nx', s.next ≤ nx' → post d o1 nx' → k (({ s with obs := F ++ o1, next := nx' } : St).put dst d)) : CallP P Γ fop args dst s k :=
  CallP.ret_ ((hret.frame F hF).congr heq) hf hc hds hp fun d o n hn ⟨o1, ho, hpo⟩ => by subst ho; exact hk d o1 n hn hpo
/-- A struct's field types. -/
def stT (P : Program) (t : TypeId) : Option (List TypeId) := match P.underlying t with | some (.struct fs) => some (fs.toList.map (·.type)) | _ => none
end Go.VL
