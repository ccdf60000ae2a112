/- Texts joined by a program of mine: VL7 CL Z0 Zf Ua Ub UD UI Wa Wb Wc Wd We Wf Wg Wh#p Wp#p UV Ea#p Eb#p Cp#p UX Uc Ff Fg Fh Uf Ug Uh Wh Wi Wj Wk Wl Wm Wo Wp Ea Eb Ci. -/
import Derived.Test.YtkdhmbhbbciedaaGreatDoorM3
import Derived.RangeFuncCalls
import Derived.Test.YtkdhmbhbbciedaaGreatDoorTie
import Derived.Test.YtkdhmbhbbciedaaGreatDoorCards
import Derived.Lib.LaidTab
import Derived.LaidSub
import Derived.Lay
import Derived.Shelf.Strings.Builder1
set_option linter.all false
set_option maxRecDepth 100000
set_option maxHeartbeats 8000000
namespace Go.VL
open Go
/-- The wide fence, outside or within a round. -/
abbrev FO (ro : Option Nat) : Fence := { Fence.wide with round := ro }
theorem callsIn_FO {ro n P f args w R} (h : Calls P f args w R) : CallsIn (FO ro) n P f args w R := (callsIn_wide (n := n)).2 h
theorem rowsIn_FO {ro n P row args w R} (h : Rows P row args w R) : RowsIn (FO ro) n P row args w R := fun c cs _ => let ⟨v, w', r, s⟩ := h c cs; ⟨v, w', r, stepsIn_wide.2 s⟩
/-- Operations that are carried out in a round az everywhere. -/
def calmO (o : Oper) : Bool := match o.op with | .defer _ => false | _ => true
theorem semAt_calm {ro ρ} {o : Oper} (h : calmO o = true) : Oper.semAt ro ρ o = execOp ρ o := Oper.semAt_eq ro ρ o fun c e => by simp [calmO, e] at h
theorem upon_FO {ro n P} {o : Oper} {a} {next next' : Act → World → Prop} {Q Q' : Exit → Act → World → Prop} {res : Result Next} (hn : ∀ a w, next a w → next' a w) (hp : ∀ ch a w, Q (.panic ch) a w → Q' (.panic ch) a w) (hQ : ∀ a w, ¬ Q .outgrown a w)
  (h : o.upon P a next Q res) : o.uponIn (FO ro) n P a next' Q' res := by
 cases res with
 | halt x w' => cases x with
  | panic v => exact hp _ _ _ h
  | _ => exact h.elim
 | ok x w' =>
  cases x with
  | value v => exact hn _ _ h
  | skip => exact hn _ _ h
  | defer d => exact hn _ _ h
  | enter f args =>
   refine ⟨fun e => by simp [Fence.wide] at e, callsIn_FO (Calls.mono h fun e w'' h => ?_)⟩
   cases e with
   | returned v => exact hn _ _ h
   | panicked ch => exact hp _ _ _ h
   | outgrown => obtain ⟨a, w, h⟩ := h; exact absurd h (hQ _ _)
  | row row args => exact ⟨fun e => by simp [Fence.wide] at e, (rowsIn_FO h).mono fun v w h => hn _ _ h⟩
  | _ => exact h.elim
theorem wpList_FO {ro n P all} {Q Q' : Exit → Act → World → Prop} {rest : List Oper} (hQ : ∀ a w, ¬ Q .outgrown a w) (hp : ∀ ch a w, Q (.panic ch) a w → Q' (.panic ch) a w)
  (hr : ∀ a w, Q .normal a w → wpListIn (FO ro) n P all Q' rest a w) : ∀ (l : List Oper) (a w), l.all calmO = true → wpList P all Q l a w → wpListIn (FO ro) n P all Q' (l ++ rest) a w
 | [], a, w, _, h => hr _ _ h
 | o :: l, a, w, hc, h => by
  simp only [List.all_cons, Bool.and_eq_true] at hc
  rw [List.cons_append]
  unfold wpList at h
  unfold wpListIn
  split at h
  ·rename_i hw
   rw [if_pos hw]
   rcases h with h | ⟨_, a', w', h⟩
   ·refine ⟨fun _ _ => trivial, ?_⟩
    rw [semAt_calm hc.1]
    exact upon_FO (fun a w h => wpList_FO hQ hp hr l a w hc.2 h) hp hQ h
   ·exact absurd h (hQ _ _)
  ·rename_i hw
   rw [if_neg hw]
   exact ⟨fun _ _ => trivial, wpList_FO hQ hp hr l _ _ hc.2 h⟩
theorem G_FO {ro n P Γ all l s} {k : St → Prop} {Q' : Exit → Act → World → Prop} {rest : List Oper} (hpan : ∀ ch s, ¬ Γ.pan ch s) (hc : l.all calmO = true) (h : G P Γ all l s k) {K a w} (hin : In Γ K w) (hs : Sim K Γ.own s a w)
  (hr : ∀ K' a' w' s', In Γ K' w' → Sim K' Γ.own s' a' w' → k s' → wpListIn (FO ro) n P all Q' rest a' w') : wpListIn (FO ro) n P all Q' (l ++ rest) a w :=
 wpList_FO (Q := fun e a w => e = .normal ∧ ∃ K s, In Γ K w ∧ Sim K Γ.own s a w ∧ k s) (fun a w h => by cases h.1) (fun ch a w h => by cases h.1) (fun a w ⟨_, K, s, h1, h2, h3⟩ => hr K a w s h1 h2 h3) l a w hc
  (h K a w hin hs _ (fun K' a' w' s' h1 h2 h3 => ⟨rfl, K', s', h1, h2, h3⟩) fun ch K' a' w' s' _ _ h3 => absurd h3 (hpan ch s'))
/-- No statement that is held stands first. -/
def ownH : Code → Bool
 | .seq a _ => ownH a
 | .block _ a => ownH a
 | _ => true
theorem V_runH {P Γ Q c k s} (_ : (own1 c && ownH c) = true) (h : vs2 P Γ Q (RN P Γ Q 0) c k s) : V P Γ c s (RunK P Γ Q k) := vs2_V (RN_K 0) h
def VR (P : Program) (Γ : Ctx) (r : Nat) (c : Code) (s : St) (Q : Exit → St → Prop) : Prop :=
 ∀ K a w, In Γ K w → Sim K Γ.own s a w → c.wpIn (FO (some r)) 0 P (VPost Γ Q) a w
def RunR (P : Program) (Γ : Ctx) (r : Nat) (Q : Exit → St → Prop) : Kt → Exit → St → Prop
 | .done, e, s => Q e s
 | .seq b k, .normal, s => VR P Γ r b s (RunR P Γ r Q k)
 | .seq _ k, e, s => RunR P Γ r Q k e s
 | .blk id k, .exit id', s => if id' = id then RunR P Γ r Q k .normal s else RunR P Γ r Q k (.exit id') s
 | .blk _ k, e, s => RunR P Γ r Q k e s
 | .loop _ _, _, _ => False
section
variable {P : Program} {Γ : Ctx} {r : Nat} {Q : Exit → St → Prop} {k : Kt} {s : St}
theorem VR_seq {a b : Code} (h : VR P Γ r a s (RunR P Γ r Q (.seq b k))) : VR P Γ r (.seq a b) s (RunR P Γ r Q k) :=
 fun K ac w hin hs => wpIn_seq (wpIn_mono (h K ac w hin hs) fun e a' w' h => by
  rcases h with ⟨K', s', h1, h2, h3⟩ | h
  ·cases e with
   | normal => exact h3 K' a' w' h1 h2
   | _ => exact .inl ⟨K', s', h1, h2, h3⟩
  ·cases e with
   | normal => exact h.1.elim
   | _ => exact .inr h)
theorem VR_block {id : Nat} {c : Code} (h : VR P Γ r c s (RunR P Γ r Q (.blk id k))) : VR P Γ r (.block id c) s (RunR P Γ r Q k) :=
 fun K ac w hin hs => wpIn_block (wpIn_mono (h K ac w hin hs) fun e a' w' h => by
  rcases h with ⟨K', s', h1, h2, h3⟩ | h
  ·cases e with
   | exit id' =>
    simp only [Qx, RunR] at h3
    simp only [Exit.inBlock]
    split
    ·rename_i he; rw [if_pos he] at h3; exact .inl ⟨K', s', h1, h2, h3⟩
    ·rename_i he; rw [if_neg he] at h3; exact .inl ⟨K', s', h1, h2, h3⟩
   | _ => exact .inl ⟨K', s', h1, h2, h3⟩
  ·cases e with
   | exit => exact h.1.elim
   | _ => exact .inr h)
theorem VR_cond {c : Operand} {x y : Code} {t : Bool} (hc : opd s c = .u (.bool t)) (ht : t = true → VR P Γ r x s (RunR P Γ r Q k)) (hf : t = false → VR P Γ r y s (RunR P Γ r Q k)) :
  VR P Γ r (.cond c x y) s (RunR P Γ r Q k) := fun K a w hin hs => by
 have hr := opd_rep hs c
 rw [hc] at hr
 exact wpIn_cond_split (rep_bool hr) (fun e => ht e K a w hin hs) (fun e => hf e K a w hin hs)
theorem VR_region {id : Nat} {l : List Oper} (hpan : ∀ ch s, ¬ Γ.pan ch s) (hc : l.all calmO = true) (h : G P Γ l.toArray l s (RunR P Γ r Q k .normal)) : VR P Γ r (.region id l.toArray false) s (RunR P Γ r Q k) :=
 fun K a w hin hs => wpIn_region_lit (by
  have := G_FO (ro := some r) (n := 0) (Q' := VPost Γ (RunR P Γ r Q k)) (rest := []) hpan hc h hin hs fun K' a' w' s' h1 h2 h3 => .inl ⟨K', s', h1, h2, h3⟩
  rwa [List.append_nil] at this)
end
/-- Code that can be walked in a round. -/
def own2 : Code → Bool
 | .seq a b => own2 a && own2 b
 | .block _ c => own2 c
 | .skip => true
 | .label _ => true
 | .exit _ => true
 | .cond _ x y => own2 x && own2 y
 | .region _ l false => l.toList.all calmO
 | _ => false
def okK : Kt → Bool
 | .done => true
 | .seq b k => own2 b && okK k
 | .blk _ k => okK k
 | .loop _ _ => false
theorem vs2_VR {P Γ r} {Q0 Q : Exit → St → Prop} {R : Kt → Exit → St → Prop} (hpan : ∀ ch s, ¬ Γ.pan ch s) (hR : ∀ k e s, okK k = true → R k e s → RunR P Γ r Q k e s) :
  ∀ {c : Code} {k : Kt} {s : St}, own2 c = true → okK k = true → vs2 P Γ Q0 R c k s → VR P Γ r c s (RunR P Γ r Q k)
 | .seq a b, k, s, hc, hk, h => by
  simp only [own2, Bool.and_eq_true] at hc
  exact VR_seq (vs2_VR hpan hR (c := a) (k := .seq b k) hc.1 (by simp [okK, hc.2, hk]) (by rw [vs2] at h; exact h))
 | .block id c, k, s, hc, hk, h => VR_block (vs2_VR hpan hR (c := c) (k := .blk id k) (by simpa only [own2] using hc) (by simpa only [okK] using hk) (by rw [vs2] at h; exact h))
 | .skip, k, s, hc, hk, h => fun K _ _ hin hs => wpIn_skip (.inl ⟨K, s, hin, hs, hR _ _ _ hk (by rw [vs2] at h; exact h)⟩)
 | .label _, k, s, hc, hk, h => fun K _ _ hin hs => wpIn_label (.inl ⟨K, s, hin, hs, hR _ _ _ hk (by rw [vs2] at h; exact h)⟩)
 | .exit id, k, s, hc, hk, h => fun K _ _ hin hs => wpIn_exit (.inl ⟨K, s, hin, hs, hR _ _ _ hk (by rw [vs2] at h; exact h)⟩)
 | .cond c x y, k, s, hc, hk, h => by
  simp only [own2, Bool.and_eq_true] at hc
  rw [vs2] at h
  split at h
  ·rename_i t ht
   exact VR_cond ht (fun e => vs2_VR hpan hR hc.1 hk (h.1 e)) (fun e => vs2_VR hpan hR hc.2 hk (h.2 e))
  ·exact h.elim
 | .region id l false, k, s, hc, hk, h => by
  simp only [own2] at hc
  rw [vs2] at h
  split at h
  ·rename_i l' hl
   have := VR_region (P := P) (Γ := Γ) (r := r) (Q := Q) (k := k) (id := id) (l := l.toList) (s := s) hpan hc (by simp only [Array.toArray_toList]; exact G_mono (HR_G hl h) fun s hs => hR _ _ _ hk hs)
   simpa using this
  ·exact h.elim
 | .ret, _, _, hc, _, _ => by simp [own2] at hc
 | .region _ _ true, _, _, hc, _, _ => by simp [own2] at hc
 | .loop _, _, _, hc, _, _ => by simp [own2] at hc
 | .rangeFunc .., _, _, hc, _, _ => by simp [own2] at hc
 | .scope .., _, _, hc, _, _ => by simp [own2] at hc
 | .goto .., _, _, hc, _, _ => by simp [own2] at hc
 | .refuse .., _, _, hc, _, _ => by simp [own2] at hc
/-- What is behind in a round, az far az n statements. -/
def RR (P : Program) (Γ : Ctx) (r : Nat) (Q : Exit → St → Prop) : Nat → Kt → Exit → St → Prop
 | 0, k, e, s => RunR P Γ r Q k e s
 | _ + 1, .done, e, s => Q e s
 | n + 1, .seq b k, .normal, s => vs2 P Γ Q (RR P Γ r Q n) b k s
 | n + 1, .seq _ k, e, s => RR P Γ r Q n k e s
 | n + 1, .blk id k, .exit id', s => if id' = id then RR P Γ r Q n k .normal s else RR P Γ r Q n k (.exit id') s
 | n + 1, .blk _ k, e, s => RR P Γ r Q n k e s
 | _ + 1, .loop _ _, _, _ => False
theorem RR_R {P Γ r Q} (hpan : ∀ ch s, ¬ Γ.pan ch s) : ∀ n k e s, okK k = true → RR P Γ r Q n k e s → RunR P Γ r Q k e s
 | 0, _, _, _, _, h => h
 | n + 1, k, e, s, hk, h => by
  have ih := fun k e s => RR_R (P := P) (Γ := Γ) (r := r) (Q := Q) hpan n k e s
  cases k with
  | done => cases e <;> exact h
  | seq b k =>
   simp only [okK, Bool.and_eq_true] at hk
   cases e with
   | normal => exact vs2_VR hpan ih hk.1 hk.2 h
   | _ => first | exact ih k _ s hk.2 h
  | blk id k =>
   simp only [okK] at hk
   cases e with
   | exit id' =>
    simp only [RR, RunR] at h ⊢
    split at h
    ·rename_i hc; rw [if_pos hc]; exact ih _ _ _ hk h
    ·rename_i hc; rw [if_neg hc]; exact ih _ _ _ hk h
   | _ => exact ih k _ s hk h
  | loop I k => cases e <;> exact h.elim
theorem VR_run {P Γ r Q c s} (hpan : ∀ ch s, ¬ Γ.pan ch s) (hc : own2 c = true) (h : vs2 P Γ Q (RR P Γ r Q 60) c .done s) : VR P Γ r c s Q := vs2_VR (Q := Q) (k := .done) hpan (RR_R hpan 60) hc rfl h
section
variable {P : Program} {Γ : Ctx} {r : Nat} {Q : Exit → St → Prop} {k : Kt} {s s' : St} {n : Nat}
theorem cg_RR {e z} (_ : (True ∧ True) = z) (h : s = s') : RR P Γ r Q n k e s = RR P Γ r Q n k e s' := by rw [h]
attribute [congr] cg_RR
theorem RR_done {e} : RR P Γ r Q (n + 1) .done e s = Q e s := rfl
theorem RR_seq {b} : RR P Γ r Q (n + 1) (.seq b k) .normal s = vs2 P Γ Q (RR P Γ r Q n) b k s := rfl
theorem RR_seq_exit {b i} : RR P Γ r Q (n + 1) (.seq b k) (.exit i) s = RR P Γ r Q n k (.exit i) s := rfl
theorem RR_blk {i} : RR P Γ r Q (n + 1) (.blk i k) .normal s = RR P Γ r Q n k .normal s := rfl
theorem RR_blk_exit {i j} : RR P Γ r Q (n + 1) (.blk i k) (.exit j) s = if j = i then RR P Γ r Q n k .normal s else RR P Γ r Q n k (.exit j) s := rfl
end
/-- A block that is no object's turns. -/
theorem Sat.turn {k own obs w w'} (h : Sat k own obs w) (r : Nat) (hb : ∀ b, b ≠ r → b < w.heap.size → w'.heap[b]? = w.heap[b]?) (hr : ¬ Blk k obs r) (hl : ∀ o, look w r o = none) : Sat k own obs w' := by
 refine h.keep (.refl k) (fun b hB => hb b (fun e => hr (e ▸ hB)) (h.lt hB)) (fun b o v e => ?_) (fun b hB o => ?_)
 ·have hm := h.mem b o v e
  by_cases hbr : b = r
  ·subst hbr
   rw [hl o] at hm
   cases hm
  ·rw [cell_of_heap (hb b hbr (look_lt hm))]
   exact hm
 ·obtain ⟨i, ob, g, h1, h2, h3⟩ := hB
  obtain ⟨g', h4, h5, _⟩ := h.ob i ob h1
  rw [h2] at h4
  cases h4
  exact (h5 b h3).2 o
theorem Sat.notBlk {k own obs w r} (h : Sat k own obs w) (hr : ¬ own r) : ¬ Blk k obs r := fun hB => by
 obtain ⟨i, ob, g, h1, h2, h3⟩ := hB
 obtain ⟨g', h4, h5, _⟩ := h.ob i ob h1
 rw [h2] at h4
 cases h4
 exact hr (h5 r h3).1
theorem Sat.owns {k own own' obs w} (h : Sat k own obs w) (ho : ∀ b, Blk k obs b → own b → own' b) : Sat k own' obs w := by
 refine ⟨h.mem, fun i ob hi => ?_, h.apart⟩
 obtain ⟨g, h1, h2, h3⟩ := h.ob i ob hi
 exact ⟨g, h1, fun b hb => ⟨ho b ⟨i, ob, g, hi, h1, hb⟩ (h2 b hb).1, (h2 b hb).2⟩, h3⟩
theorem look_loop {w : World} {l : Nat} {L : Loop} (h : w.heap[l]? = some (.loop L)) (o : Nat) : look w l o = none := by simp [look, h, World.cell?]
theorem look_dfr {w : World} {l : Nat} {d} (h : w.heap[l]? = some (.deferred d)) (o : Nat) : look w l o = none := by simp [look, h, World.cell?]
/-- The function value that is handed to an iterator. -/
abbrev yD (l : Nat) : D := .u (.oth (.func (.yield l) #[] #[]))
/-- What a call of yield does to the objects. -/
def RetY (P : Program) (k0 : Kr) (l : Nat) (L : Loop) (ds : List D) (obs : List (Nat × Ob)) (nx : Nat) (post : D → List (Nat × Ob) → Nat → Prop) : Prop :=
 ∀ (k : Kr) (own : Nat → Prop) (w : World) (vs : Array Value), k0.le k → ¬ own l → w.heap[l]? = some (.loop L) → Sat k own obs w → (∀ i, nx ≤ i → k.hdr i = none) → (∀ b, w.heap.size ≤ b → own b) → RepL k ds vs →
  ∃ fn tmps assign body, (Instr.yield l vs).run P w = .ok (.round l fn tmps assign body) w ∧ RoundIn (FO none) 0 P l fn tmps assign body w fun e w' =>
     ∃ v d obs' nx' k', e = .returned v ∧ In (.of own k nx w) k' w' ∧ Sat k' own obs' w' ∧ (∀ i, nx' ≤ i → k'.hdr i = none) ∧ nx ≤ nx' ∧ Rep k' d v ∧ post d obs' nx'
theorem RetY.congr {P k0 l L ds obs obs' nx post} (h : RetY P k0 l L ds obs nx post) (e : ∀ i, getK obs' i = getK obs i) : RetY P k0 l L ds obs' nx post :=
 fun k own w vs hk hl hL hsat hhdr hfresh hrep => h k own w vs hk hl hL (Sat.congr hsat fun i => (e i).symm) hhdr hfresh hrep
theorem RetY.frame {P k0 l L ds obs nx post} (F : List (Nat × Ob)) (hF : ∀ i ob, getK F i = some ob → getK obs i = none) (h : RetY P k0 l L ds obs nx post) :
  RetY P k0 l L ds (F ++ obs) nx (fun d o n => ∃ o1, o = F ++ o1 ∧ post d o1 n) := by
 intro k own w vs hk hl hL hsat hhdr hfresh hrep
 obtain ⟨fn, tmps, assign, body, h1, h2⟩ := h k _ w vs hk (fun h => hl h.1) hL (frame_sat0 hF hsat) hhdr (frame_fresh hsat hfresh) hrep
 refine ⟨fn, tmps, assign, body, h1, h2.mono ?_⟩
 rintro e w' ⟨v, d, o1, n', k', he, hin, hs1, hh1, hle, hr, hp⟩
 exact ⟨v, d, F ++ o1, n', k', he, frame_in hfresh hin, frame_sat hsat hin hs1, hh1, hle, hr, o1, rfl, hp⟩
/-- What an iterator's function does, called with yield. -/
def RetI (P : Program) (k0 : Kr) (l : Nat) (L : Loop) (f : FuncId) (ds : List D) (obs : List (Nat × Ob)) (nx : Nat) (post : D → List (Nat × Ob) → Nat → Prop) : Prop :=
 ∀ (k : Kr) (own : Nat → Prop) (w : World) (vs : Array Value), k0.le k → ¬ own l → w.heap[l]? = some (.loop L) → Sat k own obs w → (∀ i, nx ≤ i → k.hdr i = none) → (∀ b, w.heap.size ≤ b → own b) → RepL k ds vs →
  Calls P f vs w fun e w' => ∃ v d obs' nx' k', e = .returned v ∧ In (.of own k nx w) k' w' ∧ Sat k' own obs' w' ∧ (∀ i, nx' ≤ i → k'.hdr i = none) ∧ nx ≤ nx' ∧ Rep k' d v ∧ post d obs' nx'
structure YCtx (Γ : Ctx) (k0 : Kr) (l : Nat) (L : Loop) : Prop where
 own : ¬ Γ.own.own l
 heap : Γ.w0.heap[l]? = some (.loop L)
 le : k0.le Γ.k0
theorem RetI.of_body {P k0 l L f fn c ds obs nx post nt} (hf : P.funcs[f]? = some fn) (hnt : fn.ntmps = nt) (hb : fn.body = some c) (hn : ds.length ≤ nt)
  (h : ∀ Γ : Ctx, Γ.n0 = nx → YCtx Γ k0 l L → (∀ ch s, ¬ Γ.pan ch s) → V P Γ c (entry ds nt obs nx) (RunK P Γ (EndW P Γ fn nx post) .done)) : RetI P k0 l L f ds obs nx post := by
 subst hnt
 intro k own w vs hk hl hL hsat hhdr hfresh hrep
 have hsz : vs.size = ds.length := hrep.1
 let Γ : Ctx := .of own k nx w
 refine calls_of_wp hf hb (wp_mono (h Γ rfl ⟨hl, hL, hk⟩ (fun _ _ h => h) k _ w ⟨.refl _, hhdr, fun b o v e => .inl e, hfresh, rfl, rfl, rfl, Nat.le_refl _, fun _ _ => rfl⟩
  ⟨hsat, rfl, ?_, fun x d hx => ?_, hhdr⟩) ?_)
 ·simp [entry, hsz]; omega
 ·simp only [entry, getK_zipIdx, Nat.zero_le, if_true, Nat.sub_zero] at hx
  have hlt := (List.getElem?_eq_some_iff.1 hx).1
  refine ⟨by simp [entry]; omega, ?_⟩
  have := hrep.2 x d hx
  have e : (vs ++ Array.replicate (fn.ntmps - vs.size) undef).getD x undef = vs.getD x undef := by
   simp [Array.getElem?_append, show x < vs.size by omega]
  rw [e]
  exact this
 ·rintro e a' w' (⟨K', s', hin, hs, hend⟩ | hx)
  ·have hd : a'.defers = [] := hs.defers
   have fin : EndW P Γ fn nx post .ret s' → bodyPost P fn (fun e w' => ∃ v d obs' nx' k', e = .returned v ∧ In (.of own k nx w) k' w' ∧ Sat k' own obs' w' ∧ (∀ i, nx' ≤ i → k'.hdr i = none) ∧ nx ≤ nx' ∧ Rep k' d v ∧ post d obs' nx') .ret a' w' := fun hend => by
    obtain ⟨v, h1, r, o, n, k', h2, h3, h4, h5, h6, h7⟩ := endW_results (Γ := Γ) (post := fun r o n => match r with | .val d => post d o n | .pan _ => False) hend hin hs
    cases r with
    | val d =>
     obtain ⟨v', e, hr⟩ := h2
     cases e
     exact ⟨hd, v, h1, v, d, o, n, k', rfl, h3, h4, h5, h6, hr, h7⟩
    | pan ch => exact h7.elim
   cases e with
   | panic ch => exact False.elim hend
   | normal => exact fin (by obtain ⟨s2, h1, _, h2⟩ := hend; exact ⟨s2, h1, .inr rfl, h2⟩)
   | ret => exact fin hend
   | exit i => obtain ⟨_, _, h1, _⟩ := hend; rcases h1 with h1 | h1 <;> cases h1
   | goto i => obtain ⟨_, _, h1, _⟩ := hend; rcases h1 with h1 | h1 <;> cases h1
   | outgrown => obtain ⟨_, _, h1, _⟩ := hend; rcases h1 with h1 | h1 <;> cases h1
  ·exact hx.2.elim
/-- At a call of yield. -/
@[irreducible] def YS (P : Program) (k0 : Kr) (l : Nat) (L : Loop) (fop : Operand) (args : List Operand) (dst : Option Tmp) (s : St) (k : St → Prop) : Prop :=
 opd s fop = yD l ∧ putOK dst s ∧ ∃ p, RetY P k0 l L (args.map (opd s)) s.obs s.next p ∧ ∀ d o n, s.next ≤ n → p d o n → k (({ s with obs := o, next := n } : St).put dst d)
theorem YS.of {P k0 l L fop args dst s} {k : St → Prop} {ds : List D} {obs : List (Nat × Ob)} {p : D → List (Nat × Ob) → Nat → Prop} (F : List (Nat × Ob)) (h : RetY P k0 l L ds obs s.next p) (hds : args.map (opd s) = ds) (heq : ∀ i, getK s.obs i = getK (F ++ obs) i) (hF : ∀ i ob, getK F i = some ob → getK obs i = none)
  (hf : opd s fop = yD l) (hp : putOK dst s) (hk : ∀ d o n, s.next ≤ n → p d o n → k (({ s with obs := F ++ o, next := n } : St).put dst d)) : YS P k0 l L fop args dst s k := by
 subst hds
 unfold YS
 exact ⟨hf, hp, _, (h.frame F hF).congr heq, fun d o n hn ⟨o1, ho, hpo⟩ => by subst ho; exact hk d o1 n hn hpo⟩
theorem cg_YS {P k0 l L fop args dst s s' k z} (_ : (True ∧ True) = z) (h : s = s') : YS P k0 l L fop args dst s k = YS P k0 l L fop args dst s' k := by rw [h]
attribute [congr] cg_YS
theorem V_yield0 {P Γ s k0 l0 L} {Q : Exit → St → Prop} {kt : Kt} {id : Nat} {l : List Oper} (n : Nat) {dst : Option Tmp} {fop : Operand} {args : List Operand} {ts : Array TypeId} {ty : TypeId} {pos : String} {after : Array Edge}
  (hpan : ∀ ch s, ¬ Γ.pan ch s) (hY : YCtx Γ k0 l0 L)
  (h2 : l[n]? = some { dst := dst, op := .call { callee := .value fop, args := args.toArray, argTypes := ts }, type := ty, pos := pos, after := after, guard := none })
  (hc : l.all calmO = true)
  (h : match stripL l.toArray (l.take n), stripL l.toArray (l.drop (n + 1)) with
    | some pre, some post => HR P Γ pre s fun s1 => YS P k0 l0 L fop args dst s1 fun s2 => HR P Γ post s2 (RunK P Γ Q kt .normal)
    | _, _ => False) : V P Γ (Hold (.region id l.toArray false)) s (RunK P Γ Q kt) := by
 rw [hold_eq]
 intro K a w hin hs
 split at h
 case h_2 => exact h.elim
 rename_i pre post h1 h3
 refine (wpIn_wide (n := 0)).1 (wpIn_region_lit ?_)
 have hlt := (List.getElem?_eq_some_iff.1 h2).1
 have hsplit : l = l.take n ++ l[n] :: l.drop (n + 1) := by rw [← List.drop_eq_getElem_cons hlt, List.take_append_drop]
 have hget := (List.getElem?_eq_some_iff.1 h2).2
 have hc1 : (l.take n).all calmO = true := List.all_eq_true.2 fun x hx => List.all_eq_true.1 hc x (List.mem_of_mem_take hx)
 have hc3 : (l.drop (n + 1)).all calmO = true := List.all_eq_true.2 fun x hx => List.all_eq_true.1 hc x (List.mem_of_mem_drop hx)
 have main : wpListIn (FO none) 0 P l.toArray (VPost Γ (RunK P Γ Q kt)) (l.take n ++ l[n] :: l.drop (n + 1)) a w := by
  refine G_FO hpan hc1 (HR_G h1 h) hin hs fun K1 a1 w1 s1 hin1 hs1 hy => ?_
  rw [hget]
  unfold YS at hy
  obtain ⟨hfop, hput, p, hret, hk⟩ := hy
  refine wpListIn_plain rfl fun Kont hK => ⟨fun _ _ => trivial, ?_⟩
  have hv := rep_oth (by have := opd_rep hs1 fop; rw [hfop] at this; exact this)
  have hrep : RepL K1 (args.map (opd s1)) (args.toArray.map a1.eval) := ⟨by simp, fun j d hj => by
   have := listRep hs1 args j d hj
   simpa using this⟩
  have hl1 : w1.heap[l0]? = some (.loop L) := (hin1.block l0 hY.own).trans hY.heap
  obtain ⟨fn, tmps, assign, body, hy1, hy2⟩ := hret K1 Γ.own.own w1 _ (hY.le.trans hin1.le) hY.own hl1 hs1.sat hs1.hdr (fun b hb => hin1.own_of_ge hb) hrep
  have hrun : (Oper.semAt none a1.eval { dst := dst, op := .call { callee := .value fop, args := args.toArray, argTypes := ts }, type := ty, pos := pos, after := after, guard := none }).run P w1 = .ok (.round l0 fn tmps assign body) w1 := by
   rw [Oper.semAt_none]
   have hy3 := hy1
   simp only [List.map_toArray] at hy3
   simp [execOp, resolve, hv, Deferred.ofValue, invoke, hy3]
  rw [hrun]
  refine ⟨fun e => by simp [Fence.wide] at e, hy2.mono ?_⟩
  rintro e w' ⟨v, d, obs', nx', k', rfl, hin', hsat', hhdr', hnx, hr, hpost⟩
  have hle : K1.le k' := hin'.le
  have hin2 : In Γ k' w' := hin1.step hle (fun b o v e => hin'.memNew b o v e) hin'.os hin'.tape hin'.output hin'.size hin'.block
  have hsim : Sim k' Γ.own ({ s1 with obs := obs', next := nx' } : St) a1 w' := ⟨hsat', hs1.defers, hs1.size, fun x d hx => ⟨(hs1.env x d hx).1, (hs1.env x d hx).2.mono hle⟩, hhdr'⟩
  have hg := hk d obs' nx' hnx hpost
  refine hK _ _ ?_
  have := G_FO (ro := none) (n := 0) (Q' := VPost Γ (RunK P Γ Q kt)) (rest := []) hpan hc3 (HR_G h3 hg) hin2 (hsim.put (by cases dst with | none => trivial | some x => exact hput) hr) fun K' a' w' s' q1 q2 q3 => .inl ⟨K', s', q1, q2, q3⟩
  rwa [List.append_nil] at this
 rw [← hsplit] at main
 exact main
theorem V_yield {P Γ s k0 l0 L} {Q : Exit → St → Prop} {kt : Kt} {id : Nat} {l : List Oper} {rest : Code} (n : Nat) {dst : Option Tmp} {fop : Operand} {args : List Operand} {ts : Array TypeId} {ty : TypeId} {pos : String} {after : Array Edge}
  (hpan : ∀ ch s, ¬ Γ.pan ch s) (hY : YCtx Γ k0 l0 L)
  (h2 : l[n]? = some { dst := dst, op := .call { callee := .value fop, args := args.toArray, argTypes := ts }, type := ty, pos := pos, after := after, guard := none })
  (hc : l.all calmO = true)
  (h : match stripL l.toArray (l.take n), stripL l.toArray (l.drop (n + 1)) with
    | some pre, some post => HR P Γ pre s fun s1 => YS P k0 l0 L fop args dst s1 fun s2 => HR P Γ post s2 (V P Γ rest · (RunK P Γ Q kt))
    | _, _ => False) : V P Γ (Hold (.seq (.region id l.toArray false) rest)) s (RunK P Γ Q kt) := by
 rw [hold_eq]
 refine V_seq ?_
 have := V_yield0 (kt := .seq rest kt) (id := id) n hpan hY h2 hc h
 rwa [hold_eq] at this
theorem hold_end (i : Nat) {a : Code} {ops : Array Oper} {b : Bool} : Code.seq a (.region i ops b) = Code.seq a (Hold (.region i ops b)) := by rw [hold_eq]
/-- An iterator whose rounds all go on: what it hands out, and what becomes of its own objects. -/
def Iter (P : Program) (gf : FuncId) (caps : List D) (O O' : List (Nat × Ob)) (xs : List D) : Prop :=
 ∀ (k0 : Kr) (l : Nat) (L : Loop) (A : Nat → List (Nat × Ob)) (N : Nat → Nat), (∀ i j ob, getK O j = some ob → getK (A i) j = none) → (∀ i, N i ≤ N (i + 1)) →
  (∀ i x, xs[i]? = some x → RetY P k0 l L [x] (A i) (N i) fun d o n => d = .u (.bool true) ∧ o = A (i + 1) ∧ n = N (i + 1)) →
  RetI P k0 l L gf (yD l :: caps) (O ++ A 0) (N 0) fun _ o n => o = O' ++ A xs.length ∧ n = N xs.length
/-- A function's body in which iterators are ranged over: all the ways in which it may end. -/
theorem RetX.of_bodyM {P f fn c ds obs nx post nt} (hf : P.funcs[f]? = some fn) (hnt : fn.ntmps = nt) (hb : fn.body = some c) (hn : ds.length ≤ nt)
  (h : ∀ Γ : Ctx, Γ.n0 = nx → Γ.own.dfr = [] → (∀ ch s, PanG Γ post ch s → Γ.pan ch s) → (∀ e a w', bodyPostM Fence.wide 0 P fn (RX Γ.base post) e a w' → Γ.esc e a w') → V P Γ c (entry ds nt obs nx) (RunK P Γ (EndW P Γ fn nx fun d o n => post (.val d) o n) .done)) : RetX P f ds obs nx post := by
 subst hnt
 intro k own w vs hsat hhdr hfresh hrep
 have hsz : vs.size = ds.length := hrep.1
 let Γ0 : Ctx := .of own k nx w
 let Γ : Ctx := ⟨⟨own, []⟩, k, nx, w, PanG Γ0 post, bodyPostM Fence.wide 0 P fn (RX Γ0 post)⟩
 have hpan : ∀ ch s, PanG Γ post ch s → Γ.pan ch s := fun ch s ⟨s', h1, h2, h3⟩ => ⟨s', h1.conv rfl rfl rfl rfl, h2, h3⟩
 have hR : ∀ e w', RX Γ post e w' → RX Γ0 post e w' := fun e w' h => h.conv rfl rfl rfl rfl
 have hesc : ∀ e a w', bodyPostM Fence.wide 0 P fn (RX Γ.base post) e a w' → Γ.esc e a w' := fun e a w' h => h
 refine (callsIn_wide (n := 0)).1 (callsIn_of_wp_marks (R := RX Γ0 post) hf hb trivial ((wpIn_wide (n := 0)).2 (wp_mono (h Γ rfl rfl hpan hesc k _ w ⟨.refl _, hhdr, fun b o v e => .inl e, hfresh, rfl, rfl, rfl, Nat.le_refl _, fun _ _ => rfl⟩
  ⟨hsat, rfl, ?_, fun x d hx => ?_, hhdr⟩) ?_)))
 ·simp [entry, hsz]; omega
 ·simp only [entry, getK_zipIdx, Nat.zero_le, if_true, Nat.sub_zero] at hx
  have hlt := (List.getElem?_eq_some_iff.1 hx).1
  refine ⟨by simp [entry]; omega, ?_⟩
  have := hrep.2 x d hx
  have e : (vs ++ Array.replicate (fn.ntmps - vs.size) undef).getD x undef = vs.getD x undef := by
   simp [Array.getElem?_append, show x < vs.size by omega]
  rw [e]
  exact this
 ·rintro e a' w' (⟨K', s', hin, hs, hend⟩ | hx)
  ·have hd : a'.defers = [] := hs.defers
   cases e with
   | panic ch =>
    obtain ⟨s2, hw, hn2, hp⟩ := (hend : PanG Γ0 post ch s')
    obtain ⟨K2, h1, h2⟩ := hw K' a' w' (hin.conv rfl rfl rfl rfl) hs
    show LeavesInM Fence.wide 0 P fn a'.tmps (RX Γ0 post) a'.defers (.panicking ch) w'
    rw [hd]
    exact ⟨.pan ch, s2.obs, s2.next, K2, rfl, h1, h2.sat, h2.hdr, hn2, hp⟩
   | normal =>
    obtain ⟨v, h1, h2⟩ := endW_results (Γ := Γ) (post := post) hend hin hs
    show LeavesInM Fence.wide 0 P fn a'.tmps (RX Γ0 post) a'.defers .returning w'
    rw [hd]
    exact ⟨v, h1, hR _ _ h2⟩
   | ret =>
    obtain ⟨v, h1, h2⟩ := endW_results (Γ := Γ) (post := post) hend hin hs
    show LeavesInM Fence.wide 0 P fn a'.tmps (RX Γ0 post) a'.defers .returning w'
    rw [hd]
    exact ⟨v, h1, hR _ _ h2⟩
   | exit i => obtain ⟨_, _, h1, _⟩ := hend; rcases h1 with h1 | h1 <;> cases h1
   | goto i => obtain ⟨_, _, h1, _⟩ := hend; rcases h1 with h1 | h1 <;> cases h1
   | outgrown => obtain ⟨_, _, h1, _⟩ := hend; rcases h1 with h1 | h1 <;> cases h1
  ·exact hx.2
/-- The end of a function behind such a loop. -/
def EndM (P : Program) (Γb : Ctx) (fn : Func) (post : Out → List (Nat × Ob) → Nat → Prop) (e : Exit) (s : St) : Prop := e = .ret ∧ EndW P Γb fn Γb.n0 (fun d o n => post (.val d) o n) .ret s
/-- One round, from the loop's own code: what it does to the objects. -/
theorem RetY.of_round {P : Program} {K : Kr} {l : Nat} {L : Loop} {s : St} {p : Tmp} {x : D} {A A' : List (Nat × Ob)} {N N' : Nat} {W : World} {a : Act} {own0 : Own} {fn0 D0 assign body} (hL : L = { state := .ready, pending := none, fn := fn0, tmps := a.tmps, params := #[p], assign := assign, body := body, defers := D0 })
  (hs : Sim K own0 s a W) (hp : p < s.n) (hN : N ≤ N')
  (h : ∀ (Γ1 : Ctx), Γ1.n0 = N → (∀ ch s, ¬ Γ1.pan ch s) → VR P Γ1 l assign (({ s with obs := A, next := N } : St).put (some p) x) fun e s1 => e = .normal ∧ N ≤ s1.next ∧
    ∀ Γ2 : Ctx, Γ2.n0 = s1.next → (∀ ch s, ¬ Γ2.pan ch s) → VR P Γ2 l body s1 fun e s2 => e = .normal ∧ ∃ s3, Wk Γ2 s2 s3 ∧ s3.obs = A' ∧ s3.next = N') :
  RetY P K l L [x] A N fun d o n => d = .u (.bool true) ∧ o = A' ∧ n = N' := by
 intro k own w vs hk hl hLw hsat hhdr hfresh hrep
 obtain ⟨hvs, hvr⟩ := hrep
 have hsz : vs.size = L.params.size := by rw [hvs, hL]; rfl
 refine ⟨_, _, _, _, run_yield hLw hsz, roundIn_of_wpIn trivial ?_⟩
 let Γ1 : Ctx := .of own k N w
 have hin1 : In Γ1 k w := ⟨.refl _, hhdr, fun b o v e => .inl e, hfresh, rfl, rfl, rfl, Nat.le_refl _, fun _ _ => rfl⟩
 have hfold : (L.params.zip vs).foldl (fun tmps (t, a) => tmps.setIfInBounds t a) L.tmps = a.tmps.setIfInBounds p (vs.getD 0 undef) := by
  obtain ⟨v, rfl⟩ : ∃ v, vs = #[v] := by
   obtain ⟨l⟩ := vs
   match l, hvs with
   | [v], _ => exact ⟨v, rfl⟩
  rw [hL]
  simp
 have hsim0 : Sim k Γ1.own ({ s with obs := A, next := N } : St) { tmps := a.tmps, defers := [] } w := ⟨hsat, rfl, hs.size, fun y d hy => ⟨(hs.env y d hy).1, (hs.env y d hy).2.mono hk⟩, hhdr⟩
 have hsim1 : Sim k Γ1.own (({ s with obs := A, next := N } : St).put (some p) x) { tmps := (L.params.zip vs).foldl (fun tmps (t, a) => tmps.setIfInBounds t a) L.tmps, defers := [] } w := by
  rw [hfold]
  exact hsim0.put (dst := some p) (by simpa [putOK] using hp) (hvr 0 x rfl)
 have hLa : L.assign = assign ∧ L.body = body := by rw [hL]; exact ⟨rfl, rfl⟩
 rw [hLa.1, hLa.2]
 refine wpIn_mono (h Γ1 rfl (fun _ _ h => h) k _ w hin1 hsim1) ?_
 rintro e a1 w1 (⟨K1, s1, hi1, hs1, hq1⟩ | hx)
 case inr => exact hx.2.elim
 have hq1' : e = .normal ∧ N ≤ s1.next ∧ ∀ Γ2 : Ctx, Γ2.n0 = s1.next → (∀ ch s, ¬ Γ2.pan ch s) → VR P Γ2 l body s1 fun e s2 => e = .normal ∧ ∃ s3, Wk Γ2 s2 s3 ∧ s3.obs = A' ∧ s3.next = N' := by
  cases e with
  | panic ch => exact hq1.elim
  | _ => exact hq1
 obtain ⟨rfl, hN1, hbody⟩ := hq1'
 have hl1 : w1.heap[l]? = some (.loop L) := (hi1.block l hl).trans hLw
 have hst : L.state = .ready := by rw [hL]
 refine ⟨_, run_beginRound hl1 hst, ?_⟩
 have hlt1 := (Array.getElem?_eq_some_iff.1 hl1).1
 generalize hw2 : w1.putObj l (.loop { L with state := .busy }) = w2
 have hh2 : ∀ b, b ≠ l → w2.heap[b]? = w1.heap[b]? := fun b hb => by rw [← hw2]; exact World.putObj_heap_other hb
 have hsz2 : w2.heap.size = w1.heap.size := by rw [← hw2]; simp
 have hl2 : w2.heap[l]? = some (.loop { L with state := .busy }) := by rw [← hw2]; exact World.putObj_heap_same hlt1
 let Γ2 : Ctx := .of own K1 s1.next w2
 have hin2 : In Γ2 K1 w2 := ⟨.refl _, hs1.hdr, fun b o v e => .inl e, fun b hb => hi1.own_of_ge (by rw [← hsz2]; exact hb), rfl, rfl, rfl, Nat.le_refl _, fun _ _ => rfl⟩
 have hsim2 : Sim K1 Γ2.own s1 a1 w2 := ⟨Sat.turn hs1.sat l (fun b hb _ => hh2 b hb) (hs1.sat.notBlk hl) (look_loop hl1), hs1.defers, hs1.size, hs1.env, hs1.hdr⟩
 refine wpIn_mono (hbody Γ2 rfl (fun _ _ h => h) K1 a1 w2 hin2 hsim2) ?_
 rintro e a2 w3 (⟨K2, s2, hi2, hs2, hq2⟩ | hx)
 case inr => exact hx.2.elim
 have hq2' : e = .normal ∧ ∃ s3, Wk Γ2 s2 s3 ∧ s3.obs = A' ∧ s3.next = N' := by
  cases e with
  | panic ch => exact hq2.elim
  | _ => exact hq2
 obtain ⟨rfl, s3, hw, hA, hNx⟩ := hq2'
 obtain ⟨K3, hi3, hs3⟩ := hw K2 a2 w3 hi2 hs2
 have hl3 : w3.heap[l]? = some (.loop { L with state := .busy }) := (hi3.block l hl).trans hl2
 have hlt3 := (Array.getElem?_eq_some_iff.1 hl3).1
 refine ⟨_, _, run_endRound none hl3, ?_⟩
 have hLe : ({ ({ L with state := .busy } : Loop) with state := if (none : Option Code).isNone then .ready else .done, pending := none } : Loop) = L := by rw [hL]; rfl
 rw [hLe]
 generalize hw4 : w3.putObj l (.loop L) = w4
 have hh4 : ∀ b, b ≠ l → w4.heap[b]? = w3.heap[b]? := fun b hb => by rw [← hw4]; exact World.putObj_heap_other hb
 have hsz4 : w4.heap.size = w3.heap.size := by rw [← hw4]; simp
 have hl4 : w4.heap[l]? = some (.loop L) := by rw [← hw4]; exact World.putObj_heap_same hlt3
 have ho2 : w2.os = w1.os ∧ w2.tape = w1.tape ∧ w2.output = w1.output := by rw [← hw2]; exact ⟨rfl, rfl, rfl⟩
 have ho4 : w4.os = w3.os ∧ w4.tape = w3.tape ∧ w4.output = w3.output := by rw [← hw4]; exact ⟨rfl, rfl, rfl⟩
 refine ⟨_, .u (.bool true), A', N', K3, rfl, ⟨hi1.le.trans hi3.le, hhdr, fun b o v e => ?_, hfresh, ?_, ?_, ?_, ?_, fun b hb => ?_⟩, ?_, ?_, hN, .u _ _ (.bool _), rfl, rfl, rfl⟩
 ·rcases hi3.memNew b o v e with h | h
  ·exact hi1.memNew b o v h
  ·exact .inr h
 ·exact ho4.1.trans (hi3.os.trans (ho2.1.trans hi1.os))
 ·exact ho4.2.1.trans (hi3.tape.trans (ho2.2.1.trans hi1.tape))
 ·exact ho4.2.2.trans (hi3.output.trans (ho2.2.2.trans hi1.output))
 ·have h1 := hi1.size
  have h3 := hi3.size
  have h1' : w.heap.size ≤ w1.heap.size := h1
  have h3' : w2.heap.size ≤ w3.heap.size := h3
  show w.heap.size ≤ w4.heap.size
  omega
 ·show w4.heap[b]? = w.heap[b]?
  by_cases hbl : b = l
  ·subst hbl
   rw [hl4, hLw]
  ·rw [hh4 b hbl]
   exact (hi3.block b hb).trans ((hh2 b hbl).trans (hi1.block b hb))
 ·rw [← hA]
  exact Sat.turn hs3.sat l (fun b hb _ => hh4 b hb) (hs3.sat.notBlk hl) (look_loop hl3)
 ·rw [← hNx]
  exact hs3.hdr
/-- A statement at which a walk stops (its number: the first region's). -/
theorem hold_at (i : Nat) {ops : Array Oper} {b : Bool} {rest : Code} : Code.seq (.region i ops b) rest = Hold (.seq (.region i ops b) rest) := (hold_eq _).symm
theorem hold_range {c1 assign body rest : Code} {id : Nat} {g : Operand} {ps : Array Tmp} : Code.seq (.seq c1 (.block id (.rangeFunc g ps assign body))) rest = Hold (.seq (.seq c1 (.block id (.rangeFunc g ps assign body))) rest) := (hold_eq _).symm
/-- The loop goes through, and what follows. -/
@[irreducible] def RangeOK (P : Program) (Γ : Ctx) (W : Exit → Act → World → Prop) (g : Operand) (p : Tmp) (assign body rest : Code) (s : St) : Prop :=
 ∀ K a w, In Γ K w → Sim K Γ.own s a w → (Code.rangeFunc g #[p] assign body).wp P (fun e a w => e = .normal ∧ rest.wp P W a w) a w
theorem cg_RangeOK {P Γ W g p assign body rest s s' z} (_ : (True ∧ True) = z) (h : s = s') : RangeOK P Γ W g p assign body rest s = RangeOK P Γ W g p assign body rest s' := by rw [h]
attribute [congr] cg_RangeOK
theorem RangeOK.wk {P Γ W g p assign body rest s} (s' : St) (hw : Wk Γ s s') (h : RangeOK P Γ W g p assign body rest s') : RangeOK P Γ W g p assign body rest s := by
 unfold RangeOK at h ⊢
 intro K a w h1 h2
 obtain ⟨K', h3, h4⟩ := hw K a w h1 h2
 exact h K' a w h3 h4
theorem V_range {P Γ s} {Q : Exit → St → Prop} {kt : Kt} {id : Nat} {g : Operand} {p : Tmp} {c1 assign body rest : Code} (h : V P Γ c1 s (RunK P Γ (fun e s1 => e = .normal ∧ RangeOK P Γ (VPost Γ (RunK P Γ Q kt)) g p assign body rest s1) .done)) :
  V P Γ (Hold (.seq (.seq c1 (.block id (.rangeFunc g #[p] assign body))) rest)) s (RunK P Γ Q kt) := by
 rw [hold_eq]
 intro K a w hin hs
 refine wp_seq (wp_seq (wp_mono (h K a w hin hs) ?_))
 rintro e a1 w1 (⟨K1, s1, h1, h2, h3⟩ | hx)
 ·cases e with
  | normal =>
   have h4 := h3.2
   unfold RangeOK at h4
   refine wp_block (wp_mono (h4 K1 a1 w1 h1 h2) ?_)
   rintro e a2 w2 ⟨rfl, h5⟩
   exact h5
  | panic ch => exact .inl ⟨K1, s1, h1, h2, h3⟩
  | ret => exact absurd h3.1 (by simp)
  | exit i => exact absurd h3.1 (by simp)
  | goto i => exact absurd h3.1 (by simp)
  | outgrown => exact absurd h3.1 (by simp)
 ·cases e with
  | normal => exact hx.1.elim
  | _ => exact .inr hx
/-- 'for x := range seq { .. }', each round of which goes on: by the iterator's contract, one round, and what follows. -/
theorem RangeOK.of {P Γ fn post s} {Q : Exit → St → Prop} {kt : Kt} {g : Operand} {p : Tmp} {assign body rest : Code} {gf : FuncId} {caps : List D} {O O' : List (Nat × Ob)} {xs : List D} (A : Nat → List (Nat × Ob)) (N : Nat → Nat)
  (hesc : ∀ e a w', bodyPostM Fence.wide 0 P fn (RX Γ.base post) e a w' → Γ.esc e a w') (hd : Γ.own.dfr = []) (hg : opd s g = .fnc (.func gf) caps) (hc : callable P gf = true) (hit : Iter P gf caps O O' xs)
  (hdis : ∀ i j ob, getK O j = some ob → getK (A i) j = none) (hobs : ∀ i, getK s.obs i = getK (O ++ A 0) i) (hnx : s.next = N 0) (hN : ∀ i, N i ≤ N (i + 1)) (hp : p < s.n)
  (hround : ∀ i x, xs[i]? = some x → ∀ (Γ1 : Ctx) (r : Nat), Γ1.n0 = N i → (∀ ch s, ¬ Γ1.pan ch s) → VR P Γ1 r assign (({ s with obs := A i, next := N i } : St).put (some p) x) fun e s1 => e = .normal ∧ N i ≤ s1.next ∧
    ∀ Γ2 : Ctx, Γ2.n0 = s1.next → (∀ ch s, ¬ Γ2.pan ch s) → VR P Γ2 r body s1 fun e s2 => e = .normal ∧ ∃ s3, Wk Γ2 s2 s3 ∧ s3.obs = A (i + 1) ∧ s3.next = N (i + 1))
  (hrest : ∀ Γ' : Ctx, Γ'.n0 = N xs.length → (∀ ch s, ¬ Γ'.pan ch s) → V P Γ' rest { s with obs := O' ++ A xs.length, next := N xs.length } (RunK P Γ' (EndM P Γ.base fn post) .done)) :
  RangeOK P Γ (VPost Γ (RunK P Γ Q kt)) g p assign body rest s := by
 unfold RangeOK
 intro K a w hin hs
 refine (wpIn_wide (n := 0)).1 (wpIn_rangeFunc (F := Fence.wide) fun fn' _ => ?_)
 obtain ⟨cv, hcl, hv, hcap⟩ := rep_fnc (by have := opd_rep hs g; rw [hg] at this; exact this)
 obtain ⟨L, hL⟩ : ∃ L : Loop, L = { state := .ready, pending := none, fn := fn', tmps := a.tmps, params := #[p], assign := assign, body := body, defers := w.heap.size } := ⟨_, rfl⟩
 obtain ⟨W1, hW1⟩ : ∃ W1, (w.alloc (.deferred (some []))).alloc (.loop L) = W1 := ⟨_, rfl⟩
 have hsW : W1.heap.size = w.heap.size + 2 := by rw [← hW1]; simp
 have hL1 : W1.heap[w.heap.size + 1]? = some (.loop L) := by
  rw [← hW1]; have := World.alloc_heap_new (w.alloc (.deferred (some []))) (.loop L); rwa [World.size_alloc] at this
 have hD1 : W1.heap[w.heap.size]? = some (.deferred (some [])) := by
  rw [← hW1]; exact (heap_alloc_lt _ _ (by simp)).trans (World.alloc_heap_new w _)
 have hold : ∀ b, b < w.heap.size → W1.heap[b]? = w.heap[b]? := fun b hb => by
  rw [← hW1]; exact (heap_alloc_lt _ _ (by simp; omega)).trans (heap_alloc_lt _ _ hb)
 have hoW : W1.os = w.os ∧ W1.tape = w.tape ∧ W1.output = w.output := by rw [← hW1]; exact ⟨rfl, rfl, rfl⟩
 refine ⟨w.heap.size + 1, [{ target := .collected w.heap.size, args := #[] }], W1, { target := .fn (.func gf) cv.toArray, args := #[.func (.yield (w.heap.size + 1)) #[] #[]] }, W1, gf,
  #[.func (.yield (w.heap.size + 1)) #[] #[]] ++ cv.toArray, W1, ?_, ?_, fun _ _ => trivial, ?_, fun e => by simp [Fence.wide] at e, (callsIn_wide (n := 0 - 1)).2 ?_⟩
 ·rw [← hW1, hL]; exact run_enterLoop_outer _ _ _ _ _
 ·simp [resolve, hv, Deferred.ofValue]
  try rfl
 ·unfold callable at hc
  split at hc
  ·rename_i f0 hfn
   simp at hc
   obtain ⟨hb, hname⟩ := hc
   have hb' : f0.body.isNone = false := by cases hbb : f0.body <;> simp_all
   simp [invoke, callFunc, hfn, hb', hname]
   intro h0
   rw [h0] at hb
   simp at hb
  ·cases hc
 have hsatW : Sat K Γ.own.own s.obs W1 := hs.sat.keep (.refl K) (fun b hB => hold b (hs.sat.lt hB)) (fun b o v e => by rw [cell_of_heap (hold b (hs.sat.memLt e))]; exact hs.sat.mem b o v e)
  (fun b hB o => by
    obtain ⟨i, ob, g, h1, h2, h3⟩ := hB
    obtain ⟨g', h4, h5, _⟩ := hs.sat.ob i ob h1
    rw [h2] at h4
    cases h4
    exact (h5 b h3).2 o)
 have hsat1 : Sat K (fun b => Γ.own.own b ∧ b ≠ w.heap.size + 1 ∧ b ≠ w.heap.size) (O ++ A 0) W1 := by
  refine Sat.congr (Sat.owns hsatW fun b hB h => ⟨h, ?_⟩) fun i => (hobs i).symm
  have := hs.sat.lt hB
  omega
 have hcall := hit K (w.heap.size + 1) L A N hdis hN (fun i x hx => RetY.of_round hL hs hp (hN i) fun Γ1 h1 h2 => hround i x hx Γ1 _ h1 h2) K _ W1
  (#[.func (.yield (w.heap.size + 1)) #[] #[]] ++ cv.toArray) (.refl K) (fun h => h.2.1 rfl) hL1 hsat1 (fun i hi => hs.hdr i (by rw [hnx]; exact hi)) (fun b hb => ⟨hin.own_of_ge (by omega), by omega, by omega⟩)
  ⟨by simp [hcl], fun j d hj => by
   cases j with
   | zero =>
      cases hj
      simpa using Rep.u _ _ (RepU.oth _)
   | succ j =>
      have := hcap j d (by simpa using hj)
      simpa [Array.getElem?_append] using this⟩
 refine hcall.mono ?_
 rintro e w3 ⟨v, d, obs3, nx3, k3, rfl, hin3, hsat3, hhdr3, hnx3, _, rfl, rfl⟩
 have hl3 : w3.heap[w.heap.size + 1]? = some (.loop L) := (hin3.block _ fun h => h.2.1 rfl).trans hL1
 have hD3 : w3.heap[w.heap.size]? = some (.deferred (some [])) := (hin3.block _ fun h => h.2.2 rfl).trans hD1
 have hlt3 := (Array.getElem?_eq_some_iff.1 hl3).1
 have hpend : L.pending = none := by rw [hL]
 refine ⟨none, w3.putObj (w.heap.size + 1) (.loop { L with state := .exhausted }), (run_endLoop (P := P) hl3 (by rw [hL]; simp)).trans (by rw [hpend]), ?_⟩
 generalize hw4 : w3.putObj (w.heap.size + 1) (.loop { L with state := .exhausted }) = w4
 have hh4 : ∀ b, b ≠ w.heap.size + 1 → w4.heap[b]? = w3.heap[b]? := fun b hb => by rw [← hw4]; exact World.putObj_heap_other hb
 have hsz4 : w4.heap.size = w3.heap.size := by rw [← hw4]; simp
 have ho4 : w4.os = w3.os ∧ w4.tape = w3.tape ∧ w4.output = w3.output := by rw [← hw4]; exact ⟨rfl, rfl, rfl⟩
 have hD4 : w4.heap[w.heap.size]? = some (.deferred (some [])) := (hh4 _ (by omega)).trans hD3
 have hKk : K.le k3 := hin3.le
 have hin4 : In Γ k3 w4 := by
  refine hin.step hKk (fun b o v e => (hin3.memNew b o v e).imp id (·.1)) ?_ ?_ ?_ ?_ fun b hb => ?_
  ·exact ho4.1.trans (hin3.os.trans hoW.1)
  ·exact ho4.2.1.trans (hin3.tape.trans hoW.2.1)
  ·exact ho4.2.2.trans (hin3.output.trans hoW.2.2)
  ·have h3 : W1.heap.size ≤ w3.heap.size := hin3.size
   omega
  ·have hbl : b < w.heap.size := by
    rcases Nat.lt_or_ge b w.heap.size with h | h
    ·exact h
    ·exact absurd (hin.own_of_ge h) hb
   rw [hh4 b (by omega)]
   exact (hin3.block b fun h => hb h.1).trans (hold b hbl)
 let Γ' : Ctx := ⟨⟨fun b => Γ.own.own b ∧ b ≠ w.heap.size, [{ target := .collected w.heap.size, args := #[] }]⟩, k3, N xs.length, w4, fun _ _ => False, fun _ _ _ => False⟩
 have hDlt := (Array.getElem?_eq_some_iff.1 hD4).1
 have hin5 : In Γ' k3 w4 := ⟨.refl _, hhdr3, fun b o v e => .inl e, fun b hb => ⟨hin4.own_of_ge hb, by have : w4.heap.size ≤ b := hb; omega⟩, rfl, rfl, rfl, Nat.le_refl _, fun _ _ => rfl⟩
 have hsat4 : Sat k3 Γ'.own.own (O' ++ A xs.length) w4 := by
  refine Sat.turn (Sat.owns hsat3 fun b hB h => ⟨h.1, h.2.2⟩) (w.heap.size + 1) (fun b hb _ => hh4 b hb) (fun hB => ?_) (look_loop hl3)
  exact hsat3.notBlk (fun h => h.2.1 rfl) hB
 have hs5 : Sim k3 Γ'.own ({ s with obs := O' ++ A xs.length, next := N xs.length } : St) { a with defers := [{ target := .collected w.heap.size, args := #[] }] ++ a.defers } w4 :=
  ⟨hsat4, by have h0 : a.defers = _ := hs.defers; rw [hd] at h0; show [_] ++ a.defers = _; rw [h0]; rfl, hs.size, fun x d hx => ⟨(hs.env x d hx).1, (hs.env x d hx).2.mono hKk⟩, hhdr3⟩
 refine ⟨rfl, ?_⟩
 refine wp_mono (hrest Γ' rfl (fun _ _ h => h) k3 _ w4 hin5 hs5) ?_
 rintro e a6 w6 (⟨K6, s6, hi6, hs6, hq6⟩ | hx)
 case inr => exact hx.2.elim
 have hD6 : w6.heap[w.heap.size]? = some (.deferred (some [])) := (hi6.block _ fun h => h.2 rfl).trans hD4
 have hdf : a6.defers = [{ target := .collected w.heap.size, args := #[] }] := hs6.defers
 generalize hw7 : w6.putObj w.heap.size (.deferred none) = w7
 have hh7 : ∀ b, b ≠ w.heap.size → w7.heap[b]? = w6.heap[b]? := fun b hb => by rw [← hw7]; exact World.putObj_heap_other hb
 have hsz7 : w7.heap.size = w6.heap.size := by rw [← hw7]; simp
 have ho7 : w7.os = w6.os ∧ w7.tape = w6.tape ∧ w7.output = w6.output := by rw [← hw7]; exact ⟨rfl, rfl, rfl⟩
 have hin6 : In Γ K6 w6 := hin4.step hi6.le (fun b o v e => (hi6.memNew b o v e).imp id (·.1)) hi6.os hi6.tape hi6.output hi6.size fun b hb => hi6.block b fun h => hb h.1
 have hin7 : In Γ K6 w7 := hin6.step (.refl _) (fun b o v e => .inl e) ho7.1 ho7.2.1 ho7.2.2 (by omega) fun b hb => hh7 b fun e => hb (by subst e; exact hin.own_of_ge (Nat.le_refl _))
 have hsim7 : Sim K6 Γ.base.own s6 { a6 with defers := [] } w7 :=
  ⟨Sat.turn (Sat.owns hs6.sat fun b hB h => h.1) w.heap.size (fun b hb _ => hh7 b hb) (hs6.sat.notBlk fun h => h.2 rfl) (look_dfr hD6), rfl, hs6.size, hs6.env, hs6.hdr⟩
 have fin : EndW P Γ.base fn Γ.base.n0 (fun d o n => post (.val d) o n) .ret s6 → bodyPostM Fence.wide 0 P fn (RX Γ.base post) .ret a6 w6 := fun hend => by
  obtain ⟨v', h1, h2⟩ := endW_results (Γ := Γ.base) (post := post) hend (hin7.conv rfl rfl rfl rfl) hsim7
  show LeavesInM Fence.wide 0 P fn a6.tmps (RX Γ.base post) a6.defers .returning w6
  rw [hdf]
  refine ⟨by simp, .inl ⟨w.heap.size, w7, rfl, ?_, v', h1, h2⟩⟩
  rw [← hw7]
  exact run_takeDeferred hD6
 cases e with
 | panic ch => exact hq6.elim
 | ret => exact .inr ⟨trivial, hesc _ _ _ (fin hq6.2)⟩
 | normal => exact absurd hq6.1 (by simp)
 | exit i => exact absurd hq6.1 (by simp)
 | goto i => exact absurd hq6.1 (by simp)
 | outgrown => exact absurd hq6.1 (by simp)
end Go.VL
namespace Go.Proofs.YtkdhmbhbbciedaaGreatDoor
open Go Go.VL
abbrev laidL : List (String × DataW Unit) := [("math/bits.deBruijn32tab", Rows.laid_math_bits_deBruijn32tab), ("math/bits.deBruijn64tab", Rows.laid_math_bits_deBruijn64tab), ("internal/strconv.uint64pow10", Rows.laid_internal_strconv_uint64pow10), ("unicode/utf8.acceptRanges", Rows.laid_unicode_utf8_acceptRanges), ("strconv.ErrRange", Rows.laid_strconv_ErrRange), ("strconv.ErrSyntax", Rows.laid_strconv_ErrSyntax), ("stokvel/lex.signs", Rows.laid_stokvel_lex_signs), ("stokvel/code.words", Rows.laid_stokvel_code_words), ("unicode/utf8.first", Rows.laid_unicode_utf8_first)]
/-- The cells of a listed variable, and its end. -/
theorem glob_at {P : Program} {w : World} {n : String} {g : Nat} {cs : Array Value} (hg : P.globalNamed n = some g) (hv : w.var? P n = some cs) :
  (∀ j, j < cs.toList.length → VL.look w g j = some (.val (cs.toList.getD j undef))) ∧ VL.look w g cs.toList.length = some .fin := by
 unfold World.var? at hv
 rw [hg, Option.bind_some] at hv
 split at hv
 ·rename_i cs0 t fr hh
  cases hv
  refine ⟨fun j hj => look_cell ?_, ?_⟩
  ·have hj' : j < cs.size := by simpa using hj
   simp [World.cell?, hh, hj', List.getD]
  ·have := look_end hh
   simpa using this
 ·cases hv
theorem strs_at {P : Program} {w : World} {n : String} {g : Nat} {t e : TypeId} {cs : Array Value} {L : List (List UInt8)} {fuel : Nat} {H : Type} {enc : TypeId × Value → H} {base : Nat} {spare : Nat → Bool} {held : Bool} {q : List MemPlace}
  (hg : P.globalNamed n = some g) (hv : w.var? P n = some cs) (ht : P.underlying t = some (.array L.length e)) (he : P.underlying e = some .string) (hc : P.cellsOf e = 1) (hct : P.cellsOf t = L.length)
  (hd : DataW.trod enc P w base spare held fuel t cs.toList = some (.agg (L.map fun b => .lit (.string b)), q)) : cs.toList = L.map fun b => .string ⟨b.toArray⟩ := by
 obtain ⟨xs, m1, rfl, hx1, hlen, hn3, hel⟩ := DataW.trod_array ht hd
 have hcell := cells_strings hg hv ht he hc hd
 apply List.ext_getElem?
 intro j
 cases hb : L[j]? with
 | none =>
  have := List.getElem?_eq_none_iff.1 hb
  rw [List.getElem?_eq_none (by omega), List.getElem?_map, hb]; rfl
 | some b =>
  have h := hcell j b hb
  rw [World.var?_cell hg hv j] at h
  rw [List.getElem?_map, hb, Array.getElem?_toList, h]; rfl
def signsA : List (List UInt8) := [[61, 61], [59], [44], [61], [60], [43], [45], [42], [47], [40], [41]]
def wordsA : List (List UInt8) := [[110, 117, 109], [110, 97, 109, 101], [97, 100, 100], [115, 117, 98], [109, 117, 108], [100, 105, 118], [115, 99, 97, 108, 101], [109, 105, 110], [109, 97, 120], [108, 101, 115, 115], [101, 113], [110, 111, 116], [106, 117, 109, 112], [102, 97, 108, 115, 101], [101, 110, 100]]
def pow10A : List Int := (List.range 20).map fun i => (10 : Int) ^ i
theorem iface_at {P : Program} {w : World} {t : TypeId} {ms} {cs : List Value} {fuel : Nat} {H : Type} {enc : TypeId × Value → H} {base : Nat} {spare : Nat → Bool} {held : Bool} {nm : String} {y : DataW H} {q : List MemPlace}
  (ht : P.underlying t = some (.interface ms)) (h : DataW.trod enc P w base spare held fuel t cs = some (.iface nm y, q)) : ∃ tp v, cs = [.iface tp v] := by
 cases fuel with
 | zero => simp [DataW.trod] at h
 | succ n =>
  rw [DataW.trod_step] at h
  unfold DataW.trodStep at h
  rw [ht] at h
  split at h <;> simp_all
theorem glob_laid (W : World) (h : laidMetH Tryz.prog laidL W) : GlobIn (wmem W) := by
 rw [MakeChecks.laidMetH_plain _ _ _ (by kernel_rfl)] at h
 obtain ⟨ps, ⟨g0, t0, c0, f0, p0, q0, hg0, ht0, hv0, hd0, ⟨g1, t1, c1, f1, p1, q1, hg1, ht1, hv1, hd1, ⟨g2, t2, c2, f2, p2, q2, hg2, ht2, hv2, hd2, ⟨g3, t3, c3, f3, p3, q3, hg3, ht3, hv3, hd3, ⟨g4, t4, c4, f4, p4, q4, hg4, ht4, hv4, hd4, ⟨g5, t5, c5, f5, p5, q5, hg5, ht5, hv5, hd5, ⟨g6, t6, c6, f6, p6, q6, hg6, ht6, hv6, hd6, ⟨g7, t7, c7, f7, p7, q7, hg7, ht7, hv7, hd7, ⟨g8, t8, c8, f8, p8, q8, hg8, ht8, hv8, hd8, _⟩, _⟩, _⟩, _⟩, _⟩, _⟩, _⟩, _⟩, _⟩, _⟩ := h
 obtain rfl : g2 = 9 := Option.some.inj (hg2.symm.trans (by kernel_rfl))
 obtain rfl : g4 = 3 := Option.some.inj (hg4.symm.trans (by kernel_rfl))
 obtain rfl : g5 = 2 := Option.some.inj (hg5.symm.trans (by kernel_rfl))
 obtain rfl : g6 = 8 := Option.some.inj (hg6.symm.trans (by kernel_rfl))
 obtain rfl : g7 = 0 := Option.some.inj (hg7.symm.trans (by kernel_rfl))
 obtain rfl : t2 = 227 := Option.some.inj (ht2.symm.trans (by kernel_rfl))
 obtain rfl : t6 = 226 := Option.some.inj (ht6.symm.trans (by kernel_rfl))
 obtain rfl : t7 = 76 := Option.some.inj (ht7.symm.trans (by kernel_rfl))
 obtain rfl : t4 = 78 := Option.some.inj (ht4.symm.trans (by kernel_rfl))
 obtain rfl : t5 = 78 := Option.some.inj (ht5.symm.trans (by kernel_rfl))
 have e2 := Lib.cells_of_tab (p := p2) (n := 20) (e := 191) (k := .u64) (zs := pow10A) (by kernel_rfl) (by kernel_rfl) (by kernel_rfl) (by kernel_rfl) (hd2.trans (by kernel_rfl))
 have e6 := strs_at (q := p6) (L := signsA) hg6 hv6 (by kernel_rfl) (e := 9) (by kernel_rfl) (by kernel_rfl) (by kernel_rfl) (hd6.trans (by kernel_rfl))
 have e7 := strs_at (q := p7) (L := wordsA) hg7 hv7 (by kernel_rfl) (e := 9) (by kernel_rfl) (by kernel_rfl) (by kernel_rfl) (hd7.trans (by kernel_rfl))
 obtain ⟨ms4, hm4⟩ : ∃ ms, Tryz.prog.underlying 78 = some (.interface ms) := ⟨_, rfl⟩
 obtain ⟨u4, v4, e4⟩ := iface_at hm4 hd4
 obtain ⟨u5, v5, e5⟩ := iface_at hm4 hd5
 have x2 := glob_at hg2 hv2
 have x4 := glob_at hg4 hv4
 have x5 := glob_at hg5 hv5
 have x6 := glob_at hg6 hv6
 have x7 := glob_at hg7 hv7
 rw [e2] at x2
 rw [e4] at x4
 rw [e5] at x5
 rw [e6] at x6
 rw [e7] at x7
 refine ⟨fun p hp => ?_, fun g hg => ?_⟩
 ·unfold globs at hp
  simp only [List.mem_cons, List.not_mem_nil, or_false] at hp
  rcases hp with rfl | rfl | rfl
  all_goals first | exact x2 | exact x6 | exact x7
 ·unfold ifgs at hg
  simp only [List.mem_cons, List.not_mem_nil, or_false] at hg
  rcases hg with rfl | rfl
  all_goals first | exact ⟨_, _, x4.1 0 (by simp)⟩ | exact ⟨_, _, x5.1 0 (by simp)⟩
end Go.Proofs.YtkdhmbhbbciedaaGreatDoor
namespace Go.Proofs.YtkdhmbhbbciedaaGreatDoor
open Go Go.VL Go.Shelf Go.RowKit
theorem bsz : (Tryz.prog.info? 88).map (·.size) = some 2 := by kernel_rfl
theorem blies : liesAt Tryz.prog Tryz.prog.depth 88 (2 / Tryz.prog.cellsOf 88) 0 88 1 = true := by kernel_rfl
set_option maxHeartbeats 1000000 in
set_option maxRecDepth 100000 in
/-- copyCheck at a builder that has been used: nothing turns. -/
theorem ccused (b : Nat) (w : World) (h0 : w.cell? ⟨b, 0, none⟩ = some (.pointer (some ⟨b, 0, none⟩))) :
  Calls Tryz.prog 83 #[.pointer (some ⟨b, 0, none⟩)] w fun e w' => e = .returned (.tuple #[]) ∧ w' = w := by
 obtain ⟨j, hj, _⟩ := Option.map_eq_some_iff.1 bsz
 go_enter Tryz.func83, Tryz.ntmps83
 go_wp2
 rw [Lib.run_neq_ptr_same w _ Tryz.underlying85 hj]
 go_wp2
 go_end0
 exact ⟨rfl, rfl⟩
set_option maxHeartbeats 1000000 in
set_option maxRecDepth 100000 in
/-- copyCheck at a fresh builder: it stores its own address. -/
theorem ccfresh (b : Nat) (w : World) (h0 : w.cell? ⟨b, 0, none⟩ = some (.pointer none)) (hsh : w.shape? b = some (88, 2)) (hfz : w.frozen? ⟨b, 0, none⟩ = false) :
  Calls Tryz.prog 83 #[.pointer (some ⟨b, 0, none⟩)] w fun e w' => e = .returned (.tuple #[]) ∧ w' = w.setCell ⟨b, 0, none⟩ (.pointer (some ⟨b, 0, none⟩)) := by
 obtain ⟨j, hj, hjs⟩ := Option.map_eq_some_iff.1 bsz
 go_enter Tryz.func83, Tryz.ntmps83
 go_wp2
 rw [Lib.run_to_unsafe w ⟨b, 0, none⟩ Tryz.underlying85 Tryz.underlying166 hj (by rw [hjs]; decide) hsh (Nat.zero_lt_succ 1)]
 simp only [Result.andThen]
 rw [Oper.upon_value]
 go_wp2
 rw [run_callFunc_extern Tryz.func129 (by kernel_rfl) (by kernel_rfl) (by kernel_rfl) (e := Extern.AbiNoEscape.same) (by kernel_rfl)]
 rw [Lib.run_noEscape]
 simp only [Result.andThen]
 rw [Oper.upon_value]
 go_wp2
 rw [Lib.run_from_unsafe w ⟨b, 0, none⟩ Tryz.underlying166 Tryz.underlying85 hj hsh blies]
 simp only [Result.andThen]
 rw [Oper.upon_value]
 go_wp2
 go_end0
 exact ⟨rfl, rfl⟩
end Go.Proofs.YtkdhmbhbbciedaaGreatDoor
namespace Go.Proofs.YtkdhmbhbbciedaaGreatDoor
open Go Go.VL Go.Shelf Go.RowKit
abbrev bT : Nat := 88
abbrev u8T : Nat := 5
/-- One value handed over. -/
theorem one_arg {k : Kr} {d : D} {vs : Array Value} (h : RepL k [d] vs) : ∃ v, vs = #[v] ∧ Rep k d v := by
 obtain ⟨h1, h2⟩ := h
 have hs : vs.size = 1 := by simpa using h1
 refine ⟨vs.getD 0 undef, ?_, h2 0 d rfl⟩
 apply Array.ext_getElem?
 intro i
 match i with
 | 0 => have h4 : 0 < vs.size := by omega
        simp [h4]
 | i + 1 => rw [Array.getElem?_eq_none (by omega), Array.getElem?_eq_none (by simp)]
/-- copyCheck at an unwritten builder. -/
theorem copy_new (i nx : Nat) (hi : i < nx) : RetX Tryz.prog 83 [.ptr i 0] [(i, .nw bT)] nx
  (fun r o n => r = .val (.tup []) ∧ o = [(nx, .vec u8T 1 []), (i, .box [.ptr i 0, .vec nx 0])] ∧ n = nx + 1) := by
 intro k own w vs hsat hhdr hown hrep
 obtain ⟨v, rfl, hv⟩ := one_arg hrep
 obtain ⟨⟨hb, c⟩, h1, h2, b, e, h3⟩ := hsat.ob i (.nw bT) (by simp [getK])
 simp only at e
 subst e
 obtain ⟨b', c', h4, rfl⟩ := rep_ptr hv
 rw [h1] at h4
 cases h4
 obtain ⟨hob, hnone⟩ := h2 b rfl
 have hlt : b < w.heap.size := (Array.getElem?_eq_some_iff.1 h3).1
 refine (ccfresh b w (by simp [World.cell?, h3]) (by simp [World.shape?, h3]) (by simp [World.frozen?, h3])).mono ?_
 rintro e w' ⟨rfl, rfl⟩
 have hheap : ∀ x, x ≠ b → (w.setCell ⟨b, 0, none⟩ (.pointer (some ⟨b, 0, none⟩))).heap[x]? = w.heap[x]? := fun x hx => Below.heap_setCell _ _ _ _ hx
 have hbb : (w.setCell ⟨b, 0, none⟩ (.pointer (some ⟨b, 0, none⟩))).heap[b]? = some (.cells #[.pointer (some ⟨b, 0, none⟩), .slice none 0 0] bT (0, 0)) := by
  simp [World.setCell, Array.getElem?_modify, h3]
 have hnx := hhdr nx (Nat.le_refl _)
 have hle := Kr.le_add (k := k) (h := (none, 0)) hnx
 have hki : (k.add nx (none, 0)).hdr i = some (some b, c) := by simp only [Kr.add]; rw [if_neg (by omega)]; exact h1
 refine ⟨.val (.tup []), [(nx, .vec u8T 1 []), (i, .box [.ptr i 0, .vec nx 0])], nx + 1, k.add nx (none, 0), ⟨_, rfl, .tup [] [] rfl (by simp)⟩, ⟨hle, hhdr, fun _ _ _ e => .inl e, hown, rfl, rfl, rfl, by simp [World.setCell], fun x hx => hheap x fun e => hx (e ▸ hob)⟩,
  ⟨fun x o v hm => ?_, fun j ob hj => ?_, fun x y ox oy g g' z hx hy hxy hg hg' hz => ?_⟩, fun q hq => ?_, by omega, rfl, rfl, rfl⟩
 ·have hm : k.mem x o = some v := hm
  have hne : x ≠ b := fun e => by rw [e, hnone o] at hm; cases hm
  rw [look_heap (hheap x hne)]
  exact hsat.mem x o v hm
 ·simp only [getK] at hj
  split at hj
  ·rename_i hji
   subst hji
   cases hj
   exact ⟨(none, 0), by simp [Kr.add], fun b e => (by cases e), [], ⟨rfl, .inl ⟨rfl, rfl⟩⟩, Nat.one_pos, by simp, by simp⟩
  ·split at hj
   ·rename_i hji
    subst hji
    cases hj
    refine ⟨(some b, c), hki, h2, b, _, bT, rfl, hbb, rfl, fun q d hq => ?_⟩
    match q, hq with
    | 0, hq => cases hq; exact ⟨rfl, .ptr j 0 b c hki⟩
    | 1, hq => cases hq; exact ⟨rfl, .vec nx 0 (none, 0) (by simp [Kr.add])⟩
   ·cases hj
 ·by_cases hxn : x = nx
  ·subst hxn
   have : g = (none, 0) := by simpa [Kr.add] using hg.symm
   rw [this] at hz
   cases hz
  ·by_cases hyn : y = nx
   ·subst hyn
    have : g' = (none, 0) := by simpa [Kr.add] using hg'.symm
    rw [this]
    simp
   ·simp only [getK, if_neg hxn] at hx
    simp only [getK, if_neg hyn] at hy
    split at hx
    ·split at hy
     ·omega
     ·cases hy
    ·cases hx
 ·simp only [Kr.add]
  rw [if_neg (by omega)]
  exact hhdr q (by omega)
/-- copyCheck at a builder that was written. -/
theorem copy_used (i nx : Nat) (hi : i < nx) (d : D) : RetX Tryz.prog 83 [.ptr i 0] [(i, .box [.ptr i 0, d])] nx
  (fun r o n => r = .val (.tup []) ∧ o = [(i, .box [.ptr i 0, d])] ∧ n = nx) := by
 intro k own w vs hsat hhdr hown hrep
 obtain ⟨v, rfl, hv⟩ := one_arg hrep
 obtain ⟨b, c, cs, t, h1, hob, h3, hsz, hcs, hnone⟩ := (hsat.ob i (.box [.ptr i 0, d]) (by simp [getK])).box
 obtain ⟨b', c', h4, rfl⟩ := rep_ptr hv
 rw [h1] at h4
 cases h4
 have h0 := (hcs 0 _ rfl).2
 obtain ⟨b', c', h4, h5⟩ := rep_ptr h0
 rw [h1] at h4
 cases h4
 have hc0 : cs[0]? = some (.pointer (some ⟨b, 0, none⟩)) := by
  have hlt : 0 < cs.size := by rw [hsz]; simp
  rw [Array.getElem?_eq_getElem hlt]
  rw [← h5]
  simp [hlt]
 refine (ccused b w (by simp [World.cell?, h3, hc0])).mono ?_
 rintro e w' ⟨rfl, rfl⟩
 exact ⟨.val (.tup []), [(i, .box [.ptr i 0, d])], nx, k, ⟨_, rfl, .tup [] [] rfl (by simp)⟩, ⟨.refl _, hhdr, fun _ _ _ e => .inl e, hown, rfl, rfl, rfl, Nat.le_refl _, fun x hx => rfl⟩, hsat, hhdr, Nat.le_refl _, rfl, rfl, rfl⟩
section
open Go.RowKit
variable {P : Program} {ρ : Ren}
set_option maxHeartbeats 1000000 in
set_option maxRecDepth 100000 in
/-- String, with the world that it leaves: the bytes are frozen, and no more. -/
theorem string_exact (L : Go.Proofs.Lays.n169 P ρ) (X : Builder.Extra P ρ) (b g cap : Nat) (c0 : Value) (T : TypeId) (l : List UInt8) (cur : Array Value) (w : World) (h0 : l ≠ [])
  (hbk : w.heap[b]? = some (.cells #[c0, .slice (some ⟨g, 0, none⟩) l.length cap] T (0, 0))) (hg : w.heap[g]? = some (.cells cur (ρ.t 5) (0, 0))) (hnc : l.length ≤ cap) (hcm : cap ≤ maxLen) (hcs : cur.size = cap * 1)
  (hcells : ∀ (j : Nat) (x : UInt8), l[j]? = some x → w.cell? ⟨g, j, none⟩ = some (.int .u8 x.toNat)) :
  Calls P (ρ.f 169) #[.pointer (some ⟨b, 0, none⟩)] w fun e w' => e = .returned (.string ⟨l.toArray⟩) ∧ w' = w.drew.freeze ⟨g, 0, none⟩ l.length := by
 have hl0 : l.length ≠ 0 := by simpa using h0
 have c1 : w.drew.cell? ⟨b, 1, none⟩ = some (.slice (some ⟨g, 0, none⟩) l.length cap) := by
  have : w.drew.heap[b]? = some (.cells #[c0, .slice (some ⟨g, 0, none⟩) l.length cap] T (0, 0)) := hbk
  rw [Lib.cell_of_heap this]; rfl
 have hSD : (Builtin.unsafeSliceData_ #[(ρ.t 37)] (ρ.t 127) #[.slice (some ⟨g, 0, none⟩) l.length cap]).run P w.drew = .ok (.pointer (some ⟨g, 0, none⟩)) w.drew :=
  Lib.run_unsafeSliceData_row _ _ _ _ _ _ (by omega)
 have hUS : (Builtin.unsafeString_ #[(ρ.t 127), (ρ.t 3)] (ρ.t 9) #[.pointer (some ⟨g, 0, none⟩), .int .i64 l.length]).run P w.drew = .ok (.string ⟨l.toArray⟩) (w.drew.freeze ⟨g, 0, none⟩ l.length) := by
  refine Lib.run_unsafeString_row w.drew (ρ.t 127) (ρ.t 3) (ρ.t 9) (ρ.t 5) L.t127 X.cellsByte g cur.size (by have hg' : w.drew.heap[g]? = some (.cells cur (ρ.t 5) (0, 0)) := hg; simp [World.shape?, hg']) l h0 (by omega) (by unfold maxLen at hcm; omega) ?_
  intro j x hx
  rw [addr_add, Nat.zero_add]
  exact hcells j x hx
 have mixed := L.mixed
 have t72 := L.t72; have a72 := L.a72; have z72 := L.z72; have v72 := L.v72; have u72 := run_underlying L.t72
 have t70 := L.t70; have a70 := L.a70; have z70 := L.z70; have v70 := L.v70; have u70 := run_underlying L.t70
 have t37 := L.t37; have a37 := L.a37; have z37 := L.z37; have v37 := L.v37; have u37 := run_underlying L.t37
 have t127 := L.t127; have a127 := L.a127; have z127 := L.z127; have v127 := L.v127; have u127 := run_underlying L.t127
 have t3 := L.t3; have a3 := L.a3; have z3 := L.z3; have v3 := L.v3; have u3 := run_underlying L.t3
 have t9 := L.t9; have a9 := L.a9; have z9 := L.z9; have v9 := L.v9; have u9 := run_underlying L.t9
 have t5 := X.t5; have a5 := X.a5; have z5 := X.z5; have v5 := X.v5; have u5 := run_underlying X.t5
 go_enter L.f169, Body.n169_ntmps ρ
 go_wp2
 go_region_o
 all_goals (go_wp2; go_ret; exact ⟨rfl, rfl⟩)
end
/-- String, of a builder that holds a byte: both of its objects are gone behind it. -/
theorem string_ret (i j nx : Nat) (hi : i < nx) (hj : j < nx) (hij : i ≠ j) (l : List UInt8) (h0 : l ≠ []) : RetX Tryz.prog 51 [.ptr i 0] [(i, .box [.ptr i 0, .vec j l.length]), (j, .vec u8T 1 (bytesR l))] nx
  (fun r o n => r = .val (.u (.str l)) ∧ o = [] ∧ n = nx) := by
 intro k own w vs hsat hhdr hown hrep
 obtain ⟨v, rfl, hv⟩ := one_arg hrep
 obtain ⟨b, c, cs, t, h1, hob, h3, hsz, hcs, hnone⟩ := (hsat.ob i (.box [.ptr i 0, .vec j l.length]) (by simp [getK])).box
 obtain ⟨b', c', h4, rfl⟩ := rep_ptr hv
 rw [h1] at h4
 cases h4
 obtain ⟨hd, xs, g1, hrow, _, _, hxs, hno⟩ := (hsat.ob j (.vec u8T 1 (bytesR l)) (by simp [getK, Ne.symm hij])).vec
 obtain ⟨hd', g2, hv1⟩ := rep_vec (hcs 1 _ rfl).2
 rw [g1] at g2
 cases g2
 rw [bytesR_len] at hrow
 have hl0 : l.length ≠ 0 := by simpa using h0
 rcases hrow.2 with ⟨_, hz⟩ | ⟨g, cap, cur, hhv, _, hg, hnc, hcm, hcsz, htk⟩
 ·exact absurd hz hl0
 have hd1 : hd.1 = some g ∧ hd.2 = cap := by
  simp only [headVal, Value.slice.injEq, Option.map_eq_some_iff] at hhv
  obtain ⟨⟨b, hb, e⟩, _, e2⟩ := hhv
  simp only [Addr.mk.injEq] at e
  exact ⟨by rw [hb, e.1], e2⟩
 have hcell : ∀ (q : Nat) (x : UInt8), l[q]? = some x → w.cell? ⟨g, q, none⟩ = some (.int .u8 x.toNat) := fun q x hq => by
  have h5 := (hxs q [.u (.int .u8 x.toNat)] (by rw [bytesR_map]; simp [hq]) 0 _ rfl).2
  have h6 := rep_int h5
  have hlt : q < xs.length := by rw [hrow.1]; have := (List.getElem?_eq_some_iff.1 hq).1; omega
  have h7 := hrow.cells (g := g) (by rw [hhv]; rfl) q (xs.getD (q * 1 + 0) undef) (by simp [hlt])
  rw [h6] at h7
  rwa [addr_add, Nat.zero_add] at h7
 have hc2 : cs = #[cs.getD 0 undef, .slice (some ⟨g, 0, none⟩) l.length cap] := by
  have e1 : cs.getD 1 undef = .slice (some ⟨g, 0, none⟩) l.length cap := by rw [hv1, hhv]
  apply Array.ext_getElem?
  intro q
  have hs2 : cs.size = 2 := by simpa using hsz
  match q with
  | 0 => simp [show 0 < cs.size by omega]
  | 1 => rw [← e1]; simp [show 1 < cs.size by omega]
  | q + 2 => rw [Array.getElem?_eq_none (by omega), Array.getElem?_eq_none (by simp)]
 rw [hc2] at h3
 refine (string_exact (P := Tryz.prog) (ρ := Tryz.lays169_ren) Tryz.lays169 Tryz.Builder_Extra_169 b g cap _ t l cur w h0 h3 hg hnc hcm hcsz hcell).mono ?_
 rintro e w' ⟨rfl, rfl⟩
 have hog := hno g hd1.1
 have hfz : w.drew.freeze ⟨g, 0, none⟩ l.length = { w.drew with heap := (w.drew.freeze ⟨g, 0, none⟩ l.length).heap } := by
  unfold World.freeze
  rw [if_neg hl0]
 have hheap : ∀ x, x ≠ g → (w.drew.freeze ⟨g, 0, none⟩ l.length).heap[x]? = w.heap[x]? := fun x hx => by
  unfold World.freeze
  rw [if_neg hl0]
  simp only [Array.getElem?_modify]
  rw [if_neg (Ne.symm hx)]
  rfl
 have hsz : (w.drew.freeze ⟨g, 0, none⟩ l.length).heap.size = w.heap.size := by
  unfold World.freeze
  rw [if_neg hl0]
  simp only [Array.size_modify]
  rfl
 refine ⟨.val (.u (.str l)), [], nx, k, ⟨_, rfl, .u _ _ (.str l)⟩, ⟨.refl _, hhdr, fun _ _ _ e => .inl e, hown, by rw [hfz]; rfl, by rw [hfz]; rfl, by rw [hfz]; rfl, by rw [hsz]; exact Nat.le_refl _, fun x hx => hheap x fun e => hx (e ▸ hog.1)⟩,
  ⟨fun x o v hm => ?_, fun j ob hj => by simp [getK] at hj, fun x y ox oy g g' z hx => by simp [getK] at hx⟩, hhdr, Nat.le_refl _, rfl, rfl, rfl⟩
 have hne : x ≠ g := fun e => by rw [e, hog.2 o] at hm; cases hm
 rw [look_heap (hheap x hne)]
 exact hsat.mem x o v hm
/-- A call by value by a contract that keeps all that was there. -/
theorem Fun.ofBelow {P : Program} {f : FuncId} {ds : List D} {u : U} (h : ∀ (k : Kr) (own : Nat → Prop) (w : World) (vs : Array Value), Sat k own [] w → RepL k ds vs → ∃ v, RepU k.mem u v ∧ Calls P f vs w fun e w' => e = .returned v ∧ Below w.heap.size w w') :
  Fun P f ds (· = .u u) := by
 intro k own w vs hsat hhdr hown hrep
 obtain ⟨v, hv, hc⟩ := h k own w vs hsat hrep
 refine hc.mono ?_
 rintro e w' ⟨rfl, hb⟩
 refine ⟨v, .u u, [], 0, k, rfl, ⟨.refl _, fun i hi => hhdr i hi, fun _ _ _ e => .inl e, hown, hb.os, hb.tape, hb.output, hb.size, fun x hx => hb.block x ?_⟩, ⟨fun x o v hm => ?_, fun j ob hj => by simp [getK] at hj, fun x y ox oy g g' z hx => by simp [getK] at hx⟩, hhdr, Nat.le_refl _, .u _ _ hv, by simp [pureD], rfl⟩
 ·rcases Nat.lt_or_ge x w.heap.size with h | h
  ·exact h
  ·exact absurd (hown x h) hx
 ·rw [look_heap (hb.block x (hsat.memLt hm))]
  exact hsat.mem x o v hm
end Go.Proofs.YtkdhmbhbbciedaaGreatDoor
namespace Go.Proofs.YtkdhmbhbbciedaaGreatDoor
open Go Go.VL
attribute [local simp] exS_some hcons hstep evPure opd uOf putOK St.put St.at getK binD binI binS binB nilD aggD eqUs cmpK lookD lookR rangeD rangeS Go.VL.nextD Go.VL.nextS entryD keyD valU keyU lookK mkV entD_nil allUE makeMapD mapUpdD mapEff updK valM Key.kk shiftI arith unD convD pickD loadD cellsAt fieldAddrD fieldD indexAddrD indexSlD arrAddr indexD sliceD cutD lenD minmaxD nilCheckD buildD fillD cellsD isOne ones setAll mkAgg allU allocD boxD storeD St.add buildSliceD appendD rowsOf makeD setOb getK_setOb getK_del getK_cons stripL strip guardTmp entry chunks zcells valD argsV argsW argW argU1 argU0 argsU0 argsU1 calleeOf scalarD scalarU delAll effD St.effS RK_seq RK_seq_ret RK_seq_exit RK_blk RK_blk_ret RK_blk_exit RK_loop RK_loop_ret RK_loop_exit RK_done vs_seq vs_block vs_cond vs_region vs_loop applyW mkD rdIds lentIds callOf calleeOf freeOp D.ids Op.operands Call.operands isEffOp makeIfD makeFuncD typeAssertD conc concs conc1 uOfV panicD IntKind.bits allU2 List.take_of_length_le List.range_succ HR_nil HR_cons HR_grd v2_seq v2_block v2_skip v2_exit v2_ret v2_cond v2_region v2_draw v2_loop RN_0 RN_done RN_seq RN_seq_ret RN_seq_exit RN_blk RN_blk_ret RN_blk_exit RN_loop RN_loop_ret RN_loop_exit Cnd_tf Cnd_ft EndV getK_append frzN frz1 St.frz St.frzS frzS fv fzVec fzMap frzObS frz normD normU norm1 normOb St.norm St.lp St.only keepE wkE wkO wkU Ob.under D.under under_rowsD under_entD H4_nil H4_cons H4_grd h4s resD oneOrTup pureD List.zipIdx_cons List.zipIdx_nil List.map_cons List.map_nil Nat.zero_add
attribute [local irreducible] V G H HD HD2 RunK Eff CallP CallV EndOK Fun Ret FinOK LoopI LoopW EndW HR vs2 RN Cnd H4
inductive Exp where
 | mk (op n unit : Int) (s : List UInt8) (args : List Exp)
 deriving Inhabited
def Exp.row : Exp → List U
 | .mk op n u s args => [.int .i64 op, .int .i64 n, .int .i64 u, .str s, .sl (args.map fun e => e.row)]
def Exp.op : Exp → Int | .mk op _ _ _ _ => op
def Exp.n : Exp → Int | .mk _ n _ _ _ => n
def Exp.unit : Exp → Int | .mk _ _ u _ _ => u
def Exp.s : Exp → List UInt8 | .mk _ _ _ s _ => s
def Exp.args : Exp → List Exp | .mk _ _ _ _ args => args
theorem Exp.row_eq (e : Exp) : e.row = [.int .i64 e.op, .int .i64 e.n, .int .i64 e.unit, .str e.s, .sl (e.args.map Exp.row)] := by
 cases e with
 | mk op n u s args => rw [Exp.row]; rfl
structure Var where
 name : List UInt8
 unit : Int
 n : Int
 deriving DecidableEq, Inhabited
structure Let where
 name : List UInt8
 body : Exp
 deriving Inhabited
def Var.row (v : Var) : List U := [.str v.name, .int .i64 v.unit, .int .i64 v.n]
def Let.row (l : Let) : List U := .str l.name :: l.body.row
def vars (l : List Var) : U := .sl (l.map Var.row)
def lets (l : List Let) : U := .sl (l.map Let.row)
def isLetter (c : UInt8) : Bool := decide (97 ≤ c.toNat) && decide (c.toNat ≤ 122)
def isDigit (c : UInt8) : Bool := decide (48 ≤ c.toNat) && decide (c.toNat ≤ 57)
theorem letter_fun (c : UInt8) : Fun Tryz.prog 154 [.u (.int .u8 c.toNat)] (· = .u (.bool (isLetter c))) := by
 unfold isLetter
 refine Fun.run Tryz.func154 Tryz.ntmps154 Tryz.results154 rfl (by simp) fun Γ hn => ?_
 repeat' (first
  | (refine Cnd.of (fun hc => ?_) (fun hc => ?_) <;> (try (exfalso; omega)) <;> (try simp))
  | (refine V_run rfl ?_; simp)
  | fail)
 all_goals
  (refine Pst.of ?_; simp)
 all_goals first | omega | (simp; omega) | (rw [Bool.eq_iff_iff]; simp; omega)
theorem digit_fun (c : UInt8) : Fun Tryz.prog 157 [.u (.int .u8 c.toNat)] (· = .u (.bool (isDigit c))) := by
 unfold isDigit
 refine Fun.run Tryz.func157 Tryz.ntmps157 Tryz.results157 rfl (by simp) fun Γ hn => ?_
 repeat' (first
  | (refine Cnd.of (fun hc => ?_) (fun hc => ?_) <;> (try (exfalso; omega)) <;> (try simp))
  | (refine V_run rfl ?_; simp)
  | fail)
 all_goals
  (refine Pst.of ?_; simp)
 all_goals first | omega | (simp; omega) | (rw [Bool.eq_iff_iff]; simp; omega)
theorem word1_fun (c : UInt8) : Fun Tryz.prog 156 [.u (.int .u8 c.toNat)] (· = .u (.bool (isLetter c || isDigit c))) := by
 refine Fun.run Tryz.func156 Tryz.ntmps156 Tryz.results156 rfl (by simp) fun Γ hn => ?_
 repeat' (first
  | (refine Cnd.of (fun hc => ?_) (fun hc => ?_) <;> (try (exfalso; omega)) <;> (try simp))
  | (refine V_run rfl ?_; simp)
  | ((first | refine CallP.f2 rfl (letter_fun c) (by first | simp <;> rfl | fail) ?_ | refine CallP.f2 rfl (digit_fun c) (by first | simp <;> rfl | fail) ?_ | fail); simp)
  | fail)
 all_goals
  (refine Pst.of ?_; simp)
 all_goals simp_all
def spanL (p : UInt8 → Bool) (l : List UInt8) : Nat := (l.takeWhile p).length
theorem spanL_at {p : UInt8 → Bool} {l : List UInt8} {i : Nat} (h : ∀ c ∈ l.take i, p c = true) (hi : i ≤ l.length) (he : i = l.length ∨ ∃ c, l[i]? = some c ∧ p c = false) : spanL p l = i := by
 unfold spanL
 induction l generalizing i with
 | nil => simp at hi; simp [hi]
 | cons a l ih =>
  cases i with
  | zero =>
   rcases he with he | ⟨c, h1, h2⟩
   ·simp at he
   ·simp at h1; subst h1; simp [h2]
  | succ i =>
   have ha : p a = true := h a (by simp)
   rw [List.takeWhile_cons, if_pos ha, List.length_cons]
   rw [ih (i := i) (fun c hc => h c (by simp [hc])) (by simpa using hi) (by simpa using he)]
/-- The first place where something holds; -1 without one. -/
def idxP {α : Type} (p : α → Bool) : List α → Int → Int
 | [], _ => -1
 | x :: l, i => if p x = true then i else idxP p l (i + 1)
theorem idxP_at {α : Type} {p : α → Bool} {l : List α} {i : Nat} {x : α} {k : Int} (h : ∀ c ∈ l.take i, p c = false) (hx : l[i]? = some x) (hp : p x = true) : idxP p l k = k + i := by
 induction l generalizing i k with
 | nil => simp at hx
 | cons s l ih =>
  cases i with
  | zero => simp at hx; simp [idxP, hx, hp]
  | succ i =>
   rw [idxP, if_neg (by rw [h s (by simp)]; simp), ih (i := i) (fun c hc => h c (by simp [hc])) (by simpa using hx)]
   omega
theorem idxP_none {α : Type} {p : α → Bool} {l : List α} {k : Int} (h : ∀ c ∈ l, p c = false) : idxP p l k = -1 := by
 induction l generalizing k with
 | nil => rfl
 | cons s l ih => rw [idxP, if_neg (by rw [h s (by simp)]; simp), ih fun c hc => h c (by simp [hc])]
theorem idxP_any {α : Type} (p : α → Bool) (l : List α) : ∀ k : Int, 0 ≤ k → (0 ≤ idxP p l k ↔ l.any p = true) := by
 induction l with
 | nil => intro k hk; simp [idxP]
 | cons s l ih =>
  intro k hk
  by_cases h : p s = true
  ·simp [idxP, h, hk]
  ·rw [idxP, if_neg h, ih (k + 1) (by omega)]
   simp [h]
theorem take_succ_all {α : Type} {p : α → Prop} {l : List α} {i : Nat} {x : α} (hx : l[i]? = some x) (h : ∀ c ∈ l.take i, p c) (hp : p x) : ∀ c ∈ l.take (i + 1), p c := by
 obtain ⟨hi, rfl⟩ := List.getElem?_eq_some_iff.1 hx
 rw [List.take_succ_eq_append_getElem hi]
 intro c hc
 rcases List.mem_append.1 hc with hc | hc
 ·exact h c hc
 ·simp at hc; subst hc; exact hp
theorem span_fun (l : List UInt8) (hl : l.length ≤ 1000000) (f : FuncId) (p : UInt8 → Bool) (hf : ∀ c ∈ l, Fun Tryz.prog f [.u (.int .u8 c.toNat)] (· = .u (.bool (p c)))) (hcl : callable Tryz.prog f = true) :
  Fun Tryz.prog 155 [.u (.str l), .fnc (.func f) []] (· = .u (.int .i64 (spanL p l))) := by
 refine Fun.run Tryz.func155 Tryz.ntmps155 Tryz.results155 rfl (by simp) fun Γ hn => ?_
 repeat' (first
  | (refine V_run rfl ?_; simp)
  | fail)
 refine V_loopF (α := { i : Nat // i ≤ l.length ∧ ∀ c ∈ l.take i, p c = true }) [0, 1] (fun i => [(5, .u (.int .i64 i.1))]) (fun i => l.length - i.1) ⟨0, by omega, by simp⟩ ?_ ?_
 ·exact (Wk.env rfl rfl rfl (by simp [wkE, St.lp, keepE, getK_cons, getK] <;> (try (intros; simp_all; done)) <;> (try (intros; omega)) <;> (try grind)))
 rintro ⟨i, hi, hb⟩
 simp
 rcases hx : l[i]? with _ | c
 ·have hge : l.length ≤ i := by simpa using hx
  repeat' (first
  | (refine Cnd.of (fun hc => ?_) (fun hc => ?_) <;> (try (exfalso; omega)) <;> (try simp [hx]))
  | (refine V_run rfl ?_; simp [hx])
  | fail)
  (refine Pst.of ?_; simp)
  rw [spanL_at hb hi (.inl (by omega))]
 ·have hlt := (List.getElem?_eq_some_iff.1 hx).1
  have h1 := hf c (List.mem_of_getElem? hx)
  repeat' (first
  | (refine Cnd.of (fun hc => ?_) (fun hc => ?_) <;> (try (exfalso; omega)) <;> (try simp [hx]))
  | (refine V_run rfl ?_; simp [hx])
  | (refine And.intro (by omega) ?_)
  | (refine CallP.f2 rfl (h1) (by first | simp [hx] <;> rfl | fail) ?_; simp [hx])
  | fail)
  ·refine LoopW.next ⟨i + 1, by omega, take_succ_all hx hb (by assumption)⟩ (by simp; omega) ?_
   exact (Wk.env rfl rfl rfl (by simp [wkE, St.lp, keepE, getK_cons, getK] <;> (try (intros; simp_all; done)) <;> (try (intros; omega)) <;> (try grind)))
  ·(refine Pst.of ?_; simp)
   rw [spanL_at hb hi (.inr ⟨c, hx, by assumption⟩)]
def wordB (s : List UInt8) : Bool := match s with
 | [] => false
 | c :: _ => isLetter c && decide (s.length ≤ 20) && decide (spanL (fun c => isLetter c || isDigit c) s = s.length)
theorem word_fun (s : List UInt8) : Fun Tryz.prog 126 [.u (.str s)] (· = .u (.bool (wordB s))) := by
 cases s with
 | nil =>
  refine Fun.run Tryz.func126 Tryz.ntmps126 Tryz.results126 rfl (by simp) fun Γ hn => ?_
  repeat' (first
  | (refine V_run rfl ?_; simp)
  | fail)
  all_goals
   (refine Pst.of ?_; simp)
  all_goals simp [wordB]
 | cons c s =>
  by_cases hl : s.length + 1 ≤ 20
  ·have hs := span_fun (c :: s) (by simp; omega) 156 _ (fun c _ => word1_fun c) (by simp)
   refine Fun.run Tryz.func126 Tryz.ntmps126 Tryz.results126 rfl (by simp) fun Γ hn => ?_
   repeat' (first
  | (refine Cnd.of (fun hc => ?_) (fun hc => ?_) <;> (try (exfalso; omega)) <;> (try simp))
  | (refine V_run rfl ?_; simp)
  | ((first | refine CallP.f2 rfl (letter_fun c) (by first | simp <;> rfl | fail) ?_ | refine CallP.f2 rfl (hs) (by first | simp <;> rfl | fail) ?_ | fail); simp)
  | fail)
   all_goals
    (refine Pst.of ?_; simp)
   all_goals
    simp [wordB, *]
    try omega
  ·refine Fun.run Tryz.func126 Tryz.ntmps126 Tryz.results126 rfl (by simp) fun Γ hn => ?_
   repeat' (first
  | (refine Cnd.of (fun hc => ?_) (fun hc => ?_) <;> (try (exfalso; omega)) <;> (try simp))
  | (refine V_run rfl ?_; simp)
  | (refine CallP.f2 rfl (letter_fun c) (by first | simp <;> rfl | fail) ?_; simp)
  | fail)
   all_goals
    (refine Pst.of ?_; simp)
   all_goals
    simp [wordB, *]
    try omega
def strs (l : List (List UInt8)) : U := .sl (l.map fun s => [.str s])
def idxS : List (List UInt8) → List UInt8 → Int → Int
 | [], _, _ => -1
 | s :: l, x, i => if x = s then i else idxS l x (i + 1)
theorem idxS_at {l : List (List UInt8)} {x : List UInt8} {i : Nat} {k : Int} (h : ∀ c ∈ l.take i, ¬ x = c) (hx : l[i]? = some x) : idxS l x k = k + i := by
 induction l generalizing i k with
 | nil => simp at hx
 | cons s l ih =>
  cases i with
  | zero => simp at hx; simp [idxS, hx]
  | succ i =>
   rw [idxS, if_neg (h s (by simp)), ih (i := i) (fun c hc => h c (by simp [hc])) (by simpa using hx)]
   omega
theorem idxS_none {l : List (List UInt8)} {x : List UInt8} {k : Int} (h : ∀ c ∈ l, ¬ x = c) : idxS l x k = -1 := by
 induction l generalizing k with
 | nil => rfl
 | cons s l ih => rw [idxS, if_neg (h s (by simp)), ih fun c hc => h c (by simp [hc])]
theorem indexS_fun (l : List (List UInt8)) (x : List UInt8) : Fun Tryz.prog 44 [.u (strs l), .u (.str x)] (· = .u (.int .i64 (idxS l x 0))) := by
 refine Fun.run Tryz.func44 Tryz.ntmps44 Tryz.results44 rfl (by simp) fun Γ hn => ?_; simp only [entry, List.zipIdx_cons, List.zipIdx_nil, List.map_cons, List.map_nil, Nat.zero_add]
 simp only [strs]
 refine V_len (x := 0) rfl fun hl => ?_
 simp at hl
 repeat' (first
  | (refine V_run rfl ?_; simp)
  | fail)
 refine V_loopF (α := { i : Nat // i ≤ l.length ∧ ∀ c ∈ l.take i, ¬ x = c }) [0, 1, 7] (fun i => [(8, .u (.int .i64 i.1))]) (fun i => l.length - i.1) ⟨0, by omega, by simp⟩ ?_ ?_
 ·exact (Wk.env rfl rfl rfl (by simp [wkE, St.lp, keepE, getK_cons, getK] <;> (try (intros; simp_all; done)) <;> (try (intros; omega)) <;> (try grind)))
 rintro ⟨i, hi, hb⟩
 simp
 rcases hx : l[i]? with _ | c
 ·have hge : l.length ≤ i := by simpa using hx
  repeat' (first
  | (refine Cnd.of (fun hc => ?_) (fun hc => ?_) <;> (try (exfalso; omega)) <;> (try simp [hx]))
  | (refine V_run rfl ?_; simp [hx])
  | fail)
  (refine Pst.of ?_; simp)
  rw [List.take_of_length_le hge] at hb
  exact (idxS_none hb).symm
 ·have hlt := (List.getElem?_eq_some_iff.1 hx).1
  by_cases hxc : x = c
  ·subst hxc
   repeat' (first
  | (refine Cnd.of (fun hc => ?_) (fun hc => ?_) <;> (try (exfalso; omega)) <;> (try simp [hx]))
  | (refine V_run rfl ?_; simp [hx])
  | fail)
   (refine Pst.of ?_; simp)
   rw [idxS_at hb hx]
   omega
  ·repeat' (first
  | (refine Cnd.of (fun hc => ?_) (fun hc => ?_) <;> (try (exfalso; omega)) <;> (try simp [hx, hxc]))
  | (refine V_run rfl ?_; simp [hx, hxc])
  | (refine And.intro (by omega) ?_)
  | fail)
   refine LoopW.next ⟨i + 1, by omega, take_succ_all hx hb hxc⟩ (by simp; omega) ?_
   exact (Wk.env rfl rfl rfl (by simp [wkE, St.lp, keepE, getK_cons, getK] <;> (try (intros; simp_all; done)) <;> (try (intros; omega)) <;> (try grind)))
theorem idxS_any (l : List (List UInt8)) (x : List UInt8) : ∀ k : Int, 0 ≤ k → decide (0 ≤ idxS l x k) = l.contains x := by
 induction l with
 | nil => intro k hk; simp [idxS]
 | cons s l ih =>
  intro k hk
  by_cases h : x = s
  ·subst h; simp [idxS, hk]
  ·rw [idxS, if_neg h, ih (k + 1) (by omega)]
   simp [h]
theorem containsS_fun (l : List (List UInt8)) (x : List UInt8) : Fun Tryz.prog 127 [.u (strs l), .u (.str x)] (· = .u (.bool (l.contains x))) := by
 have h1 := indexS_fun l x
 refine Fun.run Tryz.func127 Tryz.ntmps127 Tryz.results127 rfl (by simp) fun Γ hn => ?_; simp only [entry, List.zipIdx_cons, List.zipIdx_nil, List.map_cons, List.map_nil, Nat.zero_add]
 simp only [strs] at h1 ⊢
 repeat' (first
  | (refine V_run rfl ?_; simp)
  | (refine CallP.f2 rfl (h1) (by first | simp <;> rfl | fail) ?_; simp)
  | fail)
 (refine Pst.of ?_; simp)
 have h2 := idxS_any l x 0 (by omega)
 simpa using h2
def words : List (List UInt8) := [[97, 110, 100], [98, 97, 99, 107, 115], [98, 105, 100, 100, 105, 110, 103], [99, 105, 114, 99, 108, 101], [99, 111, 105, 110, 115], [99, 111, 118, 101, 114], [100, 97, 121, 115], [100, 114, 97, 119], [100, 117, 101], [101, 108, 115, 101], [102, 97, 108, 115, 101], [102, 105, 110, 101], [102, 117, 110, 100], [103, 114, 97, 99, 101], [104, 111, 108, 100], [105, 102], [106, 111, 105, 110], [106, 117, 114, 121], [108, 101, 116], [109, 97, 120], [109, 105, 108, 108, 101], [109, 105, 110], [110, 101, 101, 100], [110, 111, 116], [111, 114], [111, 114, 100, 101, 114], [112, 97, 121], [112, 101, 114], [114, 111, 116, 97, 116, 105, 110, 103], [115, 97, 118, 105, 110, 103], [115, 101, 97, 108, 101, 100], [116, 104, 101, 110], [116, 114, 117, 101], [118, 111, 105, 99, 101, 115], [119, 97, 105, 116]]
set_option maxHeartbeats 4000000 in
set_option maxRecDepth 100000 in
theorem reserved_fun : Fun Tryz.prog 128 [] (· = .u (strs words)) := by
 refine Fun.runW Tryz.func128 Tryz.ntmps128 rfl (by simp) fun Γ hn => ?_; simp only [entry, List.zipIdx_cons, List.zipIdx_nil, List.map_cons, List.map_nil, Nat.zero_add]
 simp only [strs, words, List.map_cons, List.map_nil]
 repeat' (first
  | (refine V_run rfl ?_; simp [zcells, chunks])
  | fail)
 (refine EndW.frzN 1 ?_; simp [del])
 refine EndW.here ?_
 (refine EndOK.val (.inr rfl) ?_; simp [Tryz.results128])
def lagg (l : Let) : D := .u (.agg [.str l.name, .int .i64 l.body.op, .int .i64 l.body.n, .int .i64 l.body.unit, .str l.body.s, .sl (l.body.args.map Exp.row)])
def letsU (l : List Let) : U := .sl (l.map fun l => [.str l.name, .int .i64 l.body.op, .int .i64 l.body.n, .int .i64 l.body.unit, .str l.body.s, .sl (l.body.args.map Exp.row)])
theorem indexL_fun (l : List (Let)) (f : FuncId) (caps : List U) (p : Let → Bool) (hf : ∀ n ∈ l, Fun Tryz.prog f (lagg n :: caps.map .u) (· = .u (.bool (p n)))) (hcl : callable Tryz.prog f = true)
  (hca : ∀ o, argsW o (caps.map .u) = some (caps.map .u, [])) : Fun Tryz.prog 65 [.u (letsU l), .fnc (.func f) (caps.map .u)] (· = .u (.int .i64 (idxP p l 0))) := by
 refine Fun.run Tryz.func65 Tryz.ntmps65 Tryz.results65 rfl (by simp) fun Γ hn => ?_; simp only [entry, List.zipIdx_cons, List.zipIdx_nil, List.map_cons, List.map_nil, Nat.zero_add]
 simp only [letsU]
 refine V_len (x := 0) rfl fun hl => ?_
 simp at hl
 repeat' (first
  | (refine V_run rfl ?_; simp)
  | fail)
 refine V_loopF (α := { i : Nat // i ≤ l.length ∧ ∀ c ∈ l.take i, p c = false }) [0, 1, 7] (fun i => [(8, .u (.int .i64 i.1))]) (fun i => l.length - i.1) ⟨0, by omega, by simp⟩ ?_ ?_
 ·exact (Wk.env rfl rfl rfl (by simp [wkE, St.lp, keepE, getK_cons, getK] <;> (try (intros; simp_all; done)) <;> (try (intros; omega)) <;> (try grind)))
 rintro ⟨i, hi, hb⟩
 simp
 rcases hx : l[i]? with _ | n
 ·have hge : l.length ≤ i := by simpa using hx
  repeat' (first
  | (refine Cnd.of (fun hc => ?_) (fun hc => ?_) <;> (try (exfalso; omega)) <;> (try simp [hx]))
  | (refine V_run rfl ?_; simp [hx])
  | fail)
  (refine Pst.of ?_; simp)
  rw [List.take_of_length_le hge] at hb
  exact (idxP_none hb).symm
 ·have hlt : i < l.length := (List.getElem?_eq_some_iff.1 hx).1
  have h1 := hf n (List.mem_of_getElem? hx)
  simp only [lagg] at h1
  cases hp : p n
  ·rw [hp] at h1
   repeat' (first
  | (refine Cnd.of (fun hc => ?_) (fun hc => ?_) <;> (try (exfalso; omega)) <;> (try simp [hx, hca]))
  | (refine V_run rfl ?_; simp [hx, hca])
  | (refine And.intro (by omega) ?_)
  | (refine CallP.f2 rfl (h1) (by first | simp [hx, hca] <;> rfl | fail) ?_; simp [hx, hca])
  | fail)
   refine LoopW.next ⟨i + 1, by omega, take_succ_all hx hb hp⟩ (by simp; omega) ?_
   exact (Wk.env rfl rfl rfl (by simp [wkE, St.lp, keepE, getK_cons, getK] <;> (try (intros; simp_all; done)) <;> (try (intros; omega)) <;> (try grind)))
  ·rw [hp] at h1
   repeat' (first
  | (refine Cnd.of (fun hc => ?_) (fun hc => ?_) <;> (try (exfalso; omega)) <;> (try simp [hx, hca]))
  | (refine V_run rfl ?_; simp [hx, hca])
  | (refine And.intro (by omega) ?_)
  | (refine CallP.f2 rfl (h1) (by first | simp [hx, hca] <;> rfl | fail) ?_; simp [hx, hca])
  | fail)
   (refine Pst.of ?_; simp)
   rw [idxP_at hb hx hp]
   omega
theorem containsL_fun (l : List (Let)) (f : FuncId) (caps : List U) (p : Let → Bool) (hf : ∀ n ∈ l, Fun Tryz.prog f (lagg n :: caps.map .u) (· = .u (.bool (p n)))) (hcl : callable Tryz.prog f = true)
  (hca : ∀ o, argsW o (caps.map .u) = some (caps.map .u, [])) (hcb : ∀ o, argsU1 o (caps.map .u) = some (caps, [])) : Fun Tryz.prog 34 [.u (letsU l), .fnc (.func f) (caps.map .u)] (· = .u (.bool (l.any p))) := by
 have h1 := indexL_fun l f caps p hf hcl hca
 refine Fun.run Tryz.func34 Tryz.ntmps34 Tryz.results34 rfl (by simp) fun Γ hn => ?_; simp only [entry, List.zipIdx_cons, List.zipIdx_nil, List.map_cons, List.map_nil, Nat.zero_add]
 simp only [letsU] at h1 ⊢
 repeat' (first
  | (refine V_run rfl ?_; simp [hcb])
  | (refine CallP.f2 rfl (h1) (by first | simp [hcb] <;> rfl | fail) ?_; simp [hcb])
  | fail)
 (refine Pst.of ?_; simp)
 have h2 := idxP_any p l 0 (by omega)
 rw [Bool.eq_iff_iff]
 simpa using h2
def ints (l : List Int) : U := .sl (l.map fun n => [.int .i64 n])
end Go.Proofs.YtkdhmbhbbciedaaGreatDoor
namespace Go.Proofs.YtkdhmbhbbciedaaGreatDoor.Vm
open Go Go.VL
attribute [local simp] exS_some hcons hstep evPure opd uOf putOK St.put St.at getK binD binI binS binB nilD aggD eqUs cmpK lookD lookR rangeD rangeS Go.VL.nextD Go.VL.nextS entryD keyD valU keyU lookK mkV entD_nil allUE makeMapD mapUpdD mapEff updK valM Key.kk shiftI arith unD convD pickD loadD cellsAt fieldAddrD fieldD indexAddrD indexSlD arrAddr indexD sliceD cutD lenD minmaxD nilCheckD buildD fillD cellsD isOne ones setAll mkAgg allU allocD boxD storeD St.add buildSliceD appendD rowsOf makeD setOb getK_setOb getK_del getK_cons stripL strip guardTmp entry chunks zcells valD argsV argsW argW argU1 argU0 argsU0 argsU1 calleeOf scalarD scalarU delAll effD St.effS RK_seq RK_seq_ret RK_seq_exit RK_blk RK_blk_ret RK_blk_exit RK_loop RK_loop_ret RK_loop_exit RK_done vs_seq vs_block vs_cond vs_region vs_loop applyW mkD rdIds lentIds callOf calleeOf freeOp D.ids Op.operands Call.operands isEffOp makeIfD makeFuncD typeAssertD conc concs conc1 uOfV panicD IntKind.bits allU2 List.take_of_length_le List.range_succ HR_nil HR_cons HR_grd v2_seq v2_block v2_skip v2_exit v2_ret v2_cond v2_region v2_draw v2_loop RN_0 RN_done RN_seq RN_seq_ret RN_seq_exit RN_blk RN_blk_ret RN_blk_exit RN_loop RN_loop_ret RN_loop_exit Cnd_tf Cnd_ft EndV getK_append frzN frz1 St.frz St.frzS frzS fv fzVec fzMap frzObS frz normD normU norm1 normOb St.norm St.lp St.only keepE wkE wkO wkU Ob.under D.under under_rowsD under_entD H4_nil H4_cons H4_grd h4s resD oneOrTup pureD List.zipIdx_cons List.zipIdx_nil List.map_cons List.map_nil Nat.zero_add
attribute [local irreducible] V G H HD HD2 RunK Eff CallP CallV EndOK Fun Ret FinOK LoopI LoopW EndW HR vs2 RN Cnd H4
theorem within_fun (n : Int) : Fun Tryz.prog 96 [.u (.int .i64 n)] (· = .u (.bool (decide (-1099511627776 ≤ n ∧ n ≤ 1099511627776)))) := by
 refine Fun.run Tryz.func96 Tryz.ntmps96 Tryz.results96 rfl (by simp) fun Γ hn => ?_
 repeat' (first
  | (refine Cnd.of (fun hc => ?_) (fun hc => ?_) <;> (try (exfalso; omega)) <;> (try simp))
  | (refine V_run rfl ?_; simp)
  | fail)
 all_goals
 (refine Pst.of ?_; simp)
 all_goals omega
theorem floor_fun (a b : Int) (hb : b ≠ 0) (ha : -1099511627776 ≤ a) (ha2 : a ≤ 1099511627776) : Fun Tryz.prog 137 [.u (.int .i64 a), .u (.int .i64 b)] (· = .u (.int .i64 (a.fdiv b))) := by
 have h1 := Pm.tdiv_le a b ha ha2
 refine Fun.run Tryz.func137 Tryz.ntmps137 Tryz.results137 rfl (by simp) fun Γ hn => ?_
 repeat' (first
  | (refine Cnd.of (fun hc => ?_) (fun hc => ?_) <;> (try (exfalso; omega)) <;> (try simp))
  | (refine V_run rfl ?_; simp)
  | (refine And.intro (by omega) ?_)
  | fail)
 all_goals
 (refine Pst.of ?_; simp)
 all_goals rw [Pm.floor_eq a b hb]
 all_goals split <;> omega
theorem truth_fun (b : Bool) : Fun Tryz.prog 101 [.u (.bool b)] (· = .u (.int .i64 (if b then 1 else 0))) := by
 refine Fun.run Tryz.func101 Tryz.ntmps101 Tryz.results101 rfl (by simp) fun Γ hn => ?_
 repeat' (first
  | (refine Cnd.of (fun hc => ?_) (fun hc => ?_) <;> (try (exfalso; omega)) <;> (try simp))
  | (refine V_run rfl ?_; simp)
  | fail)
 all_goals
 (refine Pst.of ?_; simp)
 all_goals simp_all
def needs (n : Int) : Int := if n = 0 ∨ n = 1 ∨ n = 12 then 0 else if n = 11 ∨ n = 13 ∨ n = 14 then 1 else 2
theorem needs_fun (n : Int) : Fun Tryz.prog 93 [.u (.int .i64 n)] (· = .u (.int .i64 (needs n))) := by
 refine Fun.run Tryz.func93 Tryz.ntmps93 Tryz.results93 rfl (by simp) fun Γ hn => ?_
 repeat' (first
  | (refine Cnd.of (fun hc => ?_) (fun hc => ?_) <;> (try (exfalso; omega)) <;> (try simp))
  | (refine V_run rfl ?_; simp)
  | fail)
 all_goals
 (refine Pst.of ?_; simp)
 all_goals (unfold needs; simp_all)
theorem mul64_fun (x y : Int) (hx : 0 ≤ x) (hx' : x ≤ 1099511627776) (hy : 0 ≤ y) (hy' : y ≤ 1099511627776) : Fun Tryz.prog 164 [.u (.int .u64 x), .u (.int .u64 y)]
  (· = .tup [.u (.int .u64 (x * y / 18446744073709551616)), .u (.int .u64 (x * y % 18446744073709551616))]) := by
 refine Fun.run Tryz.func164 Tryz.ntmps164 Tryz.results164 rfl (by simp) fun Γ hn => ?_
 repeat' (first
  | (refine V_run rfl ?_; simp)
  | fail)
 all_goals
 (refine Pst.of ?_; simp)
 exact Pm.mul_hi x y hx hx' hy hy'
set_option maxRecDepth 100000 in
theorem len64_1000 : Fun Tryz.prog 185 [.u (.int .u64 1000)] (· = .u (.int .i64 10)) := by
 refine Fun.run Tryz.func185 Tryz.ntmps185 Tryz.results185 rfl (by simp) fun Γ hn => ?_
 repeat' (first
  | (refine V_run rfl ?_; simp)
  | fail)
 (refine Pst.of ?_; simp)
theorem lz64_1000 : Fun Tryz.prog 179 [.u (.int .u64 1000)] (· = .u (.int .i64 54)) := by
 refine Fun.run Tryz.func179 Tryz.ntmps179 Tryz.results179 rfl (by simp) fun Γ hn => ?_
 repeat' (first
  | (refine V_run rfl ?_; simp)
  | fail)
 (first | (refine CallV.fun_ (len64_1000) (by first | rfl | fail) (by first | assumption | (simp; done) | fail) (by first | (simp; done) | (simp; rfl) | fail) (by first | (simp; done) | fail) ?_ <;> (try simp)) | (refine CallP.fun_ (len64_1000) (by first | rfl | fail) (by first | assumption | (simp; done) | fail) (by first | (simp; done) | (simp; rfl) | fail) (by first | (simp; done) | fail) (fun d hd => ?_); subst hd; (try simp)))
 repeat' (first | fail)
 (refine Pst.of ?_; simp)
theorem div64_zero (x y : Int) (hx : 0 ≤ x) (hx' : x < 18446744073709551616) (hy : 0 < y) (hy' : y < 18446744073709551616) :
  Fun Tryz.prog 165 [.u (.int .u64 0), .u (.int .u64 x), .u (.int .u64 y)] (· = .tup [.u (.int .u64 (x / y)), .u (.int .u64 (x % y))]) := by
 refine Fun.run Tryz.func165 Tryz.ntmps165 Tryz.results165 rfl (by simp) fun Γ hn => ?_
 repeat' (first
  | (refine Cnd.of (fun hc => ?_) (fun hc => ?_) <;> (try (exfalso; omega)) <;> (try simp))
  | (refine V_run rfl ?_; simp)
  | (refine And.intro (by omega) ?_)
  | (refine ⟨hC _ (by kernel_rfl), hk _ (RN_K 8 _ _ _ ?_)⟩; clear hC hk C k; simp)
  | (refine V_dx rfl (by kernel_rfl) (by first | (simp [hn]; done) | (simp [hn]; omega) | fail) fun C k hC hk => ?_; simp)
  | fail)
 all_goals
 (refine Pst.of ?_; simp)
 rw [Int.tdiv_eq_ediv_of_nonneg hx, Int.tmod_eq_emod_of_nonneg hx]
 refine ⟨?_, rfl⟩
 have h1 := Int.ediv_nonneg hx (Int.le_of_lt hy)
 have h2 := Int.ediv_le_self y hx
 omega
theorem div64_1000 (h x : Int) (hh : 0 < h) (hh' : h < 1000) (hx : 0 ≤ x) (hx' : x < 18446744073709551616) :
  Fun Tryz.prog 165 [.u (.int .u64 h), .u (.int .u64 x), .u (.int .u64 1000)]
   (· = .tup [.u (.int .u64 ((h * 18446744073709551616 + x) / 1000)), .u (.int .u64 ((h * 18446744073709551616 + x) % 1000))]) := by
 have e1 : bitOr .u64 (h * 18014398509481984 % 18446744073709551616) (x / 1024) = h * 18014398509481984 + x / 1024 := by
  rw [show h * 18014398509481984 % 18446744073709551616 = h * 2 ^ 54 by omega]
  rw [Pm.or_add h (x / 1024) 54 (by omega) (by omega) (by omega) (by omega)]
  omega
 have e2 : bitAnd .u64 (x * 18014398509481984 % 18446744073709551616) 4294967295 = 0 := by
  rw [Pm.and_mask32 _ (by omega) (by omega)]
  omega
 have e3 : bitAnd .u64 18014398509481984000 4294967295 = 0 := by
  rw [Pm.and_mask32 _ (by omega) (by omega)]
  rfl
 have t1 : (h * 18014398509481984 + x / 1024).tdiv 4194304000 % 18446744073709551616 = (h * 18014398509481984 + x / 1024) / 4194304000 := by
  rw [Int.tdiv_eq_ediv_of_nonneg (by omega)]
  omega
 have t2 : ((h * 18014398509481984 + x / 1024) * 4294967296 + x * 18014398509481984 % 18446744073709551616 / 4294967296 -
   (h * 18014398509481984 + x / 1024) / 4194304000 * 18014398509481984000) % 18446744073709551616 =
   (h * 18014398509481984 + x / 1024) % 4194304000 * 4294967296 + x % 1024 * 4194304 := by omega
 have t3 : ((h * 18014398509481984 + x / 1024) % 4194304000 * 4294967296 + x % 1024 * 4194304).tdiv 4194304000 =
   ((h * 18014398509481984 + x / 1024) % 4194304000 * 4294967296 + x % 1024 * 4194304) / 4194304000 := Int.tdiv_eq_ediv_of_nonneg (by omega)
 have t3' : ((h * 18014398509481984 + x / 1024) % 4194304000 * 4294967296 + x % 1024 * 4194304) / 4194304000 % 18446744073709551616 =
   ((h * 18014398509481984 + x / 1024) % 4194304000 * 4294967296 + x % 1024 * 4194304) / 4194304000 := by omega
 have t4 : (h * 18014398509481984 + x / 1024) % 4194304000 * 4294967296 + x % 1024 * 4194304 =
   (h * 18446744073709551616 + x) % 4294967296000 * 4194304 := by omega
 have t5 : (h * 18014398509481984 + x / 1024) / 4194304000 = (h * 18446744073709551616 + x) / 4294967296000 := by omega
 have t6 : ∀ z : Int, 0 ≤ z → z < 18446744073709551616000 → (z / 4294967296000 * 4294967296 + z % 4294967296000 * 4194304 / 4194304000) % 18446744073709551616 = z / 1000 := by omega
 refine Fun.run Tryz.func165 Tryz.ntmps165 Tryz.results165 rfl (by simp) fun Γ hn => ?_
 repeat' (first
  | (refine Cnd.of (fun hc => ?_) (fun hc => ?_) <;> (try (exfalso; omega)) <;> (try simp [e1, e2, e3, t1, t2, t3, t3']))
  | (refine V_run rfl ?_; simp [e1, e2, e3, t1, t2, t3, t3'])
  | fail)
 (first | (refine CallV.fun_ (lz64_1000) (by first | rfl | fail) (by first | assumption | (simp; done) | fail) (by first | (simp; done) | (simp; rfl) | fail) (by first | (simp; done) | fail) ?_ <;> (try simp)) | (refine CallP.fun_ (lz64_1000) (by first | rfl | fail) (by first | assumption | (simp; done) | fail) (by first | (simp; done) | (simp; rfl) | fail) (by first | (simp; done) | fail) (fun d hd => ?_); subst hd; (try simp)))
 repeat' (first
  | (refine Cnd.of (fun hc => ?_) (fun hc => ?_) <;> (try (exfalso; omega)) <;> (try simp [e1, e2, e3, t1, t2, t3, t3']))
  | (refine V_once ?_)
  | (refine V_run rfl ?_; simp [e1, e2, e3, t1, t2, t3, t3'])
  | fail)
 all_goals
 (refine Pst.of ?_; simp)
 rw [t5, t4]
 refine ⟨t6 _ (by omega) (by omega), ?_⟩
 generalize h * 18446744073709551616 + x = z at *
 omega
end Go.Proofs.YtkdhmbhbbciedaaGreatDoor.Vm
namespace Go.Pm
/-- a * b / c, rounded down, if that is not too great. -/
def over (x y c : Int) : Int := if 1099511627776 < (x.natAbs * y.natAbs : Int) / c then 1099511627777 else x * y / c
theorem abs_mul (x y : Int) : x * y = if (x < 0 ↔ y < 0) then (x.natAbs * y.natAbs : Int) else -(x.natAbs * y.natAbs : Int) := by
 rcases Int.lt_or_le x 0 with hx | hx <;> rcases Int.lt_or_le y 0 with hy | hy
 ·have e1 : (x.natAbs : Int) = -x := by omega
  have e2 : (y.natAbs : Int) = -y := by omega
  simp [hx, hy, e1, e2, Int.neg_mul_neg]
 ·have e1 : (x.natAbs : Int) = -x := by omega
  have e2 : (y.natAbs : Int) = y := by omega
  simp [hx, Int.not_lt.2 hy, e1, e2, Int.neg_mul]
 ·have e1 : (x.natAbs : Int) = x := by omega
  have e2 : (y.natAbs : Int) = -y := by omega
  simp [hy, Int.not_lt.2 hx, e1, e2, Int.mul_neg]
 ·have e1 : (x.natAbs : Int) = x := by omega
  have e2 : (y.natAbs : Int) = y := by omega
  simp [Int.not_lt.2 hx, Int.not_lt.2 hy, e1, e2]
end Go.Pm
namespace Go.Proofs.YtkdhmbhbbciedaaGreatDoor.Vm
open Go Go.VL
attribute [local simp] exS_some hcons hstep evPure opd uOf putOK St.put St.at getK binD binI binS binB nilD aggD eqUs cmpK lookD lookR rangeD rangeS Go.VL.nextD Go.VL.nextS entryD keyD valU keyU lookK mkV entD_nil allUE makeMapD mapUpdD mapEff updK valM Key.kk shiftI arith unD convD pickD loadD cellsAt fieldAddrD fieldD indexAddrD indexSlD arrAddr indexD sliceD cutD lenD minmaxD nilCheckD buildD fillD cellsD isOne ones setAll mkAgg allU allocD boxD storeD St.add buildSliceD appendD rowsOf makeD setOb getK_setOb getK_del getK_cons stripL strip guardTmp entry chunks zcells valD argsV argsW argW argU1 argU0 argsU0 argsU1 calleeOf scalarD scalarU delAll effD St.effS RK_seq RK_seq_ret RK_seq_exit RK_blk RK_blk_ret RK_blk_exit RK_loop RK_loop_ret RK_loop_exit RK_done vs_seq vs_block vs_cond vs_region vs_loop applyW mkD rdIds lentIds callOf calleeOf freeOp D.ids Op.operands Call.operands isEffOp makeIfD makeFuncD typeAssertD conc concs conc1 uOfV panicD IntKind.bits allU2 List.take_of_length_le List.range_succ HR_nil HR_cons HR_grd v2_seq v2_block v2_skip v2_exit v2_ret v2_cond v2_region v2_draw v2_loop RN_0 RN_done RN_seq RN_seq_ret RN_seq_exit RN_blk RN_blk_ret RN_blk_exit RN_loop RN_loop_ret RN_loop_exit Cnd_tf Cnd_ft EndV getK_append frzN frz1 St.frz St.frzS frzS fv fzVec fzMap frzObS frz normD normU norm1 normOb St.norm St.lp St.only keepE wkE wkO wkU Ob.under D.under under_rowsD under_entD H4_nil H4_cons H4_grd h4s resD oneOrTup pureD List.zipIdx_cons List.zipIdx_nil List.map_cons List.map_nil Nat.zero_add
attribute [local irreducible] V G H HD HD2 RunK Eff CallP CallV EndOK Fun Ret FinOK LoopI LoopW EndW HR vs2 RN Cnd H4
theorem mul64_fun' (x y m : Int) (hx : 0 ≤ x) (hx' : x ≤ 1099511627776) (hy : 0 ≤ y) (hy' : y ≤ 1099511627776) (hm : x * y = m) : Fun Tryz.prog 164 [.u (.int .u64 x), .u (.int .u64 y)]
  (· = .tup [.u (.int .u64 (m / 18446744073709551616)), .u (.int .u64 (m % 18446744073709551616))]) := by
 subst hm
 exact mul64_fun x y hx hx' hy hy'
theorem div64_fun (m c : Int) (hm : 0 ≤ m) (hm' : m ≤ 1208925819614629174706176) (hc : c = 1 ∨ c = 1000) (hh : m / 18446744073709551616 < c) :
  Fun Tryz.prog 165 [.u (.int .u64 (m / 18446744073709551616)), .u (.int .u64 (m % 18446744073709551616)), .u (.int .u64 c)]
   (· = .tup [.u (.int .u64 (m / c)), .u (.int .u64 (m % c))]) := by
 by_cases h0 : m / 18446744073709551616 = 0
 ·rw [h0]
  have e : m % 18446744073709551616 = m := by omega
  rw [e]
  exact div64_zero m c hm (by omega) (by omega) (by omega)
 ·obtain rfl : c = 1000 := by omega
  have h := div64_1000 (m / 18446744073709551616) (m % 18446744073709551616) (by omega) (by omega) (by omega) (by omega)
  have e : m / 18446744073709551616 * 18446744073709551616 + m % 18446744073709551616 = m := by omega
  rw [e] at h
  exact h
theorem over_fun (x y c : Int) (hx : -1099511627776 ≤ x ∧ x ≤ 1099511627776) (hy : -1099511627776 ≤ y ∧ y ≤ 1099511627776) (hcc : c = 1 ∨ c = 1000) :
  Fun Tryz.prog 136 [.u (.int .i64 x), .u (.int .i64 y), .u (.int .i64 c)] (· = .u (.int .i64 (Pm.over x y c))) := by
 obtain ⟨m, hm⟩ : ∃ m : Int, m = (x.natAbs : Int) * (y.natAbs : Int) := ⟨_, rfl⟩
 have hm0 : 0 ≤ m := by rw [hm]; exact Int.mul_nonneg (by omega) (by omega)
 have hm1 : m ≤ 1208925819614629174706176 := by
  rw [hm]
  have := Int.mul_le_mul (a := (x.natAbs : Int)) (b := (y.natAbs : Int)) (c := 1099511627776) (d := 1099511627776) (by omega) (by omega) (by omega) (by omega)
  exact this
 have e1 : max x (-x) % 18446744073709551616 = (x.natAbs : Int) := by omega
 have e2 : max y (-y) % 18446744073709551616 = (y.natAbs : Int) := by omega
 have e3 : c % 18446744073709551616 = c := by omega
 have hq0 : 0 ≤ m / c ∧ m / c ≤ 1208925819614629174706176 := by rcases hcc with rfl | rfl <;> omega
 have hr0 : 0 ≤ m % c ∧ m % c < 1000 := by rcases hcc with rfl | rfl <;> omega
 have hov : Pm.over x y c = if 1099511627776 < m / c then 1099511627777 else if (x < 0 ↔ y < 0) then m / c else -m / c := by
  rw [Pm.over, ← hm]
  split
  ·rfl
  ·rw [Pm.abs_mul x y, ← hm]
   split <;> rfl
 refine Fun.run Tryz.func136 Tryz.ntmps136 Tryz.results136 rfl (by simp) fun Γ hn => ?_
 repeat' (first
  | (refine V_run rfl ?_; simp [e1, e2, e3])
  | (refine And.intro (by omega) ?_)
  | fail)
 (first | (refine CallV.fun_ (mul64_fun' (x.natAbs : Int) (y.natAbs : Int) m (by omega) (by omega) (by omega) (by omega) hm.symm) (by first | rfl | fail) (by first | assumption | (simp; done) | fail) (by first | (simp; done) | (simp; rfl) | fail) (by first | (simp; done) | fail) ?_ <;> (try simp)) | (refine CallP.fun_ (mul64_fun' (x.natAbs : Int) (y.natAbs : Int) m (by omega) (by omega) (by omega) (by omega) hm.symm) (by first | rfl | fail) (by first | assumption | (simp; done) | fail) (by first | (simp; done) | (simp; rfl) | fail) (by first | (simp; done) | fail) (fun d hd => ?_); subst hd; (try simp)))
 repeat' (first
  | (refine Cnd.of (fun hc => ?_) (fun hc => ?_) <;> (try (exfalso; omega)) <;> (try simp [e1, e2, e3]))
  | fail)
 ·(refine Pst.of ?_; simp)
  rw [hov]
  rcases hcc with rfl | rfl <;> split <;> omega
 (first | (refine CallV.fun_ (div64_fun m c hm0 hm1 hcc (by omega)) (by first | rfl | fail) (by first | assumption | (simp; done) | fail) (by first | (simp; done) | (simp; rfl) | fail) (by first | (simp; done) | fail) ?_ <;> (try simp)) | (refine CallP.fun_ (div64_fun m c hm0 hm1 hcc (by omega)) (by first | rfl | fail) (by first | assumption | (simp; done) | fail) (by first | (simp; done) | (simp; rfl) | fail) (by first | (simp; done) | fail) (fun d hd => ?_); subst hd; (try simp)))
 repeat' (first
  | (refine Cnd.of (fun hc => ?_) (fun hc => ?_) <;> (try (exfalso; omega)) <;> (try simp [e1, e2, e3]))
  | (refine V_run rfl ?_; simp [e1, e2, e3])
  | (refine And.intro (by omega) ?_)
  | fail)
 all_goals
  (refine Pst.of ?_; simp)
  rw [hov]
  rcases hcc with rfl | rfl
 all_goals try omega
 all_goals
  rw [if_neg (by omega)]
  split <;> omega
end Go.Proofs.YtkdhmbhbbciedaaGreatDoor.Vm
namespace Go.Pm
def truth (b : Bool) : Int := if b then 1 else 0
/-- What an instruction of two values computes. -/
def two (op a b : Int) : Int :=
 if op = 2 then a + b else if op = 3 then a - b else if op = 4 then over a b 1 else if op = 6 then over a b 1000 else if op = 5 then a.fdiv b
 else if op = 7 then min a b else if op = 8 then max a b else if op = 9 then truth (decide (a < b)) else truth (decide (a = b))
end Go.Pm
namespace Go.Proofs.YtkdhmbhbbciedaaGreatDoor.Vm
open Go Go.VL
attribute [local simp] exS_some hcons hstep evPure opd uOf putOK St.put St.at getK binD binI binS binB nilD aggD eqUs cmpK lookD lookR rangeD rangeS Go.VL.nextD Go.VL.nextS entryD keyD valU keyU lookK mkV entD_nil allUE makeMapD mapUpdD mapEff updK valM Key.kk shiftI arith unD convD pickD loadD cellsAt fieldAddrD fieldD indexAddrD indexSlD arrAddr indexD sliceD cutD lenD minmaxD nilCheckD buildD fillD cellsD isOne ones setAll mkAgg allU allocD boxD storeD St.add buildSliceD appendD rowsOf makeD setOb getK_setOb getK_del getK_cons stripL strip guardTmp entry chunks zcells valD argsV argsW argW argU1 argU0 argsU0 argsU1 calleeOf scalarD scalarU delAll effD St.effS RK_seq RK_seq_ret RK_seq_exit RK_blk RK_blk_ret RK_blk_exit RK_loop RK_loop_ret RK_loop_exit RK_done vs_seq vs_block vs_cond vs_region vs_loop applyW mkD rdIds lentIds callOf calleeOf freeOp D.ids Op.operands Call.operands isEffOp makeIfD makeFuncD typeAssertD conc concs conc1 uOfV panicD IntKind.bits allU2 List.take_of_length_le List.range_succ HR_nil HR_cons HR_grd v2_seq v2_block v2_skip v2_exit v2_ret v2_cond v2_region v2_draw v2_loop RN_0 RN_done RN_seq RN_seq_ret RN_seq_exit RN_blk RN_blk_ret RN_blk_exit RN_loop RN_loop_ret RN_loop_exit Cnd_tf Cnd_ft EndV getK_append frzN frz1 St.frz St.frzS frzS fv fzVec fzMap frzObS frz normD normU norm1 normOb St.norm St.lp St.only keepE wkE wkO wkU Ob.under D.under under_rowsD under_entD H4_nil H4_cons H4_grd h4s resD oneOrTup pureD List.zipIdx_cons List.zipIdx_nil List.map_cons List.map_nil Nat.zero_add
attribute [local irreducible] V G H HD HD2 RunK Eff CallP CallV EndOK Fun Ret FinOK LoopI LoopW EndW HR vs2 RN Cnd H4
theorem two_fun (op x y : Int) (hx : -1099511627776 ≤ x ∧ x ≤ 1099511627776) (hy : -1099511627776 ≤ y ∧ y ≤ 1099511627776) (hd : op = 5 → y ≠ 0) :
  Fun Tryz.prog 102 [.u (.int .i64 op), .u (.int .i64 x), .u (.int .i64 y)] (· = .u (.int .i64 (Pm.two op x y))) := by
 refine Fun.run Tryz.func102 Tryz.ntmps102 Tryz.results102 rfl (by simp) fun Γ hn => ?_
 repeat' (first
  | (refine Cnd.of (fun hc => ?_) (fun hc => ?_) <;> (try (exfalso; omega)) <;> (try simp))
  | (refine V_run rfl ?_; simp)
  | (refine And.intro (by omega) ?_)
  | ((first | refine CallP.f2 rfl (over_fun x y 1 hx hy (.inl rfl)) (by first | simp <;> rfl | fail) ?_ | refine CallP.f2 rfl (over_fun x y 1000 hx hy (.inr rfl)) (by first | simp <;> rfl | fail) ?_ | refine CallP.f2 rfl (floor_fun x y (hd (by omega)) hx.1 hx.2) (by first | simp <;> rfl | fail) ?_ | refine CallP.f2 rfl (truth_fun (decide (x < y))) (by first | simp <;> rfl | fail) ?_ | refine CallP.f2 rfl (truth_fun (decide (x = y))) (by first | simp <;> rfl | fail) ?_ | fail); simp)
  | fail)
 all_goals
  (refine Pst.of ?_; simp)
 all_goals simp [Pm.two, Pm.truth, *]
end Go.Proofs.YtkdhmbhbbciedaaGreatDoor.Vm
namespace Go.Pm
def idx {α : Type} (p : α → Bool) (l : List α) : Int := match l.findIdx? p with | some i => i | none => -1
theorem idx_at {α : Type} {p : α → Bool} {l : List α} {i : Nat} {x : α} (hi : l[i]? = some x) (hp : p x = true) (hb : ∀ j y, j < i → l[j]? = some y → p y = false) : idx p l = i := by
 have : l.findIdx? p = some i := by
  rw [List.findIdx?_eq_some_iff_getElem]
  obtain ⟨h, rfl⟩ := List.getElem?_eq_some_iff.1 hi
  exact ⟨h, hp, fun j hj => by have := hb j l[j] hj (List.getElem?_eq_getElem _); simp [this]⟩
 simp [idx, this]
theorem idx_none {α : Type} {p : α → Bool} {l : List α} (h : ∀ x ∈ l, p x = false) : idx p l = -1 := by
 have : l.findIdx? p = none := by rw [List.findIdx?_eq_none_iff]; exact h
 simp [idx, this]
theorem idx_any {α : Type} (p : α → Bool) (l : List α) : decide (0 ≤ idx p l) = l.any p := by
 unfold idx
 cases h : l.findIdx? p with
 | none => rw [List.findIdx?_eq_none_iff] at h; simp; exact h
 | some i =>
  rw [List.findIdx?_eq_some_iff_getElem] at h
  obtain ⟨hi, hp, _⟩ := h
  simp
  exact ⟨l[i], List.getElem_mem _, hp⟩
end Go.Pm
namespace Go.Proofs.YtkdhmbhbbciedaaGreatDoor.Vm
open Go Go.VL
attribute [local simp] exS_some hcons hstep evPure opd uOf putOK St.put St.at getK binD binI binS binB nilD aggD eqUs cmpK lookD lookR rangeD rangeS Go.VL.nextD Go.VL.nextS entryD keyD valU keyU lookK mkV entD_nil allUE makeMapD mapUpdD mapEff updK valM Key.kk shiftI arith unD convD pickD loadD cellsAt fieldAddrD fieldD indexAddrD indexSlD arrAddr indexD sliceD cutD lenD minmaxD nilCheckD buildD fillD cellsD isOne ones setAll mkAgg allU allocD boxD storeD St.add buildSliceD appendD rowsOf makeD setOb getK_setOb getK_del getK_cons stripL strip guardTmp entry chunks zcells valD argsV argsW argW argU1 argU0 argsU0 argsU1 calleeOf scalarD scalarU delAll effD St.effS RK_seq RK_seq_ret RK_seq_exit RK_blk RK_blk_ret RK_blk_exit RK_loop RK_loop_ret RK_loop_exit RK_done vs_seq vs_block vs_cond vs_region vs_loop applyW mkD rdIds lentIds callOf calleeOf freeOp D.ids Op.operands Call.operands isEffOp makeIfD makeFuncD typeAssertD conc concs conc1 uOfV panicD IntKind.bits allU2 List.take_of_length_le List.range_succ HR_nil HR_cons HR_grd v2_seq v2_block v2_skip v2_exit v2_ret v2_cond v2_region v2_draw v2_loop RN_0 RN_done RN_seq RN_seq_ret RN_seq_exit RN_blk RN_blk_ret RN_blk_exit RN_loop RN_loop_ret RN_loop_exit Cnd_tf Cnd_ft EndV getK_append frzN frz1 St.frz St.frzS frzS fv fzVec fzMap frzObS frz normD normU norm1 normOb St.norm St.lp St.only keepE wkE wkO wkU Ob.under D.under under_rowsD under_entD H4_nil H4_cons H4_grd h4s resD oneOrTup pureD List.zipIdx_cons List.zipIdx_nil List.map_cons List.map_nil Nat.zero_add
attribute [local irreducible] V G H HD HD2 RunK Eff CallP CallV EndOK Fun Ret FinOK LoopI LoopW EndW HR vs2 RN Cnd H4
def ints (l : List Int) : U := .sl (l.map fun n => [.int .i64 n])
theorem indexInt_fun (l : List Int) (f : FuncId) (caps : List U) (p : Int → Bool) (hf : ∀ n ∈ l, Fun Tryz.prog f (.u (.int .i64 n) :: caps.map .u) (· = .u (.bool (p n)))) (hcl : callable Tryz.prog f = true)
  (hca : ∀ o, argsW o (caps.map .u) = some (caps.map .u, [])) : Fun Tryz.prog 135 [.u (ints l), .fnc (.func f) (caps.map .u)] (· = .u (.int .i64 (Pm.idx p l))) := by
 refine Fun.run Tryz.func135 Tryz.ntmps135 Tryz.results135 rfl (by simp) fun Γ hn => ?_; simp only [entry, List.zipIdx_cons, List.zipIdx_nil, List.map_cons, List.map_nil, Nat.zero_add]
 simp only [ints]
 refine V_len (x := 0) rfl fun hl => ?_
 simp at hl
 repeat' (first
  | (refine V_run rfl ?_; simp)
  | fail)
 refine V_loop (α := { i : Nat // i ≤ l.length ∧ ∀ j y, j < i → l[j]? = some y → p y = false })
  (fun i => { n := 19, env := [(0, .u (.sl (l.map fun n => [.int .i64 n]))), (1, .fnc (.func f) (caps.map .u)), (7, .u (.int .i64 l.length)), (8, .u (.int .i64 i.1))], obs := [], next := 0 })
  (fun i => l.length - i.1) ⟨0, by omega, by omega⟩ (fun i => i) ?_ ?_
 ·(refine St.le_of rfl ?_ ?_ ?_ ?_ <;> simp [leEnv, leObs, leL, D.le, D.ren, D.under, hn])
 rintro ⟨i, hi, hb⟩
 rcases hx : l[i]? with _ | n
 ·have hge : l.length ≤ i := by simpa using hx
  repeat' (first
  | (refine Cnd.of (fun hc => ?_) (fun hc => ?_) <;> (try (exfalso; omega)) <;> (try simp [hx]))
  | (refine V_run rfl ?_; simp [hx])
  | fail)
  (refine Pst.of ?_; simp)
  refine (Pm.idx_none fun x hm => ?_).symm
  obtain ⟨j, hj⟩ := List.getElem?_of_mem hm
  exact hb j x (by have := (List.getElem?_eq_some_iff.1 hj).1; omega) hj
 ·have hlt : i < l.length := (List.getElem?_eq_some_iff.1 hx).1
  have h1 := hf n (List.mem_of_getElem? hx)
  repeat' (first
  | (refine Cnd.of (fun hc => ?_) (fun hc => ?_) <;> (try (exfalso; omega)) <;> (try simp [hx, hca]))
  | (refine V_run rfl ?_; simp [hx, hca])
  | (refine And.intro (by omega) ?_)
  | (refine CallP.f2 rfl (h1) (by first | simp [hx, hca] <;> rfl | fail) ?_; simp [hx, hca])
  | fail)
  ·(refine Pst.of ?_; simp)
   exact (Pm.idx_at hx (by assumption) hb).symm
  ·have hb' : ∀ j y, j < i + 1 → l[j]? = some y → p y = false := fun j y hj hy => by
    by_cases hji : j = i
    ·subst hji; rw [hx] at hy; cases hy; assumption
    ·exact hb j y (by omega) hy
   refine LoopI.next ?y (fun i => i) ?h1 ?h2
   case y => exact ⟨i + 1, by omega, hb'⟩
   case h1 => simp; omega
   case h2 => (refine St.le_of rfl ?_ ?_ ?_ ?_ <;> simp [leEnv, leObs, leL, D.le, D.ren, D.under, hn])
end Go.Proofs.YtkdhmbhbbciedaaGreatDoor.Vm
namespace Go.Proofs.YtkdhmbhbbciedaaGreatDoor.Vm
open Go Go.VL
attribute [local simp] exS_some hcons hstep evPure opd uOf putOK St.put St.at getK binD binI binS binB nilD aggD eqUs cmpK lookD lookR rangeD rangeS Go.VL.nextD Go.VL.nextS entryD keyD valU keyU lookK mkV entD_nil allUE makeMapD mapUpdD mapEff updK valM Key.kk shiftI arith unD convD pickD loadD cellsAt fieldAddrD fieldD indexAddrD indexSlD arrAddr indexD sliceD cutD lenD minmaxD nilCheckD buildD fillD cellsD isOne ones setAll mkAgg allU allocD boxD storeD St.add buildSliceD appendD rowsOf makeD setOb getK_setOb getK_del getK_cons stripL strip guardTmp entry chunks zcells valD argsV argsW argW argU1 argU0 argsU0 argsU1 calleeOf scalarD scalarU delAll effD St.effS RK_seq RK_seq_ret RK_seq_exit RK_blk RK_blk_ret RK_blk_exit RK_loop RK_loop_ret RK_loop_exit RK_done vs_seq vs_block vs_cond vs_region vs_loop applyW mkD rdIds lentIds callOf calleeOf freeOp D.ids Op.operands Call.operands isEffOp makeIfD makeFuncD typeAssertD conc concs conc1 uOfV panicD IntKind.bits allU2 List.take_of_length_le List.range_succ HR_nil HR_cons HR_grd v2_seq v2_block v2_skip v2_exit v2_ret v2_cond v2_region v2_draw v2_loop RN_0 RN_done RN_seq RN_seq_ret RN_seq_exit RN_blk RN_blk_ret RN_blk_exit RN_loop RN_loop_ret RN_loop_exit Cnd_tf Cnd_ft EndV getK_append frzN frz1 St.frz St.frzS frzS fv fzVec fzMap frzObS frz normD normU norm1 normOb St.norm St.lp St.only keepE wkE wkO wkU Ob.under D.under under_rowsD under_entD H4_nil H4_cons H4_grd h4s resD oneOrTup pureD List.zipIdx_cons List.zipIdx_nil List.map_cons List.map_nil Nat.zero_add
attribute [local irreducible] V G H HD HD2 RunK Eff CallP CallV EndOK Fun Ret FinOK LoopI LoopW EndW HR vs2 RN Cnd H4
structure Var where
 name : List UInt8
 unit : Int
 n : Int
 deriving DecidableEq
structure Ins where
 op : Int
 a : Int
 s : List UInt8
 deriving DecidableEq
def Var.row (v : Var) : List U := [.str v.name, .int .i64 v.unit, .int .i64 v.n]
def Ins.row (c : Ins) : List U := [.int .i64 c.op, .int .i64 c.a, .str c.s]
def vars (l : List Var) : U := .sl (l.map fun v => [.str v.name, .int .i64 v.unit, .int .i64 v.n])
def inss (l : List Ins) : U := .sl (l.map fun c => [.int .i64 c.op, .int .i64 c.a, .str c.s])
def vagg (v : Var) : D := .u (.agg v.row)
theorem indexVar_fun (l : List Var) (f : FuncId) (caps : List U) (p : Var → Bool) (hf : ∀ n ∈ l, Fun Tryz.prog f (vagg n :: caps.map .u) (· = .u (.bool (p n)))) (hcl : callable Tryz.prog f = true)
  (hca : ∀ o, argsW o (caps.map .u) = some (caps.map .u, [])) : Fun Tryz.prog 98 [.u (vars l), .fnc (.func f) (caps.map .u)] (· = .u (.int .i64 (Pm.idx p l))) := by
 refine Fun.run Tryz.func98 Tryz.ntmps98 Tryz.results98 rfl (by simp) fun Γ hn => ?_; simp only [entry, List.zipIdx_cons, List.zipIdx_nil, List.map_cons, List.map_nil, Nat.zero_add]
 simp only [vars]
 refine V_len (x := 0) rfl fun hl => ?_
 simp at hl
 repeat' (first
  | (refine V_run rfl ?_; simp)
  | fail)
 refine V_loop (α := { i : Nat // i ≤ l.length ∧ ∀ j y, j < i → l[j]? = some y → p y = false })
  (fun i => { n := 19, env := [(0, .u (.sl (l.map fun n => [.str n.name, .int .i64 n.unit, .int .i64 n.n]))), (1, .fnc (.func f) (caps.map .u)), (7, .u (.int .i64 l.length)), (8, .u (.int .i64 i.1))], obs := [], next := 0 })
  (fun i => l.length - i.1) ⟨0, by omega, by omega⟩ (fun i => i) ?_ ?_
 ·(refine St.le_of rfl ?_ ?_ ?_ ?_ <;> simp [leEnv, leObs, leL, D.le, D.ren, D.under, hn])
 rintro ⟨i, hi, hb⟩
 rcases hx : l[i]? with _ | n
 ·have hge : l.length ≤ i := by simpa using hx
  repeat' (first
  | (refine Cnd.of (fun hc => ?_) (fun hc => ?_) <;> (try (exfalso; omega)) <;> (try simp [hx]))
  | (refine V_run rfl ?_; simp [hx])
  | fail)
  (refine Pst.of ?_; simp)
  refine (Pm.idx_none fun x hm => ?_).symm
  obtain ⟨j, hj⟩ := List.getElem?_of_mem hm
  exact hb j x (by have := (List.getElem?_eq_some_iff.1 hj).1; omega) hj
 ·have hlt : i < l.length := (List.getElem?_eq_some_iff.1 hx).1
  have h1 := hf n (List.mem_of_getElem? hx)
  simp only [vagg, Var.row] at h1
  repeat' (first
  | (refine Cnd.of (fun hc => ?_) (fun hc => ?_) <;> (try (exfalso; omega)) <;> (try simp [hx, hca]))
  | (refine V_run rfl ?_; simp [hx, hca])
  | (refine And.intro (by omega) ?_)
  | (refine CallP.f2 rfl (h1) (by first | simp [hx, hca] <;> rfl | fail) ?_; simp [hx, hca])
  | fail)
  ·(refine Pst.of ?_; simp)
   exact (Pm.idx_at hx (by assumption) hb).symm
  ·have hb' : ∀ j y, j < i + 1 → l[j]? = some y → p y = false := fun j y hj hy => by
    by_cases hji : j = i
    ·subst hji; rw [hx] at hy; cases hy; assumption
    ·exact hb j y (by omega) hy
   refine LoopI.next ?y (fun i => i) ?h1 ?h2
   case y => exact ⟨i + 1, by omega, hb'⟩
   case h1 => simp; omega
   case h2 => (refine St.le_of rfl ?_ ?_ ?_ ?_ <;> simp [leEnv, leObs, leL, D.le, D.ren, D.under, hn])
theorem step1_fun (n : Int) : Fun Tryz.prog 95 [.u (.int .i64 n)] (· = .u (.bool (!decide (-1099511627776 ≤ n ∧ n ≤ 1099511627776)))) := by
 refine Fun.run Tryz.func95 Tryz.ntmps95 Tryz.results95 rfl (by simp) fun Γ hn => ?_
 repeat' (first
  | (refine V_run rfl ?_; simp)
  | (refine CallP.f2 rfl (within_fun n) (by first | simp <;> rfl | fail) ?_; simp)
  | fail)
 (refine Pst.of ?_; simp)
theorem step2_fun (v : Var) (c : Ins) : Fun Tryz.prog 99 [vagg v, .u (.row c.row 0)] (· = .u (.bool (decide (v.name = c.s)))) := by
 refine Fun.run Tryz.func99 Tryz.ntmps99 Tryz.results99 rfl (by simp) fun Γ hn => ?_; simp only [entry, List.zipIdx_cons, List.zipIdx_nil, List.map_cons, List.map_nil, Nat.zero_add]
 simp only [vagg, Var.row, Ins.row]
 repeat' (first
  | (refine V_run rfl ?_; simp)
  | fail)
 (refine Pst.of ?_; simp)
theorem contains_fun (l : List Int) : Fun Tryz.prog 94 [.u (ints l), .fnc (.func 95) []] (· = .u (.bool (l.any fun n => !decide (-1099511627776 ≤ n ∧ n ≤ 1099511627776)))) := by
 refine Fun.run Tryz.func94 Tryz.ntmps94 Tryz.results94 rfl (by simp) fun Γ hn => ?_; simp only [entry, List.zipIdx_cons, List.zipIdx_nil, List.map_cons, List.map_nil, Nat.zero_add]
 simp only [ints]
 have h1 := indexInt_fun l 95 [] _ (fun n _ => step1_fun n) (by simp) (fun _ => rfl)
 simp only [ints, List.map_nil] at h1
 repeat' (first
  | (refine V_run rfl ?_; simp)
  | (refine CallP.f2 rfl (h1) (by first | simp <;> rfl | fail) ?_; simp)
  | fail)
 (refine Pst.of ?_; simp)
 rw [← Pm.idx_any]
def stk (l : List Int) : List (List D) := l.map fun n => [.u (.int .i64 n)]
theorem stk_u (l : List Int) : uRows (stk l) := uRows_map l fun n => [.int .i64 n]
@[simp] theorem stk_length (l : List Int) : (stk l).length = l.length := by simp [stk]
@[simp] theorem stk_get (l : List Int) (j : Nat) : (stk l)[j]? = (l[j]?).map fun n => [.u (.int .i64 n)] := by simp [stk]
/-- The machine's variable. -/
def mbox (pc : Int) (sd : D) (en : Bool) (va er : Int) : Ob := .box [.u (.int .i64 pc), sd, .u (.bool en), .u (.int .i64 va), .u (.int .i64 er)]
theorem pop_ret (o : List (Nat × Ob)) (nx : Nat) (pc : Int) (n : Nat) (x : Int) (en : Bool) (va er : Int) (i : Nat) (r : List Int) (hi : i ≠ 0) (h0 : getK o 0 = some (mbox pc (.vec i (n + 1)) en va er)) (h1 : getK o i = some (.vec 3 1 (stk r))) (hx : r[n]? = some x) :
  Ret Tryz.prog 100 [.ptr 0 0] o nx (fun d o' n' => d = .u (.int .i64 x) ∧ o' = setOb o 0 (mbox pc (.vec i n) en va er) ∧ n' = nx) := by
 have hl := (List.getElem?_eq_some_iff.1 hx).1
 (refine Ret.of_body Tryz.func100 rfl (by simp) fun Γ hn => ?_); simp only [entry, List.zipIdx_cons, List.zipIdx_nil, List.map_cons, List.map_nil, Nat.zero_add, Tryz.ntmps100]
 simp only [mbox] at h0 ⊢
 refine V_vlen (i := i) (e := 3) (sz := 1) (rows := stk r) h1 fun hl2 => ?_
 simp at hl2
 repeat' (first
  | (refine V_run rfl ?_; simp [h0, h1, hi, hx])
  | (refine And.intro (by omega) ?_)
  | (refine ⟨hC _ (by kernel_rfl), hk _ (RN_K 8 _ _ _ ?_)⟩; clear hC hk C k; simp [h0, h1, hi, hx])
  | (refine V_dx rfl (by kernel_rfl) (by first | (simp [hn]; done) | (simp [hn]; omega) | fail) fun C k hC hk => ?_; simp [h0, h1, hi, hx])
  | (refine And.intro ?_ (by omega))
  | fail)
 (first | (refine EndOK.fin (.inr rfl) ?_) | (refine EndOK.fin (.inl rfl) ?_)); simp [resD, oneOrTup, Tryz.results100]
 refine FinOK.here ?_ ?_ <;> simp
theorem end_ret (o : List (Nat × Ob)) (nx : Nat) (pc : Int) (sd : D) (en : Bool) (va er va' er' : Int) (h0 : getK o 0 = some (mbox pc sd en va er)) :
  Ret Tryz.prog 92 [.ptr 0 0, .u (.int .i64 va'), .u (.int .i64 er')] o nx (fun _ o' n' => getK o' 0 = some (mbox pc (.u .nil) true va' er') ∧ n' = nx) := by
 (refine Ret.of_body Tryz.func92 rfl (by simp) fun Γ hn => ?_); simp only [entry, List.zipIdx_cons, List.zipIdx_nil, List.map_cons, List.map_nil, Nat.zero_add, Tryz.ntmps92]
 simp only [mbox] at h0 ⊢
 repeat' (first
  | (refine V_run rfl ?_; simp [h0])
  | fail)
 (first | (refine EndOK.fin (.inr rfl) ?_) | (refine EndOK.fin (.inl rfl) ?_)); simp [resD, oneOrTup, Tryz.results92]
 refine FinOK.here ?_ ?_ <;> simp
/-- The machine and its stack lie here. -/
def MAt (pc : Int) (st : List Int) (en : Bool) (va er : Int) (o : List (Nat × Ob)) (nx : Nat) : Prop :=
 (st = [] ∧ getK o 0 = some (mbox pc (.u .nil) en va er)) ∨
 ∃ i r, i ≠ 0 ∧ i < nx ∧ r.take st.length = st ∧ getK o 0 = some (mbox pc (.vec i st.length) en va er) ∧ getK o i = some (.vec 3 1 (stk r))
theorem push_nil (o : List (Nat × Ob)) (nx : Nat) (pc : Int) (x : Int) (en : Bool) (va er : Int) (hnx : 0 < nx) (h0 : getK o 0 = some (mbox pc (.u .nil) en va er)) (hx : -1099511627776 ≤ x ∧ x ≤ 1099511627776) (hp : pc < 9223372036854775807 ∧ -9223372036854775808 ≤ pc) :
  Ret Tryz.prog 97 [.ptr 0 0, .u (.int .i64 x)] o nx (fun _ o' n' => MAt (pc + 1) [x] en va er o' n') := by
 have hn1 : 0 ≠ nx := by omega
 have hn2 : nx ≠ 0 := by omega
 (refine Ret.of_body Tryz.func97 rfl (by simp) fun Γ hn => ?_); simp only [entry, List.zipIdx_cons, List.zipIdx_nil, List.map_cons, List.map_nil, Nat.zero_add, Tryz.ntmps97]
 simp only [mbox] at h0 ⊢
 repeat' (first
  | (refine V_run rfl ?_; simp [h0, hx, hn1, hn2])
  | (refine And.intro (by omega) ?_)
  | (refine CallP.f2 rfl (within_fun x) (by first | simp [h0, hx, hn1, hn2] <;> rfl | fail) ?_; simp [h0, hx, hn1, hn2])
  | fail)
 (first | (refine EndOK.fin (.inr rfl) ?_) | (refine EndOK.fin (.inl rfl) ?_)); simp [resD, oneOrTup, Tryz.results97]
 refine FinOK.here (by simp; omega) (.inr ⟨nx + 1, [x], by omega, by simp, by simp, ?_, ?_⟩) <;> simp [mbox, stk, hn1, getK_cons]
theorem push_vec (o : List (Nat × Ob)) (nx : Nat) (pc : Int) (st : List Int) (x : Int) (en : Bool) (va er : Int) (i : Nat) (r : List Int) (hi : i ≠ 0) (hin : i < nx) (h0 : getK o 0 = some (mbox pc (.vec i st.length) en va er)) (h1 : getK o i = some (.vec 3 1 (stk r)))
  (hr : r.take st.length = st) (hl : st.length < 100000) (hx : -1099511627776 ≤ x ∧ x ≤ 1099511627776) (hp : pc < 9223372036854775807 ∧ -9223372036854775808 ≤ pc) :
  Ret Tryz.prog 97 [.ptr 0 0, .u (.int .i64 x)] o nx (fun _ o' n' => MAt (pc + 1) (st ++ [x]) en va er o' n') := by
 have hrl : st.length ≤ r.length := by
  have := congrArg List.length hr
  simp at this
  omega
 have hrs : (stk r).take st.length = stk st := by rw [stk, ← List.map_take, hr]; rfl
 have hi1 : 0 ≠ i := by omega
 have hin1 : nx ≠ i := by omega
 have hin' : i ≠ nx := by omega
 have hn1 : 0 ≠ nx := by omega
 have hn2 : nx ≠ 0 := by omega
 (refine Ret.of_body Tryz.func97 rfl (by simp) fun Γ hn => ?_); simp only [entry, List.zipIdx_cons, List.zipIdx_nil, List.map_cons, List.map_nil, Nat.zero_add, Tryz.ntmps97]
 simp only [mbox] at h0 ⊢
 repeat' (first
  | (refine V_run rfl ?_; simp [h0, h1, hx, hi, hi1, hin1, hin', hn1, hn2, hrs, hrl])
  | (refine And.intro (by omega) ?_)
  | (refine CallP.f2 rfl (within_fun x) (by first | simp [h0, h1, hx, hi, hi1, hin1, hin', hn1, hn2, hrs, hrl] <;> rfl | fail) ?_; simp [h0, h1, hx, hi, hi1, hin1, hin', hn1, hn2, hrs, hrl])
  | fail)
 (first | (refine EndOK.fin (.inr rfl) ?_) | (refine EndOK.fin (.inl rfl) ?_)); simp [resD, oneOrTup, Tryz.results97]
 refine FinOK.here (by simp; omega) (.inr ⟨nx + 1, st ++ [x], by omega, by simp, List.take_of_length_le (Nat.le_refl _), ?_, ?_⟩) <;> simp [mbox, stk, hn1, getK_cons]
end Go.Proofs.YtkdhmbhbbciedaaGreatDoor.Vm
namespace Go.Proofs.YtkdhmbhbbciedaaGreatDoor.Vm
open Go Go.VL
structure Mach where
 pc : Int
 stack : List Int
 en : Bool
 va : Int
 er : Int
 deriving DecidableEq
def okv (n : Int) : Bool := decide (-1099511627776 ≤ n ∧ n ≤ 1099511627776)
def Mach.fin (m : Mach) (v e : Int) : Mach := { m with stack := [], en := true, va := v, er := e }
def Mach.push (m : Mach) (x : Int) : Mach := if okv x then { m with pc := m.pc + 1, stack := m.stack ++ [x] } else m.fin 0 3
def Mach.drop (m : Mach) (k : Nat) : Mach := { m with stack := m.stack.take (m.stack.length - k) }
def Mach.top (m : Mach) (k : Nat) : Int := m.stack.getD (m.stack.length - 1 - k) 0
def stepI (vs : List Var) (m : Mach) (c : Ins) : Mach :=
 if c.op = 0 then m.push c.a
 else if c.op = 1 then match vs.find? fun v => decide (v.name = c.s) with | none => m.fin 0 13 | some v => m.push v.n
 else if c.op = 12 then { m with pc := c.a }
 else if c.op = 13 then { m.drop 1 with pc := if m.top 0 = 0 then c.a else m.pc + 1 }
 else if c.op = 14 then m.fin (m.top 0) 0
 else if c.op = 11 then (m.drop 1).push (Pm.truth (decide (m.top 0 = 0)))
 else if c.op = 5 ∧ m.top 0 = 0 then m.fin 0 15
 else (m.drop 2).push (Pm.two c.op (m.top 1) (m.top 0))
def stepM (code : List Ins) (vs : List Var) (m : Mach) : Mach :=
 if m.pc < 0 then m.fin 0 2 else match code[m.pc.toNat]? with
 | none => m.fin 0 2
 | some c => if c.op < 0 ∨ 15 ≤ c.op ∨ (m.stack.length : Int) < needs c.op ∨ (m.stack.any fun n => !okv n) = true then m.fin 0 2 else stepI vs m c
theorem stepM_eq {code : List Ins} {vs : List Var} {m : Mach} {c : Ins} (h : 0 ≤ m.pc) (hc : code[m.pc.toNat]? = some c) :
  stepM code vs m = if c.op < 0 ∨ 15 ≤ c.op ∨ (m.stack.length : Int) < needs c.op ∨ (m.stack.any fun n => !okv n) = true then m.fin 0 2 else stepI vs m c := by
 unfold stepM
 rw [if_neg (by omega), hc]
theorem idx_find (vs : List Var) (p : Var → Bool) : (Pm.idx p vs = -1 ∧ vs.find? p = none) ∨ ∃ (j : Nat) (v : Var), Pm.idx p vs = j ∧ vs[j]? = some v ∧ vs.find? p = some v := by
 unfold Pm.idx
 cases h : vs.findIdx? p with
 | none =>
  refine .inl ⟨rfl, ?_⟩
  rw [List.findIdx?_eq_none_iff] at h
  rw [List.find?_eq_none]
  intro x hx
  simp [h x hx]
 | some j =>
  rw [List.findIdx?_eq_some_iff_getElem] at h
  obtain ⟨hj, hp, hb⟩ := h
  refine .inr ⟨j, vs[j], rfl, List.getElem?_eq_getElem hj, ?_⟩
  rw [List.find?_eq_some_iff_getElem]
  exact ⟨hp, j, hj, rfl, fun k hk => by simpa using hb k hk⟩
def MOb (m : Mach) (o : List (Nat × Ob)) (nx : Nat) : Prop := MAt m.pc m.stack m.en m.va m.er o nx
end Go.Proofs.YtkdhmbhbbciedaaGreatDoor.Vm
namespace Go.Proofs.YtkdhmbhbbciedaaGreatDoor.Vm
open Go Go.VL
/-- k more steps, of which n are done. -/
def runK (code : List Ins) (vs : List Var) (fuel : Int) : Nat → Int → Mach → Int × Int × Int
 | 0, _, _ => (0, fuel, 16)
 | k + 1, n, m => let m' := stepM code vs m
  if m'.en then (m'.va, n + 1, m'.er) else runK code vs fuel k (n + 1) m'
def run0 : Mach := ⟨0, [], false, 0, 0⟩
def runM (code : List Ins) (vs : List Var) (fuel : Int) : Int × Int × Int :=
 if fuel < 0 ∨ 100000 < fuel then (0, 0, 1) else runK code vs fuel fuel.toNat 0 run0
theorem Mach.push_len (m : Mach) (x : Int) : (m.push x).stack.length ≤ m.stack.length + 1 := by
 unfold Mach.push Mach.fin
 split <;> simp
theorem Mach.drop_len (m : Mach) (k : Nat) : (m.drop k).stack.length ≤ m.stack.length := by
 simp [Mach.drop]
theorem stepI_len (vs : List Var) (m : Mach) (c : Ins) : (stepI vs m c).stack.length ≤ m.stack.length + 1 := by
 have h1 := Mach.drop_len m 1
 have h2 := Mach.drop_len m 2
 have h3 := Mach.push_len (m.drop 1) (Pm.truth (decide (m.top 0 = 0)))
 have h4 := Mach.push_len (m.drop 2) (Pm.two c.op (m.top 1) (m.top 0))
 unfold stepI
 split
 ·exact Mach.push_len _ _
 split
 ·split
  ·simp [Mach.fin]
  ·exact Mach.push_len _ _
 split
 ·simp
 split
 ·simp only
  omega
 split
 ·simp [Mach.fin]
 split
 ·omega
 split
 ·simp [Mach.fin]
 ·omega
theorem stepM_len (code : List Ins) (vs : List Var) (m : Mach) : (stepM code vs m).stack.length ≤ m.stack.length + 1 := by
 unfold stepM
 split
 ·simp [Mach.fin]
 split
 ·simp [Mach.fin]
 split
 ·simp [Mach.fin]
 ·exact stepI_len _ _ _
/-- Where a run stands: the steps done, the machine, its stack's rows. -/
structure RunAt (code : List Ins) (vs : List Var) (fuel : Int) where
 n : Nat
 m : Mach
 rows : Option (List Int)
 hn : (n : Int) ≤ fuel
 hlen : m.stack.length ≤ n
 hrun : runK code vs fuel (fuel.toNat - n) n m = runK code vs fuel fuel.toNat 0 run0
 hrows : match rows with | none => m.stack = [] | some r => r.take m.stack.length = m.stack
def RunAt.obs {code vs fuel} (x : RunAt code vs fuel) : List (Nat × Ob) :=
 match x.rows with
 | none => [(0, mbox x.m.pc (.u .nil) x.m.en x.m.va x.m.er)]
 | some r => [(0, mbox x.m.pc (.vec 1 x.m.stack.length) x.m.en x.m.va x.m.er), (1, .vec 3 1 (stk r))]
theorem RunAt.mob {code vs fuel} (x : RunAt code vs fuel) : MOb x.m x.obs 2 := by
 obtain ⟨n, m, rows, h1, h2, h3, h4⟩ := x
 cases rows with
 | none => exact .inl ⟨h4, rfl⟩
 | some r => exact .inr ⟨1, r, by omega, by omega, h4, rfl, rfl⟩
end Go.Proofs.YtkdhmbhbbciedaaGreatDoor.Vm
namespace Go.Proofs.YtkdhmbhbbciedaaGreatDoor
open Go Go.VL Go.ChangeShapes Go.WideShapes Go.ChangeAt Go.RowKit
theorem Tryz.own : ownKnob Tryz.prog.godebug = none := by kernel_rfl
theorem Tryz.laidOut : laidOutB Tryz.prog = true := by kernel_rfl
theorem Tryz.seqs : seqAll Tryz.prog = true := by kernel_rfl
theorem exp_of : ∀ (m : Nat) (r : List U), SizeOf.sizeOf r ≤ m → HasRow Tryz.prog 25 r → ∃ e : Exp, r = e.row
 | 0, r, hm, _ => by cases r <;> simp at hm
 | m + 1, r, hm, h => by
  obtain ⟨rs, hr, h⟩ := h.of_struct sf25
  match rs, h with
  | [a, b, c, d, f], h =>
   obtain ⟨h1, h2, h3, h4, h5, _⟩ := h
   obtain ⟨x, rfl, _⟩ := h1.of_int io3
   obtain ⟨y, rfl, _⟩ := h2.of_int io3
   obtain ⟨z, rfl, _⟩ := h3.of_int io3
   obtain ⟨s, rfl, _⟩ := h4.of_str (by simp)
   obtain ⟨rows, rfl, _, h6⟩ := h5.of_slice es23
   have hsz : ∀ q ∈ rows, SizeOf.sizeOf q ≤ m := fun q hq => by
    have := List.sizeOf_lt_of_mem hq
    rw [hr] at hm
    simp at hm
    omega
   obtain ⟨l, rfl, _⟩ := rows_list Exp.row (fun _ => True) (rows := rows) fun q hq => by
    obtain ⟨e, he⟩ := exp_of m q (hsz q hq) (h6 q hq)
    exact ⟨e, he, trivial⟩
   exact ⟨.mk x y z s l, by rw [hr, Exp.row_eq]; rfl⟩
theorem expU_of {r : List U} (h : HasRow Tryz.prog 25 r) : ∃ e : Exp, r = [.int .i64 e.op, .int .i64 e.n, .int .i64 e.unit, .str e.s, .sl (e.args.map Exp.row)] := by
 obtain ⟨e, rfl⟩ := exp_of _ r (Nat.le_refl _) h
 exact ⟨e, e.row_eq⟩
theorem let_of {r : List U} (h : HasRow Tryz.prog 39 r) : ∃ l : Let, r = [.str l.name, .int .i64 l.body.op, .int .i64 l.body.n, .int .i64 l.body.unit, .str l.body.s, .sl (l.body.args.map Exp.row)] ∧ True := by
 obtain ⟨rs, hr, h⟩ := h.of_struct sf39
 match rs, h with
 | [a, b], h =>
  obtain ⟨h1, h2, _⟩ := h
  obtain ⟨x, rfl, _⟩ := h1.of_str (by simp)
  obtain ⟨e, rfl⟩ := expU_of h2
  exact ⟨⟨x, e⟩, by rw [hr]; rfl, trivial⟩
theorem lets_of {u : U} (h : ArgU Tryz.prog 22 u) : ∃ l, u = letsU l := by
 obtain ⟨rows, h1, _, h2⟩ := (h.one (by simp) (by simp)).of_slice es22
 obtain ⟨l, rfl, _⟩ := rows_list (fun l : Let => [.str l.name, .int .i64 l.body.op, .int .i64 l.body.n, .int .i64 l.body.unit, .str l.body.s, .sl (l.body.args.map Exp.row)]) (fun _ => True) fun r hr => let_of (h2 r hr)
 exact ⟨l, by simp at h1; exact h1⟩
end Go.Proofs.YtkdhmbhbbciedaaGreatDoor
namespace Go.Proofs.YtkdhmbhbbciedaaGreatDoor
open Go Go.VL
structure Tok where
 kind : Int
 text : List UInt8
 n : Int
 pos : Int
 deriving DecidableEq, Inhabited
def Tok.row (t : Tok) : List U := [.int .i64 t.kind, .str t.text, .int .i64 t.n, .int .i64 t.pos]
def isBlank (c : UInt8) : Bool := decide (c.toNat = 32) || decide (c.toNat = 9) || decide (c.toNat = 10)
def isWordC (c : UInt8) : Bool := isLetter c || isDigit c
def digitsV (s : List UInt8) : Int := s.foldl (fun n c => 10 * n + ((c.toNat : Int) - 48)) 0
def numberO (s : List UInt8) : Option Int :=
 if s = [] ∨ spanL isDigit s ≠ s.length ∨ (s.head? = some 48 ∧ s ≠ [48]) ∨ 13 < s.length then none else if 1099511627776 < digitsV s then none else some (digitsV s)
theorem digitsV_snoc (s : List UInt8) (c : UInt8) : digitsV (s ++ [c]) = 10 * digitsV s + ((c.toNat : Int) - 48) := by simp [digitsV]
end Go.Proofs.YtkdhmbhbbciedaaGreatDoor
namespace Go.Proofs.YtkdhmbhbbciedaaGreatDoor
open Go Go.VL
def signsL : List (List UInt8) := [[61, 61], [59], [44], [61], [60], [43], [45], [42], [47], [40], [41]]
def nextO (s : List UInt8) : Except Int Tok := match s with
 | [] => .error 0
 | c :: r => if isLetter c = true then
   if wordB ((c :: r).take (spanL isWordC (c :: r))) = true then .ok ⟨1, (c :: r).take (spanL isWordC (c :: r)), 0, 0⟩ else .error 13
  else if isDigit c = true then
   match numberO ((c :: r).take (spanL isDigit (c :: r))) with | some n => .ok ⟨2, (c :: r).take (spanL isDigit (c :: r)), n, 0⟩ | none => .error 3
  else match signsL.find? fun x => x.isPrefixOf (c :: r) with | some x => .ok ⟨3, x, 0, 0⟩ | none => .error 11
def nextD (s : List UInt8) : D := match nextO s with | .ok t => .tup [.u (.agg [.int .i64 t.kind, .str t.text, .int .i64 t.n, .int .i64 t.pos]), .u (.int .i64 0)] | .error e => .tup [.u (.agg [.int .i64 0, .str [], .int .i64 0, .int .i64 0]), .u (.int .i64 e)]
end Go.Proofs.YtkdhmbhbbciedaaGreatDoor
namespace Go.Proofs.YtkdhmbhbbciedaaGreatDoor
open Go Go.VL
theorem intR_len (l : List Int) : (intR l).length = l.length := by simp [intR]
theorem intR_get (l : List Int) (i : Nat) : (intR l)[i]? = (l[i]?).map fun z => [D.u (.int .i64 z)] := by simp [intR]
theorem intR_getE (l : List Int) (i : Nat) (h : i < (intR l).length) : (intR l)[i] = [D.u (.int .i64 (l[i]'(by simpa [intR] using h)))] := by simp [intR]
theorem intR_set (l : List Int) (i : Nat) (z : Int) : (intR l).set i [D.u (.int .i64 z)] = intR (l.set i z) := by simp [intR, List.map_set]
theorem intR_rep (n : Nat) (z : Int) : List.replicate n [D.u (.int .i64 z)] = intR (List.replicate n z) := by simp [intR]
theorem under_intR (n : Nat) (l : List Int) : (∀ x ∈ intR l, ∀ y ∈ x, D.under n y = true) ↔ True := by simp [intR, D.under]
end Go.Proofs.YtkdhmbhbbciedaaGreatDoor
namespace Go.Proofs.YtkdhmbhbbciedaaGreatDoor
open Go Go.VL Go.ChangeShapes Go.WideShapes Go.ChangeAt Go.RowKit
theorem var_of {r : List U} (h : HasRow Tryz.prog 98 r) : ∃ c : Var, r = [.str c.name, .int .i64 c.unit, .int .i64 c.n] ∧ True := by
 obtain ⟨rs, hr, h⟩ := h.of_struct sf98
 match rs, h with
 | [a, b, c], h =>
  obtain ⟨h1, h2, h3, _⟩ := h
  obtain ⟨x, rfl, _⟩ := h1.of_str (by simp)
  obtain ⟨y, rfl, _⟩ := h2.of_int io3
  obtain ⟨z, rfl, _⟩ := h3.of_int io3
  exact ⟨⟨x, y, z⟩, hr, trivial⟩
theorem vars_of {u : U} (h : ArgU Tryz.prog 51 u) : ∃ l : List Var, u = .sl (l.map fun v => [.str v.name, .int .i64 v.unit, .int .i64 v.n]) := by
 obtain ⟨rows, h1, _, h2⟩ := (h.one (by simp) (by simp)).of_slice es51
 obtain ⟨l, rfl, _⟩ := rows_list (fun v : Var => [.str v.name, .int .i64 v.unit, .int .i64 v.n]) (fun _ => True) fun r hr => var_of (h2 r hr)
 exact ⟨l, by simp at h1; exact h1⟩
end Go.Proofs.YtkdhmbhbbciedaaGreatDoor
namespace Go.Proofs.YtkdhmbhbbciedaaGreatDoor
open Go Go.VL
attribute [local simp] HS exS_some hcons hstep evPure opd uOf putOK St.put St.at getK binD binI binS binB nilD aggD eqUs cmpK lookD lookR rangeD rangeS Go.VL.nextD Go.VL.nextS entryD keyD valU keyU lookK mkV entD_nil allUE makeMapD mapUpdD mapEff updK valM Key.kk shiftI arith unD convD pickD loadD cellsAt fieldAddrD fieldD indexAddrD indexSlD arrAddr indexD sliceD cutD lenD minmaxD nilCheckD buildD fillD cellsD isOne ones setAll mkAgg allU allocD boxD storeD St.add buildSliceD appendD rowsOf makeD setOb getK_setOb getK_del getK_cons stripL strip guardTmp entry chunks zcells valD argsV argsW argW argU1 argU0 argsU0 argsU1 calleeOf scalarD scalarU delAll effD St.effS RK_seq RK_seq_ret RK_seq_exit RK_blk RK_blk_ret RK_blk_exit RK_loop RK_loop_ret RK_loop_exit RK_done vs_seq vs_block vs_cond vs_region vs_loop applyW mkD rdIds lentIds callOf calleeOf freeOp D.ids Op.operands Call.operands isEffOp makeIfD makeFuncD typeAssertD conc concs conc1 uOfV panicD IntKind.bits allU2 List.take_of_length_le List.range_succ HR_nil HR_cons HR_grd v2_seq v2_block v2_skip v2_exit v2_ret v2_cond v2_region v2_draw v2_loop RN_0 RN_done RN_seq RN_seq_ret RN_seq_exit RN_blk RN_blk_ret RN_blk_exit RN_loop RN_loop_ret RN_loop_exit Cnd_tf Cnd_ft EndV getK_append frzN frz1 St.frz St.frzS frzS fv fzVec fzMap frzObS frz normD normU norm1 normOb St.norm St.lp St.only keepE wkE wkO wkU Ob.under D.under under_rowsD under_entD H4_nil H4_cons H4_grd h4s resD oneOrTup pureD List.zipIdx_cons List.zipIdx_nil List.map_cons List.map_nil Nat.zero_add
attribute [local irreducible] V G H HD HD2 HD4 HD4h RetX RunK Eff CallP CallV EndOK Fun Ret FinOK LoopI LoopW EndW HR vs2 RN Cnd H4
def nameB (s : List UInt8) : Bool := wordB s && !words.contains s
set_option maxRecDepth 100000 in
theorem name_fun (s : List UInt8) : Fun Tryz.prog 82 [.u (.str s)] (· = .u (.bool (nameB s))) := by
 have h1 := containsS_fun words s
 have h2 := word_fun s
 have h3 := reserved_fun
 generalize hw : words.contains s = w at h1
 simp only [strs] at h1 h3
 generalize (words.map fun s => [U.str s]) = W at h1 h3
 unfold nameB
 rw [hw]
 clear hw
 generalize wordB s = b at h2 ⊢
 cases b
 all_goals
  refine Fun.run Tryz.func82 Tryz.ntmps82 Tryz.results82 rfl (by simp) fun Γ hn => ?_
  repeat' (first
  | (refine V_run rfl ?_; simp)
  | ((first | refine CallP.f2 rfl (h1) (by first | simp <;> rfl | fail) ?_ | refine CallP.f2 rfl (h2) (by first | simp <;> rfl | fail) ?_ | refine CallP.f2 rfl (h3) (by first | simp <;> rfl | fail) ?_ | fail); simp)
  | fail)
  (refine Pst.of ?_; simp)
def operandsI (op : Int) : Int := if op = 0 ∨ op = 1 then 0 else if op = 12 then 1 else if op = 13 then 3 else if op < 0 ∨ 14 ≤ op then -1 else 2
theorem operands_fun (op : Int) : Fun Tryz.prog 86 [.u (.int .i64 op)] (· = .u (.int .i64 (operandsI op))) := by
 unfold operandsI
 refine Fun.run Tryz.func86 Tryz.ntmps86 Tryz.results86 rfl (by simp) fun Γ hn => ?_
 repeat' (first
  | (refine Cnd.of (fun hc => ?_) (fun hc => ?_) <;> (try (exfalso; omega)) <;> (try simp))
  | (refine V_run rfl ?_; simp)
  | fail)
 all_goals
  (refine Pst.of ?_; simp)
 all_goals (repeat' split) <;> first | rfl | omega | simp_all
theorem erow_eq : Exp.row = fun e => [.int .i64 e.op, .int .i64 e.n, .int .i64 e.unit, .str e.s, .sl (e.args.map Exp.row)] := funext fun e => e.row_eq
def eagg (e : Exp) : D := .u (.agg [.int .i64 e.op, .int .i64 e.n, .int .i64 e.unit, .str e.s, .sl (e.args.map Exp.row)])
def exps (l : List Exp) : U := .sl (l.map fun e => [.int .i64 e.op, .int .i64 e.n, .int .i64 e.unit, .str e.s, .sl (e.args.map Exp.row)])
theorem exps_eq (l : List Exp) : exps l = .sl (l.map Exp.row) := by rw [exps, ← erow_eq]
theorem indexE_fun (l : List (Exp)) (f : FuncId) (caps : List U) (p : Exp → Bool) (hf : ∀ n ∈ l, Fun Tryz.prog f (eagg n :: caps.map .u) (· = .u (.bool (p n)))) (hcl : callable Tryz.prog f = true)
  (hca : ∀ o, argsW o (caps.map .u) = some (caps.map .u, [])) : Fun Tryz.prog 131 [.u (exps l), .fnc (.func f) (caps.map .u)] (· = .u (.int .i64 (idxP p l 0))) := by
 refine Fun.run Tryz.func131 Tryz.ntmps131 Tryz.results131 rfl (by simp) fun Γ hn => ?_; simp only [entry, List.zipIdx_cons, List.zipIdx_nil, List.map_cons, List.map_nil, Nat.zero_add]
 simp only [exps]
 refine V_len (x := 0) rfl fun hl => ?_
 simp at hl
 repeat' (first
  | (refine V_run rfl ?_; simp)
  | fail)
 refine V_loopF (α := { i : Nat // i ≤ l.length ∧ ∀ c ∈ l.take i, p c = false }) [0, 1, 7] (fun i => [(8, .u (.int .i64 i.1))]) (fun i => l.length - i.1) ⟨0, by omega, by simp⟩ ?_ ?_
 ·exact (Wk.env rfl rfl rfl (by simp [wkE, St.lp, keepE, getK_cons, getK] <;> (try (intros; simp_all; done)) <;> (try (intros; omega)) <;> (try grind)))
 rintro ⟨i, hi, hb⟩
 simp
 rcases hx : l[i]? with _ | n
 ·have hge : l.length ≤ i := by simpa using hx
  repeat' (first
  | (refine Cnd.of (fun hc => ?_) (fun hc => ?_) <;> (try (exfalso; omega)) <;> (try simp [hx]))
  | (refine V_run rfl ?_; simp [hx])
  | fail)
  (refine Pst.of ?_; simp)
  rw [List.take_of_length_le hge] at hb
  exact (idxP_none hb).symm
 ·have hlt : i < l.length := (List.getElem?_eq_some_iff.1 hx).1
  have h1 := hf n (List.mem_of_getElem? hx)
  simp only [eagg] at h1
  cases hp : p n
  ·rw [hp] at h1
   repeat' (first
  | (refine Cnd.of (fun hc => ?_) (fun hc => ?_) <;> (try (exfalso; omega)) <;> (try simp [hx, hca]))
  | (refine V_run rfl ?_; simp [hx, hca])
  | (refine And.intro (by omega) ?_)
  | (refine CallP.f2 rfl (h1) (by first | simp [hx, hca] <;> rfl | fail) ?_; simp [hx, hca])
  | fail)
   refine LoopW.next ⟨i + 1, by omega, take_succ_all hx hb hp⟩ (by simp; omega) ?_
   exact (Wk.env rfl rfl rfl (by simp [wkE, St.lp, keepE, getK_cons, getK] <;> (try (intros; simp_all; done)) <;> (try (intros; omega)) <;> (try grind)))
  ·rw [hp] at h1
   repeat' (first
  | (refine Cnd.of (fun hc => ?_) (fun hc => ?_) <;> (try (exfalso; omega)) <;> (try simp [hx, hca]))
  | (refine V_run rfl ?_; simp [hx, hca])
  | (refine And.intro (by omega) ?_)
  | (refine CallP.f2 rfl (h1) (by first | simp [hx, hca] <;> rfl | fail) ?_; simp [hx, hca])
  | fail)
   (refine Pst.of ?_; simp)
   rw [idxP_at hb hx hp]
   omega
theorem containsE_fun (l : List (Exp)) (f : FuncId) (caps : List U) (p : Exp → Bool) (hf : ∀ n ∈ l, Fun Tryz.prog f (eagg n :: caps.map .u) (· = .u (.bool (p n)))) (hcl : callable Tryz.prog f = true)
  (hca : ∀ o, argsW o (caps.map .u) = some (caps.map .u, [])) (hcb : ∀ o, argsU1 o (caps.map .u) = some (caps, [])) : Fun Tryz.prog 87 [.u (exps l), .fnc (.func f) (caps.map .u)] (· = .u (.bool (l.any p))) := by
 have h1 := indexE_fun l f caps p hf hcl hca
 refine Fun.run Tryz.func87 Tryz.ntmps87 Tryz.results87 rfl (by simp) fun Γ hn => ?_; simp only [entry, List.zipIdx_cons, List.zipIdx_nil, List.map_cons, List.map_nil, Nat.zero_add]
 simp only [exps] at h1 ⊢
 repeat' (first
  | (refine V_run rfl ?_; simp [hcb])
  | (refine CallP.f2 rfl (h1) (by first | simp [hcb] <;> rfl | fail) ?_; simp [hcb])
  | fail)
 (refine Pst.of ?_; simp)
 have h2 := idxP_any p l 0 (by omega)
 rw [Bool.eq_iff_iff]
 simpa using h2
def numB (e : Exp) : Bool := decide (e.s = []) && decide (0 ≤ e.unit) && decide (e.unit < 5) && decide (0 ≤ e.n) && decide (e.n ≤ if e.unit = 0 then 1 else 1099511627776)
def rightB : Nat → Exp → Bool
 | 0, _ => false
 | d + 1, e => decide ((e.args.length : Int) = operandsI e.op) && (if e.op = 0 then numB e else if e.n ≠ 0 ∨ e.unit ≠ 0 then false else if e.op = 1 then nameB e.s else decide (e.s = []) && !e.args.any (fun x => !rightB d x))
set_option maxRecDepth 100000 in
set_option maxHeartbeats 4000000 in
theorem right_fun : ∀ (d : Nat) (e : Exp), (d : Int) ≤ 100 → Fun Tryz.prog 55 [eagg e, .u (.int .i64 d)] (· = .u (.bool (rightB d e)))
 | 0, e, _ => by
  refine Fun.run Tryz.func55 Tryz.ntmps55 Tryz.results55 rfl (by simp) fun Γ hn => ?_; simp only [entry, List.zipIdx_cons, List.zipIdx_nil, List.map_cons, List.map_nil, Nat.zero_add]
  simp only [eagg]
  repeat' (first
  | (refine V_run rfl ?_; simp)
  | (refine ⟨hC _ (by kernel_rfl), hk _ (RN_K 8 _ _ _ ?_)⟩; clear hC hk C k; simp)
  | (refine V_dx rfl (by kernel_rfl) (by first | (simp [hn]; done) | (simp [hn]; omega) | fail) fun C k hC hk => ?_; simp)
  | fail)
  (refine Pst.of ?_; simp)
  rfl
 | d + 1, e, hd => by
  have hr : ∀ x : Exp, Fun Tryz.prog 88 (eagg x :: [U.row [.int .i64 ((d + 1 : Nat) : Int)] 0].map .u) (· = .u (.bool (!rightB d x))) := fun x => by
   have h1 := right_fun d x (by omega)
   refine Fun.run Tryz.func88 Tryz.ntmps88 Tryz.results88 rfl (by simp) fun Γ hn => ?_; simp only [entry, List.zipIdx_cons, List.zipIdx_nil, List.map_cons, List.map_nil, Nat.zero_add]
   simp only [eagg] at h1 ⊢
   repeat' (first
  | (refine V_run rfl ?_; simp)
  | (refine And.intro (by omega) ?_)
  | (refine CallP.f2 rfl (h1) (by first | simp <;> rfl | fail) ?_; simp)
  | fail)
   (refine Pst.of ?_; simp)
  have hcon := containsE_fun e.args 88 [U.row [.int .i64 ((d + 1 : Nat) : Int)] 0] (fun x => !rightB d x) (fun x _ => hr x) (by simp) (fun _ => rfl) (fun _ => rfl)
  have hnam := name_fun e.s
  have hopr := operands_fun e.op
  simp only [List.map_cons, List.map_nil] at hcon
  rw [rightB]
  unfold numB
  generalize (e.args.any fun x => !rightB d x) = z at hcon ⊢
  generalize nameB e.s = nm at hnam ⊢
  generalize hop : operandsI e.op = oi at hopr ⊢
  refine Fun.run Tryz.func55 Tryz.ntmps55 Tryz.results55 rfl (by simp) fun Γ hn => ?_; simp only [entry, List.zipIdx_cons, List.zipIdx_nil, List.map_cons, List.map_nil, Nat.zero_add]
  rw [exps_eq] at hcon
  simp only [eagg]
  by_cases hlen : (e.args.length : Int) = oi
  case neg =>
   repeat' (first
  | (refine Cnd.of (fun hc => ?_) (fun hc => ?_) <;> (try (exfalso; omega)) <;> (try simp [hlen]))
  | (refine V_run rfl ?_; simp [hlen])
  | (refine ⟨hC _ (by kernel_rfl), hk _ (RN_K 8 _ _ _ ?_)⟩; clear hC hk C k; simp [hlen])
  | (refine V_dx rfl (by kernel_rfl) (by first | (simp [hn]; done) | (simp [hn]; omega) | fail) fun C k hC hk => ?_; simp [hlen])
  | (refine H4_HD4 rfl ?_; simp [hlen])
  | (refine HD4h_val rfl ?_; simp [hlen])
  | (refine CallV.f2 rfl (hopr) (by first | simp [hlen] <;> rfl | fail) ?_; simp [hlen])
  | fail)
   (refine Pst.of ?_; simp)
   try (simp_all; done)
  by_cases h0 : e.op = 0
  case pos =>
   by_cases hu : e.unit = 0
   all_goals
    repeat' (first
  | (refine Cnd.of (fun hc => ?_) (fun hc => ?_) <;> (try (exfalso; omega)) <;> (try simp [hlen, h0, hu]))
  | (refine V_run rfl ?_; simp [hlen, h0, hu])
  | (refine ⟨hC _ (by kernel_rfl), hk _ (RN_K 8 _ _ _ ?_)⟩; clear hC hk C k; simp [hlen, h0, hu])
  | (refine V_dx rfl (by kernel_rfl) (by first | (simp [hn]; done) | (simp [hn]; omega) | fail) fun C k hC hk => ?_; simp [hlen, h0, hu])
  | (refine H4_HD4 rfl ?_; simp [hlen, h0, hu])
  | (refine HD4h_val rfl ?_; simp [hlen, h0, hu])
  | (refine CallV.f2 rfl (hopr) (by first | simp [hlen, h0, hu] <;> rfl | fail) ?_; simp [hlen, h0, hu])
  | fail)
    all_goals
     (refine Pst.of ?_; simp)
   all_goals clear hr hopr hcon hnam
   all_goals grind
  by_cases hnu : e.n ≠ 0 ∨ e.unit ≠ 0
  case pos =>
   repeat' (first
  | (refine Cnd.of (fun hc => ?_) (fun hc => ?_) <;> (try (exfalso; omega)) <;> (try simp [hlen, h0]))
  | (refine V_run rfl ?_; simp [hlen, h0])
  | (refine ⟨hC _ (by kernel_rfl), hk _ (RN_K 8 _ _ _ ?_)⟩; clear hC hk C k; simp [hlen, h0])
  | (refine V_dx rfl (by kernel_rfl) (by first | (simp [hn]; done) | (simp [hn]; omega) | fail) fun C k hC hk => ?_; simp [hlen, h0])
  | (refine H4_HD4 rfl ?_; simp [hlen, h0])
  | (refine HD4h_val rfl ?_; simp [hlen, h0])
  | (refine CallV.f2 rfl (hopr) (by first | simp [hlen, h0] <;> rfl | fail) ?_; simp [hlen, h0])
  | fail)
   all_goals
    (refine Pst.of ?_; simp)
   all_goals clear hr hopr hcon hnam
   all_goals grind
  by_cases h1 : e.op = 1
  case pos =>
   repeat' (first
  | (refine Cnd.of (fun hc => ?_) (fun hc => ?_) <;> (try (exfalso; omega)) <;> (try simp [hlen, h0, h1]))
  | (refine V_run rfl ?_; simp [hlen, h0, h1])
  | (refine ⟨hC _ (by kernel_rfl), hk _ (RN_K 8 _ _ _ ?_)⟩; clear hC hk C k; simp [hlen, h0, h1])
  | (refine V_dx rfl (by kernel_rfl) (by first | (simp [hn]; done) | (simp [hn]; omega) | fail) fun C k hC hk => ?_; simp [hlen, h0, h1])
  | (refine H4_HD4 rfl ?_; simp [hlen, h0, h1])
  | (refine HD4h_val rfl ?_; simp [hlen, h0, h1])
  | ((first | refine CallP.f2 rfl (hopr) (by first | simp [hlen, h0, h1] <;> rfl | fail) ?_ | refine CallP.f2 rfl (hnam) (by first | simp [hlen, h0, h1] <;> rfl | fail) ?_ | fail); simp [hlen, h0, h1])
  | ((first | refine CallV.f2 rfl (hopr) (by first | simp [hlen, h0, h1] <;> rfl | fail) ?_ | refine CallV.f2 rfl (hnam) (by first | simp [hlen, h0, h1] <;> rfl | fail) ?_ | fail); simp [hlen, h0, h1])
  | fail)
   all_goals
    (refine Pst.of ?_; simp)
   all_goals clear hr hopr hcon hnam
   all_goals grind
  by_cases hs : e.s = []
  all_goals
   repeat' (first
  | (refine Cnd.of (fun hc => ?_) (fun hc => ?_) <;> (try (exfalso; omega)) <;> (try simp [hlen, h0, h1, hs]))
  | (refine V_run rfl ?_; simp [hlen, h0, h1, hs])
  | (refine ⟨hC _ (by kernel_rfl), hk _ (RN_K 8 _ _ _ ?_)⟩; clear hC hk C k; simp [hlen, h0, h1, hs])
  | (refine V_dx rfl (by kernel_rfl) (by first | (simp [hn]; done) | (simp [hn]; omega) | fail) fun C k hC hk => ?_; simp [hlen, h0, h1, hs])
  | (refine H4_HD4 rfl ?_; simp [hlen, h0, h1, hs])
  | (refine HD4h_val rfl ?_; simp [hlen, h0, h1, hs])
  | ((first | refine CallP.f2 rfl (hopr) (by first | simp [hlen, h0, h1, hs] <;> rfl | fail) ?_ | refine CallP.f2 rfl (hnam) (by first | simp [hlen, h0, h1, hs] <;> rfl | fail) ?_ | refine CallP.f2 rfl (hcon) (by first | simp [hlen, h0, h1, hs] <;> rfl | fail) ?_ | fail); simp [hlen, h0, h1, hs])
  | ((first | refine CallV.f2 rfl (hopr) (by first | simp [hlen, h0, h1, hs] <;> rfl | fail) ?_ | refine CallV.f2 rfl (hnam) (by first | simp [hlen, h0, h1, hs] <;> rfl | fail) ?_ | refine CallV.f2 rfl (hcon) (by first | simp [hlen, h0, h1, hs] <;> rfl | fail) ?_ | fail); simp [hlen, h0, h1, hs])
  | fail)
   all_goals
    (refine Pst.of ?_; simp)
  all_goals clear hr hopr hcon hnam
  all_goals grind
theorem rightExp_fun (e : Exp) : Fun Tryz.prog 22 [eagg e] (· = .u (.bool (rightB 12 e))) := by
 have h1 := right_fun 12 e (by omega)
 refine Fun.run Tryz.func22 Tryz.ntmps22 Tryz.results22 rfl (by simp) fun Γ hn => ?_; simp only [entry, List.zipIdx_cons, List.zipIdx_nil, List.map_cons, List.map_nil, Nat.zero_add]
 simp only [eagg] at h1 ⊢
 repeat' (first
  | (refine V_run rfl ?_; simp)
  | (refine CallP.f2 rfl (h1) (by first | simp <;> rfl | fail) ?_; simp)
  | fail)
 (refine Pst.of ?_; simp)
end Go.Proofs.YtkdhmbhbbciedaaGreatDoor
namespace Go.Proofs.YtkdhmbhbbciedaaGreatDoor
open Go Go.VL
attribute [local simp] exS_some hcons hstep evPure opd uOf putOK St.put St.at getK binD binI binS binB nilD aggD eqUs cmpK lookD lookR rangeD rangeS Go.VL.nextD Go.VL.nextS entryD keyD valU keyU lookK mkV entD_nil allUE makeMapD mapUpdD mapEff updK valM Key.kk shiftI arith unD convD pickD loadD cellsAt fieldAddrD fieldD indexAddrD indexSlD arrAddr indexD sliceD cutD lenD minmaxD nilCheckD buildD fillD cellsD isOne ones setAll mkAgg allU allocD boxD storeD St.add buildSliceD appendD rowsOf makeD setOb getK_setOb getK_del getK_cons stripL strip guardTmp entry chunks zcells valD argsV argsW argW argU1 argU0 argsU0 argsU1 calleeOf scalarD scalarU delAll effD St.effS RK_seq RK_seq_ret RK_seq_exit RK_blk RK_blk_ret RK_blk_exit RK_loop RK_loop_ret RK_loop_exit RK_done vs_seq vs_block vs_cond vs_region vs_loop applyW mkD rdIds lentIds callOf calleeOf freeOp D.ids Op.operands Call.operands isEffOp makeIfD makeFuncD typeAssertD conc concs conc1 uOfV panicD IntKind.bits allU2 List.take_of_length_le List.range_succ HR_nil HR_cons HR_grd v2_seq v2_block v2_skip v2_exit v2_ret v2_cond v2_region v2_draw v2_loop RN_0 RN_done RN_seq RN_seq_ret RN_seq_exit RN_blk RN_blk_ret RN_blk_exit RN_loop RN_loop_ret RN_loop_exit Cnd_tf Cnd_ft EndV getK_append frzN frz1 St.frz St.frzS frzS fv fzVec fzMap frzObS frz normD normU norm1 normOb St.norm St.lp St.only keepE wkE wkO wkU Ob.under D.under under_rowsD under_entD H4_nil H4_cons H4_grd h4s resD oneOrTup pureD List.zipIdx_cons List.zipIdx_nil List.map_cons List.map_nil Nat.zero_add
attribute [local irreducible] V G H HD HD2 RunK Eff CallP CallV EndOK Fun Ret FinOK LoopI LoopW EndW HR vs2 RN Cnd H4
def onlyB (u : Int) (l : List Int) : Bool := !l.any fun n => decide (n ≠ u)
def prodS (a b : Int) : Int × Bool := if a = 0 ∨ b = 0 then (0, false) else if a = 4 then (b, true) else if b = 4 then (a, true) else if a = 1 then (b, true) else if b = 1 then (a, true) else (0, false)
def l0 (l : List Int) (i : Nat) : Int := l.getD i 0
def combS (op : Int) (l : List Int) : Int × Bool :=
 if op = 2 ∨ op = 3 ∨ op = 6 ∨ op = 7 then (l0 l 0, onlyB (l0 l 0) l && decide (l0 l 0 ≠ 0))
 else if op = 4 then prodS (l0 l 0) (l0 l 1)
 else if op = 5 then (if l0 l 1 = 1 then (l0 l 0, decide (l0 l 0 ≠ 0) && decide (l0 l 0 ≠ 4)) else (1, onlyB (l0 l 0) l && (decide (l0 l 0 = 3) || decide (l0 l 0 = 2))))
 else if op = 8 then (0, onlyB (l0 l 0) l && decide (l0 l 0 ≠ 0))
 else if op = 9 then (0, onlyB (l0 l 0) l)
 else if op = 13 then (l0 l 1, decide (l0 l 0 = 0) && decide (l0 l 1 = l0 l 2))
 else (0, onlyB 0 l)
def asc {β : Type} : List (List UInt8 × β) → List UInt8 → Option β
 | [], _ => none
 | (k, b) :: l, x => if x = k then some b else asc l x
def ascPut {β : Type} : List (List UInt8 × β) → List UInt8 → β → List (List UInt8 × β)
 | [], x, b => [(x, b)]
 | (k, c) :: l, x, b => if x = k then (k, b) :: l else (k, c) :: ascPut l x b
theorem lookK_asc {β : Type} (f : β → List U) (x : List UInt8) : ∀ (l : List (List UInt8 × β)), lookK (l.map fun p => (Key.s p.1, f p.2)) (.s x) = (asc l x).map f
 | [] => rfl
 | (k, b) :: l => by
  simp only [List.map_cons, lookK, asc, Key.s.injEq]
  split
  ·rfl
  ·exact lookK_asc f x l
theorem asc_put {β : Type} (x y : List UInt8) (b : β) : ∀ (l : List (List UInt8 × β)), asc (ascPut l x b) y = if y = x then some b else asc l y
 | [] => by simp [ascPut, asc]
 | (k, c) :: l => by
  simp only [ascPut]
  split
  ·rename_i h
   subst h
   simp only [asc]
   split <;> rfl
  ·rename_i h
   simp only [asc, asc_put x y b l]
   by_cases h1 : y = k
   ·subst h1; simp [Ne.symm h]
   ·simp [h1]
mutual
/-- The unit of an expression, or an error. -/
def unitS (g : List UInt8 → Option Int) (m : List UInt8 → Option (Int × Int)) : Exp → Int × Int
 | .mk op _ u s args =>
  if op = 0 then (u, 0)
  else if op = 1 then (match g s with | some u => (u, 0) | none => match m s with | some r => r | none => (0, 13))
  else match unitsS g m args with
   | .error b => (0, b)
   | .ok l => if (combS op l).2 = true then ((combS op l).1, 0) else (0, 14)
def unitsS (g : List UInt8 → Option Int) (m : List UInt8 → Option (Int × Int)) : List Exp → Except Int (List Int)
 | [] => .ok []
 | e :: r => if (unitS g m e).2 ≠ 0 then .error (unitS g m e).2 else match unitsS g m r with
  | .error b => .error b
  | .ok l => .ok ((unitS g m e).1 :: l)
end
mutual
/-- Whether an expression is a share. -/
def shareS (m : List UInt8 → Bool) : Exp → Bool
 | .mk op _ u s args =>
  if op = 0 then decide (u = 4)
  else if op = 1 then m s
  else if op = 2 ∨ op = 3 ∨ op = 6 ∨ op = 7 then shareN m args 0
  else if op = 4 then shareN m args 0 && shareN m args 1
  else if op = 13 then shareN m args 1
  else false
def shareN (m : List UInt8 → Bool) : List Exp → Nat → Bool
 | [], _ => false
 | e :: _, 0 => shareS m e
 | _ :: r, n + 1 => shareN m r n
end
theorem shareS_eq (m) (e : Exp) : shareS m e = if e.op = 0 then decide (e.unit = 4)
  else if e.op = 1 then m e.s
  else if e.op = 2 ∨ e.op = 3 ∨ e.op = 6 ∨ e.op = 7 then shareN m e.args 0
  else if e.op = 4 then shareN m e.args 0 && shareN m e.args 1
  else if e.op = 13 then shareN m e.args 1
  else false := by
 cases e with | mk op n u s args => rw [shareS]; rfl
/-- What is known of a let: its unit, its error, whether it is a share. -/
abbrev LM := List (List UInt8 × Int × Int × Bool)
abbrev GM := List (List UInt8 × Int)
def gF (g : GM) : List UInt8 → Option Int := asc g
def mF (m : LM) : List UInt8 → Option (Int × Int) := fun x => (asc m x).map fun q => (q.1, q.2.1)
def sF (m : LM) : List UInt8 → Bool := fun x => ((asc m x).map fun q => q.2.2).getD false
theorem right_args {d : Nat} {e : Exp} (h : rightB (d + 1) e = true) : (e.args.length : Int) = operandsI e.op ∧ 0 ≤ e.op ∧ e.op < 14 ∧ (e.op ≠ 0 → e.op ≠ 1 → ∀ x ∈ e.args, rightB d x = true) := by
 rw [rightB, Bool.and_eq_true, decide_eq_true_eq] at h
 obtain ⟨h1, h2⟩ := h
 have h3 : 0 ≤ e.op ∧ e.op < 14 := by
  unfold operandsI at h1
  split at h1
  ·omega
  ·split at h1
   ·omega
   ·split at h1
    ·omega
    ·split at h1
     ·omega
     ·omega
 refine ⟨h1, h3.1, h3.2, fun ha hb x hx => ?_⟩
 rw [if_neg ha] at h2
 split at h2
 ·cases h2
 ·simp only [if_neg hb, Bool.and_eq_true, Bool.not_eq_true', List.any_eq_false, Bool.not_eq_true] at h2
  have := h2.2 x hx
  simpa using this
def varsU (l : List Var) : U := .sl (l.map fun v => [.str v.name, .int .i64 v.unit, .int .i64 v.n])
/-- What the lets mean. -/
def mOf (g : GM) (lets : List Let) : LM := lets.foldl (fun m l => ascPut m l.name ((unitS (gF g) (mF m) l.body).1, (unitS (gF g) (mF m) l.body).2, shareS (sF m) l.body)) []
def rightAll (lets : List Let) (e : Exp) : Bool := decide (lets.length ≤ 20) && rightB 12 e && !lets.any (fun l => !rightB 12 l.body)
theorem foldl_succ {α β : Type} (f : β → α → β) (b : β) {l : List α} {i : Nat} {x : α} (h : l[i]? = some x) : (l.take (i + 1)).foldl f b = f ((l.take i).foldl f b) x := by
 obtain ⟨hi, rfl⟩ := List.getElem?_eq_some_iff.1 h
 rw [List.take_succ_eq_append_getElem hi, List.foldl_append]
 rfl
theorem mOf_succ {g : GM} {lets : List Let} {i : Nat} {l : Let} (h : lets[i]? = some l) : mOf g (lets.take (i + 1)) = ascPut (mOf g (lets.take i)) l.name ((unitS (gF g) (mF (mOf g (lets.take i))) l.body).1, (unitS (gF g) (mF (mOf g (lets.take i))) l.body).2, shareS (sF (mOf g (lets.take i))) l.body) := foldl_succ _ _ h
end Go.Proofs.YtkdhmbhbbciedaaGreatDoor
namespace Go.Proofs.YtkdhmbhbbciedaaGreatDoor.Vm
open Go Go.VL
attribute [local simp] exS_some hcons hstep evPure opd uOf putOK St.put St.at getK binD binI binS binB nilD aggD eqUs cmpK lookD lookR rangeD rangeS Go.VL.nextD Go.VL.nextS entryD keyD valU keyU lookK mkV entD_nil allUE makeMapD mapUpdD mapEff updK valM Key.kk shiftI arith unD convD pickD loadD cellsAt fieldAddrD fieldD indexAddrD indexSlD arrAddr indexD sliceD cutD lenD minmaxD nilCheckD buildD fillD cellsD isOne ones setAll mkAgg allU allocD boxD storeD St.add buildSliceD appendD rowsOf makeD setOb getK_setOb getK_del getK_cons stripL strip guardTmp entry chunks zcells valD argsV argsW argW argU1 argU0 argsU0 argsU1 calleeOf scalarD scalarU delAll effD St.effS RK_seq RK_seq_ret RK_seq_exit RK_blk RK_blk_ret RK_blk_exit RK_loop RK_loop_ret RK_loop_exit RK_done vs_seq vs_block vs_cond vs_region vs_loop applyW mkD rdIds lentIds callOf calleeOf freeOp D.ids Op.operands Call.operands isEffOp makeIfD makeFuncD typeAssertD conc concs conc1 uOfV panicD IntKind.bits allU2 List.take_of_length_le List.range_succ HR_nil HR_cons HR_grd v2_seq v2_block v2_skip v2_exit v2_ret v2_cond v2_region v2_draw v2_loop RN_0 RN_done RN_seq RN_seq_ret RN_seq_exit RN_blk RN_blk_ret RN_blk_exit RN_loop RN_loop_ret RN_loop_exit Cnd_tf Cnd_ft EndV getK_append frzN frz1 St.frz St.frzS frzS fv fzVec fzMap frzObS frz normD normU norm1 normOb St.norm St.lp St.only keepE wkE wkO wkU Ob.under D.under under_rowsD under_entD H4_nil H4_cons H4_grd h4s resD oneOrTup pureD List.zipIdx_cons List.zipIdx_nil List.map_cons List.map_nil Nat.zero_add
attribute [local irreducible] V G H HD HD2 RunK Eff CallP CallV EndOK Fun Ret FinOK LoopI LoopW EndW HR vs2 RN Cnd H4
theorem allU2_stk (l : List Int) : allU2 (stk l) = some (l.map fun n => [.int .i64 n]) := by
 have : stk l = (l.map fun n => [U.int .i64 n]).map (·.map D.u) := by simp [stk]
 rw [this, allU2_map]
theorem push_out (o : List (Nat × Ob)) (nx : Nat) (pc : Int) (sd : D) (en : Bool) (va er x : Int) (h0 : getK o 0 = some (mbox pc sd en va er)) (hx : okv x = false) :
  Ret Tryz.prog 97 [.ptr 0 0, .u (.int .i64 x)] o nx (fun _ o' n' => getK o' 0 = some (mbox pc (.u .nil) true 0 3) ∧ n' = nx) := by
 have hx' : (decide (-1099511627776 ≤ x ∧ x ≤ 1099511627776)) = false := hx
 have h1 := within_fun x
 rw [hx'] at h1
 (refine Ret.of_body Tryz.func97 rfl (by simp) fun Γ hn => ?_); simp only [entry, List.zipIdx_cons, List.zipIdx_nil, List.map_cons, List.map_nil, Nat.zero_add, Tryz.ntmps97]
 repeat' (first
  | (refine V_run rfl ?_; simp)
  | (refine CallP.f2 rfl (h1) (by first | simp <;> rfl | fail) ?_; simp)
  | (refine CallP.ret_ (end_ret o nx pc sd en va er _ _ h0) (by rfl) (by first | assumption | simp) (by rfl) (by simp) ?_; rintro d o n' hn' ⟨hg, rfl⟩; (try simp at hn'); (try simp))
  | fail)
 (first | (refine EndOK.fin (.inr rfl) ?_) | (refine EndOK.fin (.inl rfl) ?_)); simp [resD, oneOrTup, Tryz.results97]
 refine FinOK.here (by simp) (by simpa using hg)
/-- A push, whatever the stack and the number. -/
theorem push_ret (m : Mach) (o : List (Nat × Ob)) (nx : Nat) (x : Int) (hnx : 0 < nx) (h : MOb m o nx) (hl : m.stack.length < 100000) (hp : m.pc < 9223372036854775807 ∧ -9223372036854775808 ≤ m.pc) :
  Ret Tryz.prog 97 [.ptr 0 0, .u (.int .i64 x)] o nx (fun _ o' n' => MOb (m.push x) o' n') := by
 obtain ⟨pc, st, en, va, er⟩ := m
 unfold Mach.push
 by_cases hx : okv x = true
 ·have hx' : -1099511627776 ≤ x ∧ x ≤ 1099511627776 := by simpa [okv] using hx
  rw [if_pos hx]
  rcases h with ⟨h1, h2⟩ | ⟨i, r, h1, h2, h3, h4, h5⟩
  ·simp only at h1
   subst h1
   exact push_nil o nx pc x en va er hnx h2 hx' hp
  ·exact push_vec o nx pc st x en va er i r h1 h2 h4 h5 h3 hl hx' hp
 ·rw [if_neg hx]
  have hx' : okv x = false := by simpa using hx
  have h0 : ∃ sd, getK o 0 = some (mbox pc sd en va er) := by
   rcases h with ⟨h1, h2⟩ | ⟨i, r, h1, h2, h3, h4, h5⟩
   ·exact ⟨_, h2⟩
   ·exact ⟨_, h4⟩
  obtain ⟨sd, h0⟩ := h0
  exact Ret.mono (push_out o nx pc sd en va er x h0 hx') fun d o' n' ⟨hg, _⟩ => .inl ⟨rfl, hg⟩
theorem needs_le (n : Int) : (0 ≤ needs n ∧ needs n ≤ 2) ∧ (needs n ≤ 0 → n = 0 ∨ n = 1 ∨ n = 12) ∧ (needs n ≤ 1 → n = 0 ∨ n = 1 ∨ n = 12 ∨ n = 11 ∨ n = 13 ∨ n = 14) := by
 unfold needs
 split <;> (try split) <;> omega
set_option maxHeartbeats 8000000 in
/-- The stack is not there. -/
theorem step_nil (code : List Ins) (vs : List Var) (pc : Int) (en : Bool) (va er : Int) (c : Ins) (o : List (Nat × Ob)) (nx : Nat) (hnx : 0 < nx) (hpc : 0 ≤ pc) (hcd : code[pc.toNat]? = some c) (h0 : getK o 0 = some (mbox pc (.u .nil) en va er)) :
  Ret Tryz.prog 63 [.ptr 0 0, .u (inss code), .u (vars vs)] o nx (fun _ o n => MOb (stepM code vs ⟨pc, [], en, va, er⟩) o n) := by
 have hlt := (List.getElem?_eq_some_iff.1 hcd).1
 have hn1 : 0 ≠ nx := by omega
 have hn2 : nx ≠ 0 := by omega
 have hne := needs_le c.op
 have hcf := contains_fun []
 have hif := indexVar_fun vs 99 [.row c.row 0] (fun v => decide (v.name = c.s)) (fun v _ => step2_fun v c) (by simp) (fun _ => rfl)
 simp only [ints, vars, Ins.row, List.map_nil, List.map_cons] at hcf hif
 have hst := stepM_eq (code := code) (vs := vs) (m := ⟨pc, [], en, va, er⟩) hpc hcd
 rcases idx_find vs (fun v => decide (v.name = c.s)) with ⟨hix, hfd⟩ | ⟨j, v, hix, hj, hfd⟩
 ·rw [hix] at hif
  (refine Ret.of_body Tryz.func63 rfl (by simp) fun Γ hn => ?_); simp only [entry, List.zipIdx_cons, List.zipIdx_nil, List.map_cons, List.map_nil, Nat.zero_add, Tryz.ntmps63]
  simp only [mbox, inss, vars] at h0 ⊢
  refine V_len (x := 1) rfl fun hl => ?_
  simp at hl
  repeat' (first
  | (refine Cnd.of (fun hc => ?_) (fun hc => ?_) <;> (try (exfalso; omega)) <;> (try simp [hcd, h0, hn1, hn2]))
  | (refine V_run rfl ?_; simp [hcd, h0, hn1, hn2])
  | (refine And.intro (by omega) ?_)
  | (refine ⟨hC _ (by kernel_rfl), hk _ (RN_K 8 _ _ _ ?_)⟩; clear hC hk C k; simp [hcd, h0, hn1, hn2])
  | (refine V_dx rfl (by kernel_rfl) (by first | (simp [hn]; done) | (simp [hn]; omega) | fail) fun C k hC hk => ?_; simp [hcd, h0, hn1, hn2])
  | (refine H4_HD4 rfl ?_; simp [hcd, h0, hn1, hn2])
  | (refine HD4h_val rfl ?_; simp [hcd, h0, hn1, hn2])
  | ((first | refine CallP.f2 rfl (needs_fun c.op) (by first | simp [hcd, h0, hn1, hn2] <;> rfl | fail) ?_ | refine CallP.f2 rfl (hcf) (by first | simp [hcd, h0, hn1, hn2] <;> rfl | fail) ?_ | refine CallP.f2 rfl (hif) (by first | simp [hcd, h0, hn1, hn2] <;> rfl | fail) ?_ | fail); simp [hcd, h0, hn1, hn2])
  | ((first | refine CallV.f2 rfl (needs_fun c.op) (by first | simp [hcd, h0, hn1, hn2] <;> rfl | fail) ?_ | refine CallV.f2 rfl (hcf) (by first | simp [hcd, h0, hn1, hn2] <;> rfl | fail) ?_ | refine CallV.f2 rfl (hif) (by first | simp [hcd, h0, hn1, hn2] <;> rfl | fail) ?_ | fail); simp [hcd, h0, hn1, hn2])
  | (refine CallP.ret_ (end_ret _ _ _ _ _ _ _ _ _ (by simp [h0, hn1, hn2] <;> rfl)) (by rfl) (by first | assumption | simp) (by rfl) (by simp) ?_; rintro d o n' hn' ⟨hg, rfl⟩; (try simp at hn'); (try simp [hcd, h0, hn1, hn2]))
  | (refine CallP.ret_ (push_ret ⟨pc, [], en, va, er⟩ _ _ _ (by simp <;> omega) (.inl ⟨rfl, by simp [h0, hn1, hn2] <;> rfl⟩) (by simp) (by simp <;> omega)) (by rfl) (by first | assumption | simp) (by rfl) (by simp) ?_; rintro d o n' hn' hg; (try simp at hn'); (try simp [hcd, h0, hn1, hn2]))
  | fail)
  all_goals
   (first | (refine EndOK.fin (.inr rfl) ?_) | (refine EndOK.fin (.inl rfl) ?_)); simp [resD, oneOrTup, Tryz.results63]
   refine FinOK.here (by simp <;> omega) ?_
   rw [hst]
  ·rw [if_neg (by simp <;> omega), stepI, if_pos ‹c.op = 0›]
   exact hg
  ·rw [if_neg (by simp <;> omega), stepI, if_neg ‹¬c.op = 0›, if_pos ‹c.op = 1›, hfd]
   exact .inl ⟨rfl, hg⟩
  ·rw [if_neg (by simp <;> omega), stepI, if_neg ‹¬c.op = 0›, if_neg ‹¬c.op = 1›, if_pos ‹c.op = 12›]
   exact .inl ⟨rfl, by simp [mbox, hn1]⟩
  all_goals
   rw [if_pos (by simp <;> omega)]
   exact .inl ⟨rfl, hg⟩
 ·rw [hix] at hif
  have hj0 : (0 : Int) ≤ j := by omega
  (refine Ret.of_body Tryz.func63 rfl (by simp) fun Γ hn => ?_); simp only [entry, List.zipIdx_cons, List.zipIdx_nil, List.map_cons, List.map_nil, Nat.zero_add, Tryz.ntmps63]
  simp only [mbox, inss, vars] at h0 ⊢
  refine V_len (x := 1) rfl fun hl => ?_
  simp at hl
  repeat' (first
  | (refine Cnd.of (fun hc => ?_) (fun hc => ?_) <;> (try (exfalso; omega)) <;> (try simp [hcd, h0, hn1, hn2, hj]))
  | (refine V_run rfl ?_; simp [hcd, h0, hn1, hn2, hj])
  | (refine And.intro (by omega) ?_)
  | (refine ⟨hC _ (by kernel_rfl), hk _ (RN_K 8 _ _ _ ?_)⟩; clear hC hk C k; simp [hcd, h0, hn1, hn2, hj])
  | (refine V_dx rfl (by kernel_rfl) (by first | (simp [hn]; done) | (simp [hn]; omega) | fail) fun C k hC hk => ?_; simp [hcd, h0, hn1, hn2, hj])
  | (refine H4_HD4 rfl ?_; simp [hcd, h0, hn1, hn2, hj])
  | (refine HD4h_val rfl ?_; simp [hcd, h0, hn1, hn2, hj])
  | ((first | refine CallP.f2 rfl (needs_fun c.op) (by first | simp [hcd, h0, hn1, hn2, hj] <;> rfl | fail) ?_ | refine CallP.f2 rfl (hcf) (by first | simp [hcd, h0, hn1, hn2, hj] <;> rfl | fail) ?_ | refine CallP.f2 rfl (hif) (by first | simp [hcd, h0, hn1, hn2, hj] <;> rfl | fail) ?_ | fail); simp [hcd, h0, hn1, hn2, hj])
  | ((first | refine CallV.f2 rfl (needs_fun c.op) (by first | simp [hcd, h0, hn1, hn2, hj] <;> rfl | fail) ?_ | refine CallV.f2 rfl (hcf) (by first | simp [hcd, h0, hn1, hn2, hj] <;> rfl | fail) ?_ | refine CallV.f2 rfl (hif) (by first | simp [hcd, h0, hn1, hn2, hj] <;> rfl | fail) ?_ | fail); simp [hcd, h0, hn1, hn2, hj])
  | (refine CallP.ret_ (end_ret _ _ _ _ _ _ _ _ _ (by simp [h0, hn1, hn2] <;> rfl)) (by rfl) (by first | assumption | simp) (by rfl) (by simp) ?_; rintro d o n' hn' ⟨hg, rfl⟩; (try simp at hn'); (try simp [hcd, h0, hn1, hn2, hj]))
  | (refine CallP.ret_ (push_ret ⟨pc, [], en, va, er⟩ _ _ _ (by simp <;> omega) (.inl ⟨rfl, by simp [h0, hn1, hn2] <;> rfl⟩) (by simp) (by simp <;> omega)) (by rfl) (by first | assumption | simp) (by rfl) (by simp) ?_; rintro d o n' hn' hg; (try simp at hn'); (try simp [hcd, h0, hn1, hn2, hj]))
  | fail)
  all_goals
   (first | (refine EndOK.fin (.inr rfl) ?_) | (refine EndOK.fin (.inl rfl) ?_)); simp [resD, oneOrTup, Tryz.results63]
   refine FinOK.here (by simp <;> omega) ?_
   rw [hst]
  ·rw [if_neg (by simp <;> omega), stepI, if_pos ‹c.op = 0›]
   exact hg
  ·rw [if_neg (by simp <;> omega), stepI, if_neg ‹¬c.op = 0›, if_pos ‹c.op = 1›, hfd]
   exact hg
  ·rw [if_neg (by simp <;> omega), stepI, if_neg ‹¬c.op = 0›, if_neg ‹¬c.op = 1›, if_pos ‹c.op = 12›]
   exact .inl ⟨rfl, by simp [mbox, hn1]⟩
  all_goals
   rw [if_pos (by simp <;> omega)]
   exact .inl ⟨rfl, hg⟩
set_option maxHeartbeats 16000000 in
theorem step_any (code : List Ins) (vs : List Var) (pc : Int) (en : Bool) (va er : Int) (c : Ins) (o : List (Nat × Ob)) (nx : Nat) (i : Nat) (r : List Int) (st : List Int) (hpc : 0 ≤ pc) (hcd : code[pc.toNat]? = some c)
  (hi : i ≠ 0) (hinx : i < nx) (hr : r.take (st).length = st) (hany : ((st).any fun n => !okv n) = true) (hlen : (st).length < 100000)
  (h0 : getK o 0 = some (mbox pc (.vec i (st).length) en va er)) (h1 : getK o i = some (.vec 3 1 (stk r))) :
  Ret Tryz.prog 63 [.ptr 0 0, .u (inss code), .u (vars vs)] o nx (fun _ o n => MOb (stepM code vs ⟨pc, st, en, va, er⟩) o n) := by
 have hlt := (List.getElem?_eq_some_iff.1 hcd).1
 have hrl : (st).length ≤ r.length := by
  have := congrArg List.length hr
  rw [List.length_take] at this
  omega
 have hrs : (stk r).take (st).length = stk (st) := by rw [stk, ← List.map_take, hr]; rfl
 have hi1 : 0 ≠ i := by omega
 have hin1 : nx ≠ i := by omega
 have hin' : i ≠ nx := by omega
 have hn1 : 0 ≠ nx := by omega
 have hn2 : nx ≠ 0 := by omega
 have hne := needs_le c.op
 have hcf := contains_fun (st)
 rw [show ((st).any fun n => !decide (-1099511627776 ≤ n ∧ n ≤ 1099511627776)) = true from hany] at hcf
 have hif := indexVar_fun vs 99 [.row c.row 0] (fun v => decide (v.name = c.s)) (fun v _ => step2_fun v c) (by simp) (fun _ => rfl)
 have hst := stepM_eq (code := code) (vs := vs) (m := ⟨pc, st, en, va, er⟩) hpc hcd
 simp only [ints, vars, Ins.row, List.map_nil, List.map_cons] at hcf hif
 (refine Ret.of_body Tryz.func63 rfl (by simp) fun Γ hn => ?_); simp only [entry, List.zipIdx_cons, List.zipIdx_nil, List.map_cons, List.map_nil, Nat.zero_add, Tryz.ntmps63]
 simp only [mbox, inss, vars] at h0 ⊢
 refine V_len (x := 1) rfl fun hl => ?_
 simp at hl
 repeat' (first
  | (refine Cnd.of (fun hc => ?_) (fun hc => ?_) <;> (try (exfalso; omega)) <;> (try simp [hcd, h0, h1, hi, hi1, hin1, hin', hn1, hn2, hrs, hrl, allU2_stk, mbox]))
  | (refine V_run rfl ?_; simp [hcd, h0, h1, hi, hi1, hin1, hin', hn1, hn2, hrs, hrl, allU2_stk, mbox])
  | (refine And.intro (by omega) ?_)
  | (refine ⟨hC _ (by kernel_rfl), hk _ (RN_K 8 _ _ _ ?_)⟩; clear hC hk C k; simp [hcd, h0, h1, hi, hi1, hin1, hin', hn1, hn2, hrs, hrl, allU2_stk, mbox])
  | (refine V_dx rfl (by kernel_rfl) (by first | (simp [hn]; done) | (simp [hn]; omega) | fail) fun C k hC hk => ?_; simp [hcd, h0, h1, hi, hi1, hin1, hin', hn1, hn2, hrs, hrl, allU2_stk, mbox])
  | (refine H4_HD4 rfl ?_; simp [hcd, h0, h1, hi, hi1, hin1, hin', hn1, hn2, hrs, hrl, allU2_stk, mbox])
  | (refine HD4h_val rfl ?_; simp [hcd, h0, h1, hi, hi1, hin1, hin', hn1, hn2, hrs, hrl, allU2_stk, mbox])
  | ((first | refine CallV.f2 rfl (needs_fun c.op) (by first | simp [hcd, h0, h1, hi, hi1, hin1, hin', hn1, hn2, hrs, hrl, allU2_stk, mbox] <;> rfl | fail) ?_ | refine CallV.f2 rfl (hcf) (by first | simp [hcd, h0, h1, hi, hi1, hin1, hin', hn1, hn2, hrs, hrl, allU2_stk, mbox] <;> rfl | fail) ?_ | refine CallV.f2 rfl (hif) (by first | simp [hcd, h0, h1, hi, hi1, hin1, hin', hn1, hn2, hrs, hrl, allU2_stk, mbox] <;> rfl | fail) ?_ | fail); simp [hcd, h0, h1, hi, hi1, hin1, hin', hn1, hn2, hrs, hrl, allU2_stk, mbox])
  | (refine CallP.ret_ (end_ret _ _ _ _ _ _ _ _ _ (by first | (simp [hcd, h0, h1, hi, hi1, hin1, hin', hn1, hn2, hrs, hrl, allU2_stk]; done) | (simp [hcd, h0, h1, hi, hi1, hin1, hin', hn1, hn2, hrs, hrl, allU2_stk]; rfl))) (by rfl) (by first | assumption | simp) (by rfl) (by simp) ?_; rintro d o n' hn' ⟨hg, rfl⟩; (try simp at hn'); (try simp [hcd, h0, h1, hi, hi1, hin1, hin', hn1, hn2, hrs, hrl, allU2_stk, mbox]))
  | fail)
 all_goals
  (first | (refine EndOK.fin (.inr rfl) ?_) | (refine EndOK.fin (.inl rfl) ?_)); simp [resD, oneOrTup, Tryz.results63]
  refine FinOK.here (by simp <;> omega) ?_
  rw [hst]
 all_goals
  rw [if_pos (by simp [hany] <;> omega)]
  exact .inl ⟨rfl, hg⟩
set_option maxHeartbeats 16000000 in
theorem step_0 (code : List Ins) (vs : List Var) (pc : Int) (en : Bool) (va er : Int) (c : Ins) (o : List (Nat × Ob)) (nx : Nat) (i : Nat) (r : List Int) (hpc : 0 ≤ pc) (hcd : code[pc.toNat]? = some c)
  (hi : i ≠ 0) (hinx : i < nx) (hr : r.take (([] : List Int)).length = ([] : List Int)) (hany : ((([] : List Int)).any fun n => !okv n) = false) (hlen : (([] : List Int)).length < 100000)
  (h0 : getK o 0 = some (mbox pc (.vec i (([] : List Int)).length) en va er)) (h1 : getK o i = some (.vec 3 1 (stk r))) :
  Ret Tryz.prog 63 [.ptr 0 0, .u (inss code), .u (vars vs)] o nx (fun _ o n => MOb (stepM code vs ⟨pc, ([] : List Int), en, va, er⟩) o n) := by
 have hlt := (List.getElem?_eq_some_iff.1 hcd).1
 have hrl : (([] : List Int)).length ≤ r.length := by
  have := congrArg List.length hr
  rw [List.length_take] at this
  omega
 have hrs : (stk r).take (([] : List Int)).length = stk (([] : List Int)) := by rw [stk, ← List.map_take, hr]; rfl
 have hi1 : 0 ≠ i := by omega
 have hin1 : nx ≠ i := by omega
 have hin' : i ≠ nx := by omega
 have hn1 : 0 ≠ nx := by omega
 have hn2 : nx ≠ 0 := by omega
 have hne := needs_le c.op
 have hcf := contains_fun (([] : List Int))
 rw [show ((([] : List Int)).any fun n => !decide (-1099511627776 ≤ n ∧ n ≤ 1099511627776)) = false from hany] at hcf
 have hif := indexVar_fun vs 99 [.row c.row 0] (fun v => decide (v.name = c.s)) (fun v _ => step2_fun v c) (by simp) (fun _ => rfl)
 have hst := stepM_eq (code := code) (vs := vs) (m := ⟨pc, ([] : List Int), en, va, er⟩) hpc hcd
 simp only [ints, vars, Ins.row, List.map_nil, List.map_cons] at hcf hif
 simp at hcf hrl hrs h0
 rcases idx_find vs (fun v => decide (v.name = c.s)) with ⟨hix, hfd⟩ | ⟨j, v, hix, hj, hfd⟩
 ·rw [hix] at hif
  (refine Ret.of_body Tryz.func63 rfl (by simp) fun Γ hn => ?_); simp only [entry, List.zipIdx_cons, List.zipIdx_nil, List.map_cons, List.map_nil, Nat.zero_add, Tryz.ntmps63]
  simp only [mbox, inss, vars] at h0 ⊢
  refine V_len (x := 1) rfl fun hl => ?_
  simp at hl
  repeat' (first
  | (refine Cnd.of (fun hc => ?_) (fun hc => ?_) <;> (try (exfalso; omega)) <;> (try simp [hcd, h0, h1, hi, hi1, hin1, hin', hn1, hn2, hrs, hrl, allU2_stk, mbox]))
  | (refine V_run rfl ?_; simp [hcd, h0, h1, hi, hi1, hin1, hin', hn1, hn2, hrs, hrl, allU2_stk, mbox])
  | (refine And.intro (by omega) ?_)
  | (refine ⟨hC _ (by kernel_rfl), hk _ (RN_K 8 _ _ _ ?_)⟩; clear hC hk C k; simp [hcd, h0, h1, hi, hi1, hin1, hin', hn1, hn2, hrs, hrl, allU2_stk, mbox])
  | (refine V_dx rfl (by kernel_rfl) (by first | (simp [hn]; done) | (simp [hn]; omega) | fail) fun C k hC hk => ?_; simp [hcd, h0, h1, hi, hi1, hin1, hin', hn1, hn2, hrs, hrl, allU2_stk, mbox])
  | (refine H4_HD4 rfl ?_; simp [hcd, h0, h1, hi, hi1, hin1, hin', hn1, hn2, hrs, hrl, allU2_stk, mbox])
  | (refine HD4h_val rfl ?_; simp [hcd, h0, h1, hi, hi1, hin1, hin', hn1, hn2, hrs, hrl, allU2_stk, mbox])
  | ((first | refine CallP.f2 rfl (needs_fun c.op) (by first | simp [hcd, h0, h1, hi, hi1, hin1, hin', hn1, hn2, hrs, hrl, allU2_stk, mbox] <;> rfl | fail) ?_ | refine CallP.f2 rfl (hcf) (by first | simp [hcd, h0, h1, hi, hi1, hin1, hin', hn1, hn2, hrs, hrl, allU2_stk, mbox] <;> rfl | fail) ?_ | refine CallP.f2 rfl (hif) (by first | simp [hcd, h0, h1, hi, hi1, hin1, hin', hn1, hn2, hrs, hrl, allU2_stk, mbox] <;> rfl | fail) ?_ | fail); simp [hcd, h0, h1, hi, hi1, hin1, hin', hn1, hn2, hrs, hrl, allU2_stk, mbox])
  | ((first | refine CallV.f2 rfl (needs_fun c.op) (by first | simp [hcd, h0, h1, hi, hi1, hin1, hin', hn1, hn2, hrs, hrl, allU2_stk, mbox] <;> rfl | fail) ?_ | refine CallV.f2 rfl (hcf) (by first | simp [hcd, h0, h1, hi, hi1, hin1, hin', hn1, hn2, hrs, hrl, allU2_stk, mbox] <;> rfl | fail) ?_ | refine CallV.f2 rfl (hif) (by first | simp [hcd, h0, h1, hi, hi1, hin1, hin', hn1, hn2, hrs, hrl, allU2_stk, mbox] <;> rfl | fail) ?_ | fail); simp [hcd, h0, h1, hi, hi1, hin1, hin', hn1, hn2, hrs, hrl, allU2_stk, mbox])
  | (refine CallP.ret_ (end_ret _ _ _ _ _ _ _ _ _ (by first | (simp [hcd, h0, h1, hi, hi1, hin1, hin', hn1, hn2, hrs, hrl, allU2_stk]; done) | (simp [hcd, h0, h1, hi, hi1, hin1, hin', hn1, hn2, hrs, hrl, allU2_stk]; rfl))) (by rfl) (by first | assumption | simp) (by rfl) (by simp) ?_; rintro d o n' hn' ⟨hg, rfl⟩; (try simp at hn'); (try simp [hcd, h0, h1, hi, hi1, hin1, hin', hn1, hn2, hrs, hrl, allU2_stk, mbox]))
  | (refine CallP.ret_ (push_ret ⟨pc, [], en, va, er⟩ _ _ _ (by first | (simp; done) | (simp; omega)) (.inr ⟨i, r, hi, (by first | (simp; done) | (simp; omega)), rfl, (by first | (simp [hcd, h0, h1, hi, hi1, hin1, hin', hn1, hn2, hrs, hrl, allU2_stk]; done) | (simp [hcd, h0, h1, hi, hi1, hin1, hin', hn1, hn2, hrs, hrl, allU2_stk]; rfl)), (by first | (simp [hcd, h0, h1, hi, hi1, hin1, hin', hn1, hn2, hrs, hrl, allU2_stk]; done) | fail)⟩) (by first | (simp; done) | (simp; omega)) (by first | (simp; done) | (simp; omega))) (by rfl) (by first | assumption | simp) (by rfl) (by simp) ?_; rintro d o n' hn' hg; (try simp at hn'); (try simp [hcd, h0, h1, hi, hi1, hin1, hin', hn1, hn2, hrs, hrl, allU2_stk, mbox]))
  | fail)
  all_goals
   (first | (refine EndOK.fin (.inr rfl) ?_) | (refine EndOK.fin (.inl rfl) ?_)); simp [resD, oneOrTup, Tryz.results63]
   refine FinOK.here (by simp <;> omega) ?_
   rw [hst]
  ·rw [if_neg (by simp [hany] <;> omega), stepI, if_pos ‹c.op = 0›]
   exact hg
  ·rw [if_neg (by simp [hany] <;> omega), stepI, if_neg ‹¬c.op = 0›, if_pos ‹c.op = 1›, hfd]
   exact .inl ⟨rfl, hg⟩
  ·rw [if_neg (by simp [hany] <;> omega), stepI, if_neg ‹¬c.op = 0›, if_neg ‹¬c.op = 1›, if_pos ‹c.op = 12›]
   exact .inr ⟨i, r, hi, by simp <;> omega, hr, by simp [mbox, hcd, h0, h1, hi, hi1, hin1, hin', hn1, hn2, hrs, hrl, allU2_stk], by simp [hcd, h0, h1, hi, hi1, hin1, hin', hn1, hn2, hrs, hrl, allU2_stk]⟩
  all_goals
   rw [if_pos (by simp [hany] <;> omega)]
   exact .inl ⟨rfl, hg⟩
 ·rw [hix] at hif
  have hj0 : (0 : Int) ≤ j := by omega
  (refine Ret.of_body Tryz.func63 rfl (by simp) fun Γ hn => ?_); simp only [entry, List.zipIdx_cons, List.zipIdx_nil, List.map_cons, List.map_nil, Nat.zero_add, Tryz.ntmps63]
  simp only [mbox, inss, vars] at h0 ⊢
  refine V_len (x := 1) rfl fun hl => ?_
  simp at hl
  repeat' (first
  | (refine Cnd.of (fun hc => ?_) (fun hc => ?_) <;> (try (exfalso; omega)) <;> (try simp [hcd, h0, h1, hi, hi1, hin1, hin', hn1, hn2, hrs, hrl, allU2_stk, mbox, hj]))
  | (refine V_run rfl ?_; simp [hcd, h0, h1, hi, hi1, hin1, hin', hn1, hn2, hrs, hrl, allU2_stk, mbox, hj])
  | (refine And.intro (by omega) ?_)
  | (refine ⟨hC _ (by kernel_rfl), hk _ (RN_K 8 _ _ _ ?_)⟩; clear hC hk C k; simp [hcd, h0, h1, hi, hi1, hin1, hin', hn1, hn2, hrs, hrl, allU2_stk, mbox, hj])
  | (refine V_dx rfl (by kernel_rfl) (by first | (simp [hn]; done) | (simp [hn]; omega) | fail) fun C k hC hk => ?_; simp [hcd, h0, h1, hi, hi1, hin1, hin', hn1, hn2, hrs, hrl, allU2_stk, mbox, hj])
  | (refine H4_HD4 rfl ?_; simp [hcd, h0, h1, hi, hi1, hin1, hin', hn1, hn2, hrs, hrl, allU2_stk, mbox, hj])
  | (refine HD4h_val rfl ?_; simp [hcd, h0, h1, hi, hi1, hin1, hin', hn1, hn2, hrs, hrl, allU2_stk, mbox, hj])
  | ((first | refine CallP.f2 rfl (needs_fun c.op) (by first | simp [hcd, h0, h1, hi, hi1, hin1, hin', hn1, hn2, hrs, hrl, allU2_stk, mbox, hj] <;> rfl | fail) ?_ | refine CallP.f2 rfl (hcf) (by first | simp [hcd, h0, h1, hi, hi1, hin1, hin', hn1, hn2, hrs, hrl, allU2_stk, mbox, hj] <;> rfl | fail) ?_ | refine CallP.f2 rfl (hif) (by first | simp [hcd, h0, h1, hi, hi1, hin1, hin', hn1, hn2, hrs, hrl, allU2_stk, mbox, hj] <;> rfl | fail) ?_ | fail); simp [hcd, h0, h1, hi, hi1, hin1, hin', hn1, hn2, hrs, hrl, allU2_stk, mbox, hj])
  | ((first | refine CallV.f2 rfl (needs_fun c.op) (by first | simp [hcd, h0, h1, hi, hi1, hin1, hin', hn1, hn2, hrs, hrl, allU2_stk, mbox, hj] <;> rfl | fail) ?_ | refine CallV.f2 rfl (hcf) (by first | simp [hcd, h0, h1, hi, hi1, hin1, hin', hn1, hn2, hrs, hrl, allU2_stk, mbox, hj] <;> rfl | fail) ?_ | refine CallV.f2 rfl (hif) (by first | simp [hcd, h0, h1, hi, hi1, hin1, hin', hn1, hn2, hrs, hrl, allU2_stk, mbox, hj] <;> rfl | fail) ?_ | fail); simp [hcd, h0, h1, hi, hi1, hin1, hin', hn1, hn2, hrs, hrl, allU2_stk, mbox, hj])
  | (refine CallP.ret_ (end_ret _ _ _ _ _ _ _ _ _ (by first | (simp [hcd, h0, h1, hi, hi1, hin1, hin', hn1, hn2, hrs, hrl, allU2_stk]; done) | (simp [hcd, h0, h1, hi, hi1, hin1, hin', hn1, hn2, hrs, hrl, allU2_stk]; rfl))) (by rfl) (by first | assumption | simp) (by rfl) (by simp) ?_; rintro d o n' hn' ⟨hg, rfl⟩; (try simp at hn'); (try simp [hcd, h0, h1, hi, hi1, hin1, hin', hn1, hn2, hrs, hrl, allU2_stk, mbox, hj]))
  | (refine CallP.ret_ (push_ret ⟨pc, [], en, va, er⟩ _ _ _ (by first | (simp; done) | (simp; omega)) (.inr ⟨i, r, hi, (by first | (simp; done) | (simp; omega)), rfl, (by first | (simp [hcd, h0, h1, hi, hi1, hin1, hin', hn1, hn2, hrs, hrl, allU2_stk]; done) | (simp [hcd, h0, h1, hi, hi1, hin1, hin', hn1, hn2, hrs, hrl, allU2_stk]; rfl)), (by first | (simp [hcd, h0, h1, hi, hi1, hin1, hin', hn1, hn2, hrs, hrl, allU2_stk]; done) | fail)⟩) (by first | (simp; done) | (simp; omega)) (by first | (simp; done) | (simp; omega))) (by rfl) (by first | assumption | simp) (by rfl) (by simp) ?_; rintro d o n' hn' hg; (try simp at hn'); (try simp [hcd, h0, h1, hi, hi1, hin1, hin', hn1, hn2, hrs, hrl, allU2_stk, mbox, hj]))
  | fail)
  all_goals
   (first | (refine EndOK.fin (.inr rfl) ?_) | (refine EndOK.fin (.inl rfl) ?_)); simp [resD, oneOrTup, Tryz.results63]
   refine FinOK.here (by simp <;> omega) ?_
   rw [hst]
  ·rw [if_neg (by simp [hany] <;> omega), stepI, if_pos ‹c.op = 0›]
   exact hg
  ·rw [if_neg (by simp [hany] <;> omega), stepI, if_neg ‹¬c.op = 0›, if_pos ‹c.op = 1›, hfd]
   exact hg
  ·rw [if_neg (by simp [hany] <;> omega), stepI, if_neg ‹¬c.op = 0›, if_neg ‹¬c.op = 1›, if_pos ‹c.op = 12›]
   exact .inr ⟨i, r, hi, by simp <;> omega, hr, by simp [mbox, hcd, h0, h1, hi, hi1, hin1, hin', hn1, hn2, hrs, hrl, allU2_stk], by simp [hcd, h0, h1, hi, hi1, hin1, hin', hn1, hn2, hrs, hrl, allU2_stk]⟩
  all_goals
   rw [if_pos (by simp [hany] <;> omega)]
   exact .inl ⟨rfl, hg⟩
set_option maxHeartbeats 16000000 in
theorem step_1 (code : List Ins) (vs : List Var) (pc : Int) (en : Bool) (va er : Int) (c : Ins) (o : List (Nat × Ob)) (nx : Nat) (i : Nat) (r : List Int) (x : Int) (hpc : 0 ≤ pc) (hcd : code[pc.toNat]? = some c)
  (hi : i ≠ 0) (hinx : i < nx) (hr : r.take ([x]).length = [x]) (hany : (([x]).any fun n => !okv n) = false) (hlen : ([x]).length < 100000)
  (h0 : getK o 0 = some (mbox pc (.vec i ([x]).length) en va er)) (h1 : getK o i = some (.vec 3 1 (stk r))) :
  Ret Tryz.prog 63 [.ptr 0 0, .u (inss code), .u (vars vs)] o nx (fun _ o n => MOb (stepM code vs ⟨pc, [x], en, va, er⟩) o n) := by
 have hlt := (List.getElem?_eq_some_iff.1 hcd).1
 have hrl : ([x]).length ≤ r.length := by
  have := congrArg List.length hr
  rw [List.length_take] at this
  omega
 have hrs : (stk r).take ([x]).length = stk ([x]) := by rw [stk, ← List.map_take, hr]; rfl
 have hi1 : 0 ≠ i := by omega
 have hin1 : nx ≠ i := by omega
 have hin' : i ≠ nx := by omega
 have hn1 : 0 ≠ nx := by omega
 have hn2 : nx ≠ 0 := by omega
 have hne := needs_le c.op
 have hcf := contains_fun ([x])
 rw [show (([x]).any fun n => !decide (-1099511627776 ≤ n ∧ n ≤ 1099511627776)) = false from hany] at hcf
 have hif := indexVar_fun vs 99 [.row c.row 0] (fun v => decide (v.name = c.s)) (fun v _ => step2_fun v c) (by simp) (fun _ => rfl)
 have hst := stepM_eq (code := code) (vs := vs) (m := ⟨pc, [x], en, va, er⟩) hpc hcd
 have hx0 : r[0]? = some x := by
  have := congrArg (·[0]?) hr
  simpa [List.getElem?_take] using this
 have hxv : -1099511627776 ≤ x ∧ x ≤ 1099511627776 := by simpa [okv] using hany
 have htop : Mach.top ⟨pc, [x], en, va, er⟩ 0 = x := by simp [Mach.top]
 have hdrop : Mach.drop ⟨pc, [x], en, va, er⟩ 1 = ⟨pc, [], en, va, er⟩ := by simp [Mach.drop]
 simp only [ints, vars, Ins.row, List.map_nil, List.map_cons] at hcf hif
 simp at hcf hrl hrs h0
 rcases idx_find vs (fun v => decide (v.name = c.s)) with ⟨hix, hfd⟩ | ⟨j, v, hix, hj, hfd⟩
 ·rw [hix] at hif
  (refine Ret.of_body Tryz.func63 rfl (by simp) fun Γ hn => ?_); simp only [entry, List.zipIdx_cons, List.zipIdx_nil, List.map_cons, List.map_nil, Nat.zero_add, Tryz.ntmps63]
  simp only [mbox, inss, vars] at h0 ⊢
  refine V_len (x := 1) rfl fun hl => ?_
  simp at hl
  repeat' (first
  | (refine Cnd.of (fun hc => ?_) (fun hc => ?_) <;> (try (exfalso; omega)) <;> (try simp [hcd, h0, h1, hi, hi1, hin1, hin', hn1, hn2, hrs, hrl, allU2_stk, mbox]))
  | (refine V_run rfl ?_; simp [hcd, h0, h1, hi, hi1, hin1, hin', hn1, hn2, hrs, hrl, allU2_stk, mbox])
  | (refine And.intro (by omega) ?_)
  | (refine ⟨hC _ (by kernel_rfl), hk _ (RN_K 8 _ _ _ ?_)⟩; clear hC hk C k; simp [hcd, h0, h1, hi, hi1, hin1, hin', hn1, hn2, hrs, hrl, allU2_stk, mbox])
  | (refine V_dx rfl (by kernel_rfl) (by first | (simp [hn]; done) | (simp [hn]; omega) | fail) fun C k hC hk => ?_; simp [hcd, h0, h1, hi, hi1, hin1, hin', hn1, hn2, hrs, hrl, allU2_stk, mbox])
  | (refine H4_HD4 rfl ?_; simp [hcd, h0, h1, hi, hi1, hin1, hin', hn1, hn2, hrs, hrl, allU2_stk, mbox])
  | (refine HD4h_val rfl ?_; simp [hcd, h0, h1, hi, hi1, hin1, hin', hn1, hn2, hrs, hrl, allU2_stk, mbox])
  | ((first | refine CallP.f2 rfl (needs_fun c.op) (by first | simp [hcd, h0, h1, hi, hi1, hin1, hin', hn1, hn2, hrs, hrl, allU2_stk, mbox] <;> rfl | fail) ?_ | refine CallP.f2 rfl (hcf) (by first | simp [hcd, h0, h1, hi, hi1, hin1, hin', hn1, hn2, hrs, hrl, allU2_stk, mbox] <;> rfl | fail) ?_ | refine CallP.f2 rfl (hif) (by first | simp [hcd, h0, h1, hi, hi1, hin1, hin', hn1, hn2, hrs, hrl, allU2_stk, mbox] <;> rfl | fail) ?_ | refine CallP.f2 rfl (truth_fun (decide (x = 0))) (by first | simp [hcd, h0, h1, hi, hi1, hin1, hin', hn1, hn2, hrs, hrl, allU2_stk, mbox] <;> rfl | fail) ?_ | fail); simp [hcd, h0, h1, hi, hi1, hin1, hin', hn1, hn2, hrs, hrl, allU2_stk, mbox])
  | ((first | refine CallV.f2 rfl (needs_fun c.op) (by first | simp [hcd, h0, h1, hi, hi1, hin1, hin', hn1, hn2, hrs, hrl, allU2_stk, mbox] <;> rfl | fail) ?_ | refine CallV.f2 rfl (hcf) (by first | simp [hcd, h0, h1, hi, hi1, hin1, hin', hn1, hn2, hrs, hrl, allU2_stk, mbox] <;> rfl | fail) ?_ | refine CallV.f2 rfl (hif) (by first | simp [hcd, h0, h1, hi, hi1, hin1, hin', hn1, hn2, hrs, hrl, allU2_stk, mbox] <;> rfl | fail) ?_ | refine CallV.f2 rfl (truth_fun (decide (x = 0))) (by first | simp [hcd, h0, h1, hi, hi1, hin1, hin', hn1, hn2, hrs, hrl, allU2_stk, mbox] <;> rfl | fail) ?_ | fail); simp [hcd, h0, h1, hi, hi1, hin1, hin', hn1, hn2, hrs, hrl, allU2_stk, mbox])
  | (refine CallP.ret_ (end_ret _ _ _ _ _ _ _ _ _ (by first | (simp [hcd, h0, h1, hi, hi1, hin1, hin', hn1, hn2, hrs, hrl, allU2_stk]; done) | (simp [hcd, h0, h1, hi, hi1, hin1, hin', hn1, hn2, hrs, hrl, allU2_stk]; rfl))) (by rfl) (by first | assumption | simp) (by rfl) (by simp) ?_; rintro d o n' hn' ⟨hg, rfl⟩; (try simp at hn'); (try simp [hcd, h0, h1, hi, hi1, hin1, hin', hn1, hn2, hrs, hrl, allU2_stk, mbox]))
  | (refine CallP.ret_ (pop_ret _ _ _ (0) x en va er i r hi (by first | (simp [hcd, h0, h1, hi, hi1, hin1, hin', hn1, hn2, hrs, hrl, allU2_stk]; done) | (simp [hcd, h0, h1, hi, hi1, hin1, hin', hn1, hn2, hrs, hrl, allU2_stk]; rfl)) (by first | (simp [hcd, h0, h1, hi, hi1, hin1, hin', hn1, hn2, hrs, hrl, allU2_stk]; done) | fail) (by assumption)) (by rfl) (by first | assumption | simp) (by rfl) (by simp) ?_; rintro d o n' hn' ⟨rfl, rfl, rfl⟩; (try simp at hn'); (try simp [hcd, h0, h1, hi, hi1, hin1, hin', hn1, hn2, hrs, hrl, allU2_stk, mbox]))
  | (refine CallP.ret_ (push_ret ⟨pc, [x], en, va, er⟩ _ _ _ (by first | (simp; done) | (simp; omega)) (.inr ⟨i, r, hi, (by first | (simp; done) | (simp; omega)), hr, (by first | (simp [hcd, h0, h1, hi, hi1, hin1, hin', hn1, hn2, hrs, hrl, allU2_stk]; done) | (simp [hcd, h0, h1, hi, hi1, hin1, hin', hn1, hn2, hrs, hrl, allU2_stk]; rfl)), (by first | (simp [hcd, h0, h1, hi, hi1, hin1, hin', hn1, hn2, hrs, hrl, allU2_stk]; done) | fail)⟩) (by first | (simp; done) | (simp; omega)) (by first | (simp; done) | (simp; omega))) (by rfl) (by first | assumption | simp) (by rfl) (by simp) ?_; rintro d o n' hn' hg; (try simp at hn'); (try simp [hcd, h0, h1, hi, hi1, hin1, hin', hn1, hn2, hrs, hrl, allU2_stk, mbox]))
  | (refine CallP.ret_ (push_ret ⟨pc, [], en, va, er⟩ _ _ _ (by first | (simp; done) | (simp; omega)) (.inr ⟨i, r, hi, (by first | (simp; done) | (simp; omega)), rfl, (by first | (simp [hcd, h0, h1, hi, hi1, hin1, hin', hn1, hn2, hrs, hrl, allU2_stk]; done) | (simp [hcd, h0, h1, hi, hi1, hin1, hin', hn1, hn2, hrs, hrl, allU2_stk]; rfl)), (by first | (simp [hcd, h0, h1, hi, hi1, hin1, hin', hn1, hn2, hrs, hrl, allU2_stk]; done) | fail)⟩) (by first | (simp; done) | (simp; omega)) (by first | (simp; done) | (simp; omega))) (by rfl) (by first | assumption | simp) (by rfl) (by simp) ?_; rintro d o n' hn' hg; (try simp at hn'); (try simp [hcd, h0, h1, hi, hi1, hin1, hin', hn1, hn2, hrs, hrl, allU2_stk, mbox]))
  | fail)
  all_goals
   (first | (refine EndOK.fin (.inr rfl) ?_) | (refine EndOK.fin (.inl rfl) ?_)); simp [resD, oneOrTup, Tryz.results63]
   refine FinOK.here (by simp <;> omega) ?_
   rw [hst]
  ·rw [if_neg (by simp [hany] <;> omega), stepI, if_pos ‹c.op = 0›]
   exact hg
  ·rw [if_neg (by simp [hany] <;> omega), stepI, if_neg ‹¬c.op = 0›, if_pos ‹c.op = 1›, hfd]
   exact .inl ⟨rfl, hg⟩
  ·rw [if_neg (by simp [hany] <;> omega), stepI, if_neg ‹¬c.op = 0›, if_neg ‹¬c.op = 1›, if_pos ‹c.op = 12›]
   exact .inr ⟨i, r, hi, by simp <;> omega, hr, by simp [mbox, hcd, h0, h1, hi, hi1, hin1, hin', hn1, hn2, hrs, hrl, allU2_stk], by simp [hcd, h0, h1, hi, hi1, hin1, hin', hn1, hn2, hrs, hrl, allU2_stk]⟩
  ·rw [if_neg (by simp [hany] <;> omega), stepI, if_neg ‹¬c.op = 0›, if_neg ‹¬c.op = 1›, if_neg ‹¬c.op = 12›, if_pos ‹c.op = 13›, htop, hdrop, if_pos ‹x = 0›]
   exact .inr ⟨i, r, hi, by simp <;> omega, rfl, by simp [mbox, hcd, h0, h1, hi, hi1, hin1, hin', hn1, hn2, hrs, hrl, allU2_stk], by simp [hcd, h0, h1, hi, hi1, hin1, hin', hn1, hn2, hrs, hrl, allU2_stk]⟩
  ·rw [if_neg (by simp [hany] <;> omega), stepI, if_neg ‹¬c.op = 0›, if_neg ‹¬c.op = 1›, if_neg ‹¬c.op = 12›, if_pos ‹c.op = 13›, htop, hdrop, if_neg ‹¬x = 0›]
   exact .inr ⟨i, r, hi, by simp <;> omega, rfl, by simp [mbox, hcd, h0, h1, hi, hi1, hin1, hin', hn1, hn2, hrs, hrl, allU2_stk], by simp [hcd, h0, h1, hi, hi1, hin1, hin', hn1, hn2, hrs, hrl, allU2_stk]⟩
  ·rw [if_neg (by simp [hany] <;> omega), stepI, if_neg ‹¬c.op = 0›, if_neg ‹¬c.op = 1›, if_neg ‹¬c.op = 12›, if_neg ‹¬c.op = 13›, if_pos ‹c.op = 14›, htop]
   exact .inl ⟨rfl, hg⟩
  ·rw [if_neg (by simp [hany] <;> omega), stepI, if_neg ‹¬c.op = 0›, if_neg ‹¬c.op = 1›, if_neg ‹¬c.op = 12›, if_neg ‹¬c.op = 13›, if_neg ‹¬c.op = 14›, if_pos ‹c.op = 11›, htop, hdrop]
   simp only [Pm.truth, decide_eq_true_eq]
   exact hg
  all_goals
   rw [if_pos (by simp [hany] <;> omega)]
   exact .inl ⟨rfl, hg⟩
 ·rw [hix] at hif
  have hj0 : (0 : Int) ≤ j := by omega
  (refine Ret.of_body Tryz.func63 rfl (by simp) fun Γ hn => ?_); simp only [entry, List.zipIdx_cons, List.zipIdx_nil, List.map_cons, List.map_nil, Nat.zero_add, Tryz.ntmps63]
  simp only [mbox, inss, vars] at h0 ⊢
  refine V_len (x := 1) rfl fun hl => ?_
  simp at hl
  repeat' (first
  | (refine Cnd.of (fun hc => ?_) (fun hc => ?_) <;> (try (exfalso; omega)) <;> (try simp [hcd, h0, h1, hi, hi1, hin1, hin', hn1, hn2, hrs, hrl, allU2_stk, mbox, hj]))
  | (refine V_run rfl ?_; simp [hcd, h0, h1, hi, hi1, hin1, hin', hn1, hn2, hrs, hrl, allU2_stk, mbox, hj])
  | (refine And.intro (by omega) ?_)
  | (refine ⟨hC _ (by kernel_rfl), hk _ (RN_K 8 _ _ _ ?_)⟩; clear hC hk C k; simp [hcd, h0, h1, hi, hi1, hin1, hin', hn1, hn2, hrs, hrl, allU2_stk, mbox, hj])
  | (refine V_dx rfl (by kernel_rfl) (by first | (simp [hn]; done) | (simp [hn]; omega) | fail) fun C k hC hk => ?_; simp [hcd, h0, h1, hi, hi1, hin1, hin', hn1, hn2, hrs, hrl, allU2_stk, mbox, hj])
  | (refine H4_HD4 rfl ?_; simp [hcd, h0, h1, hi, hi1, hin1, hin', hn1, hn2, hrs, hrl, allU2_stk, mbox, hj])
  | (refine HD4h_val rfl ?_; simp [hcd, h0, h1, hi, hi1, hin1, hin', hn1, hn2, hrs, hrl, allU2_stk, mbox, hj])
  | ((first | refine CallP.f2 rfl (needs_fun c.op) (by first | simp [hcd, h0, h1, hi, hi1, hin1, hin', hn1, hn2, hrs, hrl, allU2_stk, mbox, hj] <;> rfl | fail) ?_ | refine CallP.f2 rfl (hcf) (by first | simp [hcd, h0, h1, hi, hi1, hin1, hin', hn1, hn2, hrs, hrl, allU2_stk, mbox, hj] <;> rfl | fail) ?_ | refine CallP.f2 rfl (hif) (by first | simp [hcd, h0, h1, hi, hi1, hin1, hin', hn1, hn2, hrs, hrl, allU2_stk, mbox, hj] <;> rfl | fail) ?_ | refine CallP.f2 rfl (truth_fun (decide (x = 0))) (by first | simp [hcd, h0, h1, hi, hi1, hin1, hin', hn1, hn2, hrs, hrl, allU2_stk, mbox, hj] <;> rfl | fail) ?_ | fail); simp [hcd, h0, h1, hi, hi1, hin1, hin', hn1, hn2, hrs, hrl, allU2_stk, mbox, hj])
  | ((first | refine CallV.f2 rfl (needs_fun c.op) (by first | simp [hcd, h0, h1, hi, hi1, hin1, hin', hn1, hn2, hrs, hrl, allU2_stk, mbox, hj] <;> rfl | fail) ?_ | refine CallV.f2 rfl (hcf) (by first | simp [hcd, h0, h1, hi, hi1, hin1, hin', hn1, hn2, hrs, hrl, allU2_stk, mbox, hj] <;> rfl | fail) ?_ | refine CallV.f2 rfl (hif) (by first | simp [hcd, h0, h1, hi, hi1, hin1, hin', hn1, hn2, hrs, hrl, allU2_stk, mbox, hj] <;> rfl | fail) ?_ | refine CallV.f2 rfl (truth_fun (decide (x = 0))) (by first | simp [hcd, h0, h1, hi, hi1, hin1, hin', hn1, hn2, hrs, hrl, allU2_stk, mbox, hj] <;> rfl | fail) ?_ | fail); simp [hcd, h0, h1, hi, hi1, hin1, hin', hn1, hn2, hrs, hrl, allU2_stk, mbox, hj])
  | (refine CallP.ret_ (end_ret _ _ _ _ _ _ _ _ _ (by first | (simp [hcd, h0, h1, hi, hi1, hin1, hin', hn1, hn2, hrs, hrl, allU2_stk]; done) | (simp [hcd, h0, h1, hi, hi1, hin1, hin', hn1, hn2, hrs, hrl, allU2_stk]; rfl))) (by rfl) (by first | assumption | simp) (by rfl) (by simp) ?_; rintro d o n' hn' ⟨hg, rfl⟩; (try simp at hn'); (try simp [hcd, h0, h1, hi, hi1, hin1, hin', hn1, hn2, hrs, hrl, allU2_stk, mbox, hj]))
  | (refine CallP.ret_ (pop_ret _ _ _ (0) x en va er i r hi (by first | (simp [hcd, h0, h1, hi, hi1, hin1, hin', hn1, hn2, hrs, hrl, allU2_stk]; done) | (simp [hcd, h0, h1, hi, hi1, hin1, hin', hn1, hn2, hrs, hrl, allU2_stk]; rfl)) (by first | (simp [hcd, h0, h1, hi, hi1, hin1, hin', hn1, hn2, hrs, hrl, allU2_stk]; done) | fail) (by assumption)) (by rfl) (by first | assumption | simp) (by rfl) (by simp) ?_; rintro d o n' hn' ⟨rfl, rfl, rfl⟩; (try simp at hn'); (try simp [hcd, h0, h1, hi, hi1, hin1, hin', hn1, hn2, hrs, hrl, allU2_stk, mbox, hj]))
  | (refine CallP.ret_ (push_ret ⟨pc, [x], en, va, er⟩ _ _ _ (by first | (simp; done) | (simp; omega)) (.inr ⟨i, r, hi, (by first | (simp; done) | (simp; omega)), hr, (by first | (simp [hcd, h0, h1, hi, hi1, hin1, hin', hn1, hn2, hrs, hrl, allU2_stk]; done) | (simp [hcd, h0, h1, hi, hi1, hin1, hin', hn1, hn2, hrs, hrl, allU2_stk]; rfl)), (by first | (simp [hcd, h0, h1, hi, hi1, hin1, hin', hn1, hn2, hrs, hrl, allU2_stk]; done) | fail)⟩) (by first | (simp; done) | (simp; omega)) (by first | (simp; done) | (simp; omega))) (by rfl) (by first | assumption | simp) (by rfl) (by simp) ?_; rintro d o n' hn' hg; (try simp at hn'); (try simp [hcd, h0, h1, hi, hi1, hin1, hin', hn1, hn2, hrs, hrl, allU2_stk, mbox, hj]))
  | (refine CallP.ret_ (push_ret ⟨pc, [], en, va, er⟩ _ _ _ (by first | (simp; done) | (simp; omega)) (.inr ⟨i, r, hi, (by first | (simp; done) | (simp; omega)), rfl, (by first | (simp [hcd, h0, h1, hi, hi1, hin1, hin', hn1, hn2, hrs, hrl, allU2_stk]; done) | (simp [hcd, h0, h1, hi, hi1, hin1, hin', hn1, hn2, hrs, hrl, allU2_stk]; rfl)), (by first | (simp [hcd, h0, h1, hi, hi1, hin1, hin', hn1, hn2, hrs, hrl, allU2_stk]; done) | fail)⟩) (by first | (simp; done) | (simp; omega)) (by first | (simp; done) | (simp; omega))) (by rfl) (by first | assumption | simp) (by rfl) (by simp) ?_; rintro d o n' hn' hg; (try simp at hn'); (try simp [hcd, h0, h1, hi, hi1, hin1, hin', hn1, hn2, hrs, hrl, allU2_stk, mbox, hj]))
  | fail)
  all_goals
   (first | (refine EndOK.fin (.inr rfl) ?_) | (refine EndOK.fin (.inl rfl) ?_)); simp [resD, oneOrTup, Tryz.results63]
   refine FinOK.here (by simp <;> omega) ?_
   rw [hst]
  ·rw [if_neg (by simp [hany] <;> omega), stepI, if_pos ‹c.op = 0›]
   exact hg
  ·rw [if_neg (by simp [hany] <;> omega), stepI, if_neg ‹¬c.op = 0›, if_pos ‹c.op = 1›, hfd]
   exact hg
  ·rw [if_neg (by simp [hany] <;> omega), stepI, if_neg ‹¬c.op = 0›, if_neg ‹¬c.op = 1›, if_pos ‹c.op = 12›]
   exact .inr ⟨i, r, hi, by simp <;> omega, hr, by simp [mbox, hcd, h0, h1, hi, hi1, hin1, hin', hn1, hn2, hrs, hrl, allU2_stk], by simp [hcd, h0, h1, hi, hi1, hin1, hin', hn1, hn2, hrs, hrl, allU2_stk]⟩
  ·rw [if_neg (by simp [hany] <;> omega), stepI, if_neg ‹¬c.op = 0›, if_neg ‹¬c.op = 1›, if_neg ‹¬c.op = 12›, if_pos ‹c.op = 13›, htop, hdrop, if_pos ‹x = 0›]
   exact .inr ⟨i, r, hi, by simp <;> omega, rfl, by simp [mbox, hcd, h0, h1, hi, hi1, hin1, hin', hn1, hn2, hrs, hrl, allU2_stk], by simp [hcd, h0, h1, hi, hi1, hin1, hin', hn1, hn2, hrs, hrl, allU2_stk]⟩
  ·rw [if_neg (by simp [hany] <;> omega), stepI, if_neg ‹¬c.op = 0›, if_neg ‹¬c.op = 1›, if_neg ‹¬c.op = 12›, if_pos ‹c.op = 13›, htop, hdrop, if_neg ‹¬x = 0›]
   exact .inr ⟨i, r, hi, by simp <;> omega, rfl, by simp [mbox, hcd, h0, h1, hi, hi1, hin1, hin', hn1, hn2, hrs, hrl, allU2_stk], by simp [hcd, h0, h1, hi, hi1, hin1, hin', hn1, hn2, hrs, hrl, allU2_stk]⟩
  ·rw [if_neg (by simp [hany] <;> omega), stepI, if_neg ‹¬c.op = 0›, if_neg ‹¬c.op = 1›, if_neg ‹¬c.op = 12›, if_neg ‹¬c.op = 13›, if_pos ‹c.op = 14›, htop]
   exact .inl ⟨rfl, hg⟩
  ·rw [if_neg (by simp [hany] <;> omega), stepI, if_neg ‹¬c.op = 0›, if_neg ‹¬c.op = 1›, if_neg ‹¬c.op = 12›, if_neg ‹¬c.op = 13›, if_neg ‹¬c.op = 14›, if_pos ‹c.op = 11›, htop, hdrop]
   simp only [Pm.truth, decide_eq_true_eq]
   exact hg
  all_goals
   rw [if_pos (by simp [hany] <;> omega)]
   exact .inl ⟨rfl, hg⟩
set_option maxHeartbeats 16000000 in
theorem step_2 (code : List Ins) (vs : List Var) (pc : Int) (en : Bool) (va er : Int) (c : Ins) (o : List (Nat × Ob)) (nx : Nat) (i : Nat) (r : List Int) (st : List Int) (y x : Int) (hpc : 0 ≤ pc) (hcd : code[pc.toNat]? = some c)
  (hi : i ≠ 0) (hinx : i < nx) (hr : r.take ((st ++ [y, x])).length = (st ++ [y, x])) (hany : (((st ++ [y, x])).any fun n => !okv n) = false) (hlen : ((st ++ [y, x])).length < 100000)
  (h0 : getK o 0 = some (mbox pc (.vec i ((st ++ [y, x])).length) en va er)) (h1 : getK o i = some (.vec 3 1 (stk r))) :
  Ret Tryz.prog 63 [.ptr 0 0, .u (inss code), .u (vars vs)] o nx (fun _ o n => MOb (stepM code vs ⟨pc, (st ++ [y, x]), en, va, er⟩) o n) := by
 have hlt := (List.getElem?_eq_some_iff.1 hcd).1
 have hrl : ((st ++ [y, x])).length ≤ r.length := by
  have := congrArg List.length hr
  rw [List.length_take] at this
  omega
 have hrs : (stk r).take ((st ++ [y, x])).length = stk ((st ++ [y, x])) := by rw [stk, ← List.map_take, hr]; rfl
 have hi1 : 0 ≠ i := by omega
 have hin1 : nx ≠ i := by omega
 have hin' : i ≠ nx := by omega
 have hn1 : 0 ≠ nx := by omega
 have hn2 : nx ≠ 0 := by omega
 have hne := needs_le c.op
 have hcf := contains_fun ((st ++ [y, x]))
 rw [show (((st ++ [y, x])).any fun n => !decide (-1099511627776 ≤ n ∧ n ≤ 1099511627776)) = false from hany] at hcf
 have hif := indexVar_fun vs 99 [.row c.row 0] (fun v => decide (v.name = c.s)) (fun v _ => step2_fun v c) (by simp) (fun _ => rfl)
 have hst := stepM_eq (code := code) (vs := vs) (m := ⟨pc, (st ++ [y, x]), en, va, er⟩) hpc hcd
 have hx0 : r[st.length + 1]? = some x := by
  have := congrArg (·[st.length + 1]?) hr
  simpa [List.getElem?_take] using this
 have hy0 : r[st.length]? = some y := by
  have := congrArg (·[st.length]?) hr
  simpa [List.getElem?_take] using this
 have he : st ++ [y, x] = (st ++ [y]) ++ [x] := by simp
 have htk : (st ++ [y, x]).take (st.length + 1) = st ++ [y] := by
  rw [he, show st.length + 1 = (st ++ [y]).length by simp, List.take_left]
 have hr2 : r.take (st ++ [y]).length = st ++ [y] := by
  have := congrArg (List.take (st.length + 1)) hr
  rw [List.take_take, htk, Nat.min_eq_left (by simp)] at this
  simpa using this
 have hr1 : r.take st.length = st := by
  have := congrArg (List.take st.length) hr
  rw [List.take_take, Nat.min_eq_left (by simp), List.take_left] at this
  exact this
 have hxv : (-1099511627776 ≤ y ∧ y ≤ 1099511627776) ∧ (-1099511627776 ≤ x ∧ x ≤ 1099511627776) := by
  simp [okv] at hany
  omega
 have htop : Mach.top ⟨pc, st ++ [y, x], en, va, er⟩ 0 = x := by simp [Mach.top]
 have htop1 : Mach.top ⟨pc, st ++ [y, x], en, va, er⟩ 1 = y := by simp [Mach.top]
 have hdrop : Mach.drop ⟨pc, st ++ [y, x], en, va, er⟩ 1 = ⟨pc, st ++ [y], en, va, er⟩ := by simp [Mach.drop, htk]
 have hdrop2 : Mach.drop ⟨pc, st ++ [y, x], en, va, er⟩ 2 = ⟨pc, st, en, va, er⟩ := by simp [Mach.drop]
 simp only [ints, vars, Ins.row, List.map_nil, List.map_cons] at hcf hif
 simp at hcf hrl hrs h0 hlen
 rcases idx_find vs (fun v => decide (v.name = c.s)) with ⟨hix, hfd⟩ | ⟨j, v, hix, hj, hfd⟩
 ·rw [hix] at hif
  (refine Ret.of_body Tryz.func63 rfl (by simp) fun Γ hn => ?_); simp only [entry, List.zipIdx_cons, List.zipIdx_nil, List.map_cons, List.map_nil, Nat.zero_add, Tryz.ntmps63]
  simp only [mbox, inss, vars] at h0 ⊢
  refine V_len (x := 1) rfl fun hl => ?_
  simp at hl
  repeat' (first
  | (refine Cnd.of (fun hc => ?_) (fun hc => ?_) <;> (try (exfalso; omega)) <;> (try simp [hcd, h0, h1, hi, hi1, hin1, hin', hn1, hn2, hrs, hrl, allU2_stk, mbox]))
  | (refine V_run rfl ?_; simp [hcd, h0, h1, hi, hi1, hin1, hin', hn1, hn2, hrs, hrl, allU2_stk, mbox])
  | (refine And.intro (by omega) ?_)
  | (refine ⟨hC _ (by kernel_rfl), hk _ (RN_K 8 _ _ _ ?_)⟩; clear hC hk C k; simp [hcd, h0, h1, hi, hi1, hin1, hin', hn1, hn2, hrs, hrl, allU2_stk, mbox])
  | (refine V_dx rfl (by kernel_rfl) (by first | (simp [hn]; done) | (simp [hn]; omega) | fail) fun C k hC hk => ?_; simp [hcd, h0, h1, hi, hi1, hin1, hin', hn1, hn2, hrs, hrl, allU2_stk, mbox])
  | (refine H4_HD4 rfl ?_; simp [hcd, h0, h1, hi, hi1, hin1, hin', hn1, hn2, hrs, hrl, allU2_stk, mbox])
  | (refine HD4h_val rfl ?_; simp [hcd, h0, h1, hi, hi1, hin1, hin', hn1, hn2, hrs, hrl, allU2_stk, mbox])
  | ((first | refine CallP.f2 rfl (needs_fun c.op) (by first | simp [hcd, h0, h1, hi, hi1, hin1, hin', hn1, hn2, hrs, hrl, allU2_stk, mbox] <;> rfl | fail) ?_ | refine CallP.f2 rfl (hcf) (by first | simp [hcd, h0, h1, hi, hi1, hin1, hin', hn1, hn2, hrs, hrl, allU2_stk, mbox] <;> rfl | fail) ?_ | refine CallP.f2 rfl (hif) (by first | simp [hcd, h0, h1, hi, hi1, hin1, hin', hn1, hn2, hrs, hrl, allU2_stk, mbox] <;> rfl | fail) ?_ | refine CallP.f2 rfl (truth_fun (decide (x = 0))) (by first | simp [hcd, h0, h1, hi, hi1, hin1, hin', hn1, hn2, hrs, hrl, allU2_stk, mbox] <;> rfl | fail) ?_ | refine CallP.f2 rfl (two_fun c.op y x hxv.1 hxv.2 (by omega)) (by first | simp [hcd, h0, h1, hi, hi1, hin1, hin', hn1, hn2, hrs, hrl, allU2_stk, mbox] <;> rfl | fail) ?_ | fail); simp [hcd, h0, h1, hi, hi1, hin1, hin', hn1, hn2, hrs, hrl, allU2_stk, mbox])
  | ((first | refine CallV.f2 rfl (needs_fun c.op) (by first | simp [hcd, h0, h1, hi, hi1, hin1, hin', hn1, hn2, hrs, hrl, allU2_stk, mbox] <;> rfl | fail) ?_ | refine CallV.f2 rfl (hcf) (by first | simp [hcd, h0, h1, hi, hi1, hin1, hin', hn1, hn2, hrs, hrl, allU2_stk, mbox] <;> rfl | fail) ?_ | refine CallV.f2 rfl (hif) (by first | simp [hcd, h0, h1, hi, hi1, hin1, hin', hn1, hn2, hrs, hrl, allU2_stk, mbox] <;> rfl | fail) ?_ | refine CallV.f2 rfl (truth_fun (decide (x = 0))) (by first | simp [hcd, h0, h1, hi, hi1, hin1, hin', hn1, hn2, hrs, hrl, allU2_stk, mbox] <;> rfl | fail) ?_ | refine CallV.f2 rfl (two_fun c.op y x hxv.1 hxv.2 (by omega)) (by first | simp [hcd, h0, h1, hi, hi1, hin1, hin', hn1, hn2, hrs, hrl, allU2_stk, mbox] <;> rfl | fail) ?_ | fail); simp [hcd, h0, h1, hi, hi1, hin1, hin', hn1, hn2, hrs, hrl, allU2_stk, mbox])
  | (refine CallP.ret_ (end_ret _ _ _ _ _ _ _ _ _ (by first | (simp [hcd, h0, h1, hi, hi1, hin1, hin', hn1, hn2, hrs, hrl, allU2_stk]; done) | (simp [hcd, h0, h1, hi, hi1, hin1, hin', hn1, hn2, hrs, hrl, allU2_stk]; rfl))) (by rfl) (by first | assumption | simp) (by rfl) (by simp) ?_; rintro d o n' hn' ⟨hg, rfl⟩; (try simp at hn'); (try simp [hcd, h0, h1, hi, hi1, hin1, hin', hn1, hn2, hrs, hrl, allU2_stk, mbox]))
  | (refine CallP.ret_ (pop_ret _ _ _ (st.length + 1) x en va er i r hi (by first | (simp [hcd, h0, h1, hi, hi1, hin1, hin', hn1, hn2, hrs, hrl, allU2_stk]; done) | (simp [hcd, h0, h1, hi, hi1, hin1, hin', hn1, hn2, hrs, hrl, allU2_stk]; rfl)) (by first | (simp [hcd, h0, h1, hi, hi1, hin1, hin', hn1, hn2, hrs, hrl, allU2_stk]; done) | fail) (by assumption)) (by rfl) (by first | assumption | simp) (by rfl) (by simp) ?_; rintro d o n' hn' ⟨rfl, rfl, rfl⟩; (try simp at hn'); (try simp [hcd, h0, h1, hi, hi1, hin1, hin', hn1, hn2, hrs, hrl, allU2_stk, mbox]))
  | (refine CallP.ret_ (pop_ret _ _ _ (st.length) y en va er i r hi (by first | (simp [hcd, h0, h1, hi, hi1, hin1, hin', hn1, hn2, hrs, hrl, allU2_stk]; done) | (simp [hcd, h0, h1, hi, hi1, hin1, hin', hn1, hn2, hrs, hrl, allU2_stk]; rfl)) (by first | (simp [hcd, h0, h1, hi, hi1, hin1, hin', hn1, hn2, hrs, hrl, allU2_stk]; done) | fail) (by assumption)) (by rfl) (by first | assumption | simp) (by rfl) (by simp) ?_; rintro d o n' hn' ⟨rfl, rfl, rfl⟩; (try simp at hn'); (try simp [hcd, h0, h1, hi, hi1, hin1, hin', hn1, hn2, hrs, hrl, allU2_stk, mbox]))
  | (refine CallP.ret_ (push_ret ⟨pc, st ++ [y, x], en, va, er⟩ _ _ _ (by first | (simp; done) | (simp; omega)) (.inr ⟨i, r, hi, (by first | (simp; done) | (simp; omega)), hr, (by first | (simp [hcd, h0, h1, hi, hi1, hin1, hin', hn1, hn2, hrs, hrl, allU2_stk]; done) | (simp [hcd, h0, h1, hi, hi1, hin1, hin', hn1, hn2, hrs, hrl, allU2_stk]; rfl)), (by first | (simp [hcd, h0, h1, hi, hi1, hin1, hin', hn1, hn2, hrs, hrl, allU2_stk]; done) | fail)⟩) (by first | (simp; done) | (simp; omega)) (by first | (simp; done) | (simp; omega))) (by rfl) (by first | assumption | simp) (by rfl) (by simp) ?_; rintro d o n' hn' hg; (try simp at hn'); (try simp [hcd, h0, h1, hi, hi1, hin1, hin', hn1, hn2, hrs, hrl, allU2_stk, mbox]))
  | (refine CallP.ret_ (push_ret ⟨pc, st ++ [y], en, va, er⟩ _ _ _ (by first | (simp; done) | (simp; omega)) (.inr ⟨i, r, hi, (by first | (simp; done) | (simp; omega)), hr2, (by first | (simp [hcd, h0, h1, hi, hi1, hin1, hin', hn1, hn2, hrs, hrl, allU2_stk]; done) | (simp [hcd, h0, h1, hi, hi1, hin1, hin', hn1, hn2, hrs, hrl, allU2_stk]; rfl)), (by first | (simp [hcd, h0, h1, hi, hi1, hin1, hin', hn1, hn2, hrs, hrl, allU2_stk]; done) | fail)⟩) (by first | (simp; done) | (simp; omega)) (by first | (simp; done) | (simp; omega))) (by rfl) (by first | assumption | simp) (by rfl) (by simp) ?_; rintro d o n' hn' hg; (try simp at hn'); (try simp [hcd, h0, h1, hi, hi1, hin1, hin', hn1, hn2, hrs, hrl, allU2_stk, mbox]))
  | (refine CallP.ret_ (push_ret ⟨pc, st, en, va, er⟩ _ _ _ (by first | (simp; done) | (simp; omega)) (.inr ⟨i, r, hi, (by first | (simp; done) | (simp; omega)), hr1, (by first | (simp [hcd, h0, h1, hi, hi1, hin1, hin', hn1, hn2, hrs, hrl, allU2_stk]; done) | (simp [hcd, h0, h1, hi, hi1, hin1, hin', hn1, hn2, hrs, hrl, allU2_stk]; rfl)), (by first | (simp [hcd, h0, h1, hi, hi1, hin1, hin', hn1, hn2, hrs, hrl, allU2_stk]; done) | fail)⟩) (by first | (simp; done) | (simp; omega)) (by first | (simp; done) | (simp; omega))) (by rfl) (by first | assumption | simp) (by rfl) (by simp) ?_; rintro d o n' hn' hg; (try simp at hn'); (try simp [hcd, h0, h1, hi, hi1, hin1, hin', hn1, hn2, hrs, hrl, allU2_stk, mbox]))
  | fail)
  all_goals
   (first | (refine EndOK.fin (.inr rfl) ?_) | (refine EndOK.fin (.inl rfl) ?_)); simp [resD, oneOrTup, Tryz.results63]
   refine FinOK.here (by simp <;> omega) ?_
   rw [hst]
  ·rw [if_neg (by simp [hany] <;> omega), stepI, if_pos ‹c.op = 0›]
   exact hg
  ·rw [if_neg (by simp [hany] <;> omega), stepI, if_neg ‹¬c.op = 0›, if_pos ‹c.op = 1›, hfd]
   exact .inl ⟨rfl, hg⟩
  ·rw [if_neg (by simp [hany] <;> omega), stepI, if_neg ‹¬c.op = 0›, if_neg ‹¬c.op = 1›, if_pos ‹c.op = 12›]
   exact .inr ⟨i, r, hi, by simp <;> omega, hr, by simp [mbox, hcd, h0, h1, hi, hi1, hin1, hin', hn1, hn2, hrs, hrl, allU2_stk], by simp [hcd, h0, h1, hi, hi1, hin1, hin', hn1, hn2, hrs, hrl, allU2_stk]⟩
  ·rw [if_neg (by simp [hany] <;> omega), stepI, if_neg ‹¬c.op = 0›, if_neg ‹¬c.op = 1›, if_neg ‹¬c.op = 12›, if_pos ‹c.op = 13›, htop, hdrop, if_pos ‹x = 0›]
   exact .inr ⟨i, r, hi, by simp <;> omega, hr2, by simp [mbox, hcd, h0, h1, hi, hi1, hin1, hin', hn1, hn2, hrs, hrl, allU2_stk], by simp [hcd, h0, h1, hi, hi1, hin1, hin', hn1, hn2, hrs, hrl, allU2_stk]⟩
  ·rw [if_neg (by simp [hany] <;> omega), stepI, if_neg ‹¬c.op = 0›, if_neg ‹¬c.op = 1›, if_neg ‹¬c.op = 12›, if_pos ‹c.op = 13›, htop, hdrop, if_neg ‹¬x = 0›]
   exact .inr ⟨i, r, hi, by simp <;> omega, hr2, by simp [mbox, hcd, h0, h1, hi, hi1, hin1, hin', hn1, hn2, hrs, hrl, allU2_stk], by simp [hcd, h0, h1, hi, hi1, hin1, hin', hn1, hn2, hrs, hrl, allU2_stk]⟩
  ·rw [if_neg (by simp [hany] <;> omega), stepI, if_neg ‹¬c.op = 0›, if_neg ‹¬c.op = 1›, if_neg ‹¬c.op = 12›, if_neg ‹¬c.op = 13›, if_pos ‹c.op = 14›, htop]
   exact .inl ⟨rfl, hg⟩
  ·rw [if_neg (by simp [hany] <;> omega), stepI, if_neg ‹¬c.op = 0›, if_neg ‹¬c.op = 1›, if_neg ‹¬c.op = 12›, if_neg ‹¬c.op = 13›, if_neg ‹¬c.op = 14›, if_pos ‹c.op = 11›, htop, hdrop]
   simp only [Pm.truth, decide_eq_true_eq]
   exact hg
  ·rw [if_neg (by simp [hany] <;> omega), stepI, if_neg ‹¬c.op = 0›, if_neg ‹¬c.op = 1›, if_neg ‹¬c.op = 12›, if_neg ‹¬c.op = 13›, if_neg ‹¬c.op = 14›, if_neg ‹¬c.op = 11›, htop, if_pos (by omega)]
   exact .inl ⟨rfl, hg⟩
  all_goals first
   | (rw [if_neg (by simp [hany] <;> omega), stepI, if_neg ‹¬c.op = 0›, if_neg ‹¬c.op = 1›, if_neg ‹¬c.op = 12›, if_neg ‹¬c.op = 13›, if_neg ‹¬c.op = 14›, if_neg ‹¬c.op = 11›, htop, htop1, hdrop2, if_neg (by omega)]; exact hg)
   | (rw [if_pos (by simp [hany] <;> omega)]; exact .inl ⟨rfl, hg⟩)
 ·rw [hix] at hif
  have hj0 : (0 : Int) ≤ j := by omega
  (refine Ret.of_body Tryz.func63 rfl (by simp) fun Γ hn => ?_); simp only [entry, List.zipIdx_cons, List.zipIdx_nil, List.map_cons, List.map_nil, Nat.zero_add, Tryz.ntmps63]
  simp only [mbox, inss, vars] at h0 ⊢
  refine V_len (x := 1) rfl fun hl => ?_
  simp at hl
  repeat' (first
  | (refine Cnd.of (fun hc => ?_) (fun hc => ?_) <;> (try (exfalso; omega)) <;> (try simp [hcd, h0, h1, hi, hi1, hin1, hin', hn1, hn2, hrs, hrl, allU2_stk, mbox, hj]))
  | (refine V_run rfl ?_; simp [hcd, h0, h1, hi, hi1, hin1, hin', hn1, hn2, hrs, hrl, allU2_stk, mbox, hj])
  | (refine And.intro (by omega) ?_)
  | (refine ⟨hC _ (by kernel_rfl), hk _ (RN_K 8 _ _ _ ?_)⟩; clear hC hk C k; simp [hcd, h0, h1, hi, hi1, hin1, hin', hn1, hn2, hrs, hrl, allU2_stk, mbox, hj])
  | (refine V_dx rfl (by kernel_rfl) (by first | (simp [hn]; done) | (simp [hn]; omega) | fail) fun C k hC hk => ?_; simp [hcd, h0, h1, hi, hi1, hin1, hin', hn1, hn2, hrs, hrl, allU2_stk, mbox, hj])
  | (refine H4_HD4 rfl ?_; simp [hcd, h0, h1, hi, hi1, hin1, hin', hn1, hn2, hrs, hrl, allU2_stk, mbox, hj])
  | (refine HD4h_val rfl ?_; simp [hcd, h0, h1, hi, hi1, hin1, hin', hn1, hn2, hrs, hrl, allU2_stk, mbox, hj])
  | ((first | refine CallP.f2 rfl (needs_fun c.op) (by first | simp [hcd, h0, h1, hi, hi1, hin1, hin', hn1, hn2, hrs, hrl, allU2_stk, mbox, hj] <;> rfl | fail) ?_ | refine CallP.f2 rfl (hcf) (by first | simp [hcd, h0, h1, hi, hi1, hin1, hin', hn1, hn2, hrs, hrl, allU2_stk, mbox, hj] <;> rfl | fail) ?_ | refine CallP.f2 rfl (hif) (by first | simp [hcd, h0, h1, hi, hi1, hin1, hin', hn1, hn2, hrs, hrl, allU2_stk, mbox, hj] <;> rfl | fail) ?_ | refine CallP.f2 rfl (truth_fun (decide (x = 0))) (by first | simp [hcd, h0, h1, hi, hi1, hin1, hin', hn1, hn2, hrs, hrl, allU2_stk, mbox, hj] <;> rfl | fail) ?_ | refine CallP.f2 rfl (two_fun c.op y x hxv.1 hxv.2 (by omega)) (by first | simp [hcd, h0, h1, hi, hi1, hin1, hin', hn1, hn2, hrs, hrl, allU2_stk, mbox, hj] <;> rfl | fail) ?_ | fail); simp [hcd, h0, h1, hi, hi1, hin1, hin', hn1, hn2, hrs, hrl, allU2_stk, mbox, hj])
  | ((first | refine CallV.f2 rfl (needs_fun c.op) (by first | simp [hcd, h0, h1, hi, hi1, hin1, hin', hn1, hn2, hrs, hrl, allU2_stk, mbox, hj] <;> rfl | fail) ?_ | refine CallV.f2 rfl (hcf) (by first | simp [hcd, h0, h1, hi, hi1, hin1, hin', hn1, hn2, hrs, hrl, allU2_stk, mbox, hj] <;> rfl | fail) ?_ | refine CallV.f2 rfl (hif) (by first | simp [hcd, h0, h1, hi, hi1, hin1, hin', hn1, hn2, hrs, hrl, allU2_stk, mbox, hj] <;> rfl | fail) ?_ | refine CallV.f2 rfl (truth_fun (decide (x = 0))) (by first | simp [hcd, h0, h1, hi, hi1, hin1, hin', hn1, hn2, hrs, hrl, allU2_stk, mbox, hj] <;> rfl | fail) ?_ | refine CallV.f2 rfl (two_fun c.op y x hxv.1 hxv.2 (by omega)) (by first | simp [hcd, h0, h1, hi, hi1, hin1, hin', hn1, hn2, hrs, hrl, allU2_stk, mbox, hj] <;> rfl | fail) ?_ | fail); simp [hcd, h0, h1, hi, hi1, hin1, hin', hn1, hn2, hrs, hrl, allU2_stk, mbox, hj])
  | (refine CallP.ret_ (end_ret _ _ _ _ _ _ _ _ _ (by first | (simp [hcd, h0, h1, hi, hi1, hin1, hin', hn1, hn2, hrs, hrl, allU2_stk]; done) | (simp [hcd, h0, h1, hi, hi1, hin1, hin', hn1, hn2, hrs, hrl, allU2_stk]; rfl))) (by rfl) (by first | assumption | simp) (by rfl) (by simp) ?_; rintro d o n' hn' ⟨hg, rfl⟩; (try simp at hn'); (try simp [hcd, h0, h1, hi, hi1, hin1, hin', hn1, hn2, hrs, hrl, allU2_stk, mbox, hj]))
  | (refine CallP.ret_ (pop_ret _ _ _ (st.length + 1) x en va er i r hi (by first | (simp [hcd, h0, h1, hi, hi1, hin1, hin', hn1, hn2, hrs, hrl, allU2_stk]; done) | (simp [hcd, h0, h1, hi, hi1, hin1, hin', hn1, hn2, hrs, hrl, allU2_stk]; rfl)) (by first | (simp [hcd, h0, h1, hi, hi1, hin1, hin', hn1, hn2, hrs, hrl, allU2_stk]; done) | fail) (by assumption)) (by rfl) (by first | assumption | simp) (by rfl) (by simp) ?_; rintro d o n' hn' ⟨rfl, rfl, rfl⟩; (try simp at hn'); (try simp [hcd, h0, h1, hi, hi1, hin1, hin', hn1, hn2, hrs, hrl, allU2_stk, mbox, hj]))
  | (refine CallP.ret_ (pop_ret _ _ _ (st.length) y en va er i r hi (by first | (simp [hcd, h0, h1, hi, hi1, hin1, hin', hn1, hn2, hrs, hrl, allU2_stk]; done) | (simp [hcd, h0, h1, hi, hi1, hin1, hin', hn1, hn2, hrs, hrl, allU2_stk]; rfl)) (by first | (simp [hcd, h0, h1, hi, hi1, hin1, hin', hn1, hn2, hrs, hrl, allU2_stk]; done) | fail) (by assumption)) (by rfl) (by first | assumption | simp) (by rfl) (by simp) ?_; rintro d o n' hn' ⟨rfl, rfl, rfl⟩; (try simp at hn'); (try simp [hcd, h0, h1, hi, hi1, hin1, hin', hn1, hn2, hrs, hrl, allU2_stk, mbox, hj]))
  | (refine CallP.ret_ (push_ret ⟨pc, st ++ [y, x], en, va, er⟩ _ _ _ (by first | (simp; done) | (simp; omega)) (.inr ⟨i, r, hi, (by first | (simp; done) | (simp; omega)), hr, (by first | (simp [hcd, h0, h1, hi, hi1, hin1, hin', hn1, hn2, hrs, hrl, allU2_stk]; done) | (simp [hcd, h0, h1, hi, hi1, hin1, hin', hn1, hn2, hrs, hrl, allU2_stk]; rfl)), (by first | (simp [hcd, h0, h1, hi, hi1, hin1, hin', hn1, hn2, hrs, hrl, allU2_stk]; done) | fail)⟩) (by first | (simp; done) | (simp; omega)) (by first | (simp; done) | (simp; omega))) (by rfl) (by first | assumption | simp) (by rfl) (by simp) ?_; rintro d o n' hn' hg; (try simp at hn'); (try simp [hcd, h0, h1, hi, hi1, hin1, hin', hn1, hn2, hrs, hrl, allU2_stk, mbox, hj]))
  | (refine CallP.ret_ (push_ret ⟨pc, st ++ [y], en, va, er⟩ _ _ _ (by first | (simp; done) | (simp; omega)) (.inr ⟨i, r, hi, (by first | (simp; done) | (simp; omega)), hr2, (by first | (simp [hcd, h0, h1, hi, hi1, hin1, hin', hn1, hn2, hrs, hrl, allU2_stk]; done) | (simp [hcd, h0, h1, hi, hi1, hin1, hin', hn1, hn2, hrs, hrl, allU2_stk]; rfl)), (by first | (simp [hcd, h0, h1, hi, hi1, hin1, hin', hn1, hn2, hrs, hrl, allU2_stk]; done) | fail)⟩) (by first | (simp; done) | (simp; omega)) (by first | (simp; done) | (simp; omega))) (by rfl) (by first | assumption | simp) (by rfl) (by simp) ?_; rintro d o n' hn' hg; (try simp at hn'); (try simp [hcd, h0, h1, hi, hi1, hin1, hin', hn1, hn2, hrs, hrl, allU2_stk, mbox, hj]))
  | (refine CallP.ret_ (push_ret ⟨pc, st, en, va, er⟩ _ _ _ (by first | (simp; done) | (simp; omega)) (.inr ⟨i, r, hi, (by first | (simp; done) | (simp; omega)), hr1, (by first | (simp [hcd, h0, h1, hi, hi1, hin1, hin', hn1, hn2, hrs, hrl, allU2_stk]; done) | (simp [hcd, h0, h1, hi, hi1, hin1, hin', hn1, hn2, hrs, hrl, allU2_stk]; rfl)), (by first | (simp [hcd, h0, h1, hi, hi1, hin1, hin', hn1, hn2, hrs, hrl, allU2_stk]; done) | fail)⟩) (by first | (simp; done) | (simp; omega)) (by first | (simp; done) | (simp; omega))) (by rfl) (by first | assumption | simp) (by rfl) (by simp) ?_; rintro d o n' hn' hg; (try simp at hn'); (try simp [hcd, h0, h1, hi, hi1, hin1, hin', hn1, hn2, hrs, hrl, allU2_stk, mbox, hj]))
  | fail)
  all_goals
   (first | (refine EndOK.fin (.inr rfl) ?_) | (refine EndOK.fin (.inl rfl) ?_)); simp [resD, oneOrTup, Tryz.results63]
   refine FinOK.here (by simp <;> omega) ?_
   rw [hst]
  ·rw [if_neg (by simp [hany] <;> omega), stepI, if_pos ‹c.op = 0›]
   exact hg
  ·rw [if_neg (by simp [hany] <;> omega), stepI, if_neg ‹¬c.op = 0›, if_pos ‹c.op = 1›, hfd]
   exact hg
  ·rw [if_neg (by simp [hany] <;> omega), stepI, if_neg ‹¬c.op = 0›, if_neg ‹¬c.op = 1›, if_pos ‹c.op = 12›]
   exact .inr ⟨i, r, hi, by simp <;> omega, hr, by simp [mbox, hcd, h0, h1, hi, hi1, hin1, hin', hn1, hn2, hrs, hrl, allU2_stk], by simp [hcd, h0, h1, hi, hi1, hin1, hin', hn1, hn2, hrs, hrl, allU2_stk]⟩
  ·rw [if_neg (by simp [hany] <;> omega), stepI, if_neg ‹¬c.op = 0›, if_neg ‹¬c.op = 1›, if_neg ‹¬c.op = 12›, if_pos ‹c.op = 13›, htop, hdrop, if_pos ‹x = 0›]
   exact .inr ⟨i, r, hi, by simp <;> omega, hr2, by simp [mbox, hcd, h0, h1, hi, hi1, hin1, hin', hn1, hn2, hrs, hrl, allU2_stk], by simp [hcd, h0, h1, hi, hi1, hin1, hin', hn1, hn2, hrs, hrl, allU2_stk]⟩
  ·rw [if_neg (by simp [hany] <;> omega), stepI, if_neg ‹¬c.op = 0›, if_neg ‹¬c.op = 1›, if_neg ‹¬c.op = 12›, if_pos ‹c.op = 13›, htop, hdrop, if_neg ‹¬x = 0›]
   exact .inr ⟨i, r, hi, by simp <;> omega, hr2, by simp [mbox, hcd, h0, h1, hi, hi1, hin1, hin', hn1, hn2, hrs, hrl, allU2_stk], by simp [hcd, h0, h1, hi, hi1, hin1, hin', hn1, hn2, hrs, hrl, allU2_stk]⟩
  ·rw [if_neg (by simp [hany] <;> omega), stepI, if_neg ‹¬c.op = 0›, if_neg ‹¬c.op = 1›, if_neg ‹¬c.op = 12›, if_neg ‹¬c.op = 13›, if_pos ‹c.op = 14›, htop]
   exact .inl ⟨rfl, hg⟩
  ·rw [if_neg (by simp [hany] <;> omega), stepI, if_neg ‹¬c.op = 0›, if_neg ‹¬c.op = 1›, if_neg ‹¬c.op = 12›, if_neg ‹¬c.op = 13›, if_neg ‹¬c.op = 14›, if_pos ‹c.op = 11›, htop, hdrop]
   simp only [Pm.truth, decide_eq_true_eq]
   exact hg
  ·rw [if_neg (by simp [hany] <;> omega), stepI, if_neg ‹¬c.op = 0›, if_neg ‹¬c.op = 1›, if_neg ‹¬c.op = 12›, if_neg ‹¬c.op = 13›, if_neg ‹¬c.op = 14›, if_neg ‹¬c.op = 11›, htop, if_pos (by omega)]
   exact .inl ⟨rfl, hg⟩
  all_goals first
   | (rw [if_neg (by simp [hany] <;> omega), stepI, if_neg ‹¬c.op = 0›, if_neg ‹¬c.op = 1›, if_neg ‹¬c.op = 12›, if_neg ‹¬c.op = 13›, if_neg ‹¬c.op = 14›, if_neg ‹¬c.op = 11›, htop, htop1, hdrop2, if_neg (by omega)]; exact hg)
   | (rw [if_pos (by simp [hany] <;> omega)]; exact .inl ⟨rfl, hg⟩)
/-- No instruction lies there. -/
theorem step_out (code : List Ins) (vs : List Var) (m : Mach) (o : List (Nat × Ob)) (nx : Nat) (hp : m.pc < 0 ∨ (code.length : Int) ≤ m.pc) (h : MOb m o nx) :
  Ret Tryz.prog 63 [.ptr 0 0, .u (inss code), .u (vars vs)] o nx (fun _ o n => MOb (stepM code vs m) o n) := by
 obtain ⟨pc, st, en, va, er⟩ := m
 simp only at hp
 have h0 : ∃ sd, getK o 0 = some (mbox pc sd en va er) := by
  rcases h with ⟨h1, h2⟩ | ⟨i, r, h1, h2, h3, h4, h5⟩
  ·exact ⟨_, h2⟩
  ·exact ⟨_, h4⟩
 obtain ⟨sd, h0⟩ := h0
 have hst : stepM code vs ⟨pc, st, en, va, er⟩ = Mach.fin ⟨pc, st, en, va, er⟩ 0 2 := by
  unfold stepM
  by_cases h : pc < 0
  ·rw [if_pos h]
  ·rw [if_neg h, show code[pc.toNat]? = none by rw [List.getElem?_eq_none_iff]; omega]
 rw [hst]
 (refine Ret.of_body Tryz.func63 rfl (by simp) fun Γ hn => ?_); simp only [entry, List.zipIdx_cons, List.zipIdx_nil, List.map_cons, List.map_nil, Nat.zero_add, Tryz.ntmps63]
 simp only [mbox, inss, vars] at h0 ⊢
 repeat' (first
  | (refine Cnd.of (fun hc => ?_) (fun hc => ?_) <;> (try (exfalso; omega)) <;> (try simp [h0]))
  | (refine V_run rfl ?_; simp [h0])
  | (refine CallP.ret_ (end_ret _ _ _ _ _ _ _ _ _ (by first | (simp [h0]; done) | (simp [h0]; rfl))) (by rfl) (by first | assumption | simp) (by rfl) (by simp) ?_; rintro d o n' hn' ⟨hg, rfl⟩; (try simp at hn'); (try simp [h0]))
  | fail)
 all_goals
  (first | (refine EndOK.fin (.inr rfl) ?_) | (refine EndOK.fin (.inl rfl) ?_)); simp [resD, oneOrTup, Tryz.results63]
  refine FinOK.here (by first | (simp; done) | (simp; omega)) ?_
  exact .inl ⟨rfl, hg⟩
theorem step_ret (code : List Ins) (vs : List Var) (m : Mach) (o : List (Nat × Ob)) (nx : Nat) (hnx : 0 < nx) (h : MOb m o nx) (hlen : m.stack.length < 100000) :
  Ret Tryz.prog 63 [.ptr 0 0, .u (inss code), .u (vars vs)] o nx (fun _ o n => MOb (stepM code vs m) o n) := by
 by_cases hp : m.pc < 0 ∨ (code.length : Int) ≤ m.pc
 ·exact step_out code vs m o nx hp h
 ·obtain ⟨pc, st, en, va, er⟩ := m
  simp only [not_or, Int.not_lt, Int.not_le] at hp hlen
  have hpc : 0 ≤ pc := hp.1
  obtain ⟨c, hcd⟩ : ∃ c, code[pc.toNat]? = some c := ⟨code[pc.toNat]'(by omega), List.getElem?_eq_getElem _⟩
  rcases h with ⟨h1, h2⟩ | ⟨i, r, h1, h2, h3, h4, h5⟩
  ·simp only at h1
   subst h1
   exact step_nil code vs pc en va er c o nx hnx hpc hcd h2
  ·simp only at h3 h4
   cases hany : (st.any fun n => !okv n) with
   | true => exact step_any code vs pc en va er c o nx i r st hpc hcd h1 h2 h3 hany hlen h4 h5
   | false =>
    rcases List.eq_nil_or_concat st with rfl | ⟨s1, x, rfl⟩
    ·exact step_0 code vs pc en va er c o nx i r hpc hcd h1 h2 h3 hany hlen h4 h5
    ·rcases List.eq_nil_or_concat s1 with rfl | ⟨s2, y, rfl⟩
     ·exact step_1 code vs pc en va er c o nx i r x hpc hcd h1 h2 h3 hany hlen h4 h5
     ·have e : (s2 ++ [y]) ++ [x] = s2 ++ [y, x] := by simp
      simp only [List.concat_eq_append] at h3 h4 hany hlen ⊢
      rw [e] at h3 h4 hany hlen ⊢
      exact step_2 code vs pc en va er c o nx i r s2 y x hpc hcd h1 h2 h3 hany hlen h4 h5
theorem run_fun (code : List Ins) (vs : List Var) (fuel : Int) : Fun Tryz.prog 31 [.u (inss code), .u (vars vs), .u (.int .i64 fuel)]
  (· = .tup [.u (.int .i64 (runM code vs fuel).1), .u (.int .i64 (runM code vs fuel).2.1), .u (.int .i64 (runM code vs fuel).2.2)]) := by
 refine Fun.run Tryz.func31 Tryz.ntmps31 Tryz.results31 rfl (by simp) fun Γ hn => ?_; simp only [entry, List.zipIdx_cons, List.zipIdx_nil, List.map_cons, List.map_nil, Nat.zero_add]
 by_cases hf : fuel < 0 ∨ 100000 < fuel
 ·have hr : runM code vs fuel = (0, 0, 1) := by unfold runM; rw [if_pos hf]
  rw [hr]
  rcases hf with hf | hf
  all_goals
   repeat' (first
  | (refine Cnd.of (fun hc => ?_) (fun hc => ?_) <;> (try (exfalso; omega)) <;> (try simp))
  | (refine V_run rfl ?_; simp)
  | fail)
  all_goals
   (refine Pst.of ?_; simp)
 ·have hr : runM code vs fuel = runK code vs fuel fuel.toNat 0 run0 := by unfold runM; rw [if_neg hf]
  rw [hr]
  have hf0 : 0 ≤ fuel ∧ fuel ≤ 100000 := by omega
  repeat' (first
  | (refine Cnd.of (fun hc => ?_) (fun hc => ?_) <;> (try (exfalso; omega)) <;> (try simp))
  | (refine V_run rfl ?_; simp)
  | fail)
  refine V_loop (α := RunAt code vs fuel)
   (fun x => { n := 34, env := [(0, .u (inss code)), (1, .u (vars vs)), (2, .u (.int .i64 fuel)), (9, .ptr 0 0), (17, .u (.int .i64 fuel)), (18, .u (.int .i64 x.n))], obs := x.obs, next := 2 })
   (fun x => fuel.toNat - x.n) ⟨0, run0, none, by omega, by simp [run0], by simp, rfl⟩ (fun i => i) ?_ ?_
  ·(refine St.le_of rfl ?_ ?_ ?_ ?_ <;> simp [leEnv, leObs, leL, D.le, D.ren, D.under, hn, RunAt.obs, mbox, run0, Ob.under_box, Ob.le_id])
  intro x
  repeat' (first
  | (refine Cnd.of (fun hc => ?_) (fun hc => ?_) <;> (try (exfalso; omega)) <;> (try simp))
  | (refine V_run rfl ?_; simp)
  | fail)
  ·have hlt : (x.n : Int) < fuel := by assumption
   have hkk : fuel.toNat - x.n = (fuel.toNat - (x.n + 1)) + 1 := by omega
   have hrun := x.hrun
   rw [hkk, runK] at hrun
   have hl := stepM_len code vs x.m
   have hxl := x.hlen
   refine CallP.ret_ (step_ret code vs x.m x.obs 2 (by omega) x.mob (by omega)) (by rfl) (by simp) (by rfl) (by simp) ?_
   rintro d o n' hn' hg
   simp at hn'
   generalize stepM code vs x.m = m' at hg hrun hl
   obtain ⟨pc, st, en, va, er⟩ := m'
   simp only at hrun hl
   rcases hg with ⟨h1, h0⟩ | ⟨i, r, h1, h2, h3, h0, h4⟩
   ·simp only at h1 h0
    subst h1
    cases en with
    | true =>
     rw [if_pos rfl] at hrun
     simp [h0, mbox]
     repeat' (first
  | (refine And.intro (by omega) ?_)
  | (refine ⟨hC _ (by kernel_rfl), hk _ (RN_K 8 _ _ _ ?_)⟩; clear hC hk C k; simp [h0, mbox])
  | (refine V_dx rfl (by kernel_rfl) (by first | (simp [hn]; done) | (simp [hn]; omega) | fail) fun C k hC hk => ?_; simp [h0, mbox])
  | fail)
     (refine Pst.of ?_; simp)
     rw [← hrun]
     simp
    | false =>
     rw [if_neg (by simp)] at hrun
     simp [h0, mbox]
     repeat' (first
  | (refine And.intro (by omega) ?_)
  | fail)
     refine LoopI.next ?y (fun i => i) ?h1 ?h2
     case y => exact ⟨x.n + 1, ⟨pc, [], false, va, er⟩, none, by omega, by simp, by simpa using hrun, rfl⟩
     case h1 => simp; omega
     case h2 =>
      (refine St.le_of rfl ?_ ?_ ?_ ?_ <;> simp [leEnv, leObs, leL, D.le, D.ren, D.under, hn, RunAt.obs, mbox, h0, Ob.under_box, Ob.le_id])
   ·simp only at h3 h0
    cases en with
    | true =>
     rw [if_pos rfl] at hrun
     simp [h0, mbox]
     repeat' (first
  | (refine And.intro (by omega) ?_)
  | (refine ⟨hC _ (by kernel_rfl), hk _ (RN_K 8 _ _ _ ?_)⟩; clear hC hk C k; simp [h0, mbox])
  | (refine V_dx rfl (by kernel_rfl) (by first | (simp [hn]; done) | (simp [hn]; omega) | fail) fun C k hC hk => ?_; simp [h0, mbox])
  | fail)
     (refine Pst.of ?_; simp)
     rw [← hrun]
     simp
    | false =>
     rw [if_neg (by simp)] at hrun
     simp [h0, mbox]
     repeat' (first
  | (refine And.intro (by omega) ?_)
  | fail)
     refine LoopI.next ?y (fun j => if j = 1 then i else j) ?h1 ?h2
     case y => exact ⟨x.n + 1, ⟨pc, st, false, va, er⟩, some r, by omega, by simp; omega, by simpa using hrun, h3⟩
     case h1 => simp; omega
     case h2 =>
      (refine St.le_of rfl ?_ ?_ ?_ ?_ <;> simp [leEnv, leObs, leL, D.le, D.ren, D.under, hn, RunAt.obs, mbox, h0, h4])
      ·refine ⟨Ob.le_box ?_, Ob.le_vec_refl (stk_u r), fun r' hr' x' hx' => ?_⟩
       ·simp [leL, D.le, D.ren]
       ·obtain ⟨u, rfl⟩ := stk_u r r' hr' x' hx'
        simp [D.under]
      ·omega
  ·have hxn := x.hn
   have hkk : fuel.toNat - x.n = 0 := by omega
   have hrun := x.hrun
   rw [hkk, runK] at hrun
   (refine Pst.of ?_; simp)
   rw [← hrun]
   simp
end Go.Proofs.YtkdhmbhbbciedaaGreatDoor.Vm
namespace Go.Proofs.YtkdhmbhbbciedaaGreatDoor
open Go Go.VL
attribute [local simp] exS_some hcons hstep evPure opd uOf putOK St.put St.at getK binD binI binS binB nilD aggD eqUs cmpK lookD lookR rangeD rangeS Go.VL.nextD Go.VL.nextS entryD keyD valU keyU lookK mkV entD_nil allUE makeMapD mapUpdD mapEff updK valM Key.kk shiftI arith unD convD pickD loadD cellsAt fieldAddrD fieldD indexAddrD indexSlD arrAddr indexD sliceD cutD lenD minmaxD nilCheckD buildD fillD cellsD isOne ones setAll mkAgg allU allocD boxD storeD St.add buildSliceD appendD rowsOf makeD setOb getK_setOb getK_del getK_cons stripL strip guardTmp entry chunks zcells valD argsV argsW argW argU1 argU0 argsU0 argsU1 calleeOf scalarD scalarU delAll effD St.effS RK_seq RK_seq_ret RK_seq_exit RK_blk RK_blk_ret RK_blk_exit RK_loop RK_loop_ret RK_loop_exit RK_done vs_seq vs_block vs_cond vs_region vs_loop applyW mkD rdIds lentIds callOf calleeOf freeOp D.ids Op.operands Call.operands isEffOp makeIfD makeFuncD typeAssertD conc concs conc1 uOfV panicD IntKind.bits allU2 List.take_of_length_le List.range_succ HR_nil HR_cons HR_grd v2_seq v2_block v2_skip v2_exit v2_ret v2_cond v2_region v2_draw v2_loop RN_0 RN_done RN_seq RN_seq_ret RN_seq_exit RN_blk RN_blk_ret RN_blk_exit RN_loop RN_loop_ret RN_loop_exit Cnd_tf Cnd_ft EndV getK_append frzN frz1 St.frz St.frzS frzS fv fzVec fzMap frzObS frz normD normU norm1 normOb St.norm St.lp St.only keepE wkE wkO wkU Ob.under D.under under_rowsD under_entD H4_nil H4_cons H4_grd h4s resD oneOrTup pureD List.zipIdx_cons List.zipIdx_nil List.map_cons List.map_nil Nat.zero_add
attribute [local irreducible] V G H HD HD2 RunK Eff CallP CallV EndOK Fun Ret FinOK LoopI LoopW EndW HR vs2 RN Cnd H4
theorem spanL_all {p : UInt8 → Bool} {l : List UInt8} (h : spanL p l = l.length) : ∀ c ∈ l, p c = true := by
 have : l.takeWhile p = l := (List.takeWhile_sublist p).eq_of_length h
 intro c hc
 rw [← this] at hc
 exact List.all_eq_true.1 (List.all_takeWhile (l := l) (p := p)) c hc
theorem hsl : signsL.length = 11 := rfl
end Go.Proofs.YtkdhmbhbbciedaaGreatDoor
namespace Go.Proofs.YtkdhmbhbbciedaaGreatDoor.Vm
open Go Go.VL
attribute [local simp] exS_some hcons hstep evPure opd uOf putOK St.put St.at getK binD binI binS binB nilD aggD eqUs cmpK lookD lookR rangeD rangeS Go.VL.nextD Go.VL.nextS entryD keyD valU keyU lookK mkV entD_nil allUE makeMapD mapUpdD mapEff updK valM Key.kk shiftI arith unD convD pickD loadD cellsAt fieldAddrD fieldD indexAddrD indexSlD arrAddr indexD sliceD cutD lenD minmaxD nilCheckD buildD fillD cellsD isOne ones setAll mkAgg allU allocD boxD storeD St.add buildSliceD appendD rowsOf makeD setOb getK_setOb getK_del getK_cons stripL strip guardTmp entry chunks zcells valD argsV argsW argW argU1 argU0 argsU0 argsU1 calleeOf scalarD scalarU delAll effD St.effS RK_seq RK_seq_ret RK_seq_exit RK_blk RK_blk_ret RK_blk_exit RK_loop RK_loop_ret RK_loop_exit RK_done vs_seq vs_block vs_cond vs_region vs_loop applyW mkD rdIds lentIds callOf calleeOf freeOp D.ids Op.operands Call.operands isEffOp makeIfD makeFuncD typeAssertD conc concs conc1 uOfV panicD IntKind.bits allU2 List.take_of_length_le List.range_succ HR_nil HR_cons HR_grd v2_seq v2_block v2_skip v2_exit v2_ret v2_cond v2_region v2_draw v2_loop RN_0 RN_done RN_seq RN_seq_ret RN_seq_exit RN_blk RN_blk_ret RN_blk_exit RN_loop RN_loop_ret RN_loop_exit Cnd_tf Cnd_ft EndV getK_append frzN frz1 St.frz St.frzS frzS fv fzVec fzMap frzObS frz normD normU norm1 normOb St.norm St.lp St.only keepE wkE wkO wkU Ob.under D.under under_rowsD under_entD H4_nil H4_cons H4_grd h4s resD oneOrTup pureD List.zipIdx_cons List.zipIdx_nil List.map_cons List.map_nil Nat.zero_add
attribute [local irreducible] V G H HD HD2 RunK Eff CallP CallV EndOK Fun Ret FinOK LoopI LoopW EndW HR vs2 RN Cnd H4
theorem is_fun (code : List Ins) (vs : List Var) (v n e : Int) : Fun Tryz.prog 61 [.u (inss code), .u (vars vs), .u (.int .i64 v), .u (.int .i64 n), .u (.int .i64 e)]
  (· = .u (.bool (decide (runM code vs 9 = (v, n, e))))) := by
 refine Fun.run Tryz.func61 Tryz.ntmps61 Tryz.results61 rfl (by simp) fun Γ hn => ?_
 repeat' (first
  | (refine Cnd.of (fun hc => ?_) (fun hc => ?_) <;> (try (exfalso; omega)) <;> (try simp))
  | (refine V_run rfl ?_; simp)
  | (refine CallP.f2 rfl (run_fun code vs 9) (by first | simp <;> rfl | fail) ?_; simp)
  | fail)
 all_goals
  (refine Pst.of ?_; simp)
 all_goals simp_all [Prod.ext_iff]
def pot1 : List Var := [⟨[112, 111, 116], 0, 999⟩]
def codeA : List Ins := [⟨1, 0, [112, 111, 116]⟩, ⟨0, 50, []⟩, ⟨6, 0, []⟩, ⟨14, 0, []⟩]
def codeB : List Ins := [⟨0, -7, []⟩, ⟨0, 2, []⟩, ⟨5, 0, []⟩, ⟨14, 0, []⟩]
def codeC : List Ins := [⟨0, 0, []⟩, ⟨13, 3, []⟩, ⟨12, 0, []⟩, ⟨0, 1, []⟩, ⟨14, 0, []⟩]
theorem small_fun : Fun Tryz.prog 28 [] (· = .u (.bool true)) := by
 have h1 := is_fun codeA pot1 49 4 0
 have h2 := is_fun codeB [] (-4) 4 0
 have h3 := is_fun codeC [] 1 4 0
 have h4 := is_fun [⟨12, 0, []⟩] [] 0 9 16
 have h5 := is_fun [⟨2, 0, []⟩] [] 0 1 2
 rw [show decide (runM codeA pot1 9 = (49, 4, 0)) = true by decide +kernel] at h1
 rw [show decide (runM codeB [] 9 = (-4, 4, 0)) = true by decide +kernel] at h2
 rw [show decide (runM codeC [] 9 = (1, 4, 0)) = true by decide +kernel] at h3
 rw [show decide (runM [⟨12, 0, []⟩] [] 9 = (0, 9, 16)) = true by decide +kernel] at h4
 rw [show decide (runM [⟨2, 0, []⟩] [] 9 = (0, 1, 2)) = true by decide +kernel] at h5
 simp [inss, vars, codeA, codeB, codeC, pot1] at h1 h2 h3 h4 h5
 refine Fun.run Tryz.func28 Tryz.ntmps28 Tryz.results28 rfl (by simp) fun Γ hn => ?_
 repeat' (first
  | (refine V_run rfl ?_; simp [zcells, chunks, List.range_succ])
  | ((first | refine CallP.f2 rfl (h1) (by first | simp [zcells, chunks, List.range_succ] <;> rfl | fail) ?_ | refine CallP.f2 rfl (h2) (by first | simp [zcells, chunks, List.range_succ] <;> rfl | fail) ?_ | refine CallP.f2 rfl (h3) (by first | simp [zcells, chunks, List.range_succ] <;> rfl | fail) ?_ | refine CallP.f2 rfl (h4) (by first | simp [zcells, chunks, List.range_succ] <;> rfl | fail) ?_ | refine CallP.f2 rfl (h5) (by first | simp [zcells, chunks, List.range_succ] <;> rfl | fail) ?_ | fail); simp [zcells, chunks, List.range_succ])
  | fail)
 all_goals
  (refine Pst.of ?_; simp)
end Go.Proofs.YtkdhmbhbbciedaaGreatDoor.Vm
