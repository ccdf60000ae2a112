/- A calculus of values: what a call computes is told of plain values (numbers, strings, slices as lists), the memory aside. Here: the values, what it means that a machine value stands for one, and the objects that a call owns. -/
import Derived.WalkKit
import Derived.WalkSpells
import Derived.WalkLawsBesides
import Derived.Maps.AppendAt
set_option linter.all false
namespace Go.VL
open Go

/-- Values without an identity: what stands in memory that no one writes any more. -/
inductive U where
  | int (k : IntKind) (n : Int)
  | bool (b : Bool)
  | str (l : List UInt8)
  | oth (v : Value)
  | nil
  | sl (rows : List (List U))
  | row (cells : List U) (off : Nat)
  | agg (cells : List U)
  deriving Inhabited

/-- Values that may name an object of the call's own. -/
inductive D where
  | u (x : U)
  | ptr (i off : Nat)
  | vec (i len : Nat)
  | elt (i sz idx off : Nat)
  | fnc (f : Fn) (caps : List D)
  | agg (cells : List D)
  | tup (vs : List D)
  | any
  deriving Inhabited

abbrev Mem := Nat → Nat → Option Value

inductive RepU (m : Mem) : U → Value → Prop
  | int (k n) : RepU m (.int k n) (.int k n)
  | bool (b) : RepU m (.bool b) (.bool b)
  | str (l : List UInt8) : RepU m (.str l) (.string ⟨l.toArray⟩)
  | oth (v) : RepU m (.oth v) v
  | nil : RepU m .nil (.slice none 0 0)
  | slE (a c) (h : a = none → c = 0) : RepU m (.sl []) (.slice a 0 c)
  | sl (rows : List (List U)) (b o sz c : Nat) (f : Nat → Nat → Value)
      (hc : rows.length ≤ c) (hx : c ≤ maxLen) (hsz : ∀ r ∈ rows, r.length = sz)
      (hm : ∀ i, i < rows.length → ∀ j, j < sz → m b (o + i * sz + j) = some (f i j))
      (hr : ∀ i r, rows[i]? = some r → ∀ j u, r[j]? = some u → RepU m u (f i j)) :
      RepU m (.sl rows) (.slice (some ⟨b, o, none⟩) rows.length c)
  | row (cells : List U) (off b o : Nat) (f : Nat → Value)
      (hm : ∀ j, j < cells.length → m b (o + j) = some (f j))
      (hr : ∀ j u, cells[j]? = some u → RepU m u (f j)) :
      RepU m (.row cells off) (.pointer (some ⟨b, o + off, none⟩))
  | agg (cells : List U) (vs : List Value) (hl : cells.length = vs.length)
      (hr : ∀ j u, cells[j]? = some u → RepU m u (vs.getD j undef)) :
      RepU m (.agg cells) (.agg vs.toArray)

structure Kr where
  mem : Mem
  hdr : Nat → Option (Option Nat × Nat)

/-- The slice value at the head of an object. -/
def headVal (h : Option Nat × Nat) (len : Nat) : Value := .slice (h.1.map fun b => ⟨b, 0, none⟩) len h.2

inductive Rep (k : Kr) : D → Value → Prop
  | u (x v) (h : RepU k.mem x v) : Rep k (.u x) v
  | any (v) : Rep k .any v
  | ptr (i off b c) (h : k.hdr i = some (some b, c)) : Rep k (.ptr i off) (.pointer (some ⟨b, off, none⟩))
  | vec (i len h) (hh : k.hdr i = some h) : Rep k (.vec i len) (headVal h len)
  | elt (i sz idx off b c) (h : k.hdr i = some (some b, c)) : Rep k (.elt i sz idx off) (.pointer (some ⟨b, idx * sz + off, none⟩))
  | fnc (f : Fn) (caps : List D) (vs : List Value) (hl : caps.length = vs.length)
      (hr : ∀ j d, caps[j]? = some d → Rep k d (vs.getD j undef)) : Rep k (.fnc f caps) (.func f #[] vs.toArray)
  | agg (cells : List D) (vs : List Value) (hl : cells.length = vs.length)
      (hr : ∀ j d, cells[j]? = some d → Rep k d (vs.getD j undef)) : Rep k (.agg cells) (.agg vs.toArray)
  | tup (cells : List D) (vs : List Value) (hl : cells.length = vs.length)
      (hr : ∀ j d, cells[j]? = some d → Rep k d (vs.getD j undef)) : Rep k (.tup cells) (.tuple vs.toArray)

def Mem.le (m m' : Mem) : Prop := ∀ b o v, m b o = some v → m' b o = some v
theorem Mem.le.refl (m : Mem) : m.le m := fun _ _ _ h => h
theorem Mem.le.trans {a b c : Mem} (h : a.le b) (g : b.le c) : a.le c := fun _ _ _ e => g _ _ _ (h _ _ _ e)

theorem RepU.mono {m m' : Mem} {x : U} {v : Value} (h : RepU m x v) (hm : m.le m') : RepU m' x v := by
  induction h with
  | int k n => exact .int k n
  | bool b => exact .bool b
  | str l => exact .str l
  | oth v => exact .oth v
  | nil => exact .nil
  | slE a c h => exact .slE a c h
  | sl rows b o sz c f hc hx hsz hmm hr ih => exact .sl rows b o sz c f hc hx hsz (fun i hi j hj => hm _ _ _ (hmm i hi j hj)) ih
  | row cells off b o f hmm hr ih => exact .row cells off b o f (fun j hj => hm _ _ _ (hmm j hj)) ih
  | agg cells vs hl hr ih => exact .agg cells vs hl ih

structure Kr.le (k k' : Kr) : Prop where
  mem : k.mem.le k'.mem
  hdr : ∀ i h, k.hdr i = some h → k'.hdr i = some h
theorem Kr.le.refl (k : Kr) : k.le k := ⟨.refl _, fun _ _ h => h⟩
theorem Kr.le.trans {a b c : Kr} (h : a.le b) (g : b.le c) : a.le c := ⟨h.mem.trans g.mem, fun _ _ e => g.hdr _ _ (h.hdr _ _ e)⟩

theorem Rep.mono {k k' : Kr} {d : D} {v : Value} (h : Rep k d v) (hk : k.le k') : Rep k' d v := by
  induction h with
  | u x v h => exact .u x v (h.mono hk.mem)
  | any v => exact .any v
  | ptr i off b c h => exact .ptr i off b c (hk.hdr _ _ h)
  | vec i len h hh => exact .vec i len h (hk.hdr _ _ hh)
  | elt i sz idx off b c h => exact .elt i sz idx off b c (hk.hdr _ _ h)
  | fnc f caps vs hl hr ih => exact .fnc f caps vs hl ih
  | agg cells vs hl hr ih => exact .agg cells vs hl ih
  | tup cells vs hl hr ih => exact .tup cells vs hl ih

/-- What a call owns: a variable (its cells), or a growing slice (its rows). -/
inductive Ob where
  | box (cells : List D)
  | vec (e sz : Nat) (rows : List (List D))
  deriving Inhabited

def getK {α : Type} : List (Nat × α) → Nat → Option α
  | [], _ => none
  | (k, d) :: l, x => if x = k then some d else getK l x

def OneRep (k : Kr) (d : D) (v : Value) : Prop := v.oneCell' = true ∧ Rep k d v

/-- The object that lies at this head is in memory as told. -/
def ObAt (k : Kr) (w : World) (h : Option Nat × Nat) : Ob → Prop
  | .box cells => ∃ b vs t, h.1 = some b ∧ w.heap[b]? = some (.cells vs t (0, 0)) ∧ vs.size = cells.length ∧ ∀ j d, cells[j]? = some d → OneRep k d (vs.getD j undef)
  | .vec e sz rows => ∃ xs, w.ownsRow 0 e sz (headVal h rows.length) rows.length xs ∧ 0 < sz ∧ (∀ r ∈ rows, r.length = sz) ∧
      ∀ i r, rows[i]? = some r → ∀ j d, r[j]? = some d → OneRep k d (xs.getD (i * sz + j) undef)
def ObOK (k : Kr) (own : Nat → Prop) (w : World) (i : Nat) (ob : Ob) : Prop :=
  ∃ h, k.hdr i = some h ∧ (∀ b, h.1 = some b → own b ∧ ∀ o, k.mem b o = none) ∧ ObAt k w h ob

theorem ownsRow_capNone {w : World} {e sz n xs} {h : Option Nat × Nat} (ho : w.ownsRow 0 e sz (headVal h n) n xs) : h.1 = none → h.2 = 0 := by
  intro hn
  rcases ho.2 with ⟨hv, _⟩ | ⟨g, cap, cur, hv, _⟩
  · simp [headVal, hn] at hv
    exact hv.2
  · simp [headVal, hn] at hv
theorem ObOK.box {k own w i cells} (h : ObOK k own w i (.box cells)) : ∃ b c vs t, k.hdr i = some (some b, c) ∧ own b ∧ w.heap[b]? = some (.cells vs t (0, 0)) ∧ vs.size = cells.length ∧
    (∀ j d, cells[j]? = some d → OneRep k d (vs.getD j undef)) ∧ ∀ o, k.mem b o = none := by
  obtain ⟨⟨hb, c⟩, h1, h2, b, vs, t, e, h3, h4, h5⟩ := h
  simp only at e
  subst e
  exact ⟨b, c, vs, t, h1, (h2 b rfl).1, h3, h4, h5, (h2 b rfl).2⟩
theorem ObOK.vec {k own w i e sz rows} (h : ObOK k own w i (.vec e sz rows)) : ∃ h xs, k.hdr i = some h ∧ w.ownsRow 0 e sz (headVal h rows.length) rows.length xs ∧ 0 < sz ∧ (∀ r ∈ rows, r.length = sz) ∧
    (∀ i r, rows[i]? = some r → ∀ j d, r[j]? = some d → OneRep k d (xs.getD (i * sz + j) undef)) ∧ ∀ b, h.1 = some b → own b ∧ ∀ o, k.mem b o = none := by
  obtain ⟨h, h1, h2, xs, h3, h4, h5, h6⟩ := h
  exact ⟨h, xs, h1, h3, h4, h5, h6, h2⟩
theorem ObAt.keep {k k' w w' h ob} (ho : ObAt k w h ob) (hk : k.le k') (hw : ∀ b, h.1 = some b → w'.heap[b]? = w.heap[b]?) : ObAt k' w' h ob := by
  cases ob with
  | box cells =>
    obtain ⟨b, vs, t, e, h1, h2, h3⟩ := ho
    exact ⟨b, vs, t, e, by rw [hw b e]; exact h1, h2, fun j d hj => ⟨(h3 j d hj).1, (h3 j d hj).2.mono hk⟩⟩
  | vec e sz rows =>
    obtain ⟨xs, h1, h2, h3, h4⟩ := ho
    refine ⟨xs, ⟨h1.1, ?_⟩, h2, h3, fun i r hr j d hj => ⟨(h4 i r hr j d hj).1, (h4 i r hr j d hj).2.mono hk⟩⟩
    rcases h1.2 with hn | ⟨g, cap, cur, hv, hb, hg, rest⟩
    · exact .inl hn
    · refine .inr ⟨g, cap, cur, hv, hb, ?_, rest⟩
      have : h.1 = some g := by
        simp only [headVal, Value.slice.injEq, Option.map_eq_some_iff] at hv
        obtain ⟨⟨b, hb, e⟩, _⟩ := hv
        simp only [Addr.mk.injEq] at e
        rw [hb, e.1]
      rw [hw g this]
      exact hg

structure Sat (k : Kr) (own : Nat → Prop) (obs : List (Nat × Ob)) (w : World) : Prop where
  mem : ∀ b o v, k.mem b o = some v → w.cell? ⟨b, o, none⟩ = some v
  ob : ∀ i ob, getK obs i = some ob → ObOK k own w i ob
  apart : ∀ i j x y h g b, getK obs i = some x → getK obs j = some y → i ≠ j → k.hdr i = some h → k.hdr j = some g → h.1 = some b → g.1 ≠ some b

/-- Where a call began: what it may write, what was known, the world. -/
structure Ctx where
  own : Nat → Prop
  k0 : Kr
  n0 : Nat
  w0 : World

structure In (Γ : Ctx) (k : Kr) (w : World) : Prop where
  le : Γ.k0.le k
  none0 : ∀ i, Γ.n0 ≤ i → Γ.k0.hdr i = none
  memNew : ∀ b o v, k.mem b o = some v → Γ.k0.mem b o = some v ∨ Γ.own b
  fresh : ∀ b, Γ.w0.heap.size ≤ b → Γ.own b
  os : w.os = Γ.w0.os
  tape : w.tape = Γ.w0.tape
  output : w.output = Γ.w0.output
  size : Γ.w0.heap.size ≤ w.heap.size
  block : ∀ b, ¬ Γ.own b → w.heap[b]? = Γ.w0.heap[b]?

structure St where
  n : Nat
  env : List (Nat × D)
  obs : List (Nat × Ob)
  next : Nat

def St.at (s : St) (x : Nat) : D := (getK s.env x).getD .any
def St.put (s : St) (x : Option Nat) (d : D) : St := match x with | some x => { s with env := (x, d) :: s.env } | none => s

structure Sim (k : Kr) (own : Nat → Prop) (s : St) (a : Act) (w : World) : Prop where
  sat : Sat k own s.obs w
  defers : a.defers = []
  size : a.tmps.size = s.n
  env : ∀ x d, getK s.env x = some d → x < s.n ∧ Rep k d (a.tmps.getD x undef)
  hdr : ∀ i, s.next ≤ i → k.hdr i = none

theorem Sim.at {k own s a w} (h : Sim k own s a w) (x : Nat) : Rep k (s.at x) (a.tmps.getD x undef) := by
  unfold St.at
  cases hg : getK s.env x with
  | none => exact .any _
  | some d => exact (h.env x d hg).2

end Go.VL
