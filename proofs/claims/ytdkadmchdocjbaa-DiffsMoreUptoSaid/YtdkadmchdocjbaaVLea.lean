/- The calculus of values (VLa, VLb, VLc, VLd, VLe, VLea). -/
import Derived.WalkKit
import Derived.WalkSpells
import Derived.WalkLawsBesides
import Derived.Maps.AppendAt
import Derived.Lib.SliceRun
import Derived.Laws.StructEq
import Derived.Deep.MidRow
import Derived.MapKept
set_option linter.all false
set_option maxRecDepth 100000
set_option maxHeartbeats 8000000
/- A calculus of values: what a call computes is told of plain values (numbers, strings, slices as lists), the memory aside. Here: the values, what it means that a machine value stands for one, and the objects that a call owns. -/
namespace Go.VL
open Go

/-- A map's key. -/
inductive Key where
  | s (l : List UInt8)
  | i (k : IntKind) (n : Int)
  deriving DecidableEq
inductive KK where
  | s
  | i (k : IntKind)
  deriving DecidableEq
def Key.kk : Key → KK
  | .s _ => .s
  | .i k _ => .i k
def Key.val : Key → Value
  | .s l => .string ⟨l.toArray⟩
  | .i k n => .int k n
/-- Values without an identity: what stands in memory that no one writes any more. -/
inductive U where
  | int (k : IntKind) (n : Int)
  | bool (b : Bool)
  | str (l : List UInt8)
  | oth (v : Value)
  | nil
  | sl (rows : List (List U))
  | row (cells : List U) (off : Nat)
  | agg (cells : List U)
  | map (kk : KK) (ag : Bool) (es : List (Key × List U))
  deriving Inhabited

/-- Values that may name an object of the call's own. -/
inductive D where
  | u (x : U)
  | ptr (i off : Nat)
  | vec (i len : Nat)
  | elt (i sz idx off : Nat)
  | mp (i : Nat)
  | fnc (f : Fn) (caps : List D)
  | agg (cells : List D)
  | tup (vs : List D)
  | any
  deriving Inhabited

/-- What can be known of a place: a cell's value; a map. -/
inductive Known where
  | val (v : Value)
  | map (ents : Array MapEntry) (clock : Nat)
abbrev Mem := Nat → Nat → Option Known
def Known.get : Option Known → Value
  | some (.val v) => v
  | _ => undef
def look (w : World) (b o : Nat) : Option Known := match w.heap[b]? with
  | some (.map ents clock) => if o = 0 then some (.map ents clock) else none
  | _ => (w.cell? ⟨b, o, none⟩).map .val
theorem look_val {w : World} {b o v} (h : look w b o = some (.val v)) : w.cell? ⟨b, o, none⟩ = some v := by
  unfold look at h
  split at h
  · split at h <;> cases h
  · cases hc : w.cell? ⟨b, o, none⟩ with
    | none => rw [hc] at h; cases h
    | some x => rw [hc] at h; cases h; rfl
theorem look_map {w : World} {b o ents clock} (h : look w b o = some (.map ents clock)) : w.heap[b]? = some (.map ents clock) := by
  unfold look at h
  split at h
  · rename_i hm
    split at h
    · cases h; exact hm
    · cases h
  · cases hc : w.cell? ⟨b, o, none⟩ with
    | none => rw [hc] at h; cases h
    | some x => rw [hc] at h; cases h
theorem look_cell {w : World} {b o v} (h : w.cell? ⟨b, o, none⟩ = some v) : look w b o = some (.val v) := by
  unfold look
  split
  · rename_i hm
    simp [World.cell?, hm] at h
  · rw [h]; rfl
theorem look_of_map {w : World} {b ents clock} (h : w.heap[b]? = some (.map ents clock)) : look w b 0 = some (.map ents clock) := by
  unfold look; rw [h]; rfl
theorem look_heap {w w' : World} {b : Nat} (h : w'.heap[b]? = w.heap[b]?) (o : Nat) : look w' b o = look w b o := by
  simp [look, World.cell?, h]

theorem look_lt {w : World} {b o : Nat} {v : Known} (h : look w b o = some v) : b < w.heap.size := by
  rcases Nat.lt_or_ge b w.heap.size with hl | hl
  · exact hl
  · rw [look, World.cell?] at h
    simp [Array.getElem?_eq_none hl] at h

/-- The shape of a map's entries. -/
structure MapSh (kk : KK) (es : List Key) (ents : Array MapEntry) (clock : Nat) : Prop where
  size : ents.size = es.length
  kind : ∀ p ∈ es, p.kk = kk
  once : es.Pairwise fun p q => p ≠ q
  ent : ∀ (i : Nat) (p : Key), es[i]? = some p → ∃ en : MapEntry, ents[i]? = some en ∧ en.key = p.val
  born : ∀ (i : Nat) (en : MapEntry), ents[i]? = some en → en.born < clock
  apart : ∀ (i j : Nat) (en en' : MapEntry), ents[i]? = some en → ents[j]? = some en' → en.born = en'.born → i = j

inductive RepU (m : Mem) : U → Value → Prop
  | int (k n) : RepU m (.int k n) (.int k n)
  | bool (b) : RepU m (.bool b) (.bool b)
  | str (l : List UInt8) : RepU m (.str l) (.string ⟨l.toArray⟩)
  | oth (v) : RepU m (.oth v) v
  | nil : RepU m .nil (.slice none 0 0)
  | slE (a c) (h : a = none → c = 0) : RepU m (.sl []) (.slice a 0 c)
  | sl (rows : List (List U)) (b o sz c : Nat) (f : Nat → Nat → Value)
      (hc : rows.length ≤ c) (hx : c ≤ maxLen) (hsz : ∀ r ∈ rows, r.length = sz)
      (hm : ∀ i, i < rows.length → ∀ j, j < sz → m b (o + i * sz + j) = some (.val (f i j)))
      (hr : ∀ i r, rows[i]? = some r → ∀ j u, r[j]? = some u → RepU m u (f i j)) :
      RepU m (.sl rows) (.slice (some ⟨b, o, none⟩) rows.length c)
  | row (cells : List U) (off b o : Nat) (f : Nat → Value)
      (hm : ∀ j, j < cells.length → m b (o + j) = some (.val (f j)))
      (hr : ∀ j u, cells[j]? = some u → RepU m u (f j)) :
      RepU m (.row cells off) (.pointer (some ⟨b, o + off, none⟩))
  | agg (cells : List U) (vs : List Value) (hl : cells.length = vs.length)
      (hr : ∀ j u, cells[j]? = some u → RepU m u (vs.getD j undef)) :
      RepU m (.agg cells) (.agg vs.toArray)
  | map (kk : KK) (ag : Bool) (es0 es : List (Key × List U)) (hp : es.Perm es0) (b : Nat) (ents : Array MapEntry) (clock : Nat) (f : Nat → Nat → Value)
      (hm : m b 0 = some (.map ents clock)) (hs : MapSh kk (es.map (·.1)) ents clock)
      (hf : ∀ (i : Nat) (p : Key × List U) (en : MapEntry), es[i]? = some p → ents[i]? = some en → (if ag = true then ∃ vs : List Value, en.val = .agg vs.toArray ∧ p.2.length = vs.length ∧ ∀ (j : Nat), j < vs.length → vs.getD j undef = f i j else p.2.length = 1 ∧ en.val = f i 0) ∧ ∀ (j : Nat), j < p.2.length → (f i j).oneCell' = true)
      (hr : ∀ (i : Nat) (p : Key × List U), es[i]? = some p → ∀ (j : Nat) (u : U), p.2[j]? = some u → RepU m u (f i j)) :
      RepU m (.map kk ag es0) (.map (some b))

-- the package-level variables that are known: their cells
def globs : List (Nat × List Value) := []
def GlobIn (m : Mem) : Prop := ∀ p ∈ globs, ∀ j, j < p.2.length → m p.1 j = some (.val (p.2.getD j undef))
structure Kr where
  mem : Mem
  hdr : Nat → Option (Option Nat × Nat)
  glob : GlobIn mem
theorem GlobIn.mono {m m' : Mem} (h : GlobIn m) (hm : ∀ b o v, m b o = some v → m' b o = some v) : GlobIn m' := fun p hp j hj => hm _ _ _ (h p hp j hj)

/-- The slice value at the head of an object. -/
def headVal (h : Option Nat × Nat) (len : Nat) : Value := .slice (h.1.map fun b => ⟨b, 0, none⟩) len h.2

inductive Rep (k : Kr) : D → Value → Prop
  | u (x v) (h : RepU k.mem x v) : Rep k (.u x) v
  | any (v) : Rep k .any v
  | ptr (i off b c) (h : k.hdr i = some (some b, c)) : Rep k (.ptr i off) (.pointer (some ⟨b, off, none⟩))
  | vec (i len h) (hh : k.hdr i = some h) : Rep k (.vec i len) (headVal h len)
  | mp (i b c) (h : k.hdr i = some (some b, c)) : Rep k (.mp i) (.map (some b))
  | elt (i sz idx off b c) (h : k.hdr i = some (some b, c)) : Rep k (.elt i sz idx off) (.pointer (some ⟨b, idx * sz + off, none⟩))
  | fnc (f : Fn) (caps : List D) (vs : List Value) (hl : caps.length = vs.length)
      (hr : ∀ j d, caps[j]? = some d → Rep k d (vs.getD j undef)) : Rep k (.fnc f caps) (.func f #[] vs.toArray)
  | agg (cells : List D) (vs : List Value) (hl : cells.length = vs.length)
      (hr : ∀ j d, cells[j]? = some d → Rep k d (vs.getD j undef)) : Rep k (.agg cells) (.agg vs.toArray)
  | tup (cells : List D) (vs : List Value) (hl : cells.length = vs.length)
      (hr : ∀ j d, cells[j]? = some d → Rep k d (vs.getD j undef)) : Rep k (.tup cells) (.tuple vs.toArray)

def Mem.le (m m' : Mem) : Prop := ∀ b o v, m b o = some v → m' b o = some v
theorem Mem.le.refl (m : Mem) : m.le m := fun _ _ _ h => h
theorem Mem.le.trans {a b c : Mem} (h : a.le b) (g : b.le c) : a.le c := fun _ _ _ e => g _ _ _ (h _ _ _ e)

theorem RepU.mono {m m' : Mem} {x : U} {v : Value} (h : RepU m x v) (hm : m.le m') : RepU m' x v := by
  induction h with
  | int k n => exact .int k n
  | bool b => exact .bool b
  | str l => exact .str l
  | oth v => exact .oth v
  | nil => exact .nil
  | slE a c h => exact .slE a c h
  | sl rows b o sz c f hc hx hsz hmm hr ih => exact .sl rows b o sz c f hc hx hsz (fun i hi j hj => hm _ _ _ (hmm i hi j hj)) ih
  | row cells off b o f hmm hr ih => exact .row cells off b o f (fun j hj => hm _ _ _ (hmm j hj)) ih
  | agg cells vs hl hr ih => exact .agg cells vs hl ih
  | map kk ag es0 es hp b ents clock f hmm hs hf hr ih => exact .map kk ag es0 es hp b ents clock f (hm _ _ _ hmm) hs hf ih

structure Kr.le (k k' : Kr) : Prop where
  mem : k.mem.le k'.mem
  hdr : ∀ i h, k.hdr i = some h → k'.hdr i = some h
theorem Kr.le.refl (k : Kr) : k.le k := ⟨.refl _, fun _ _ h => h⟩
theorem Kr.le.trans {a b c : Kr} (h : a.le b) (g : b.le c) : a.le c := ⟨h.mem.trans g.mem, fun _ _ e => g.hdr _ _ (h.hdr _ _ e)⟩

theorem Rep.mono {k k' : Kr} {d : D} {v : Value} (h : Rep k d v) (hk : k.le k') : Rep k' d v := by
  induction h with
  | u x v h => exact .u x v (h.mono hk.mem)
  | any v => exact .any v
  | ptr i off b c h => exact .ptr i off b c (hk.hdr _ _ h)
  | vec i len h hh => exact .vec i len h (hk.hdr _ _ hh)
  | mp i b c h => exact .mp i b c (hk.hdr _ _ h)
  | elt i sz idx off b c h => exact .elt i sz idx off b c (hk.hdr _ _ h)
  | fnc f caps vs hl hr ih => exact .fnc f caps vs hl ih
  | agg cells vs hl hr ih => exact .agg cells vs hl ih
  | tup cells vs hl hr ih => exact .tup cells vs hl ih

/-- What a call owns: a variable (its cells), or a growing slice (its rows). -/
inductive Ob where
  | box (cells : List D)
  | vec (e sz : Nat) (rows : List (List D))
  | map (kk : KK) (ag : Bool) (es : List (Key × List D))
  | it (kk : KK) (ag : Bool) (es left : List (Key × List U)) (cur : Option (Key × List U))
  deriving Inhabited

def getK {α : Type} : List (Nat × α) → Nat → Option α
  | [], _ => none
  | (k, d) :: l, x => if x = k then some d else getK l x

def OneRep (k : Kr) (d : D) (v : Value) : Prop := v.oneCell' = true ∧ Rep k d v
/-- A map's element: a struct's cells, or the one cell. -/
def MV (k : Kr) (ag : Bool) (cells : List D) (v : Value) : Prop := if ag = true then ∃ vs : List Value, v = .agg vs.toArray ∧ cells.length = vs.length ∧ ∀ (j : Nat) (d : D), cells[j]? = some d → OneRep k d (vs.getD j undef) else ∃ d, cells = [d] ∧ OneRep k d v
theorem MV.mono {k k' : Kr} {ag cells v} (h : MV k ag cells v) (hm : k.le k') : MV k' ag cells v := by
  unfold MV at h ⊢
  split
  · rename_i e; rw [if_pos e] at h
    obtain ⟨vs, h1, h2, h3⟩ := h
    exact ⟨vs, h1, h2, fun j d hj => ⟨(h3 j d hj).1, (h3 j d hj).2.mono hm⟩⟩
  · rename_i e
    rw [if_neg e] at h
    obtain ⟨u, h1, h2, h3⟩ := h
    exact ⟨u, h1, h2, h3.mono hm⟩
/-- A map's entries. -/
structure MapAt (k : Kr) (kk : KK) (ag : Bool) (es : List (Key × List D)) (ents : Array MapEntry) (clock : Nat) : Prop where
  size : ents.size = es.length
  kind : ∀ p ∈ es, p.1.kk = kk
  once : es.Pairwise fun p q => p.1 ≠ q.1
  ent : ∀ (i : Nat) (p : Key × List D), es[i]? = some p → ∃ en : MapEntry, ents[i]? = some en ∧ en.key = p.1.val ∧ MV k ag p.2 en.val
  born : ∀ (i : Nat) (en : MapEntry), ents[i]? = some en → en.born < clock
  apart : ∀ (i j : Nat) (en en' : MapEntry), ents[i]? = some en → ents[j]? = some en' → en.born = en'.born → i = j
theorem MapAt.mono {k k' : Kr} {kk ag es ents clock} (h : MapAt k kk ag es ents clock) (hm : k.le k') : MapAt k' kk ag es ents clock :=
  ⟨h.size, h.kind, h.once, fun i p hp => let ⟨en, h1, h2, h3⟩ := h.ent i p hp; ⟨en, h1, h2, h3.mono hm⟩, h.born, h.apart⟩
theorem MapAt.sh {k : Kr} {kk ag es ents clock} (h : MapAt k kk ag es ents clock) : MapSh kk (es.map (·.1)) ents clock := by
  refine ⟨by simp [h.size], fun p hp => ?_, by rw [List.pairwise_map]; exact h.once, fun i p hp => ?_, h.born, h.apart⟩
  · obtain ⟨q, hq, rfl⟩ := List.mem_map.1 hp
    exact h.kind q hq
  · rw [List.getElem?_map] at hp
    cases hq : es[i]? with
    | none => rw [hq] at hp; cases hp
    | some q => rw [hq] at hp; cases hp; obtain ⟨en, h1, h2, _⟩ := h.ent i q hq; exact ⟨en, h1, h2⟩
def mapCell (ag : Bool) (v : Value) (j : Nat) : Value := if ag = true then (match v with | .agg vs => vs.toList.getD j undef | _ => undef) else v
/-- A map of plain values, told as a value. -/
theorem MapAt.toU {k : Kr} {kk ag ents clock b} {es : List (Key × List D)} {us us0 : List (Key × List U)} (h : MapAt k kk ag es ents clock) (e : es = us.map fun p => (p.1, p.2.map .u)) (hp : us.Perm us0) {m : Mem} (hb : m b 0 = some (.map ents clock)) (hm : k.mem.le m) : RepU m (.map kk ag us0) (.map (some b)) := by
  have hus : ∀ (i : Nat) (p : Key × List U), us[i]? = some p → es[i]? = some (p.1, p.2.map .u) := fun i p hp => by rw [e, List.getElem?_map, hp]; rfl
  refine .map kk ag us0 us hp b ents clock (fun i j => mapCell ag (((ents[i]?).map (·.val)).getD undef) j) hb ?_ (fun i p en hp hen => ?_) (fun i p hp j u hj => ?_)
  · have := h.sh
    rw [e, List.map_map] at this
    exact this
  · obtain ⟨en', h1, h2, h3⟩ := h.ent i _ (hus i p hp)
    rw [hen] at h1
    cases h1
    unfold MV at h3
    simp only [hen, Option.map_some, Option.getD_some]
    cases ag with
    | true =>
      rw [if_pos rfl] at h3 ⊢
      obtain ⟨vs, h4, h5, h6⟩ := h3
      simp only [h4, mapCell, if_true]
      refine ⟨⟨vs, rfl, by simpa using h5, fun j _ => rfl⟩, fun j hj => ?_⟩
      exact (h6 j (.u p.2[j]) (by simp [hj])).1
    | false =>
      rw [if_neg (by simp)] at h3 ⊢
      obtain ⟨d, h4, h5⟩ := h3
      have hl : p.2.length = 1 := by have := congrArg List.length h4; simpa using this
      exact ⟨⟨hl, by simp [mapCell]⟩, fun j hj => by simp only [mapCell, Bool.false_eq_true, if_false]; exact h5.1⟩
  · obtain ⟨en, h1, h2, h3⟩ := h.ent i _ (hus i p hp)
    unfold MV at h3
    simp only [h1, Option.map_some, Option.getD_some]
    cases ag with
    | true =>
      rw [if_pos rfl] at h3
      obtain ⟨vs, h4, h5, h6⟩ := h3
      simp only [h4, mapCell, if_true]
      have := (h6 j (.u u) (by simp [hj])).2
      cases this with | u _ _ this => exact this.mono hm
    | false =>
      rw [if_neg (by simp)] at h3
      obtain ⟨d, h4, h5⟩ := h3
      obtain ⟨q, hq⟩ : ∃ q, p.2 = [q] := List.length_eq_one_iff.1 (by have := congrArg List.length h4; simpa using this)
      simp only at h4
      rw [hq] at h4 hj
      simp only [List.map_cons, List.map_nil, List.cons.injEq, and_true] at h4
      subst h4
      match j, hj with
      | 0, hj =>
        simp at hj
        subst hj
        have := h5.2
        cases this with | u _ _ this =>
          have h7 := this.mono hm
          simpa [mapCell] using h7
/-- A map value's entries, told as a map's. -/
theorem RepU.toMap {k : Kr} {kk ag us0 v} (h : RepU k.mem (.map kk ag us0) v) : ∃ (b : Nat) (ents : Array MapEntry) (clock : Nat) (us : List (Key × List U)), us.Perm us0 ∧ v = .map (some b) ∧ k.mem b 0 = some (.map ents clock) ∧ MapAt k kk ag (us.map fun p => (p.1, p.2.map .u)) ents clock := by
  cases h with
  | map kk ag _ us hp b ents clock f hm hs hf hr =>
    refine ⟨b, ents, clock, us, hp, rfl, hm, ⟨by simpa using hs.size, fun p hp => ?_, ?_, fun i p hp => ?_, hs.born, hs.apart⟩⟩
    · obtain ⟨q, hq, rfl⟩ := List.mem_map.1 hp
      exact hs.kind q.1 (List.mem_map.2 ⟨q, hq, rfl⟩)
    · have := hs.once
      rw [List.pairwise_map] at this ⊢
      exact this
    · rw [List.getElem?_map] at hp
      cases hq : us[i]? with
      | none => rw [hq] at hp; cases hp
      | some q =>
        rw [hq] at hp
        cases hp
        obtain ⟨en, h1, h2⟩ := hs.ent i q.1 (by rw [List.getElem?_map, hq]; rfl)
        obtain ⟨h3, h4⟩ := hf i q en hq h1
        refine ⟨en, h1, h2, ?_⟩
        unfold MV
        cases ag with
        | true =>
          rw [if_pos rfl] at h3 ⊢
          obtain ⟨vs, h5, h6, h7⟩ := h3
          refine ⟨vs, h5, by simpa using h6, fun j d hj => ?_⟩
          simp only [List.getElem?_map] at hj
          cases hu : q.2[j]? with
          | none => rw [hu] at hj; cases hj
          | some u =>
            rw [hu] at hj
            cases hj
            have hjl := (List.getElem?_eq_some_iff.1 hu).1
            rw [h7 j (by omega)]
            exact ⟨h4 j hjl, .u _ _ (hr i q hq j u hu)⟩
        | false =>
          rw [if_neg (by simp)] at h3 ⊢
          obtain ⟨h5, h6⟩ := h3
          obtain ⟨u, hu⟩ := List.length_eq_one_iff.1 h5
          refine ⟨.u u, by simp [hu], ?_⟩
          rw [h6]
          exact ⟨h4 0 (by omega), .u _ _ (hr i q hq 0 u (by simp [hu]))⟩

theorem MapAt.pure {k k' : Kr} {kk ag ents clock} {us : List (Key × List U)} (h : MapAt k kk ag (us.map fun p => (p.1, p.2.map .u)) ents clock) (hm : k.mem.le k'.mem) : MapAt k' kk ag (us.map fun p => (p.1, p.2.map .u)) ents clock := by
  have one : ∀ u v, OneRep k (.u u) v → OneRep k' (.u u) v := fun u v g => ⟨g.1, by cases g.2 with | u _ _ g => exact .u _ _ (g.mono hm)⟩
  refine ⟨h.size, h.kind, h.once, fun i p hp => ?_, h.born, h.apart⟩
  obtain ⟨en, h1, h2, h3⟩ := h.ent i p hp
  refine ⟨en, h1, h2, ?_⟩
  rw [List.getElem?_map] at hp
  cases hq : us[i]? with
  | none => rw [hq] at hp; cases hp
  | some q =>
    rw [hq] at hp
    cases hp
    unfold MV at h3 ⊢
    split at h3
    · rename_i hag
      obtain ⟨vs, h4, h5, h6⟩ := h3
      rw [if_pos hag]
      refine ⟨vs, h4, h5, fun j d hj => ?_⟩
      have h7 := h6 j d hj
      rw [List.getElem?_map] at hj
      cases hu : q.2[j]? with
      | none => rw [hu] at hj; cases hj
      | some u => rw [hu] at hj; cases hj; exact one u _ h7
    · rename_i hag
      obtain ⟨d, h4, h5⟩ := h3
      rw [if_neg hag]
      refine ⟨d, h4, ?_⟩
      simp only at h4
      cases hl : q.2 with
      | nil => rw [hl] at h4; cases h4
      | cons u l => rw [hl] at h4; simp only [List.map_cons, List.cons.injEq] at h4; rw [← h4.1] at h5 ⊢; exact one u _ h5
/-- The entries that an iterator has not handed out. -/
def lfI (us : List (Key × List U)) (ents : Array MapEntry) (seen : Array Nat) (i : Nat) : Option (Key × List U) := match us[i]?, ents[i]? with | some p, some en => if seen.contains en.born = true then none else some p | _, _ => none
def leftI (us : List (Key × List U)) (ents : Array MapEntry) (seen : Array Nat) : List (Key × List U) := (List.range us.length).filterMap (lfI us ents seen)
/-- An iterator over a map of plain values. -/
def ItAt (m : Mem) (w : World) (b : Nat) (kk : KK) (ag : Bool) (es left : List (Key × List U)) (cur : Option (Key × List U)) : Prop :=
  ∃ (bm : Nat) (ents : Array MapEntry) (clock : Nat) (seen : Array Nat) (us : List (Key × List U)), w.heap[b]? = some (.mapIter (some bm) clock seen clock) ∧ m bm 0 = some (.map ents clock) ∧ us.Perm es ∧ (∃ hg : GlobIn m, MapAt ⟨m, fun _ => none, hg⟩ kk ag (us.map fun p => (p.1, p.2.map .u)) ents clock) ∧
    left.Perm (leftI us ents seen) ∧ (∀ p, cur = some p → ∃ (i : Nat) (en : MapEntry), us[i]? = some p ∧ ents[i]? = some en ∧ seen.back? = some en.born)
theorem ItAt.keep {m m' : Mem} {w w' : World} {b kk ag es left cur} (h : ItAt m w b kk ag es left cur) (hm : m.le m') (hw : w'.heap[b]? = w.heap[b]?) : ItAt m' w' b kk ag es left cur := by
  obtain ⟨bm, ents, clock, seen, us, h1, h2, h3, h4, h5, h6⟩ := h
  exact ⟨bm, ents, clock, seen, us, by rw [hw]; exact h1, hm _ _ _ h2, h3, let ⟨hg, h4⟩ := h4; ⟨hg.mono hm, h4.pure hm⟩, h5, h6⟩
/-- The object that lies at this head is in memory as told. -/
def ObAt (k : Kr) (w : World) (h : Option Nat × Nat) : Ob → Prop
  | .box cells => ∃ b vs t, h.1 = some b ∧ w.heap[b]? = some (.cells vs t (0, 0)) ∧ vs.size = cells.length ∧ ∀ j d, cells[j]? = some d → OneRep k d (vs.getD j undef)
  | .vec e sz rows => ∃ xs, w.ownsRow 0 e sz (headVal h rows.length) rows.length xs ∧ 0 < sz ∧ (∀ r ∈ rows, r.length = sz) ∧
      ∀ i r, rows[i]? = some r → ∀ j d, r[j]? = some d → OneRep k d (xs.getD (i * sz + j) undef)
  | .map kk ag es => ∃ b ents clock es0, h.1 = some b ∧ w.heap[b]? = some (.map ents clock) ∧ es0.Perm es ∧ MapAt k kk ag es0 ents clock
  | .it kk ag es left cur => ∃ b, h.1 = some b ∧ ItAt k.mem w b kk ag es left cur
def ObOK (k : Kr) (own : Nat → Prop) (w : World) (i : Nat) (ob : Ob) : Prop :=
  ∃ h, k.hdr i = some h ∧ (∀ b, h.1 = some b → own b ∧ ∀ o, k.mem b o = none) ∧ ObAt k w h ob

theorem ownsRow_capNone {w : World} {e sz n xs} {h : Option Nat × Nat} (ho : w.ownsRow 0 e sz (headVal h n) n xs) : h.1 = none → h.2 = 0 := by
  intro hn
  rcases ho.2 with ⟨hv, _⟩ | ⟨g, cap, cur, hv, _⟩
  · simp [headVal, hn] at hv
    exact hv.2
  · simp [headVal, hn] at hv
theorem ObOK.box {k own w i cells} (h : ObOK k own w i (.box cells)) : ∃ b c vs t, k.hdr i = some (some b, c) ∧ own b ∧ w.heap[b]? = some (.cells vs t (0, 0)) ∧ vs.size = cells.length ∧
    (∀ j d, cells[j]? = some d → OneRep k d (vs.getD j undef)) ∧ ∀ o, k.mem b o = none := by
  obtain ⟨⟨hb, c⟩, h1, h2, b, vs, t, e, h3, h4, h5⟩ := h
  simp only at e
  subst e
  exact ⟨b, c, vs, t, h1, (h2 b rfl).1, h3, h4, h5, (h2 b rfl).2⟩
theorem ObOK.vec {k own w i e sz rows} (h : ObOK k own w i (.vec e sz rows)) : ∃ h xs, k.hdr i = some h ∧ w.ownsRow 0 e sz (headVal h rows.length) rows.length xs ∧ 0 < sz ∧ (∀ r ∈ rows, r.length = sz) ∧
    (∀ i r, rows[i]? = some r → ∀ j d, r[j]? = some d → OneRep k d (xs.getD (i * sz + j) undef)) ∧ ∀ b, h.1 = some b → own b ∧ ∀ o, k.mem b o = none := by
  obtain ⟨h, h1, h2, xs, h3, h4, h5, h6⟩ := h
  exact ⟨h, xs, h1, h3, h4, h5, h6, h2⟩
theorem ObOK.map {k own w i kk ag es} (h : ObOK k own w i (.map kk ag es)) : ∃ b c ents clock es0, k.hdr i = some (some b, c) ∧ own b ∧ w.heap[b]? = some (.map ents clock) ∧ es0.Perm es ∧ MapAt k kk ag es0 ents clock ∧ ∀ o, k.mem b o = none := by
  obtain ⟨⟨hb, c⟩, h1, h2, b, ents, clock, es0, e, h3, hp, h4⟩ := h
  simp only at e
  subst e
  exact ⟨b, c, ents, clock, es0, h1, (h2 b rfl).1, h3, hp, h4, (h2 b rfl).2⟩
theorem ObOK.it {k own w i kk ag es left cur} (h : ObOK k own w i (.it kk ag es left cur)) : ∃ b c, k.hdr i = some (some b, c) ∧ own b ∧ ItAt k.mem w b kk ag es left cur ∧ ∀ o, k.mem b o = none := by
  obtain ⟨⟨hb, c⟩, h1, h2, b, e, h3⟩ := h
  simp only at e
  subst e
  exact ⟨b, c, h1, (h2 b rfl).1, h3, (h2 b rfl).2⟩
theorem ObAt.keep {k k' w w' h ob} (ho : ObAt k w h ob) (hk : k.le k') (hw : ∀ b, h.1 = some b → w'.heap[b]? = w.heap[b]?) : ObAt k' w' h ob := by
  cases ob with
  | box cells =>
    obtain ⟨b, vs, t, e, h1, h2, h3⟩ := ho
    exact ⟨b, vs, t, e, by rw [hw b e]; exact h1, h2, fun j d hj => ⟨(h3 j d hj).1, (h3 j d hj).2.mono hk⟩⟩
  | map kk ag es =>
    obtain ⟨b, ents, clock, es0, e, h1, hp, h2⟩ := ho
    exact ⟨b, ents, clock, es0, e, by rw [hw b e]; exact h1, hp, h2.mono hk⟩
  | it kk ag es left cur =>
    obtain ⟨b, e, h1⟩ := ho
    exact ⟨b, e, h1.keep hk.mem (hw b e)⟩
  | vec e sz rows =>
    obtain ⟨xs, h1, h2, h3, h4⟩ := ho
    refine ⟨xs, ⟨h1.1, ?_⟩, h2, h3, fun i r hr j d hj => ⟨(h4 i r hr j d hj).1, (h4 i r hr j d hj).2.mono hk⟩⟩
    rcases h1.2 with hn | ⟨g, cap, cur, hv, hb, hg, rest⟩
    · exact .inl hn
    · refine .inr ⟨g, cap, cur, hv, hb, ?_, rest⟩
      have : h.1 = some g := by
        simp only [headVal, Value.slice.injEq, Option.map_eq_some_iff] at hv
        obtain ⟨⟨b, hb, e⟩, _⟩ := hv
        simp only [Addr.mk.injEq] at e
        rw [hb, e.1]
      rw [hw g this]
      exact hg

structure Sat (k : Kr) (own : Nat → Prop) (obs : List (Nat × Ob)) (w : World) : Prop where
  mem : ∀ b o v, k.mem b o = some v → look w b o = some v
  ob : ∀ i ob, getK obs i = some ob → ObOK k own w i ob
  apart : ∀ i j x y h g b, getK obs i = some x → getK obs j = some y → i ≠ j → k.hdr i = some h → k.hdr j = some g → h.1 = some b → g.1 ≠ some b

theorem Sat.cell {k own obs w} (h : Sat k own obs w) {b o v} (e : k.mem b o = some (.val v)) : w.cell? ⟨b, o, none⟩ = some v := look_val (h.mem _ _ _ e)
structure St where
  n : Nat
  env : List (Nat × D)
  obs : List (Nat × Ob)
  next : Nat

/-- What a call may write, and what it has put off. -/
structure Own where
  own : Nat → Prop
  dfr : List Deferred
instance : CoeFun Own fun _ => Nat → Prop := ⟨Own.own⟩
instance : Coe Own (Nat → Prop) := ⟨Own.own⟩
/-- Where a call began: what it may write, what was known, the world; pan: what a panic may leave; esc: how the function may end else. -/
structure Ctx where
  own : Own
  k0 : Kr
  n0 : Nat
  w0 : World
  pan : List PanicEntry → St → Prop
  esc : Exit → Act → World → Prop
abbrev Ctx.of (own : Nat → Prop) (k : Kr) (n : Nat) (w : World) : Ctx := ⟨⟨own, []⟩, k, n, w, fun _ _ => False, fun _ _ _ => False⟩

structure In (Γ : Ctx) (k : Kr) (w : World) : Prop where
  le : Γ.k0.le k
  none0 : ∀ i, Γ.n0 ≤ i → Γ.k0.hdr i = none
  memNew : ∀ b o v, k.mem b o = some v → Γ.k0.mem b o = some v ∨ Γ.own b
  fresh : ∀ b, Γ.w0.heap.size ≤ b → Γ.own b
  os : w.os = Γ.w0.os
  tape : w.tape = Γ.w0.tape
  output : w.output = Γ.w0.output
  size : Γ.w0.heap.size ≤ w.heap.size
  block : ∀ b, ¬ Γ.own b → w.heap[b]? = Γ.w0.heap[b]?
theorem In.conv {Γ Γ' : Ctx} {k w} (h : In Γ k w) (h1 : Γ'.own.own = Γ.own.own) (h2 : Γ'.k0 = Γ.k0) (h3 : Γ'.n0 = Γ.n0) (h4 : Γ'.w0 = Γ.w0) : In Γ' k w :=
  ⟨by rw [h2]; exact h.le, fun i hi => by rw [h2]; exact h.none0 i (by rw [← h3]; exact hi), fun b o v e => by rw [h2, h1]; exact h.memNew b o v e, fun b hb => by rw [h1]; exact h.fresh b (by rw [← h4]; exact hb),
    by rw [h4]; exact h.os, by rw [h4]; exact h.tape, by rw [h4]; exact h.output, by rw [h4]; exact h.size, fun b hb => by rw [h4]; exact h.block b (by rw [← h1]; exact hb)⟩

def St.at (s : St) (x : Nat) : D := (getK s.env x).getD .any
def St.put (s : St) (x : Option Nat) (d : D) : St := match x with | some x => { s with env := (x, d) :: s.env } | none => s

structure Sim (k : Kr) (own : Own) (s : St) (a : Act) (w : World) : Prop where
  sat : Sat k own s.obs w
  defers : a.defers = own.dfr
  size : a.tmps.size = s.n
  env : ∀ x d, getK s.env x = some d → x < s.n ∧ Rep k d (a.tmps.getD x undef)
  hdr : ∀ i, s.next ≤ i → k.hdr i = none

theorem Sim.at {k own s a w} (h : Sim k own s a w) (x : Nat) : Rep k (s.at x) (a.tmps.getD x undef) := by
  unfold St.at
  cases hg : getK s.env x with
  | none => exact .any _
  | some d => exact (h.env x d hg).2

end Go.VL

/- The calculus of values: operations that compute a value out of values and leave the memory as it is. -/
namespace Go.VL
open Go

def uOf : Value → U
  | .int k n => .int k n
  | .bool b => .bool b
  | .string s => .str s.data.toList
  | .slice none 0 0 => .nil
  | v => .oth v
theorem uOf_rep (m : Mem) (v : Value) : RepU m (uOf v) v := by
  unfold uOf
  split
  · exact .int _ _
  · exact .bool _
  · rename_i s
    have h := RepU.str (m := m) s.data.toList
    simpa using h
  · exact .nil
  · exact .oth _

def globD (g : Nat) : D := match globs.find? (·.1 == g) with | some p => .u (.row (p.2.map uOf) 0) | none => .u (.oth (.pointer (some ⟨g, 0, none⟩)))
theorem globD_rep (k : Kr) (g : Nat) : Rep k (globD g) (.pointer (some ⟨g, 0, none⟩)) := by
  unfold globD
  split
  · rename_i p hp
    have hm := List.mem_of_find?_eq_some hp
    have hg : p.1 = g := by have := List.find?_some hp; simpa using this
    subst hg
    refine .u _ _ (.row (p.2.map uOf) 0 p.1 0 (fun j => p.2.getD j undef) (fun j hj => ?_) (fun j u hj => ?_))
    · rw [Nat.zero_add]; exact k.glob p hm j (by simpa using hj)
    · rw [List.getElem?_map] at hj
      cases hv : p.2[j]? with
      | none => rw [hv] at hj; cases hj
      | some v =>
        rw [hv] at hj
        cases hj
        have : p.2.getD j undef = v := by rw [List.getD_eq_getElem?_getD, hv]; rfl
        rw [this]
        exact uOf_rep _ v
  · exact .u _ _ (.oth _)

def opd (s : St) : Operand → D
  | .tmp t => s.at t
  | .const v => .u (uOf v)
  | .global g => globD g
  | .func f => .fnc (.func f) []

theorem opd_rep {k own s a w} (h : Sim k own s a w) (x : Operand) : Rep k (opd s x) (a.eval x) := by
  cases x with
  | tmp t => exact h.at t
  | const v => exact .u _ _ (uOf_rep _ v)
  | global g => exact globD_rep k g
  | func f => exact .fnc (.func f) [] [] rfl (by simp)

-- what a value is, by what it stands for
section
variable {k : Kr} {v : Value}
theorem rep_int {kd n} (h : Rep k (.u (.int kd n)) v) : v = .int kd n := by cases h with | u _ _ h => cases h; rfl
theorem rep_bool {b} (h : Rep k (.u (.bool b)) v) : v = .bool b := by cases h with | u _ _ h => cases h; rfl
theorem rep_str {l} (h : Rep k (.u (.str l)) v) : v = .string ⟨l.toArray⟩ := by cases h with | u _ _ h => cases h; rfl
theorem rep_oth {x} (h : Rep k (.u (.oth x)) v) : v = x := by cases h with | u _ _ h => cases h; rfl
theorem rep_nil (h : Rep k (.u .nil) v) : v = .slice none 0 0 := by cases h with | u _ _ h => cases h; rfl
theorem rep_sl {rows} (h : Rep k (.u (.sl rows)) v) : ∃ a c, v = .slice a rows.length c := by
  cases h with
  | u _ _ h => cases h with
    | slE a c _ => exact ⟨a, c, rfl⟩
    | sl => exact ⟨_, _, rfl⟩
theorem rep_vec {i len} (h : Rep k (.vec i len) v) : ∃ h, k.hdr i = some h ∧ v = headVal h len := by
  cases h with | vec _ _ h hh => exact ⟨h, hh, rfl⟩
theorem rep_ptr {i off} (h : Rep k (.ptr i off) v) : ∃ b c, k.hdr i = some (some b, c) ∧ v = .pointer (some ⟨b, off, none⟩) := by
  cases h with | ptr _ _ b c hh => exact ⟨b, c, hh, rfl⟩
theorem rep_mp {i} (h : Rep k (.mp i) v) : ∃ b c, k.hdr i = some (some b, c) ∧ v = .map (some b) := by
  cases h with | mp _ b c hh => exact ⟨b, c, hh, rfl⟩
theorem rep_elt {i sz idx off} (h : Rep k (.elt i sz idx off) v) : ∃ b c, k.hdr i = some (some b, c) ∧ v = .pointer (some ⟨b, idx * sz + off, none⟩) := by
  cases h with | elt _ _ _ _ b c hh => exact ⟨b, c, hh, rfl⟩
theorem rep_row {cells off} (h : Rep k (.u (.row cells off)) v) : ∃ b o, v = .pointer (some ⟨b, o + off, none⟩) ∧
    ∀ j u, cells[j]? = some u → ∃ x, k.mem b (o + j) = some (.val x) ∧ RepU k.mem u x := by
  cases h with
  | u _ _ h => cases h with
    | row _ _ b o f hm hr => exact ⟨b, o, rfl, fun j u hj => ⟨f j, hm j (List.getElem?_eq_some_iff.1 hj).1, hr j u hj⟩⟩
theorem rep_uagg {cells} (h : Rep k (.u (.agg cells)) v) : ∃ vs : List Value, cells.length = vs.length ∧ v = .agg vs.toArray ∧
    ∀ j u, cells[j]? = some u → RepU k.mem u (vs.getD j undef) := by
  cases h with | u _ _ h => cases h with | agg _ vs hl hr => exact ⟨vs, hl, rfl, hr⟩
theorem rep_agg {cells} (h : Rep k (.agg cells) v) : ∃ vs : List Value, cells.length = vs.length ∧ v = .agg vs.toArray ∧
    ∀ j u, cells[j]? = some u → Rep k u (vs.getD j undef) := by
  cases h with | agg _ vs hl hr => exact ⟨vs, hl, rfl, hr⟩
theorem rep_tup {cells} (h : Rep k (.tup cells) v) : ∃ vs : List Value, cells.length = vs.length ∧ v = .tuple vs.toArray ∧
    ∀ j u, cells[j]? = some u → Rep k u (vs.getD j undef) := by
  cases h with | tup _ vs hl hr => exact ⟨vs, hl, rfl, hr⟩
theorem rep_fnc {f caps} (h : Rep k (.fnc f caps) v) : ∃ vs : List Value, caps.length = vs.length ∧ v = .func f #[] vs.toArray ∧
    ∀ j u, caps[j]? = some u → Rep k u (vs.getD j undef) := by
  cases h with | fnc _ _ vs hl hr => exact ⟨vs, hl, rfl, hr⟩
end


-- numbers
def arith (k : IntKind) (n : Int) (ret : U → Prop) : Prop :=
  match k with
  | .i64 => (-9223372036854775808 ≤ n ∧ n ≤ 9223372036854775807) ∧ ret (.int .i64 n)
  | .u64 => ret (.int .u64 (n % 18446744073709551616))
  | .u32 => ret (.int .u32 (n % 4294967296))
  | .u8 => ret (.int .u8 (n % 256))
  | k => ret (.int k (k.wrap n))
theorem arith_ok {k n ret} (h : arith k n ret) : ret (.int k (k.wrap n)) := by
  unfold arith at h
  split at h
  · rw [IntWalk.i64_in n h.1]; exact h.2
  · rw [IntKind.wrap_u64]; exact h
  · rw [IntKind.wrap_u32]; exact h
  · rw [IntKind.wrap_u8]; exact h
  · exact h

def bitAnd (k : IntKind) (a b : Int) : Int := k.wrap ((BitVec.ofInt k.bits a) &&& (BitVec.ofInt k.bits b)).toNat
def bitOr (k : IntKind) (a b : Int) : Int := k.wrap ((BitVec.ofInt k.bits a) ||| (BitVec.ofInt k.bits b)).toNat
def bitXor (k : IntKind) (a b : Int) : Int := k.wrap ((BitVec.ofInt k.bits a) ^^^ (BitVec.ofInt k.bits b)).toNat
def binI (op : BinOp) (k : IntKind) (a b : Int) (ret : U → Prop) : Prop :=
  match op with
  | .add => arith k (a + b) ret
  | .sub => arith k (a - b) ret
  | .mul => arith k (a * b) ret
  | .quo => b ≠ 0 ∧ arith k (a.tdiv b) ret
  | .rem => b ≠ 0 ∧ ret (.int k (a.tmod b))
  | .eql => ret (.bool (decide (a = b)))
  | .neq => ret (.bool (!decide (a = b)))
  | .lss => ret (.bool (decide (a < b)))
  | .leq => ret (.bool (decide (a ≤ b)))
  | .gtr => ret (.bool (decide (b < a)))
  | .geq => ret (.bool (decide (b ≤ a)))
  | .and => ret (.int k (bitAnd k a b))
  | .or => ret (.int k (bitOr k a b))
  | .xor => ret (.int k (bitXor k a b))
  | _ => False
def binS (op : BinOp) (a b : List UInt8) (ret : U → Prop) : Prop :=
  match op with
  | .add => a.length + b.length ≤ 9223372036854775807 ∧ ret (.str (a ++ b))
  | .eql => ret (.bool (decide (a = b)))
  | .neq => ret (.bool (!decide (a = b)))
  | .lss => ret (.bool (Op.bytesLess a b))
  | .leq => ret (.bool (Op.bytesLess a b || decide (a = b)))
  | .gtr => ret (.bool (!(Op.bytesLess a b || decide (a = b))))
  | .geq => ret (.bool (!Op.bytesLess a b))
  | _ => False
def binB (P : Program) (op : BinOp) (t : TypeId) (a b : Bool) (ret : U → Prop) : Prop :=
  P.underlying t = some .bool ∧ match op with
  | .eql => ret (.bool (a == b))
  | .neq => ret (.bool (!(a == b)))
  | _ => False
/-- shifts by a number that is not below 0 -/
def shiftI (op : BinOp) (k : IntKind) (a : Int) (b : Int) (ret : U → Prop) : Prop :=
  0 ≤ b ∧ match op with
  | .shl => arith k (a * 2 ^ (min b.toNat k.bits)) ret
  | .shr => ret (.int k (a / (2 ^ (min b.toNat k.bits))))
  | _ => False

theorem binI_run {P : Program} {op k a b ret} (t : TypeId) (w : World) (h : binI op k a b ret) :
    ∃ u, ret u ∧ ∃ v, (binOp op t (.int k a) (.int k b)).run P w = .ok v w ∧ ∀ m, RepU m u v := by
  unfold binI at h
  split at h
  · exact ⟨_, arith_ok h, _, by simp [binOp, Op.intArith], fun m => .int _ _⟩
  · exact ⟨_, arith_ok h, _, by simp [binOp, Op.intArith], fun m => .int _ _⟩
  · exact ⟨_, arith_ok h, _, by simp [binOp, Op.intArith], fun m => .int _ _⟩
  · exact ⟨_, arith_ok h.2, _, by simp [binOp, Op.intDiv, h.1], fun m => .int _ _⟩
  · exact ⟨_, h.2, _, by simp [binOp, Op.intDiv, h.1], fun m => .int _ _⟩
  · exact ⟨_, h, .bool (decide (a = b)), by simp [binOp, Op.intCmp]; rfl, fun m => .bool _⟩
  · exact ⟨_, h, .bool (!decide (a = b)), by simp [binOp, Op.intCmp]; rfl, fun m => .bool _⟩
  · exact ⟨_, h, _, by simp [binOp, Op.intCmp], fun m => .bool _⟩
  · exact ⟨_, h, _, by simp [binOp, Op.intCmp], fun m => .bool _⟩
  · exact ⟨_, h, _, by simp [binOp, Op.intCmp], fun m => .bool _⟩
  · exact ⟨_, h, _, by simp [binOp, Op.intCmp], fun m => .bool _⟩
  · exact ⟨_, h, _, by simp [binOp, Op.intBits]; rfl, fun m => .int _ _⟩
  · exact ⟨_, h, _, by simp [binOp, Op.intBits]; rfl, fun m => .int _ _⟩
  · exact ⟨_, h, _, by simp [binOp, Op.intBits]; rfl, fun m => .int _ _⟩
  · exact h.elim

theorem toList_mk (l : List UInt8) : (⟨l.toArray⟩ : ByteArray).toList = l := by rw [ByteArray.toList_eq]
theorem binS_run {P : Program} {op a b ret} (t : TypeId) (w : World) (h : binS op a b ret) :
    ∃ u, ret u ∧ ∃ v, (binOp op t (.string ⟨a.toArray⟩) (.string ⟨b.toArray⟩)).run P w = .ok v w ∧ ∀ m, RepU m u v := by
  unfold binS at h
  have e : (a == b) = decide (a = b) := by by_cases hh : a = b <;> simp [hh]
  split at h
  · refine ⟨_, h.2, .string (⟨a.toArray⟩ ++ ⟨b.toArray⟩), ?_, fun m => ?_⟩
    · have : ¬ ((((⟨a.toArray⟩ : ByteArray).size + (⟨b.toArray⟩ : ByteArray).size : Nat) : Int) > IntKind.i64.max) := by
        show ¬ (((a.toArray.size + b.toArray.size : Nat) : Int) > IntKind.i64.max)
        have : IntKind.i64.max = 9223372036854775807 := by decide
        rw [this]
        simp only [List.size_toArray]
        have := h.1
        omega
      simp only [binOp, Op.stringOp, if_neg this]
      rfl
    · have : (⟨a.toArray⟩ ++ ⟨b.toArray⟩ : ByteArray) = ⟨(a ++ b).toArray⟩ := by
        apply ByteArray.ext
        simp [ByteArray.data_append]
      rw [this]
      exact .str _
  · exact ⟨_, h, _, by simp only [binOp, Op.stringOp, toList_mk, e]; rfl, fun m => .bool _⟩
  · exact ⟨_, h, _, by simp only [binOp, Op.stringOp, toList_mk, e]; rfl, fun m => .bool _⟩
  · exact ⟨_, h, _, by simp only [binOp, Op.stringOp, toList_mk, e]; rfl, fun m => .bool _⟩
  · exact ⟨_, h, _, by simp only [binOp, Op.stringOp, toList_mk, e]; rfl, fun m => .bool _⟩
  · exact ⟨_, h, _, by simp only [binOp, Op.stringOp, toList_mk, e]; rfl, fun m => .bool _⟩
  · exact ⟨_, h, _, by simp only [binOp, Op.stringOp, toList_mk, e]; rfl, fun m => .bool _⟩
  · exact h.elim
theorem binB_run {P : Program} {op t a b ret} (w : World) (h : binB P op t a b ret) :
    ∃ u, ret u ∧ ∃ v, (binOp op t (.bool a) (.bool b)).run P w = .ok v w ∧ ∀ m, RepU m u v := by
  obtain ⟨ht, h⟩ := h
  split at h
  · exact ⟨_, h, _, run_eql_bool w t a b ht, fun m => .bool _⟩
  · exact ⟨_, h, _, run_neq_bool w t a b ht, fun m => .bool _⟩
  · exact h.elim
theorem shiftI_run {P : Program} {op k a kb b ret} (t : TypeId) (w : World) (h : shiftI op k a b ret) (hop : op = .shl ∨ op = .shr) :
    ∃ u, ret u ∧ ∃ v, (binOp op t (.int k a) (.int kb b)).run P w = .ok v w ∧ ∀ m, RepU m u v := by
  obtain ⟨h0, h⟩ := h
  have hn : ¬ b < 0 := by omega
  rcases hop with rfl | rfl
  · exact ⟨_, arith_ok h, _, by simp [binOp, Op.shift, hn], fun m => .int _ _⟩
  · rw [← Int.fdiv_eq_ediv_of_nonneg _ (Int.le_of_lt (Int.pow_pos (by omega)))] at h
    exact ⟨_, h, _, by simp [binOp, Op.shift, hn], fun m => .int _ _⟩

-- slices against nil, structs of plain cells
def isSl (P : Program) (t : TypeId) : Bool := match P.underlying t with | some (.slice _) => true | _ => false
theorem isSl_some {P : Program} {t} (h : isSl P t = true) : ∃ e, P.underlying t = some (.slice e) := by
  unfold isSl at h
  split at h
  · rename_i e hu; exact ⟨e, hu⟩
  · cases h
def nilD (op : BinOp) (b : Bool) (ret : U → Prop) : Prop :=
  match op with
  | .eql => ret (.bool b)
  | .neq => ret (.bool (!b))
  | _ => False
theorem nilD_run {P : Program} {op t b ret a c n} (w : World) (h : nilD op b ret) (ht : isSl P t = true) (hb : Option.isNone a = b) :
    ∃ u, ret u ∧ ∃ v, (binOp op t (.slice a n c) (.slice none 0 0)).run P w = .ok v w ∧ ∀ m, RepU m u v := by
  obtain ⟨e, hu⟩ := isSl_some ht
  subst hb
  unfold nilD at h
  split at h
  · exact ⟨_, h, _, Lib.run_eql_slice_nil w t e a n c 0 0 hu, fun m => .bool _⟩
  · exact ⟨_, h, _, run_neq_slice_nil_any w t e a n c 0 0 hu, fun m => .bool _⟩
  · exact h.elim
inductive Kd where
  | int | str | bool
  deriving DecidableEq
def kdOf (P : Program) (t : TypeId) : Option Kd := match P.underlying t with
  | some (.int _) => some .int
  | some .string => some .str
  | some .bool => some .bool
  | _ => none
def kdsOf (P : Program) : Nat → List Field → Option (List Kd)
  | _, [] => some []
  | i, f :: l => if f.name ≠ "_" ∧ f.offset = i then match kdOf P f.type, kdsOf P (i + 1) l with
    | some k, some ks => some (k :: ks)
    | _, _ => none else none
/-- A struct of plain cells that '==' compares. -/
def stEq (P : Program) (t : TypeId) : Option (List Kd) := match P.underlying t with
  | some (.struct fs) => if P.stoodInHeld t = false ∧ P.eqGuardType P.depth t = false then kdsOf P 0 fs.toList else none
  | _ => none
def cmpK : Kd → U → U → Option Bool
  | .int, .int k a, .int k' b => if k = k' then some (decide (a = b)) else none
  | .str, .str a, .str b => some (decide (a = b))
  | .bool, .bool a, .bool b => some (a == b)
  | _, _, _ => none
def eqUs : List Kd → List U → List U → Option Bool
  | [], [], [] => some true
  | k :: ks, x :: xs, y :: ys => match cmpK k x y, eqUs ks xs ys with
    | some a, some b => some (a && b)
    | _, _ => none
  | _, _, _ => none
theorem cmpK_run {P : Program} {t k x y r m v v'} (w : World) (hk : kdOf P t = some k) (h : cmpK k x y = some r) (hx : RepU m x v) (hy : RepU m y v') (d : Nat) :
    (Op.equalIn (d + 1) t v v').run P w = .ok r w := by
  unfold kdOf at hk
  unfold cmpK at h
  split at h
  · split at h
    · rename_i hkk
      subst hkk
      cases h
      cases hx; cases hy
      split at hk <;> first | (cases hk; done) | skip
      rename_i hu
      rw [run_equalIn_int w d t _ _ _ _ hu]
      congr 1
    · cases h
  · cases h
    cases hx; cases hy
    split at hk <;> first | (cases hk; done) | skip
    rename_i hu
    rw [run_equalIn_string w d t _ _ hu, toList_mk, toList_mk]
    congr 1
    rw [Bool.eq_iff_iff]; simp
  · cases h
    cases hx; cases hy
    split at hk <;> first | (cases hk; done) | skip
    rename_i hu
    rw [run_equalIn_bool' w d t _ _ hu]
  · cases h
theorem kdOf_part {P : Program} {t k} (h : kdOf P t = some k) (w : World) (cs : Array Value) (o : Nat) (v : Value) (hv : cs[o]? = some v) : (part t cs o).run P w = .ok v w := by
  unfold kdOf at h
  split at h <;> first | (cases h; done) | skip
  all_goals
    rename_i hu
    simp [part, isAgg, run_underlying hu, hv]
theorem eqUs_run {P : Program} (w : World) (d : Nat) (m : Mem) (as bs : List Value) : ∀ (fs : List Field) (i : Nat) (ks : List Kd) (xs ys : List U) (r : Bool), kdsOf P i fs = some ks → eqUs ks xs ys = some r →
    (∀ j u, xs[j]? = some u → ∃ v, as[i + j]? = some v ∧ RepU m u v) → (∀ j u, ys[j]? = some u → ∃ v, bs[i + j]? = some v ∧ RepU m u v) → (Op.eqFields (d + 1) as.toArray bs.toArray fs).run P w = .ok r w
  | [], i, ks, xs, ys, r, hk, h, _, _ => by
    simp [kdsOf] at hk
    subst hk
    match xs, ys, h with
    | [], [], h => simp [eqUs] at h; subst h; simp [Op.eqFields]
  | f :: fs, i, ks, xs, ys, r, hk, h, hx, hy => by
    simp only [kdsOf] at hk
    split at hk
    · rename_i hn
      split at hk
      · rename_i k ks' hk1 hk2
        cases hk
        match xs, ys, h with
        | x :: xs, y :: ys, h =>
          simp only [eqUs] at h
          split at h
          · rename_i a b ha hb
            cases h
            obtain ⟨v, hv, hrv⟩ := hx 0 x rfl
            obtain ⟨v', hv', hrv'⟩ := hy 0 y rfl
            simp only [Op.eqFields]
            rw [if_pos hn.1, hn.2]
            have e1 := kdOf_part hk1 w as.toArray i v (by simpa using hv)
            have e2 := kdOf_part hk1 w bs.toArray i v' (by simpa using hv')
            have e3 := cmpK_run w hk1 ha hrv hrv' d
            have e4 := eqUs_run w d m as bs fs (i + 1) ks' xs ys b hk2 hb (fun j u hj => by have := hx (j + 1) u (by simpa using hj); rwa [show i + (j + 1) = i + 1 + j by omega] at this)
              (fun j u hj => by have := hy (j + 1) u (by simpa using hj); rwa [show i + (j + 1) = i + 1 + j by omega] at this)
            simp only [Sem.run_bind, e1, Result.andThen_ok, e2, e3]
            cases a
            · simp
            · simpa using e4
          · cases h
      · cases hk
    · cases hk
/-- Two structs of plain cells. -/
def aggD (P : Program) (op : BinOp) (t : TypeId) (xs ys : List U) (ret : U → Prop) : Prop :=
  match stEq P t with
  | some ks => match eqUs ks xs ys with
    | some b => nilD op b ret
    | none => False
  | none => False

-- interface values
/-- An interface type without methods. -/
def isAny (P : Program) (t : TypeId) : Bool := match P.underlying t with | some (.interface ms) => ms.isEmpty | _ => false
theorem isAny_some {P : Program} {t} (h : isAny P t = true) : P.underlying t = some (.interface #[]) := by
  unfold isAny at h
  split at h
  · rename_i ms hu
    rw [hu]
    have : ms = #[] := by simpa using h
    rw [this]
  · cases h
/-- A type that is no interface. -/
def notIf (P : Program) (t : TypeId) : Bool := match P.underlying t with | some (.interface _) => false | some _ => true | none => false
theorem notIf_some {P : Program} {t} (h : notIf P t = true) : ∃ u, P.underlying t = some u ∧ ∀ ms, u ≠ .interface ms := by
  unfold notIf at h
  split at h
  · cases h
  · rename_i u hne hu
    exact ⟨u, hu, fun ms e => hne ms e⟩
  · cases h
section
variable {P : Program}
theorem equalIn_ifNil (w : World) (d : Nat) (t : TypeId) (T : TypeId) (v : Value) (hu : P.underlying t = some (.interface #[])) : (Op.equalIn (d + 1) t (.iface T v) .nilIface).run P w = .ok false w := by
  unfold Op.equalIn
  rw [Sem.run_bind, run_underlying hu]
  rfl
theorem equalIn_nilNil (w : World) (d : Nat) (t : TypeId) (hu : P.underlying t = some (.interface #[])) : (Op.equalIn (d + 1) t .nilIface .nilIface).run P w = .ok true w := by
  unfold Op.equalIn
  rw [Sem.run_bind, run_underlying hu]
  rfl
theorem eq_ifNil (w : World) (t T : TypeId) (v : Value) (hu : P.underlying t = some (.interface #[])) : (Op.equal t (.iface T v) .nilIface).run P w = .ok false w := equalIn_ifNil w 9999 t T v hu
theorem eq_nilNil (w : World) (t : TypeId) (hu : P.underlying t = some (.interface #[])) : (Op.equal t .nilIface .nilIface).run P w = .ok true w := equalIn_nilNil w 9999 t hu
theorem bin1 (w : World) (t T : TypeId) (v : Value) (hu : P.underlying t = some (.interface #[])) : (binOp .eql t (.iface T v) .nilIface).run P w = .ok (.bool false) w := by
  simp only [binOp]
  rw [Sem.run_bind, eq_ifNil w t T v hu]
  rfl
theorem bin2 (w : World) (t T : TypeId) (v : Value) (hu : P.underlying t = some (.interface #[])) : (binOp .neq t (.iface T v) .nilIface).run P w = .ok (.bool true) w := by
  simp only [binOp]
  rw [Sem.run_bind, eq_ifNil w t T v hu]
  rfl
theorem bin3 (w : World) (t : TypeId) (hu : P.underlying t = some (.interface #[])) : (binOp .eql t .nilIface .nilIface).run P w = .ok (.bool true) w := by
  simp only [binOp]
  rw [Sem.run_bind, eq_nilNil w t hu]
  rfl
theorem bin4 (w : World) (t : TypeId) (hu : P.underlying t = some (.interface #[])) : (binOp .neq t .nilIface .nilIface).run P w = .ok (.bool false) w := by
  simp only [binOp]
  rw [Sem.run_bind, eq_nilNil w t hu]
  rfl
theorem egIn (w : World) (d : Nat) (t : TypeId) (hu : P.underlying t = some (.interface #[])) : (Op.eqGuardIn (d + 1) t .nilIface .nilIface).run P w = .ok false w := by
  unfold Op.eqGuardIn
  rw [Sem.run_bind, run_underlying hu]
  rfl
theorem egIn2 (w : World) (t : TypeId) (hu : P.underlying t = some (.interface #[])) : (Op.eqGuardIn Op.maxDepth t .nilIface .nilIface).run P w = .ok false w := egIn w 9999 t hu
theorem eqGuard_nil (op : BinOp) {t : TypeId} (x y : Operand) (w : World) (hu : P.underlying t = some (.interface #[])) : (eqGuard op t x y .nilIface .nilIface).run P w = .ok () w := by
  have h := egIn2 w t hu
  unfold eqGuard
  generalize Op.eqGuardIn Op.maxDepth t .nilIface .nilIface = e at h
  cases op <;> cases x <;> cases y <;> first | rfl | (simp [h])
end
theorem ifNil_run {P : Program} {op t b ret T v} (w : World) (h : nilD op b ret) (ht : isAny P t = true) (hb : b = false) :
    ∃ u, ret u ∧ ∃ v', (binOp op t (.iface T v) .nilIface).run P w = .ok v' w ∧ ∀ m, RepU m u v' := by
  have hu := isAny_some ht
  subst hb
  unfold nilD at h
  split at h
  · exact ⟨_, h, .bool false, bin1 w t T v hu, fun m => .bool _⟩
  · exact ⟨_, h, .bool true, bin2 w t T v hu, fun m => .bool _⟩
  · exact h.elim
theorem nilNil_run {P : Program} {op t b ret} (w : World) (h : nilD op b ret) (ht : isAny P t = true) (hb : b = true) :
    ∃ u, ret u ∧ ∃ v', (binOp op t .nilIface .nilIface).run P w = .ok v' w ∧ ∀ m, RepU m u v' := by
  have hu := isAny_some ht
  subst hb
  unfold nilD at h
  split at h
  · exact ⟨_, h, .bool true, bin3 w t hu, fun m => .bool _⟩
  · exact ⟨_, h, .bool false, bin4 w t hu, fun m => .bool _⟩
  · exact h.elim

def binD (P : Program) (op : BinOp) (t : TypeId) (x y : D) (ret : D → Prop) : Prop :=
  match op, x, y with
  | op, .u (.oth (.iface _ _)), .u (.oth .nilIface) => isAny P t = true ∧ nilD op false (ret <| .u ·)
  | op, .u (.oth .nilIface), .u (.oth .nilIface) => isAny P t = true ∧ nilD op true (ret <| .u ·)
  | .shl, .u (.int k a), .u (.int _ b) => shiftI .shl k a b (ret <| .u ·)
  | .shr, .u (.int k a), .u (.int _ b) => shiftI .shr k a b (ret <| .u ·)
  | op, .u (.int k a), .u (.int k' b) => k = k' ∧ binI op k a b (ret <| .u ·)
  | op, .u (.str a), .u (.str b) => binS op a b (ret <| .u ·)
  | op, .u (.bool a), .u (.bool b) => binB P op t a b (ret <| .u ·)
  | op, .u (.sl (_ :: _)), .u .nil => isSl P t = true ∧ nilD op false (ret <| .u ·)
  | op, .u .nil, .u .nil => isSl P t = true ∧ nilD op true (ret <| .u ·)
  | op, .u (.oth (.slice (some _) _ _)), .u .nil => isSl P t = true ∧ nilD op false (ret <| .u ·)
  | op, .u (.agg xs), .u (.agg ys) => aggD P op t xs ys (ret <| .u ·)
  | _, _, _ => False

theorem getD_lt (vs : List Value) {j : Nat} (h : j < vs.length) : vs.getD j undef = vs[j] := by simp [h]
theorem eqGuard_plain {P : Program} (op : BinOp) (t : TypeId) (x y : Operand) (a b : Value) (w : World) (h : ∀ c, a ≠ .agg c) (h2 : a ≠ .nilIface) :
    (eqGuard op t x y a b).run P w = .ok () w := by
  unfold eqGuard
  cases op <;> first | (simp; done) | (cases a <;> simp_all)

theorem binD_run {P : Program} {k : Kr} {op t x y ret a b} (X Y : Operand) (w : World) (h : binD P op t x y ret) (hx : Rep k x a) (hy : Rep k y b) :
    ∃ d, ret d ∧ ∃ v, (do eqGuard op t X Y a b; binOp op t a b : Sem Value).run P w = .ok v w ∧ Rep k d v := by
  have fin : ∀ {ret' : U → Prop} , (∃ u, ret' u ∧ ∃ v, (binOp op t a b).run P w = .ok v w ∧ ∀ m, RepU m u v) → (∀ u, ret' u → ret (.u u)) →
      (eqGuard op t X Y a b).run P w = .ok () w → ∃ d, ret d ∧ ∃ v, (do eqGuard op t X Y a b; binOp op t a b : Sem Value).run P w = .ok v w ∧ Rep k d v := by
    rintro ret' ⟨u, hu, v, hv, hm⟩ hr hg
    exact ⟨_, hr u hu, v, by simp [hg, hv], .u _ _ (hm _)⟩
  unfold binD at h
  split at h
  · obtain rfl := rep_oth hx; obtain rfl := rep_oth hy
    exact fin (ifNil_run w h.2 h.1 rfl) (fun _ h => h) (eqGuard_plain _ _ _ _ _ _ _ (by simp) (by simp))
  · obtain rfl := rep_oth hx; obtain rfl := rep_oth hy
    exact fin (nilNil_run w h.2 h.1 rfl) (fun _ h => h) (eqGuard_nil _ _ _ _ (isAny_some h.1))
  · obtain rfl := rep_int hx; obtain rfl := rep_int hy
    exact fin (shiftI_run t w h (.inl rfl)) (fun _ h => h) (eqGuard_plain _ _ _ _ _ _ _ (by simp) (by simp))
  · obtain rfl := rep_int hx; obtain rfl := rep_int hy
    exact fin (shiftI_run t w h (.inr rfl)) (fun _ h => h) (eqGuard_plain _ _ _ _ _ _ _ (by simp) (by simp))
  · obtain rfl := rep_int hx; obtain rfl := rep_int hy
    obtain ⟨rfl, h⟩ := h
    exact fin (binI_run t w h) (fun _ h => h) (eqGuard_plain _ _ _ _ _ _ _ (by simp) (by simp))
  · obtain rfl := rep_str hx; obtain rfl := rep_str hy
    exact fin (binS_run t w h) (fun _ h => h) (eqGuard_plain _ _ _ _ _ _ _ (by simp) (by simp))
  · obtain rfl := rep_bool hx; obtain rfl := rep_bool hy
    exact fin (binB_run w h) (fun _ h => h) (eqGuard_plain _ _ _ _ _ _ _ (by simp) (by simp))
  · obtain ⟨ht, h⟩ := h
    obtain rfl := rep_nil hy
    cases hx with | u _ _ hx => cases hx with
      | sl _ b o sz c f hc hxm hsz hm hr => exact fin (nilD_run w h ht rfl) (fun _ h => h) (eqGuard_plain _ _ _ _ _ _ _ (by simp) (by simp))
  · obtain ⟨ht, h⟩ := h
    obtain rfl := rep_nil hx; obtain rfl := rep_nil hy
    exact fin (nilD_run w h ht rfl) (fun _ h => h) (eqGuard_plain _ _ _ _ _ _ _ (by simp) (by simp))
  · obtain ⟨ht, h⟩ := h
    obtain rfl := rep_oth hx; obtain rfl := rep_nil hy
    exact fin (nilD_run w h ht rfl) (fun _ h => h) (eqGuard_plain _ _ _ _ _ _ _ (by simp) (by simp))
  · obtain ⟨va, hla, rfl, ha⟩ := rep_uagg hx
    obtain ⟨vb, hlb, rfl, hb⟩ := rep_uagg hy
    unfold aggD at h
    split at h
    · rename_i ks hks
      split at h
      · rename_i b heq
        unfold stEq at hks
        split at hks
        · rename_i fs hu
          split at hks
          · rename_i hc
            have hfs : P.fieldsOf t = fs := by simp [Program.fieldsOf, hu]
            have hrun : (Op.equalIn 10000 t (.agg va.toArray) (.agg vb.toArray)).run P w = .ok b w := by
              rw [run_equalIn_struct w 9999 t _ _ (by rw [hfs]; exact hu) hc.1, hfs]
              refine eqUs_run w 9998 k.mem va vb fs.toList 0 ks _ _ b hks heq (fun j u hj => ?_) (fun j u hj => ?_)
              · have hl := (List.getElem?_eq_some_iff.1 hj).1
                exact ⟨va[j]'(by omega), by rw [Nat.zero_add]; exact List.getElem?_eq_getElem _, by have := ha j u hj; rwa [getD_lt va (by omega)] at this⟩
              · have hl := (List.getElem?_eq_some_iff.1 hj).1
                exact ⟨vb[j]'(by omega), by rw [Nat.zero_add]; exact List.getElem?_eq_getElem _, by have := hb j u hj; rwa [getD_lt vb (by omega)] at this⟩
            have hg := run_eqGuard_agg (P := P) w op t X Y va.toArray vb.toArray hc.2
            unfold nilD at h
            split at h
            · exact fin (ret' := fun u => ret (.u u)) ⟨_, h, .bool b, by rw [run_eql_struct, hrun]; rfl, fun m => .bool _⟩ (fun _ h => h) hg
            · exact fin (ret' := fun u => ret (.u u)) ⟨_, h, .bool (!b), by rw [run_neq_struct, hrun]; rfl, fun m => .bool _⟩ (fun _ h => h) hg
            · exact h.elim
          · cases hks
        · cases hks
      · exact h.elim
    · exact h.elim
  · exact h.elim

def unD (op : UnOp) (x : D) (ret : D → Prop) : Prop :=
  match op, x with
  | .neg, .u (.int k n) => arith k (0 - n) (ret <| .u ·)
  | .not, .u (.bool b) => ret (.u (.bool (!b)))
  | _, _ => False
theorem unD_run {P : Program} {k : Kr} {op x ret a} (w : World) (h : unD op x ret) (hx : Rep k x a) :
    ∃ d, ret d ∧ ∃ v, (Op.unary op a).run P w = .ok v w ∧ Rep k d v := by
  unfold unD at h
  split at h
  · obtain rfl := rep_int hx
    exact ⟨_, arith_ok h, _, by simp [Op.unary, Op.intArith], .u _ _ (.int _ _)⟩
  · obtain rfl := rep_bool hx
    exact ⟨_, h, _, by simp [Op.unary], .u _ _ (.bool _)⟩
  · exact h.elim

end Go.VL

/- The calculus of values: reading, cutting, picking parts; every operation that leaves the memory as it is. -/
namespace Go.VL
open Go

-- types, told shortly
def tsz (P : Program) (t : TypeId) : Option Nat := (P.info? t).map (·.size)
/-- How a variable of this type is read: none: no such type; some none: one cell; some (some n): n cells. -/
def ldSz (P : Program) (t : TypeId) : Option (Option Nat) :=
  match P.underlying t, P.info? t with
  | some (.struct _), some i | some (.array _ _), some i => some (some i.size)
  | some _, some _ => some none
  | _, _ => none
/-- A slice's element type and its size. -/
def elSz (P : Program) (t : TypeId) : Option (TypeId × Nat) :=
  match P.underlying t with
  | some (.slice e) => (P.info? e).map fun i => (e, i.size)
  | _ => none
/-- A field's place, its size, and how it is read. -/
def fldAt (P : Program) (t : TypeId) (f : Nat) : Option (Nat × Nat × Option Nat) :=
  match P.underlying t with
  | some (.struct fs) => match fs[f]? with
    | some fd => match tsz P fd.type, ldSz P fd.type with
      | some (n + 1), some l => some (fd.offset, n + 1, l)
      | _, _ => none
    | none => none
  | _ => none
def isStr (P : Program) (t : TypeId) : Bool := match P.underlying t with | some .string => true | _ => false
def intOfT (P : Program) (t : TypeId) : Option IntKind := match P.underlying t with | some (.int k) => some k | _ => none

theorem isAgg_some {P : Program} {t n} (h : ldSz P t = some (some n)) (w : World) : (isAgg t).run P w = .ok true w ∧ (sizeOf t).run P w = .ok n w := by
  unfold ldSz at h
  split at h <;> simp at h
  · rename_i i hu hi
    subst h
    exact ⟨by simp [isAgg, run_underlying hu], by simp [sizeOf, typeInfo, hi]⟩
  · rename_i i hu hi
    subst h
    exact ⟨by simp [isAgg, run_underlying hu], by simp [sizeOf, typeInfo, hi]⟩
theorem isAgg_none {P : Program} {t} (h : ldSz P t = some none) (w : World) : (isAgg t).run P w = .ok false w := by
  unfold ldSz at h
  cases hu : P.underlying t with
  | none => simp [hu] at h
  | some d => cases hi : P.info? t <;> cases d <;> simp_all [isAgg, run_underlying hu]

theorem addr_add (b o n : Nat) : (⟨b, o, none⟩ : Addr).add n = ⟨b, o + n, none⟩ := by unfold Addr.add; split <;> simp_all

/-- What is read at a place of these cells. -/
def cellsAt {α : Type} (cells : List α) (off : Nat) (l : Option Nat) (one : α → Prop) (many : List α → Prop) : Prop :=
  match l with
  | none => ∃ u, cells[off]? = some u ∧ one u
  | some n => off + n ≤ cells.length ∧ many ((cells.drop off).take n)

theorem loadVar_one {P : Program} {t} (w : World) (b o : Nat) (v : Value) (h : ldSz P t = some none) (hc : w.cell? ⟨b, o, none⟩ = some v) :
    (loadVar t ⟨b, o, none⟩).run P w = .ok v w := by
  simp [loadVar, isAgg_none h w, hc]
theorem loadVar_many {P : Program} {t n} (w : World) (b o : Nat) (vs : List Value) (h : ldSz P t = some (some n)) (hn : vs.length = n)
    (hc : ∀ j v, vs[j]? = some v → w.cell? ⟨b, o + j, none⟩ = some v) : (loadVar t ⟨b, o, none⟩).run P w = .ok (.agg vs.toArray) w := by
  have hl := run_loadCells_list (P := P) w ⟨b, o, none⟩ vs (fun j v hv => by rw [addr_add]; exact hc j v hv)
  rw [hn] at hl
  simp [loadVar, (isAgg_some h w).1, (isAgg_some h w).2, hl]

/-- All are without an identity. -/
def allU : List D → Option (List U)
  | [] => some []
  | .u x :: l => match allU l with | some r => some (x :: r) | none => none
  | _ :: _ => none
theorem allU_get : ∀ {l : List D} {r : List U}, allU l = some r → r.length = l.length ∧ ∀ (j : Nat) (u : U), r[j]? = some u → l[j]? = some (D.u u)
  | [], r, h => by simp [allU] at h; subst h; simp
  | d :: l, r, h => by
    cases d <;> simp [allU] at h
    rename_i x
    cases hl : allU l with
    | none => simp [hl] at h
    | some q =>
      simp [hl] at h
      subst h
      have := allU_get hl
      refine ⟨by simp [this.1], fun j u hj => ?_⟩
      cases j with
      | zero => simpa using hj
      | succ j => simpa using this.2 j u (by simpa using hj)
def mkAgg (cells : List D) : D := match allU cells with | some r => .u (.agg r) | none => .agg cells
theorem mkAgg_rep {k : Kr} {cells : List D} {vs : List Value} (hl : cells.length = vs.length) (hr : ∀ j d, cells[j]? = some d → Rep k d (vs.getD j undef)) :
    Rep k (mkAgg cells) (.agg vs.toArray) := by
  unfold mkAgg
  split
  · rename_i r h
    obtain ⟨h1, h2⟩ := allU_get h
    refine .u _ _ (.agg _ vs (by omega) fun j u hj => ?_)
    have := hr j _ (h2 j u hj)
    cases this with | u _ _ hh => exact hh
  · exact .agg _ vs hl hr

/-- Reading a variable of type t at a place. -/
def loadD (P : Program) (s : St) (t : TypeId) (x : D) (ret : D → Prop) : Prop :=
  match ldSz P t with
  | none => False
  | some l => match x with
    | .u (.row cells off) => cellsAt cells off l (ret <| .u ·) (ret <| .u <| .agg ·)
    | .ptr i off => match getK s.obs i with
      | some (.box cells) => cellsAt cells off l ret (ret <| mkAgg ·)
      | _ => False
    | .elt i sz idx off => match getK s.obs i with
      | some (.vec _ sz' rows) => sz = sz' ∧ ∃ r, rows[idx]? = some r ∧ cellsAt r off l ret (ret <| mkAgg ·)
      | _ => False
    | _ => False

theorem getD_of {vs : List Value} {j : Nat} (h : j < vs.length) : vs.getD j undef = vs[j] := by simp [h]
theorem get_take_drop {α : Type} (l : List α) (o n j : Nat) (h : j < n) : ((l.drop o).take n)[j]? = l[o + j]? := by
  rw [List.getElem?_take, if_pos h, List.getElem?_drop]

theorem loadD_run {P : Program} {s : St} {t x ret} (h : loadD P s t x ret) {k own a w v} (hs : Sim k own s a w) (hx : Rep k x v) :
    ∃ d, ret d ∧ ∃ u, (Instr.loadAt t v).run P w = .ok u w ∧ Rep k d u := by
  unfold loadD at h
  split at h
  · exact h.elim
  · rename_i l hl
    split at h
    · -- a row that no one writes
      rename_i cells off
      obtain ⟨b, o, rfl, hc⟩ := rep_row hx
      unfold cellsAt at h
      cases l with
      | none =>
        obtain ⟨u, hu, hret⟩ := h
        obtain ⟨y, hy, hr⟩ := hc off u hu
        exact ⟨_, hret, y, by simp [Instr.loadAt, Instr.sureAddr, loadVar_one w b (o + off) y hl (hs.sat.cell hy)], .u _ _ hr⟩
      | some n =>
        obtain ⟨hle, hret⟩ := h
        have hf : ∀ j, j < n → ∃ y, k.mem b (o + (off + j)) = some (.val y) ∧ RepU k.mem (cells.getD (off + j) default) y := fun j hj => by
          obtain ⟨y, hy, hr⟩ := hc (off + j) (cells.getD (off + j) default) (by simp [show off + j < cells.length by omega])
          exact ⟨y, hy, hr⟩
        refine ⟨_, hret, .agg ((List.range n).map fun j => Known.get (k.mem b (o + (off + j)))).toArray, ?_, .u _ _ (.agg _ _ (by simp; omega) fun j u hj => ?_)⟩
        · have := loadVar_many w b (o + off) ((List.range n).map fun j => Known.get (k.mem b (o + (off + j)))) hl (by simp) (fun j v hv => by
            have hj : j < n := by
              have := (List.getElem?_eq_some_iff.1 hv).1
              simpa using this
            obtain ⟨y, hy, _⟩ := hf j hj
            simp [hj, hy] at hv
            subst hv
            rw [Nat.add_assoc]
            exact hs.sat.cell hy)
          simp [Instr.loadAt, Instr.sureAddr, this]
        · have hj' : j < n := by
            have := (List.getElem?_eq_some_iff.1 hj).1
            simp at this
            omega
          rw [get_take_drop _ _ _ _ hj'] at hj
          obtain ⟨y, hy, hr⟩ := hf j hj'
          simp [hj', hy]
          rw [List.getD_eq_getElem?_getD, hj] at hr
          exact hr
    · -- a variable of the call's own
      rename_i i off
      obtain ⟨b, c, hh, rfl⟩ := rep_ptr hx
      split at h
      · rename_i cells hg
        obtain ⟨b', c', vs, ty, hh', hown, hheap, hsz, hcells, hno⟩ := (hs.sat.ob i _ hg).box
        rw [hh] at hh'
        simp only [Option.some.injEq, Prod.mk.injEq] at hh'
        obtain ⟨rfl, rfl⟩ := hh'
        have hcell : ∀ j, j < cells.length → w.cell? ⟨b, j, none⟩ = some (vs.getD j undef) := fun j hj => by
          rw [cell_of_row w b j vs ty (0, 0) hheap]
          simp [show j < vs.size by omega]
        unfold cellsAt at h
        cases l with
        | none =>
          obtain ⟨u, hu, hret⟩ := h
          have hlt := (List.getElem?_eq_some_iff.1 hu).1
          exact ⟨_, hret, _, by simp [Instr.loadAt, Instr.sureAddr, loadVar_one w b off _ hl (hcell off hlt)], (hcells off u hu).2⟩
        | some n =>
          obtain ⟨hle, hret⟩ := h
          refine ⟨_, hret, .agg ((List.range n).map fun j => vs.getD (off + j) undef).toArray, ?_, mkAgg_rep (by simp; omega) fun j u hj => ?_⟩
          · have := loadVar_many w b off ((List.range n).map fun j => vs.getD (off + j) undef) hl (by simp) (fun j v hv => by
              have hj : j < n := by
                have := (List.getElem?_eq_some_iff.1 hv).1
                simpa using this
              simp [hj] at hv
              rw [hcell _ (by omega)]
              simpa using hv)
            simp [Instr.loadAt, Instr.sureAddr, this]
          · have hj' : j < n := by
              have := (List.getElem?_eq_some_iff.1 hj).1
              simp at this
              omega
            rw [get_take_drop _ _ _ _ hj'] at hj
            have := (hcells _ u hj).2
            simpa [hj'] using this
      · exact h.elim
    · -- an element of a slice of the call's own
      rename_i i sz idx off
      obtain ⟨b, c, hh, rfl⟩ := rep_elt hx
      split at h
      · rename_i e sz' rows hg
        obtain ⟨rfl, r, hr, h⟩ := h
        obtain ⟨h', xs, hh', hrow, hpos, hlen, hcells, hno⟩ := (hs.sat.ob i _ hg).vec
        rw [hh] at hh'
        simp only [Option.some.injEq] at hh'
        subst hh'
        have hxl := hrow.1
        have hcell : ∀ j u, xs[j]? = some u → w.cell? ⟨b, j, none⟩ = some u := fun j u hj => by
          have := hrow.cells (g := b) (by simp [headVal, Value.ownBlock]) j u hj
          rwa [addr_add, Nat.zero_add] at this
        have hrl := hlen r (List.mem_of_getElem? hr)
        have hidx := (List.getElem?_eq_some_iff.1 hr).1
        have hbound : ∀ j, j < r.length → idx * sz + j < xs.length := fun j hj => by
          rw [hxl]
          have : (idx + 1) * sz ≤ rows.length * sz := Nat.mul_le_mul_right _ hidx
          rw [Nat.add_mul, Nat.one_mul] at this
          omega
        have hcell' : ∀ j, j < r.length → w.cell? ⟨b, idx * sz + j, none⟩ = some (xs.getD (idx * sz + j) undef) := fun j hj => by
          refine hcell _ _ ?_
          simp [hbound j hj]
        unfold cellsAt at h
        cases l with
        | none =>
          obtain ⟨u, hu, hret⟩ := h
          have hlt := (List.getElem?_eq_some_iff.1 hu).1
          exact ⟨_, hret, _, by simp [Instr.loadAt, Instr.sureAddr, loadVar_one w b (idx * sz + off) _ hl (hcell' off hlt)], (hcells idx r hr off u hu).2⟩
        | some n =>
          obtain ⟨hle, hret⟩ := h
          refine ⟨_, hret, .agg ((List.range n).map fun j => xs.getD (idx * sz + (off + j)) undef).toArray, ?_, mkAgg_rep (by simp; omega) fun j u hj => ?_⟩
          · have := loadVar_many w b (idx * sz + off) ((List.range n).map fun j => xs.getD (idx * sz + (off + j)) undef) hl (by simp) (fun j v hv => by
              have hj : j < n := by
                have := (List.getElem?_eq_some_iff.1 hv).1
                simpa using this
              simp [hj] at hv
              rw [Nat.add_assoc, hcell' _ (by omega)]
              simpa using hv)
            simp [Instr.loadAt, Instr.sureAddr, this]
          · have hj' : j < n := by
              have := (List.getElem?_eq_some_iff.1 hj).1
              simp at this
              omega
            rw [get_take_drop _ _ _ _ hj'] at hj
            have := (hcells idx r hr _ u hj).2
            simpa [hj'] using this
      · exact h.elim
    · exact h.elim

end Go.VL

/- The calculus of values: places, parts, lengths; all operations that leave the memory as it is, under one name. -/
namespace Go.VL
open Go

def fieldAddrD (P : Program) (t : TypeId) (x : D) (f : Nat) (ret : D → Prop) : Prop :=
  match fldAt P t f with
  | none => False
  | some (off, _, _) => match x with
    | .u (.row cells o) => ret (.u (.row cells (o + off)))
    | .ptr i o => ret (.ptr i (o + off))
    | .elt i sz idx o => ret (.elt i sz idx (o + off))
    | _ => False
theorem fldAt_some {P : Program} {t f off n l} (h : fldAt P t f = some (off, n, l)) :
    ∃ fs fd, P.underlying t = some (.struct fs) ∧ fs[f]? = some fd ∧ fd.offset = off ∧ 0 < n ∧ tsz P fd.type = some n ∧ ldSz P fd.type = some l := by
  unfold fldAt at h
  split at h
  · rename_i fs hu
    split at h
    · rename_i fd hf
      split at h
      · rename_i m l' h1 h2
        simp at h
        obtain ⟨rfl, rfl, rfl⟩ := h
        exact ⟨fs, fd, hu, hf, rfl, by omega, h1, h2⟩
      · cases h
    · cases h
  · cases h
theorem sizeOf_run {P : Program} {t n} (h : tsz P t = some n) (w : World) : (sizeOf t).run P w = .ok n w := by
  unfold tsz at h
  cases hi : P.info? t with
  | none => simp [hi] at h
  | some i => simp [hi] at h; subst h; simp [sizeOf, typeInfo, hi]
theorem fieldAddrD_run {P : Program} {t x f ret} (h : fieldAddrD P t x f ret) {k v} (w : World) (hx : Rep k x v) :
    ∃ d, ret d ∧ ∃ u, (Instr.fieldAt t v f).run P w = .ok u w ∧ Rep k d u := by
  unfold fieldAddrD at h
  split at h
  · exact h.elim
  · rename_i off n l hf
    obtain ⟨fs, fd, hu, hfd, rfl, hn, hsz, _⟩ := fldAt_some hf
    have hrun : ∀ b o, (Instr.fieldAt t (.pointer (some ⟨b, o, none⟩)) f).run P w = .ok (.pointer (some ⟨b, o + fd.offset, none⟩)) w := fun b o => by
      simp [Instr.fieldAt, run_underlying hu, hfd, Instr.sureAddr, fieldPlace, sizeOf_run hsz w, show n ≠ 0 by omega, addr_add]
    split at h
    · rename_i cells o'
      cases hx with
      | u _ _ hx => cases hx with
        | row _ _ b o g hm hr => exact ⟨_, h, _, hrun _ _, .u _ _ (by rw [Nat.add_assoc]; exact .row cells _ b o g hm hr)⟩
    · obtain ⟨b, c, hh, rfl⟩ := rep_ptr hx
      exact ⟨_, h, _, hrun _ _, .ptr _ _ b c hh⟩
    · obtain ⟨b, c, hh, rfl⟩ := rep_elt hx
      exact ⟨_, h, _, hrun _ _, by rw [Nat.add_assoc]; exact .elt _ _ _ _ b c hh⟩
    · exact h.elim

def fieldD (P : Program) (t : TypeId) (x : D) (f : Nat) (ret : D → Prop) : Prop :=
  match fldAt P t f with
  | none => False
  | some (off, _, l) => match x with
    | .u (.agg cells) => cellsAt cells off l (ret <| .u ·) (ret <| .u <| .agg ·)
    | .agg cells => cellsAt cells off l ret (ret <| mkAgg ·)
    | _ => False
theorem extract_list (vs : List Value) (o n : Nat) : vs.toArray.extract o (o + n) = ((vs.drop o).take n).toArray := by
  simp [List.extract_toArray, List.extract_eq_take_drop]
theorem fieldD_run {P : Program} {t x f ret} (h : fieldD P t x f ret) {k v} (w : World) (hx : Rep k x v) :
    ∃ d, ret d ∧ ∃ u, (Instr.field t v f).run P w = .ok u w ∧ Rep k d u := by
  unfold fieldD at h
  split at h
  · exact h.elim
  · rename_i off n l hf
    obtain ⟨fs, fd, hu, hfd, rfl, hn, hsz, hl⟩ := fldAt_some hf
    have hone : l = none → ∀ (vs : List Value), fd.offset < vs.length → (Instr.field t (.agg vs.toArray) f).run P w = .ok (vs.getD fd.offset undef) w := fun e vs hlt => by
      subst e
      simp [Instr.field, run_underlying hu, hfd, part, isAgg_none hl w, asAgg, hlt]
    have hmany : ∀ m, l = some m → ∀ (vs : List Value), (Instr.field t (.agg vs.toArray) f).run P w = .ok (.agg ((vs.drop fd.offset).take m).toArray) w := fun m e vs => by
      subst e
      simp [Instr.field, run_underlying hu, hfd, part, (isAgg_some hl w).1, (isAgg_some hl w).2, asAgg, extract_list]
    split at h
    · obtain ⟨vs, hlen, rfl, hr⟩ := rep_uagg hx
      unfold cellsAt at h
      cases l with
      | none =>
        obtain ⟨u, hu, hret⟩ := h
        exact ⟨_, hret, _, hone rfl vs (by have := (List.getElem?_eq_some_iff.1 hu).1; omega), .u _ _ (hr _ _ hu)⟩
      | some m =>
        obtain ⟨hle, hret⟩ := h
        refine ⟨_, hret, _, hmany m rfl vs, .u _ _ (.agg _ _ (by simp; omega) fun j u hj => ?_)⟩
        have hj' : j < m := by have := (List.getElem?_eq_some_iff.1 hj).1; simp at this; omega
        rw [get_take_drop _ _ _ _ hj'] at hj
        rw [List.getD_eq_getElem?_getD, get_take_drop _ _ _ _ hj', ← List.getD_eq_getElem?_getD]
        exact hr _ _ hj
    · obtain ⟨vs, hlen, rfl, hr⟩ := rep_agg hx
      unfold cellsAt at h
      cases l with
      | none =>
        obtain ⟨u, hu, hret⟩ := h
        exact ⟨_, hret, _, hone rfl vs (by have := (List.getElem?_eq_some_iff.1 hu).1; omega), hr _ _ hu⟩
      | some m =>
        obtain ⟨hle, hret⟩ := h
        refine ⟨_, hret, _, hmany m rfl vs, mkAgg_rep (by simp; omega) fun j u hj => ?_⟩
        have hj' : j < m := by have := (List.getElem?_eq_some_iff.1 hj).1; simp at this; omega
        rw [get_take_drop _ _ _ _ hj'] at hj
        rw [List.getD_eq_getElem?_getD, get_take_drop _ _ _ _ hj', ← List.getD_eq_getElem?_getD]
        exact hr _ _ hj
    · exact h.elim

/-- The address of an element. -/
def indexAddrD (P : Program) (s : St) (t : TypeId) (x i : D) (ret : D → Prop) : Prop :=
  match elSz P t, i with
  | some (_, sz), .u (.int _ i) => match x with
    | .u (.sl rows) => 0 ≤ i ∧ ∃ r, rows[i.toNat]? = some r ∧ r.length = sz ∧ ret (.u (.row r 0))
    | .vec v len => 0 ≤ i ∧ i.toNat < len ∧ ret (.elt v sz i.toNat 0) ∧ (match getK s.obs v with | some (.vec _ sz' rows) => sz = sz' ∧ len ≤ rows.length | _ => False)
    | _ => False
  | _, _ => False
theorem elSz_some {P : Program} {t e sz} (h : elSz P t = some (e, sz)) : P.underlying t = some (.slice e) ∧ tsz P e = some sz := by
  unfold elSz at h
  split at h
  · rename_i e' hu
    unfold tsz
    cases hi : P.info? e' with
    | none => simp [hi] at h
    | some i => simp [hi] at h; obtain ⟨rfl, rfl⟩ := h; exact ⟨hu, by simp [hi]⟩
  · cases h
theorem indexAddrD_run {P : Program} {s t x i ret} (h : indexAddrD P s t x i ret) {k own a w v iv} (hs : Sim k own s a w) (hx : Rep k x v) (hi : Rep k i iv) :
    ∃ d, ret d ∧ ∃ u, (Instr.indexAt t v iv).run P w = .ok u w ∧ Rep k d u := by
  unfold indexAddrD at h
  split at h
  · rename_i e sz kd i' he
    obtain ⟨hu, hsz⟩ := elSz_some he
    obtain rfl := rep_int hi
    have hrun : ∀ b o len c, 0 ≤ i' → i'.toNat < len → (Instr.indexAt t (.slice (some ⟨b, o, none⟩) len c) (.int kd i')).run P w = .ok (.pointer (some ⟨b, o + i'.toNat * sz, none⟩)) w := fun b o len c h0 hlt => by
      have : 0 ≤ i' ∧ i' < (len : Int) := ⟨h0, by omega⟩
      simp [Instr.indexAt, asIntOf, run_underlying hu, this, sizeOf_run hsz w, addr_add]
    split at h
    · obtain ⟨h0, r, hr, hrl, hret⟩ := h
      have hlt := (List.getElem?_eq_some_iff.1 hr).1
      cases hx with
      | u _ _ hx => cases hx with
        | slE => simp at hr
        | sl _ b o sz' c f hcap hcx h1 h2 h3 =>
          have hz : sz' = sz := (h1 r (List.mem_of_getElem? hr)).symm.trans hrl
          subst hz
          refine ⟨_, hret, _, hrun b o _ c h0 hlt, .u _ _ ?_⟩
          have := RepU.row (m := k.mem) r 0 b (o + i'.toNat * sz') (f i'.toNat) (fun j hj => h2 _ hlt j (by omega)) (h3 _ r hr)
          simpa using this
    · obtain ⟨h0, hlt, hret, hob⟩ := h
      obtain ⟨g, hg, rfl⟩ := rep_vec hx
      split at hob
      · rename_i e' sz' rows hgo
        obtain ⟨rfl, hlen⟩ := hob
        obtain ⟨g', xs, hg', hrow, _⟩ := (hs.sat.ob _ _ hgo).vec
        rw [hg] at hg'
        simp only [Option.some.injEq] at hg'
        subst hg'
        obtain ⟨gb, gc⟩ := g
        cases gb with
        | none =>
          rcases hrow.2 with ⟨_, hz⟩ | ⟨_, _, _, hv, _⟩
          · omega
          · simp [headVal] at hv
        | some b => exact ⟨_, hret, _, hrun b 0 _ gc h0 hlt, by simpa using Rep.elt _ _ _ 0 b gc hg⟩
      · exact hob.elim
    · exact h.elim
  · exact h.elim

/-- An array of values of one cell each: its length. -/
def arr1 (P : Program) (t : TypeId) : Option Nat := match P.underlying t with
  | some (.array n e) => if (kdOf P e).isSome = true ∧ tsz P e = some 1 then some n else none
  | _ => none
theorem arr1_some {P : Program} {t n} (h : arr1 P t = some n) : ∃ e kd, P.underlying t = some (.array n e) ∧ kdOf P e = some kd ∧ tsz P e = some 1 := by
  unfold arr1 at h
  split at h
  · rename_i n' e hu
    split at h
    · rename_i hc
      cases h
      obtain ⟨kd, hkd⟩ := Option.isSome_iff_exists.1 hc.1
      exact ⟨e, kd, hu, hkd, hc.2⟩
    · cases h
  · cases h
def indexD (P : Program) (t : TypeId) (x i : D) (ret : D → Prop) : Prop :=
  match x, i with
  | .u (.str l), .u (.int _ i) => isStr P t = true ∧ 0 ≤ i ∧ ∃ b, l[i.toNat]? = some b ∧ ret (.u (.int .u8 b.toNat))
  | .u (.agg cells), .u (.int _ i) => arr1 P t = some cells.length ∧ 0 ≤ i ∧ ∃ u, cells[i.toNat]? = some u ∧ ret (.u u)
  | _, _ => False
theorem isStr_some {P : Program} {t} (h : isStr P t = true) : P.underlying t = some .string := by
  unfold isStr at h
  split at h
  · assumption
  · cases h
theorem indexD_run {P : Program} {t x i ret} (h : indexD P t x i ret) {k v iv} (w : World) (hx : Rep k x v) (hi : Rep k i iv) :
    ∃ d, ret d ∧ ∃ u, (Instr.index t v iv).run P w = .ok u w ∧ Rep k d u := by
  unfold indexD at h
  split at h
  · obtain ⟨ht, h0, b, hb, hret⟩ := h
    obtain rfl := rep_str hx
    obtain rfl := rep_int hi
    rename_i l kd i'
    have hlt := (List.getElem?_eq_some_iff.1 hb).1
    refine ⟨_, hret, _, ?_, .u _ _ (.int _ _)⟩
    have hget : (⟨l.toArray⟩ : ByteArray)[i'.toNat]? = some b := by
      rw [getElem?_pos _ _ (by show i'.toNat < l.toArray.size; simpa using hlt)]
      congr 1
      show l.toArray[i'.toNat] = b
      simpa using (List.getElem?_eq_some_iff.1 hb).2
    simp [Instr.index, asIntOf, run_underlying (isStr_some ht), h0, hget]
  · obtain ⟨ht, h0, u, hu, hret⟩ := h
    obtain ⟨vs, hl, rfl, hr⟩ := rep_uagg hx
    obtain rfl := rep_int hi
    rename_i cells kd i'
    obtain ⟨e, kd', hue, hk, hsz⟩ := arr1_some ht
    have hlt := (List.getElem?_eq_some_iff.1 hu).1
    refine ⟨_, hret, vs.getD i'.toNat undef, ?_, .u _ _ (hr _ _ hu)⟩
    have hp := kdOf_part hk w vs.toArray i'.toNat (vs.getD i'.toNat undef) (by simp [show i'.toNat < vs.length by omega])
    have hs := sizeOf_run hsz w
    have hb : i' < (cells.length : Int) := by omega
    simp [Instr.index, asIntOf, run_underlying hue, h0, hb, hs, hp]
  · exact h.elim

/-- The bounds of a cut of n elements. -/
def cutD (n : Nat) (lo hi : Option D) (go : Nat → Nat → Prop) : Prop :=
  match lo, hi with
  | none, none => go 0 n
  | some (.u (.int _ l)), none => (0 ≤ l ∧ l ≤ n) ∧ go l.toNat n
  | none, some (.u (.int _ h)) => (0 ≤ h ∧ h ≤ n) ∧ go 0 h.toNat
  | some (.u (.int _ l)), some (.u (.int _ h)) => (0 ≤ l ∧ l ≤ h ∧ h ≤ n) ∧ go l.toNat h.toNat
  | _, _ => False
/-- All rows have this length. -/
def lenR {α : Type} (sz : Nat) (rs : List (List α)) : Prop := ∀ r ∈ rs, r.length = sz
section
variable {α β : Type} {sz : Nat}
@[simp] theorem lenR_nil : lenR sz ([] : List (List α)) := by simp [lenR]
@[simp] theorem lenR_cons (r : List α) (l : List (List α)) : lenR sz (r :: l) ↔ r.length = sz ∧ lenR sz l := by simp [lenR]
@[simp] theorem lenR_append (a b : List (List α)) : lenR sz (a ++ b) ↔ lenR sz a ∧ lenR sz b := by
  simp only [lenR, List.mem_append]
  exact ⟨fun h => ⟨fun r hr => h r (.inl hr), fun r hr => h r (.inr hr)⟩, fun ⟨h, g⟩ r hr => hr.elim (h r) (g r)⟩
@[simp] theorem lenR_map (f : β → List α) (l : List β) : lenR sz (l.map f) ↔ ∀ x ∈ l, (f x).length = sz := by simp [lenR]
@[simp] theorem lenR_replicate (n : Nat) (r : List α) (h : r.length = sz) : lenR sz (List.replicate n r) := fun x hx => by
  rw [List.mem_replicate] at hx
  rw [hx.2]; exact h
@[simp] theorem lenR_take (n : Nat) (l : List (List α)) (h : lenR sz l) : lenR sz (l.take n) := fun r hr => h r (List.mem_of_mem_take hr)
@[simp] theorem lenR_drop (n : Nat) (l : List (List α)) (h : lenR sz l) : lenR sz (l.drop n) := fun r hr => h r (List.mem_of_mem_drop hr)
@[simp] theorem lenR_set (n : Nat) (r : List α) (l : List (List α)) (hr : r.length = sz) (h : lenR sz l) : lenR sz (l.set n r) := fun x hx => by
  rcases List.mem_or_eq_of_mem_set hx with hm | rfl
  · exact h x hm
  · exact hr
end
def sliceD (P : Program) (s : St) (t : TypeId) (x : D) (lo hi : Option D) (ret : D → Prop) : Prop :=
  match x with
  | .u (.str b) => isStr P t = true ∧ cutD b.length lo hi fun l h => ret (.u (.str ((b.take h).drop l)))
  | .u (.sl rows) => match elSz P t with
    | some (_, sz) => lenR sz rows ∧ cutD rows.length lo hi fun l h => ret (.u (.sl ((rows.take h).drop l)))
    | none => False
  | .vec i len => match elSz P t, getK s.obs i with
    | some (_, sz), some (.vec _ sz' rows) => sz = sz' ∧ len ≤ rows.length ∧ cutD len lo hi fun l h => l = 0 ∧ ret (.vec i h)
    | _, _ => False
  | _ => False

/-- The machine's bounds of a cut. -/
theorem cut_run {P : Program} (k : Kr) (isS : Bool) (n cap : Nat) (hc : n ≤ cap) (lo hi : Option D) (lv hv : Option Value) (w : World) (go : Nat → Nat → Prop)
    (hl : ∀ d, lo = some d → ∃ v, lv = some v ∧ Rep k d v) (hl' : lo = none → lv = none) (hh : ∀ d, hi = some d → ∃ v, hv = some v ∧ Rep k d v) (hh' : hi = none → hv = none)
    (h : cutD n lo hi go) : ∃ l h, go l h ∧ l ≤ h ∧ h ≤ n ∧ (Instr.sliceBounds isS n cap lv hv none).run P w = .ok (l, h, cap) w := by
  unfold cutD at h
  split at h
  · rw [hl' rfl, hh' rfl]
    exact ⟨0, n, h, by omega, by omega, by simp [Instr.sliceBounds]⟩
  · rename_i kd l
    obtain ⟨⟨h0, h1⟩, h⟩ := h
    obtain ⟨v, rfl, hr⟩ := hl _ rfl
    obtain rfl := rep_int hr
    rw [hh' rfl]
    have : 0 ≤ l ∧ l ≤ (n : Int) := ⟨h0, h1⟩
    exact ⟨_, _, h, by omega, by omega, by simp [Instr.sliceBounds, Instr.sliceBound, asIntOf, this]⟩
  · rename_i kd l
    obtain ⟨⟨h0, h1⟩, h⟩ := h
    obtain ⟨v, rfl, hr⟩ := hh _ rfl
    obtain rfl := rep_int hr
    rw [hl' rfl]
    have : 0 ≤ l ∧ l ≤ (cap : Int) := ⟨h0, by omega⟩
    exact ⟨_, _, h, by omega, by omega, by simp [Instr.sliceBounds, Instr.sliceBound, asIntOf, this]⟩
  · rename_i kd l kd' l'
    obtain ⟨⟨h0, h1, h2⟩, h⟩ := h
    obtain ⟨v, rfl, hr⟩ := hl _ rfl
    obtain rfl := rep_int hr
    obtain ⟨v, rfl, hr⟩ := hh _ rfl
    obtain rfl := rep_int hr
    have : 0 ≤ l' ∧ l' ≤ (cap : Int) := ⟨by omega, by omega⟩
    have g2 : 0 ≤ l ∧ l ≤ ((l'.toNat : Nat) : Int) := ⟨h0, by omega⟩
    have g3 : ¬ max l' 0 < l := by omega
    exact ⟨_, _, h, by omega, by omega, by simp [Instr.sliceBounds, Instr.sliceBound, asIntOf, this, g2]; omega⟩
  · exact h.elim

theorem sliceD_run {P : Program} {s t x lo hi ret} (h : sliceD P s t x lo hi ret) {k own a w v} {lv hv : Option Value} (hs : Sim k own s a w) (hx : Rep k x v)
    (hl : ∀ d, lo = some d → ∃ v, lv = some v ∧ Rep k d v) (hl' : lo = none → lv = none) (hh : ∀ d, hi = some d → ∃ v, hv = some v ∧ Rep k d v) (hh' : hi = none → hv = none) :
    ∃ d, ret d ∧ ∃ u, (Instr.slice t v lv hv none).run P w = .ok u w ∧ Rep k d u := by
  unfold sliceD at h
  split at h
  · rename_i b
    obtain ⟨ht, h⟩ := h
    obtain rfl := rep_str hx
    obtain ⟨l, e, hret, hle, hen, hrun⟩ := cut_run (P := P) k false _ b.length (Nat.le_refl _) lo hi lv hv w _ hl hl' hh hh' h
    have hsz : (⟨b.toArray⟩ : ByteArray).size = b.length := by show b.toArray.size = _; simp
    refine ⟨_, hret, .string ((⟨b.toArray⟩ : ByteArray).extract l e), ?_, .u _ _ ?_⟩
    · simp [Instr.slice, run_underlying (isStr_some ht), hsz, hrun]
    · have : (⟨b.toArray⟩ : ByteArray).extract l e = ⟨((b.take e).drop l).toArray⟩ := by
        apply ByteArray.ext
        rw [ByteArray.data_extract]
        simp [List.extract_toArray, List.extract_eq_take_drop, List.drop_take]
      rw [this]
      exact .str _
  · rename_i rows
    split at h
    · rename_i e sz he
      obtain ⟨hall, h⟩ := h
      obtain ⟨hu, hsz⟩ := elSz_some he
      cases hx with
      | u _ _ hx => cases hx with
        | slE a c hnc =>
          obtain ⟨l, e', hret, hle, hen, hrun⟩ := cut_run (P := P) k true _ c (by simp) lo hi lv hv w _ hl hl' hh hh' h
          simp at hen
          subst hen
          simp at hle
          subst hle
          refine ⟨_, hret, .slice (if c = 0 then a else a.map (·.add (0 * sz))) (0 - 0) (c - 0), ?_, ?_⟩
          · simp only [List.length_nil] at hrun
            simp [Instr.slice, run_underlying hu, hrun, sizeOf_run hsz w]
          simp
          refine .u _ _ (.slE _ _ fun e => ?_)
          by_cases hc0 : c = 0
          · simp [hc0]
          · rw [if_neg hc0] at e
            simp at e
            exact absurd (hnc e) hc0
        | sl _ b o sz' c f hcap hcx h1 h2 h3 =>
          obtain ⟨l, e', hret, hle, hen, hrun⟩ := cut_run (P := P) k true _ c hcap lo hi lv hv w _ hl hl' hh hh' h
          refine ⟨_, hret, .slice (if c = l then some ⟨b, o, none⟩ else some ⟨b, o + l * sz, none⟩) (e' - l) (c - l), ?_, .u _ _ ?_⟩
          · simp only [Instr.slice, run_underlying hu, Sem.run_bind, Result.andThen_ok, hrun, sizeOf_run hsz w]
            split <;> simp [addr_add]
          · have hlen : ((rows.take e').drop l).length = e' - l := by simp; omega
            by_cases hz : e' - l = 0
            · rw [List.eq_nil_of_length_eq_zero (hlen.trans hz), hz]
              refine .slE _ _ fun e => ?_
              split at e <;> cases e
            · have hrow0 : sz' = sz := by
                have hp : 0 < rows.length := by omega
                have hm : rows[0] ∈ rows := List.getElem_mem hp
                exact (h1 _ hm).symm.trans (hall _ hm)
              subst hrow0
              rw [if_neg (by omega), ← hlen]
              refine .sl _ b _ sz' _ (fun i => f (l + i)) (by omega) (by omega) (fun r hr => h1 r (List.mem_of_mem_take (List.mem_of_mem_drop hr))) (fun i hi j hj => ?_) (fun i r hr j u hu => ?_)
              · rw [hlen] at hi
                have := h2 (l + i) (by omega) j hj
                rw [Nat.add_mul] at this
                rw [Nat.add_assoc o]
                exact this
              · rw [List.getElem?_drop] at hr
                have := List.getElem?_take (l := rows) (i := e') (j := l + i)
                rw [this] at hr
                split at hr
                · exact h3 _ r hr j u hu
                · cases hr
    · exact h.elim
  · rename_i i len
    split at h
    · rename_i e sz e' sz' rows he hg
      obtain ⟨rfl, hlen, h⟩ := h
      obtain ⟨hu, hsz⟩ := elSz_some he
      obtain ⟨g, hg', rfl⟩ := rep_vec hx
      obtain ⟨g2, xs, hg2, hrow, _⟩ := (hs.sat.ob _ _ hg).vec
      rw [hg'] at hg2
      simp only [Option.some.injEq] at hg2
      subst hg2
      obtain ⟨gb, gc⟩ := g
      have hcap : rows.length ≤ gc := by
        rcases hrow.2 with ⟨hv, hz⟩ | ⟨_, _, _, hv, _, _, hle, _⟩
        · omega
        · simp only [headVal, Value.slice.injEq] at hv
          omega
      obtain ⟨l, e', hret, hle, hen, hrun⟩ := cut_run (P := P) k true len gc (by omega) lo hi lv hv w _ hl hl' hh hh' h
      obtain ⟨rfl, hret⟩ := hret
      refine ⟨_, hret, headVal (gb, gc) e', ?_, .vec _ _ _ hg'⟩
      have e0 : (gb.map fun b => (⟨b, 0, none⟩ : Addr)).map (·.add (0 * sz)) = gb.map fun b => (⟨b, 0, none⟩ : Addr) := by
        cases gb <;> simp [addr_add]
      have e1 : ∀ (x : Option Addr), x.map (·.add (0 * sz)) = x := fun x => by cases x <;> simp [Addr.add]
      simp only [headVal, Instr.slice, run_underlying hu, Sem.run_bind, Result.andThen_ok, hrun, sizeOf_run hsz w, e1]
      simp
    · exact h.elim
  · exact h.elim

end Go.VL

/- The calculus of values: putting structs together; lengths, conversions; all operations that leave the memory as it is, under one name. -/
namespace Go.VL
open Go

/-- A value of one cell. -/
def isOne : D → Bool
  | .u (.agg _) | .agg _ | .tup _ | .any => false
  | .u (.oth v) => v.oneCell'
  | _ => true
theorem isOne_rep {k : Kr} {d : D} {v : Value} (h : isOne d = true) (hr : Rep k d v) : v.oneCell' = true ∧ v.cells = #[v] := by
  have key : v.oneCell' = true := by
    cases hr with
    | u x v hu => cases hu <;> simp_all [isOne, Value.oneCell']
    | any v => simp [isOne] at h
    | ptr => rfl
    | vec => rfl
    | elt => rfl
    | mp => rfl
    | fnc => rfl
    | agg => simp [isOne] at h
    | tup => simp [isOne] at h
  refine ⟨key, ?_⟩
  cases v <;> simp_all [Value.oneCell', Value.cells]

/-- The cells of a value. -/
def cellsD : D → Option (List D)
  | .agg cs => some cs
  | .u (.agg us) => some (us.map .u)
  | d => if isOne d then some [d] else none
theorem cellsD_rep {k : Kr} {d : D} {cs : List D} {v : Value} (h : cellsD d = some cs) (hr : Rep k d v) :
    v.cells.size = cs.length ∧ ∀ j c, cs[j]? = some c → Rep k c (v.cells.getD j undef) := by
  unfold cellsD at h
  split at h
  · rename_i l
    simp at h; subst h
    obtain ⟨vs, hl, rfl, hc⟩ := rep_agg hr
    exact ⟨by simp [Value.cells, hl], fun j c hj => by simpa [Value.cells] using hc j c hj⟩
  · rename_i us
    simp at h; subst h
    obtain ⟨vs, hl, rfl, hc⟩ := rep_uagg hr
    refine ⟨by simp [Value.cells, hl], fun j c hj => ?_⟩
    rw [List.getElem?_map] at hj
    cases hu : us[j]? with
    | none => simp [hu] at hj
    | some x => simp [hu] at hj; subst hj; simpa [Value.cells] using Rep.u (k := k) _ _ (hc j x hu)
  · split at h
    · rename_i hone
      simp at h; subst h
      have hv := (isOne_rep hone hr).2
      refine ⟨by simp [hv], fun j c hj => ?_⟩
      cases j with
      | zero => simp at hj; subst hj; simpa [hv] using hr
      | succ j => simp at hj
    · cases h

def setAll {α : Type} : List α → Nat → List α → List α
  | cs, _, [] => cs
  | cs, o, d :: ds => setAll (cs.set o d) (o + 1) ds
theorem setAll_length {α : Type} : ∀ (ds cs : List α) (o : Nat), (setAll cs o ds).length = cs.length
  | [], _, _ => rfl
  | d :: ds, cs, o => by rw [setAll, setAll_length ds]; simp

/-- Cells that stand for cells. -/
def RepL (k : Kr) (ds : List D) (vs : Array Value) : Prop := vs.size = ds.length ∧ ∀ j d, ds[j]? = some d → Rep k d (vs.getD j undef)
theorem RepL.set {k ds vs} (h : RepL k ds vs) (o : Nat) {d v} (hr : Rep k d v) : RepL k (ds.set o d) (vs.setIfInBounds o v) := by
  refine ⟨by simp [h.1], fun j c hj => ?_⟩
  rw [List.getElem?_set] at hj
  by_cases he : o = j
  · subst he
    simp at hj
    obtain ⟨hlt, rfl⟩ := hj
    have : o < vs.size := by rw [h.1]; exact hlt
    simpa [this] using hr
  · rw [if_neg he] at hj
    have := h.2 j c hj
    simpa [Array.getElem?_setIfInBounds_ne he] using this
theorem RepL.setAll {k : Kr} : ∀ (news : List D) (nv : List Value) (ds : List D) (vs : Array Value) (o : Nat), RepL k ds vs → news.length = nv.length → (∀ j c, news[j]? = some c → Rep k c (nv.getD j undef)) →
    RepL k (setAll ds o news) ((nv.zipIdx 0).foldl (fun cs (x : Value × Nat) => cs.setIfInBounds (o + x.2) x.1) vs)
  | [], nv, ds, vs, o, h, hl, _ => by
    have : nv = [] := List.eq_nil_of_length_eq_zero hl.symm
    subst this
    simpa [VL.setAll] using h
  | d :: news, [], ds, vs, o, h, hl, _ => by simp at hl
  | d :: news, v :: nv, ds, vs, o, h, hl, hr => by
    have h1 := h.set o (hr 0 d rfl)
    have ih := RepL.setAll news nv _ _ (o + 1) h1 (by simpa using hl) (fun j c hj => by simpa using hr (j + 1) c (by simpa using hj))
    simp only [VL.setAll, List.zipIdx_cons, List.foldl_cons, Nat.add_zero]
    have e : ∀ (l : List Value) (n : Nat) (a : Array Value), (l.zipIdx (n + 1)).foldl (fun cs (x : Value × Nat) => cs.setIfInBounds (o + x.2) x.1) a =
        (l.zipIdx n).foldl (fun cs (x : Value × Nat) => cs.setIfInBounds (o + 1 + x.2) x.1) a := by
      intro l
      induction l with
      | nil => intro n a; rfl
      | cons y l ih =>
        intro n a
        simp only [List.zipIdx_cons, List.foldl_cons, ih]
        congr 2
        omega
    rw [Nat.zero_add, ← Nat.zero_add 1, e]
    exact ih

/-- The zero cells of a struct type, and its fields' places. -/
def zp (P : Program) (t : TypeId) : Option (List Value × List (Nat × Nat)) :=
  match P.info? t, P.underlying t with
  | some it, some (.struct fields) =>
    match it.zero, fields.toList.mapM (fun f => (P.info? f.type).map fun i => (f.offset, i.size)) with
    | some z, some places => some (z.cells.toList, places)
    | _, _ => none
  | _, _ => none

def fillD (places : List (Nat × Nat)) : List (Nat × D) → List D → (List D → Prop) → Prop
  | [], cs, k => k cs
  | (f, d) :: rest, cs, k => match places[f]?, cellsD d with
    | some (off, n), some new => new.length = n ∧ off + n ≤ cs.length ∧ fillD places rest (setAll cs off new) k
    | _, _ => False
theorem fillD_run {k : Kr} {places : List (Nat × Nat)} : ∀ {parts : List (Nat × D)} {pv : List (Nat × Value)} {cs : List D} {vs : Array Value} {K : List D → Prop},
    fillD places parts cs K → RepL k cs vs → parts.length = pv.length → (∀ (j : Nat) (p : Nat × D) (q : Nat × Value), parts[j]? = some p → pv[j]? = some q → q.1 = p.1 ∧ Rep k p.2 q.2) →
    ∃ cs' vs', K cs' ∧ RepL k cs' vs' ∧ Instr.fill (places[·]?) vs pv = some vs'
  | [], pv, cs, vs, K, h, hr, hl, _ => by
    have : pv = [] := List.eq_nil_of_length_eq_zero hl.symm
    subst this
    exact ⟨cs, vs, h, hr, rfl⟩
  | (f, d) :: parts, [], cs, vs, K, h, hr, hl, _ => by simp at hl
  | (f, d) :: parts, (g, v) :: pv, cs, vs, K, h, hr, hl, hp => by
    obtain ⟨hfg, hdv⟩ := hp 0 (f, d) (g, v) rfl rfl
    simp only at hfg hdv
    subst hfg
    unfold fillD at h
    split at h
    · rename_i off n new hpl hcd
      obtain ⟨hn, hle, h⟩ := h
      obtain ⟨h1, h2⟩ := cellsD_rep hcd hdv
      have h3 := RepL.setAll new v.cells.toList cs vs off hr (by simp [h1]) (fun j c hj => by simpa using h2 j c hj)
      obtain ⟨cs', vs', hk, hr', hf⟩ := fillD_run (pv := pv) h h3 (by simpa using hl) (fun j p q hj hq => hp (j + 1) p q (by simpa using hj) (by simpa using hq))
      refine ⟨cs', vs', hk, hr', ?_⟩
      have hg : ¬ (v.cells.size ≠ n ∨ off + v.cells.size > vs.size) := by
        rw [h1, hr.1]
        omega
      have e : (v.cells.zipIdx.foldl (fun cs (x : Value × Nat) => cs.setIfInBounds (off + x.2) x.1) vs) = (v.cells.toList.zipIdx 0).foldl (fun cs (x : Value × Nat) => cs.setIfInBounds (off + x.2) x.1) vs := by
        rw [← Array.foldl_toList]
        simp
      simp only [Instr.fill, hpl]
      rw [if_neg (by simpa using hg)]
      rw [e]
      exact hf
    · exact h.elim

def buildD (P : Program) (t : TypeId) (parts : List (Nat × D)) (ret : D → Prop) : Prop :=
  match zp P t with
  | some (z, places) => fillD places parts (z.map fun v => .u (uOf v)) fun cs => ret (mkAgg cs)
  | none => False
theorem repL_zero (k : Kr) (z : List Value) : RepL k (z.map fun v => .u (uOf v)) z.toArray := by
  refine ⟨by simp, fun j d hj => ?_⟩
  rw [List.getElem?_map] at hj
  cases hz : z[j]? with
  | none => simp [hz] at hj
  | some v =>
    simp [hz] at hj
    subst hj
    have : z.toArray.getD j undef = v := by simp [hz]
    rw [this]
    exact .u _ _ (uOf_rep _ _)
theorem buildD_run {P : Program} {k : Kr} {t parts ret} (h : buildD P t parts ret) (w : World) (pv : List (Nat × Value)) (hl : parts.length = pv.length)
    (hp : ∀ (j : Nat) (p : Nat × D) (q : Nat × Value), parts[j]? = some p → pv[j]? = some q → q.1 = p.1 ∧ Rep k p.2 q.2) :
    ∃ d, ret d ∧ ∃ u, (Instr.build t pv.toArray).run P w = .ok u w ∧ Rep k d u := by
  unfold buildD at h
  split at h
  · rename_i z places hz
    obtain ⟨cs', vs', hk, hr', hf⟩ := fillD_run h (repL_zero k z) hl hp
    refine ⟨_, hk, .agg vs', ?_, ?_⟩
    · refine run_build w t pv.toArray vs' ?_
      unfold zp at hz
      unfold Program.built
      split at hz
      · rename_i it fields hi hu
        split at hz
        · rename_i zv pl hzero hpl
          simp at hz
          obtain ⟨rfl, rfl⟩ := hz
          simp only [hi, hu, hzero, hpl]
          simpa using hf
        · cases hz
      · cases hz
    · have := mkAgg_rep (k := k) (cells := cs') (vs := vs'.toList) (by simp [hr'.1]) (fun j d hj => by simpa using hr'.2 j d hj)
      simpa using this
  · exact h.elim

def lenD (P : Program) (s : St) (t : TypeId) (x : D) (ret : D → Prop) : Prop :=
  match x with
  | .u (.str l) => isStr P t = true ∧ ret (.u (.int .i64 l.length))
  | .u (.sl rows) => (elSz P t).isSome = true ∧ ret (.u (.int .i64 rows.length))
  | .u .nil => (elSz P t).isSome = true ∧ ret (.u (.int .i64 0))
  | .vec i len => (elSz P t).isSome = true ∧ (match getK s.obs i with
    | some (.vec _ _ rows) => len ≤ rows.length ∧ ret (.u (.int .i64 len))
    | _ => False)
  | _ => False
theorem lenD_run {P : Program} {s t x ret} (h : lenD P s t x ret) {k own a w v} (hs : Sim k own s a w) (ty : TypeId) (hx : Rep k x v) :
    ∃ d, ret d ∧ ∃ u, (Builtin.len_ #[t] ty #[v]).run P w = .ok u w ∧ Rep k d u := by
  have hsl : (elSz P t).isSome = true → ∃ e, P.underlying t = some (.slice e) := fun hh => by
    obtain ⟨⟨e, sz⟩, he⟩ := Option.isSome_iff_exists.1 hh
    exact ⟨e, (elSz_some he).1⟩
  unfold lenD at h
  split at h
  · obtain ⟨ht, h⟩ := h
    rename_i l
    obtain rfl := rep_str hx
    have hsz : (⟨l.toArray⟩ : ByteArray).size = l.length := by show l.toArray.size = _; simp
    exact ⟨_, h, goInt l.length, by simp [Builtin.len_, run_underlying (isStr_some ht), hsz], .u _ _ (.int _ _)⟩
  · obtain ⟨ht, h⟩ := h
    rename_i rows
    obtain ⟨e, hu⟩ := hsl ht
    cases hx with
    | u _ _ hx => cases hx with
      | slE a c _ => exact ⟨_, h, goInt 0, by simp [Builtin.len_, run_underlying hu], .u _ _ (.int _ _)⟩
      | sl _ b o sz c f hc hcx =>
        exact ⟨_, h, goInt rows.length, by simp [Builtin.len_, run_underlying hu], .u _ _ (.int _ _)⟩
  · obtain ⟨ht, h⟩ := h
    obtain ⟨e, hu⟩ := hsl ht
    obtain rfl := rep_nil hx
    exact ⟨_, h, goInt 0, by simp [Builtin.len_, run_underlying hu], .u _ _ (.int _ _)⟩
  · obtain ⟨ht, h⟩ := h
    rename_i i len
    obtain ⟨e, hu⟩ := hsl ht
    split at h
    · rename_i e' sz' rows hg
      obtain ⟨hle, h⟩ := h
      obtain ⟨g, hg', rfl⟩ := rep_vec hx
      obtain ⟨g2, xs, hg2, hrow, _⟩ := (hs.sat.ob _ _ hg).vec
      exact ⟨_, h, goInt len, by simp [headVal, Builtin.len_, run_underlying hu], .u _ _ (.int _ _)⟩
    · exact h.elim
  · exact h.elim

/-- min and max of integers. -/
def minmaxD (isMax : Bool) (l : List D) (ret : D → Prop) : Prop :=
  match l with
  | [.u (.int k a), .u (.int k' b)] => k = k' ∧ ret (.u (.int k (if isMax then max a b else min a b)))
  | [.u (.int k a), .u (.int k' b), .u (.int k'' c)] => k = k' ∧ k = k'' ∧ ret (.u (.int k (if isMax then max (max a b) c else min (min a b) c)))
  | _ => False

theorem min2_run {P : Program} (k k' : IntKind) (a b : Int) (w : World) : (Builtin.min2 (.int k a) (.int k' b)).run P w = .ok (.int k (min a b)) w := by
  have : (if b < a then b else a) = min a b := by rw [Int.min_def]; split <;> split <;> omega
  simp [Builtin.min2, this]
theorem max2_run {P : Program} (k k' : IntKind) (a b : Int) (w : World) : (Builtin.max2 (.int k a) (.int k' b)).run P w = .ok (.int k (max a b)) w := by
  have : (if a < b then b else a) = max a b := by rw [Int.max_def]; split <;> split <;> omega
  simp [Builtin.max2, this]

end Go.VL

/- The calculus of values: maps, what they answer. -/
namespace Go.VL
open Go Go.MapKept

def keyU : U → Option Key
  | .str l => some (.s l)
  | .int k n => some (.i k n)
  | _ => none
def isAggV : Value → Bool
  | .agg _ => true
  | _ => false
def okZ (v : Value) : Bool := v.cells.toList.all (·.oneCell') && (match v with | .agg _ => true | v => v.oneCell')
/-- A type's zero value: whether it is a struct's, its cells. -/
def zeroA (P : Program) (t : TypeId) : Option (Bool × List U) :=
  match P.info? t with
  | some i => match i.zero with
    | some z => if okZ z = true then some (isAggV z, z.cells.toList.map uOf) else none
    | none => none
  | none => none
theorem uOf_row (m : Mem) (vs : List Value) : ∀ (j : Nat) (u : U), (vs.map uOf)[j]? = some u → RepU m u (vs.getD j undef) := fun j u hj => by
  rw [List.getElem?_map] at hj
  cases hc : vs[j]? with
  | none => rw [hc] at hj; cases hj
  | some v => rw [hc] at hj; cases hj; rw [List.getD_eq_getElem?_getD, hc]; exact uOf_rep m v
theorem zeroA_some {P : Program} {t ag z} (h : zeroA P t = some (ag, z)) : ∃ v, (∀ w, (zeroValue t).run P w = .ok v w) ∧ ∀ k, MV k ag (z.map .u) v := by
  unfold zeroA at h
  split at h
  · rename_i i hi
    split at h
    · rename_i v hz
      by_cases hc : okZ v = true
      · rw [if_pos hc] at h
        cases h
        refine ⟨v, fun w => by simp [zeroValue, typeInfo, hi, hz], fun k => ?_⟩
        unfold MV
        cases v with
        | agg cs =>
          rw [if_pos (by rfl)]
          refine ⟨cs.toList, by simp, by simp [Value.cells], fun j d hj => ?_⟩
          simp only [Value.cells, List.map_map, List.getElem?_map] at hj
          cases hq : cs.toList[j]? with
          | none => rw [hq] at hj; cases hj
          | some x =>
            rw [hq] at hj
            cases hj
            rw [List.getD_eq_getElem?_getD, hq]
            simp only [okZ, Bool.and_eq_true, List.all_eq_true] at hc
            exact ⟨hc.1 x (List.mem_of_getElem? hq), .u _ _ (uOf_rep _ x)⟩
        | _ =>
          rw [if_neg (by simp [isAggV])]
          exact ⟨_, rfl, by simp [okZ] at hc; exact hc.2, .u _ _ (uOf_rep _ _)⟩
      · rw [if_neg hc] at h
        cases h
    · cases h
  · cases h
/-- A map type: the kind of its keys, whether its elements are structs, their zero cells. -/
def mapInf (P : Program) (t : TypeId) : Option (KK × Bool × List U) :=
  match P.underlying t with
  | some (.map kt e) => match (match P.underlying kt with | some .string => some KK.s | some (.int k) => some (KK.i k) | _ => none), zeroA P e with
    | some kk, some (ag, z) => some (kk, ag, z)
    | _, _ => none
  | _ => none
def lookK {α : Type} : List (Key × List α) → Key → Option (List α)
  | [], _ => none
  | (k, c) :: l, x => if x = k then some c else lookK l x
def mkV (ag : Bool) (cells : List D) : Option D := if ag then some (mkAgg cells) else match cells with | [u] => some u | _ => none
/-- What a lookup hands out. -/
def lookR (ag : Bool) (z : List U) (r : Option (List D)) (ok : Bool) (ret : D → Prop) : Prop := match r with
  | some cells => (match mkV ag cells with | some u => ret (if ok then .tup [u, .u (.bool true)] else u) | none => False)
  | none => (match mkV ag (z.map .u) with | some u => ret (if ok then .tup [u, .u (.bool false)] else u) | none => False)
def lookD (P : Program) (s : St) (t : TypeId) (x i : D) (ok : Bool) (ret : D → Prop) : Prop :=
  match mapInf P t, x, i with
  | some (kk, ag, z), .mp m, .u key => match getK s.obs m, keyU key with
    | some (.map kk' ag' es), some key => kk = kk' ∧ ag = ag' ∧ key.kk = kk ∧ lookR ag z (lookK es key) ok ret
    | _, _ => False
  | some (kk, ag, z), .u (.map kk' ag' us), .u key => match keyU key with
    | some key => kk = kk' ∧ ag = ag' ∧ key.kk = kk ∧ lookR ag z ((lookK us key).map fun c => c.map .u) ok ret
    | none => False
  | _, _, _ => False
theorem lookK_map {α β : Type} (f : α → β) (key : Key) : ∀ (us : List (Key × List α)), lookK (us.map fun p => (p.1, p.2.map f)) key = (lookK us key).map fun c => c.map f
  | [] => rfl
  | (k, c) :: l => by
    simp only [List.map_cons, lookK]
    split
    · rfl
    · exact lookK_map f key l
/-- Entries of plain values. -/
def entD (us : List (Key × List U)) : List (Key × List D) := us.map fun p => (p.1, p.2.map .u)
theorem entD_nil : entD [] = [] := rfl
theorem lookK_entD (us : List (Key × List U)) (key : Key) : lookK (entD us) key = (lookK us key).map fun c => c.map .u := lookK_map _ _ _
theorem keyU_rep {m : Mem} {x : U} {v : Value} {key : Key} (h : keyU x = some key) (hr : RepU m x v) : v = key.val := by
  unfold keyU at h
  split at h <;> cases h <;> cases hr <;> rfl
theorem Key.isKey {P : Program} {kt : TypeId} {kk : KK} {key : Key} (h : (match P.underlying kt with | some .string => some KK.s | some (.int k) => some (KK.i k) | _ => none) = some kk) (hk : key.kk = kk) :
    ∃ d, P.underlying kt = some d ∧ IsKey d key.val := by
  split at h
  · rename_i hu
    cases h
    cases key with
    | s l => exact ⟨_, hu, by simp [IsKey, Key.val]⟩
    | i k n => simp [Key.kk] at hk
  · rename_i k hu
    cases h
    cases key with
    | s l => simp [Key.kk] at hk
    | i k' n => simp [Key.kk] at hk; subst hk; exact ⟨_, hu, by simp [IsKey, Key.val]⟩
  · cases h
theorem Key.val_inj {a b : Key} (h : a.val = b.val) : a = b := by
  cases a <;> cases b <;> simp [Key.val] at h ⊢
  · exact h
  · exact h
theorem lookK_none {α : Type} {key : Key} : ∀ {es : List (Key × List α)}, (∀ p ∈ es, p.1 ≠ key) → lookK es key = none
  | [], _ => rfl
  | (k, c) :: l, h => by
    rw [lookK, if_neg (fun e => h (k, c) (by simp) e.symm)]
    exact lookK_none fun p hp => h p (by simp [hp])
/-- What a map's machine value answers. -/
theorem map_find {P : Program} {kt : TypeId} {kk : KK} {ag : Bool} {key : Key} {k : Kr} {es : List (Key × List D)} {ents : Array MapEntry} {clock : Nat} {w : World} (h : (match P.underlying kt with | some .string => some KK.s | some (.int k) => some (KK.i k) | _ => none) = some kk)
    (hk : key.kk = kk) (hm : MapAt k kk ag es ents clock) :
    ((Instr.findKey kt key.val ents.toList).run P w = .ok none w ∧ ∀ p ∈ es, p.1 ≠ key) ∨
    ∃ (j : Nat) (en : MapEntry) (p : Key × List D), (Instr.findKey kt key.val ents.toList).run P w = .ok (some (j, en.val)) w ∧ ents[j]? = some en ∧ es[j]? = some p ∧ p.1 = key ∧ MV k ag p.2 en.val := by
  obtain ⟨d, hu, hik⟩ := Key.isKey h hk
  have hall : ∀ x ∈ ents.toList, IsKey d x.key := fun x hx => by
    obtain ⟨j, hj⟩ := List.getElem?_of_mem hx
    have hjl := (List.getElem?_eq_some_iff.1 hj).1
    have hjs : j < es.length := by simp at hjl; rw [← hm.size]; exact hjl
    obtain ⟨en, h1, h2, _⟩ := hm.ent j es[j] (List.getElem?_eq_getElem hjs)
    have : x = en := by
      rw [Array.getElem?_toList, h1] at hj
      exact (Option.some.inj hj).symm
    subst this
    rw [h2]
    obtain ⟨d', hu', hk'⟩ := Key.isKey (key := (es[j]).1) h (hm.kind _ (List.getElem_mem hjs))
    rw [hu] at hu'
    cases hu'
    exact hk'
  rcases findNow_spec hik ents.toList 0 hall with ⟨h1, h2⟩ | ⟨j, e, h1, h2, h3⟩
  · refine .inl ⟨run_findKey hu h1, fun p hp e => ?_⟩
    obtain ⟨j, hj⟩ := List.getElem?_of_mem hp
    obtain ⟨en, h4, h5, _⟩ := hm.ent j p hj
    exact h2 en (List.mem_of_getElem? (by rw [Array.getElem?_toList]; exact h4)) (by rw [h5, e])
  · have hj : ents[j]? = some e := by rw [← Array.getElem?_toList]; exact h2
    have hjl := (Array.getElem?_eq_some_iff.1 hj).1
    have hjs : j < es.length := by rw [← hm.size]; exact hjl
    obtain ⟨en, h4, h5, h6⟩ := hm.ent j es[j] (List.getElem?_eq_getElem hjs)
    rw [hj] at h4
    cases h4
    exact .inr ⟨j, e, es[j], by have := run_findKey (P := P) (w := w) hu h1; rwa [Nat.zero_add] at this, hj, List.getElem?_eq_getElem hjs, Key.val_inj (h5.symm.trans h3), h6⟩
theorem lookK_some {α : Type} {key : Key} : ∀ {es : List (Key × List α)} {j : Nat} {p : Key × List α}, es.Pairwise (fun p q => p.1 ≠ q.1) → es[j]? = some p → p.1 = key → lookK es key = some p.2
  | [], j, p, _, hj, _ => by simp at hj
  | (k, c) :: l, 0, p, _, hj, hk => by
    simp at hj
    subst hj
    rw [lookK, if_pos hk.symm]
  | (k, c) :: l, j + 1, p, hn, hj, hk => by
    rw [List.pairwise_cons] at hn
    have hj' : l[j]? = some p := by simpa using hj
    rw [lookK, if_neg (fun e => hn.1 p (List.mem_of_getElem? hj') (by rw [hk, e]))]
    exact lookK_some hn.2 hj' hk
theorem perm_once {α : Type} {es es' : List (Key × List α)} (hp : es.Perm es') (h : es.Pairwise fun p q => p.1 ≠ q.1) : es'.Pairwise fun p q => p.1 ≠ q.1 :=
  hp.pairwise h fun e => e.symm
theorem lookK_perm {α : Type} {key : Key} {es es' : List (Key × List α)} (hp : es.Perm es') (h : es.Pairwise fun p q => p.1 ≠ q.1) : lookK es key = lookK es' key := by
  by_cases hk : ∃ p ∈ es, p.1 = key
  · obtain ⟨p, hm, hk⟩ := hk
    obtain ⟨j, hj⟩ := List.getElem?_of_mem hm
    obtain ⟨j', hj'⟩ := List.getElem?_of_mem (hp.mem_iff.1 hm)
    rw [lookK_some h hj hk, lookK_some (perm_once hp h) hj' hk]
  · have h1 : ∀ p ∈ es, p.1 ≠ key := fun p hm e => hk ⟨p, hm, e⟩
    rw [lookK_none h1, lookK_none fun p hm => h1 p (hp.mem_iff.2 hm)]
theorem mapInf_some {P : Program} {t kk ag z} (h : mapInf P t = some (kk, ag, z)) : ∃ kt e, P.underlying t = some (.map kt e) ∧ (match P.underlying kt with | some .string => some KK.s | some (.int k) => some (KK.i k) | _ => none) = some kk ∧ zeroA P e = some (ag, z) := by
  unfold mapInf at h
  split at h
  · rename_i kt e hu
    split at h
    · rename_i kk' ag' z' h1 h2
      cases h
      exact ⟨kt, e, hu, h1, h2⟩
    · cases h
  · cases h
theorem mkV_rep {k : Kr} {ag cells u v} (h : mkV ag cells = some u) (hm : MV k ag cells v) : Rep k u v := by
  unfold mkV at h
  unfold MV at hm
  cases ag with
  | true =>
    rw [if_pos rfl] at h hm
    cases h
    obtain ⟨vs, rfl, h1, h2⟩ := hm
    exact mkAgg_rep h1 fun j d hj => (h2 j d hj).2
  | false =>
    rw [if_neg (by simp)] at h hm
    obtain ⟨x, rfl, _, hx⟩ := hm
    cases h
    exact hx
theorem lookR_run {P : Program} {kt e : TypeId} {kk : KK} {ag : Bool} {z : List U} {key : Key} {es : List (Key × List D)} {ents : Array MapEntry} {clock b t : Nat} {w : World} {k : Kr} {ok : Bool} {ret : D → Prop} (hu : P.underlying t = some (.map kt e))
    (hkk : (match P.underlying kt with | some .string => some KK.s | some (.int k) => some (KK.i k) | _ => none) = some kk) (hzc : zeroA P e = some (ag, z)) (hkk2 : key.kk = kk) (hm : MapAt k kk ag es ents clock)
    (hheap : w.heap[b]? = some (.map ents clock)) (h : lookR ag z (lookK es key) ok ret) : ∃ d, ret d ∧ ∃ u, (Instr.lookup t (.map (some b)) key.val ok).run P w = .ok u w ∧ Rep k d u := by
  obtain ⟨d, hud, hik⟩ := Key.isKey hkk hkk2
  obtain ⟨zv, hzv, hz1⟩ := zeroA_some hzc
  have hrun : ∀ r, (Instr.findKey kt key.val ents.toList).run P w = .ok r w → (Instr.lookup t (.map (some b)) key.val ok).run P w = .ok (if ok then .tuple #[(match r with | some (_, v) => v | none => zv), .bool r.isSome] else (match r with | some (_, v) => v | none => zv)) w := fun r hr => by
    unfold Instr.lookup
    cases r with
    | none =>
      simp only [Sem.run_bind, run_underlying hu, Result.andThen_ok, MapKept.run_getObj_map hheap, run_checkKey hud hik, hr, hzv, Sem.run_pure]
      cases ok <;> simp [hzv]
    | some p =>
      obtain ⟨j, v⟩ := p
      simp only [Sem.run_bind, run_underlying hu, Result.andThen_ok, MapKept.run_getObj_map hheap, run_checkKey hud hik, hr, Sem.run_pure]
      cases ok <;> simp
  have fin : ∀ (u : D) (v : Value) (b : Bool), Rep k u v → Rep k (if ok then .tup [u, .u (.bool b)] else u) (if ok then .tuple #[v, .bool b] else v) := fun u v b hr => by
    cases ok with
    | false => exact hr
    | true =>
      refine .tup _ [v, .bool b] rfl fun j d hj => ?_
      match j, hj with
      | 0, hj => simp at hj; subst hj; exact hr
      | 1, hj => simp at hj; subst hj; exact .u _ _ (.bool b)
  unfold lookR at h
  rcases map_find (P := P) (w := w) hkk hkk2 hm with ⟨h1, h2⟩ | ⟨j, en, p, h1, h2, h3, h4, h5⟩
  · rw [lookK_none h2] at h
    simp only at h
    split at h
    · rename_i u hu'
      exact ⟨_, h, _, hrun none h1, fin u zv false (mkV_rep hu' (hz1 _))⟩
    · exact h.elim
  · rw [lookK_some hm.once h3 h4] at h
    simp only at h
    split at h
    · rename_i u hu'
      exact ⟨_, h, _, hrun _ h1, fin u en.val true (mkV_rep hu' h5)⟩
    · exact h.elim
theorem lookD_run {P : Program} {s : St} {t x i ok ret} (h : lookD P s t x i ok ret) {k own a w v iv} (hs : Sim k own s a w) (hx : Rep k x v) (hi : Rep k i iv) :
    ∃ d, ret d ∧ ∃ u, (Instr.lookup t v iv ok).run P w = .ok u w ∧ Rep k d u := by
  unfold lookD at h
  split at h
  · rename_i kk ag z m key hinf
    obtain ⟨kt, e, hu, hkk, hzc⟩ := mapInf_some hinf
    split at h
    · rename_i kk' ag' es ky hg hky
      obtain ⟨rfl, rfl, hkk2, h⟩ := h
      obtain ⟨b, c, ents, clock, es0, hh, hown, hheap, hpm, hm, hno⟩ := (hs.sat.ob m _ hg).map
      obtain ⟨b', c', hh', rfl⟩ := rep_mp hx
      rw [hh] at hh'
      cases hh'
      have hiv : iv = ky.val := by cases hi with | u _ _ hi => exact keyU_rep hky hi
      subst hiv
      rw [← lookK_perm hpm hm.once] at h
      exact lookR_run hu hkk hzc hkk2 hm hheap h
    · exact h.elim
  · rename_i kk ag z kk' ag' us key hinf
    obtain ⟨kt, e, hu, hkk, hzc⟩ := mapInf_some hinf
    split at h
    · rename_i ky hky
      obtain ⟨rfl, rfl, hkk2, h⟩ := h
      have hiv : iv = ky.val := by cases hi with | u _ _ hi => exact keyU_rep hky hi
      subst hiv
      cases hx with | u _ _ hx =>
        obtain ⟨b, ents, clock, us1, hpm, rfl, hb, hm⟩ := RepU.toMap hx
        refine lookR_run hu hkk hzc hkk2 hm (look_map (hs.sat.mem _ _ _ hb)) ?_
        rw [lookK_perm (hpm.map _) hm.once, lookK_map]
        exact h
    · exact h.elim
  · exact h.elim
end Go.VL
