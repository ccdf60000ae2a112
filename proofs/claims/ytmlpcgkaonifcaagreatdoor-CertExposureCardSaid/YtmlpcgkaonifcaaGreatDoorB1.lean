import Derived.WalkKit
import Derived.WalkSpells
import Derived.WalkLawsBesides
import Derived.Maps.AppendAt
import Derived.Lib.SliceRun
import Derived.Laws.StructEq
import Derived.Deep.MidRow
import Derived.MapKept
import Derived.Laws.IdiomRangeMap
set_option linter.all false
set_option maxRecDepth 100000
set_option maxHeartbeats 8000000
theorem zzA (n m k : Nat) : n + m + k = n + (m + k) := Nat.add_assoc n m k
theorem zzC.{u, v} {α : Type u} {β : Type v} {f : α -> β} {a : α} {l : List α} : (a :: l).map f = f a :: l.map f := rfl
theorem zzD.{u, v} {α : Type u} {β : Type v} {f : α -> β} : ([] : List α).map f = [] := rfl
namespace Go.VL
open Go
inductive Key where
 | s (l : List UInt8)
 | i (k : IntKind) (n : Int)
 deriving DecidableEq
inductive KK where
 | s
 | i (k : IntKind)
 deriving DecidableEq
def Key.kk : Key -> KK
 | .s _ => .s
 | .i k _ => .i k
def Key.val : Key -> Value
 | .s l => .string ⟨l.toArray⟩
 | .i k n => .int k n
inductive U where
 | int (k : IntKind) (n : Int)
 | bool (b : Bool)
 | str (l : List UInt8)
 | oth (v : Value)
 | nil
 | sl (rows : List (List U))
 | row (cells : List U) (off : Nat)
 | agg (cells : List U)
 | map (kk : KK) (ag : Bool) (es : List (Key × List U))
 deriving Inhabited
inductive D where
 | u (x : U)
 | ptr (i off : Nat)
 | vec (i len : Nat)
 | elt (i sz idx off : Nat)
 | mp (i : Nat)
 | fnc (f : Fn) (caps : List D)
 | bnd (f : Fn) (first : List D)
 | agg (cells : List D)
 | tup (vs : List D)
 | any
 deriving Inhabited
inductive Known where
 | val (v : Value)
 | map (ents : Array MapEntry) (clock : Nat)
 | fin
abbrev Mem := Nat -> Nat -> Option Known
def Known.get : Option Known -> Value
 | some (.val v) => v
 | _ => undef
def look (w : World) (b o : Nat) : Option Known := match w.heap[b]? with
 | some (.map ents clock) => if o = 0 then some (.map ents clock) else none
 | some (.cells cs _ _) => match cs[o]? with
  | some v => some (.val v)
  | none => if o = cs.size then some .fin else none
 | _ => (w.cell? ⟨b, o, none⟩).map .val
theorem ztf {w : World} {b o v} (h : look w b o = some (.val v)) : w.cell? ⟨b, o, none⟩ = some v := by
 unfold look at h;split at h
 ·split at h <;> cases h
 ·grind [World.cell?]
 ·simp_all
theorem zh6 {w : World} {b o ents clock} (h : look w b o = some (.map ents clock)) : w.heap[b]? = some (.map ents clock) := by
 unfold look at h;split at h
 ·simp_all
 ·grind
 ·simp_all
theorem zep {w : World} {b o v} (h : w.cell? ⟨b, o, none⟩ = some v) : look w b o = some (.val v) := by
 unfold look;split
 ·simp_all [World.cell?]
 ·simp_all [World.cell?]
 ·rw [h]; rfl
theorem ztg {w : World} {b : Nat} {cs t fr} (h : w.heap[b]? = some (.cells cs t fr)) : look w b cs.size = some .fin := by
 unfold look; rw [h]; simp
theorem ziE {w : World} {b ents clock} (h : w.heap[b]? = some (.map ents clock)) : look w b 0 = some (.map ents clock) := by
 unfold look; rw [h]; rfl
theorem zq3 {w w' : World} {b : Nat} (h : w'.heap[b]? = w.heap[b]?) (o : Nat) : look w' b o = look w b o := by
 simp [look, World.cell?, h]
theorem zvj {w : World} {b o : Nat} {v : Known} (h : look w b o = some v) : b < w.heap.size := by
 rcases Nat.lt_or_ge b w.heap.size with hl | hl
 ·exact hl
 ·simp_all [look, World.cell?, Array.getElem?_eq_none]
structure MapSh (kk : KK) (es : List Key) (ents : Array MapEntry) (clock : Nat) : Prop where
 size : ents.size = es.length
 kind : ∀ p ∈ es, p.kk = kk
 once : es.Pairwise fun p q => p ≠ q
 ent : ∀ (i : Nat) (p : Key), es[i]? = some p -> ∃ en : MapEntry, ents[i]? = some en /\ en.key = p.val
 born : ∀ (i : Nat) (en : MapEntry), ents[i]? = some en -> en.born < clock
 apart : ∀ (i j : Nat) (en en' : MapEntry), ents[i]? = some en -> ents[j]? = some en' -> en.born = en'.born -> i = j
inductive RepU (m : Mem) : U -> Value -> Prop
 | int (k n) : RepU m (.int k n) (.int k n)
 | bool (b) : RepU m (.bool b) (.bool b)
 | str (l : List UInt8) : RepU m (.str l) (.string ⟨l.toArray⟩)
 | oth (v) : RepU m (.oth v) v
 | nil : RepU m .nil (.slice none 0 0)
 | slE (a c) (h : a = none -> c = 0) : RepU m (.sl []) (.slice a 0 c)
 | sl (rows : List (List U)) (b o sz c : Nat) (f : Nat -> Nat -> Value)
   (hc : rows.length <= c) (hx : c <= maxLen) (hsz : ∀ r ∈ rows, r.length = sz)
   (hm : ∀ i, i < rows.length -> ∀ j, j < sz -> m b (o + i * sz + j) = some (.val (f i j)))
   (hr : ∀ i r, rows[i]? = some r -> ∀ j u, r[j]? = some u -> RepU m u (f i j)) :
   RepU m (.sl rows) (.slice (some ⟨b, o, none⟩) rows.length c)
 | row (cells : List U) (off b o : Nat) (f : Nat -> Value)
   (hm : ∀ j, j < cells.length -> m b (o + j) = some (.val (f j)))
   (hr : ∀ j u, cells[j]? = some u -> RepU m u (f j)) :
   RepU m (.row cells off) (.pointer (some ⟨b, o + off, none⟩))
 | agg (cells : List U) (vs : List Value) (hl : cells.length = vs.length)
   (hr : ∀ j u, cells[j]? = some u -> RepU m u (vs.getD j undef)) :
   RepU m (.agg cells) (.agg vs.toArray)
 | map (kk : KK) (ag : Bool) (es0 es : List (Key × List U)) (hp : es.Perm es0) (b : Nat) (ents : Array MapEntry) (clock : Nat) (f : Nat -> Nat -> Value)
   (hm : m b 0 = some (.map ents clock)) (hs : MapSh kk (es.map (·.1)) ents clock)
   (hf : ∀ (i : Nat) (p : Key × List U) (en : MapEntry), es[i]? = some p -> ents[i]? = some en -> (if ag = true then ∃ vs : List Value, en.val = .agg vs.toArray /\ p.2.length = vs.length /\ ∀ (j : Nat), j < vs.length -> vs.getD j undef = f i j else p.2.length = 1 /\ en.val = f i 0) /\ ∀ (j : Nat), j < p.2.length -> (f i j).oneCell' = true)
   (hr : ∀ (i : Nat) (p : Key × List U), es[i]? = some p -> ∀ (j : Nat) (u : U), p.2[j]? = some u -> RepU m u (f i j)) :
   RepU m (.map kk ag es0) (.map (some b))
def globs : List (Nat × List Value) := [(0, [.string ⟨#[61, 61]⟩, .string ⟨#[59]⟩, .string ⟨#[44]⟩, .string ⟨#[61]⟩, .string ⟨#[60]⟩, .string ⟨#[43]⟩, .string ⟨#[45]⟩, .string ⟨#[42]⟩, .string ⟨#[47]⟩, .string ⟨#[40]⟩, .string ⟨#[41]⟩])]
def zBZ : List Nat := []
structure GlobIn (m : Mem) : Prop where
 tab : ∀ p ∈ globs, (∀ j, j < p.2.length -> m p.1 j = some (.val (p.2.getD j undef))) /\ m p.1 p.2.length = some .fin
 ifc : ∀ g ∈ zBZ, ∃ t v, m g 0 = some (.val (.iface t v))
structure Kr where
 mem : Mem
 hdr : Nat -> Option (Option Nat × Nat)
 glob : GlobIn mem
theorem GlobIn.mono {m m' : Mem} (h : GlobIn m) (hm : ∀ b o v, m b o = some v -> m' b o = some v) : GlobIn m' := ⟨fun p hp => ⟨fun j hj => hm _ _ _ ((h.tab p hp).1 j hj), hm _ _ _ (h.tab p hp).2⟩, fun g hg => let ⟨t, v, e⟩ := h.ifc g hg; ⟨t, v, hm _ _ _ e⟩⟩
def za8 (h : Option Nat × Nat) (len : Nat) : Value := .slice (h.1.map fun b => ⟨b, 0, none⟩) len h.2
inductive Rep (k : Kr) : D -> Value -> Prop
 | u (x v) (h : RepU k.mem x v) : Rep k (.u x) v
 | any (v) : Rep k .any v
 | ptr (i off b c) (h : k.hdr i = some (some b, c)) : Rep k (.ptr i off) (.pointer (some ⟨b, off, none⟩))
 | vec (i len h) (hh : k.hdr i = some h) : Rep k (.vec i len) (za8 h len)
 | mp (i b c) (h : k.hdr i = some (some b, c)) : Rep k (.mp i) (.map (some b))
 | elt (i sz idx off b c) (h : k.hdr i = some (some b, c)) : Rep k (.elt i sz idx off) (.pointer (some ⟨b, idx * sz + off, none⟩))
 | fnc (f : Fn) (caps : List D) (vs : List Value) (hl : caps.length = vs.length)
   (hr : ∀ j d, caps[j]? = some d -> Rep k d (vs.getD j undef)) : Rep k (.fnc f caps) (.func f #[] vs.toArray)
 | bnd (f : Fn) (caps : List D) (vs : List Value) (hl : caps.length = vs.length)
   (hr : ∀ j d, caps[j]? = some d -> Rep k d (vs.getD j undef)) : Rep k (.bnd f caps) (.func f vs.toArray #[])
 | agg (cells : List D) (vs : List Value) (hl : cells.length = vs.length)
   (hr : ∀ j d, cells[j]? = some d -> Rep k d (vs.getD j undef)) : Rep k (.agg cells) (.agg vs.toArray)
 | tup (cells : List D) (vs : List Value) (hl : cells.length = vs.length)
   (hr : ∀ j d, cells[j]? = some d -> Rep k d (vs.getD j undef)) : Rep k (.tup cells) (.tuple vs.toArray)
def Mem.le (m m' : Mem) : Prop := ∀ b o v, m b o = some v -> m' b o = some v
theorem Mem.le.refl (m : Mem) : m.le m := fun _ _ _ h => h
theorem Mem.le.trans {a b c : Mem} (h : a.le b) (g : b.le c) : a.le c := fun _ _ _ e => g _ _ _ (h _ _ _ e)
theorem RepU.mono {m m' : Mem} {x : U} {v : Value} (h : RepU m x v) (hm : m.le m') : RepU m' x v := by
 induction h with
 | int k n => exact .int k n
 | bool b => exact .bool b
 | str l => exact .str l
 | oth v => exact .oth v
 | nil => exact .nil
 | slE a c h => exact .slE a c h
 | sl rows b o sz c f hc hx hsz hmm hr ih => exact .sl rows b o sz c f hc hx hsz (fun i hi j hj => hm _ _ _ (hmm i hi j hj)) ih
 | row cells off b o f hmm hr ih => exact .row cells off b o f (fun j hj => hm _ _ _ (hmm j hj)) ih
 | agg cells vs hl hr ih => exact .agg cells vs hl ih
 | map kk ag es0 es hp b ents clock f hmm hs hf hr ih => exact .map kk ag es0 es hp b ents clock f (hm _ _ _ hmm) hs hf ih
structure Kr.le (k k' : Kr) : Prop where
 mem : k.mem.le k'.mem
 hdr : ∀ i h, k.hdr i = some h -> k'.hdr i = some h
theorem Kr.le.refl (k : Kr) : k.le k := ⟨.refl _, fun _ _ h => h⟩
theorem Kr.le.trans {a b c : Kr} (h : a.le b) (g : b.le c) : a.le c := ⟨h.mem.trans g.mem, fun _ _ e => g.hdr _ _ (h.hdr _ _ e)⟩
theorem Rep.mono {k k' : Kr} {d : D} {v : Value} (h : Rep k d v) (hk : k.le k') : Rep k' d v := by
 induction h with
 | u x v h => exact .u x v (h.mono hk.mem)
 | any v => exact .any v
 | ptr i off b c h => exact .ptr i off b c (hk.hdr _ _ h)
 | vec i len h hh => exact .vec i len h (hk.hdr _ _ hh)
 | mp i b c h => exact .mp i b c (hk.hdr _ _ h)
 | elt i sz idx off b c h => exact .elt i sz idx off b c (hk.hdr _ _ h)
 | fnc f caps vs hl hr ih => exact .fnc f caps vs hl ih
 | bnd f caps vs hl hr ih => exact .bnd f caps vs hl ih
 | agg cells vs hl hr ih => exact .agg cells vs hl ih
 | tup cells vs hl hr ih => exact .tup cells vs hl ih
inductive Ob where
 | box (cells : List D)
 | vec (e sz : Nat) (rows : List (List D))
 | map (kk : KK) (ag : Bool) (es : List (Key × List D))
 | it (kk : KK) (ag : Bool) (es left : List (Key × List U)) (cur : Option (Key × List U))
 | nw (t : TypeId)
 | sit (s : List UInt8) (pos : Nat)
 deriving Inhabited
def getK {α : Type} : List (Nat × α) -> Nat -> Option α
 | [], _ => none
 | (k, d) :: l, x => if x = k then some d else getK l x
def zdQ (k : Kr) (d : D) (v : Value) : Prop := v.oneCell' = true /\ Rep k d v
def MV (k : Kr) (ag : Bool) (cells : List D) (v : Value) : Prop := if ag = true then ∃ vs : List Value, v = .agg vs.toArray /\ cells.length = vs.length /\ ∀ (j : Nat) (d : D), cells[j]? = some d -> zdQ k d (vs.getD j undef) else ∃ d, cells = [d] /\ zdQ k d v
theorem MV.mono {k k' : Kr} {ag cells v} (h : MV k ag cells v) (hm : k.le k') : MV k' ag cells v := by
 unfold MV at h ⊢;split
 ·rename_i e; rw [if_pos e] at h;obtain ⟨vs, h1, h2, h3⟩ := h;exact ⟨vs, h1, h2, fun j d hj => ⟨(h3 j d hj).1, (h3 j d hj).2.mono hm⟩⟩
 ·rename_i e;rw [if_neg e] at h;obtain ⟨u, h1, h2, h3⟩ := h;exact ⟨u, h1, h2, h3.mono hm⟩
structure MapAt (k : Kr) (kk : KK) (ag : Bool) (es : List (Key × List D)) (ents : Array MapEntry) (clock : Nat) : Prop where
 size : ents.size = es.length
 kind : ∀ p ∈ es, p.1.kk = kk
 once : es.Pairwise fun p q => p.1 ≠ q.1
 ent : ∀ (i : Nat) (p : Key × List D), es[i]? = some p -> ∃ en : MapEntry, ents[i]? = some en /\ en.key = p.1.val /\ MV k ag p.2 en.val
 born : ∀ (i : Nat) (en : MapEntry), ents[i]? = some en -> en.born < clock
 apart : ∀ (i j : Nat) (en en' : MapEntry), ents[i]? = some en -> ents[j]? = some en' -> en.born = en'.born -> i = j
theorem MapAt.mono {k k' : Kr} {kk ag es ents clock} (h : MapAt k kk ag es ents clock) (hm : k.le k') : MapAt k' kk ag es ents clock :=
 ⟨h.size, h.kind, h.once, fun i p hp => let ⟨en, h1, h2, h3⟩ := h.ent i p hp; ⟨en, h1, h2, h3.mono hm⟩, h.born, h.apart⟩
theorem MapAt.sh {k : Kr} {kk ag es ents clock} (h : MapAt k kk ag es ents clock) : MapSh kk (es.map (·.1)) ents clock := by
 refine ⟨by simp [h.size], fun p hp => ?_, by rw [List.pairwise_map]; exact h.once, fun i p hp => ?_, h.born, h.apart⟩
 ·obtain ⟨q, hq, rfl⟩ := List.mem_map.1 hp;exact h.kind q hq
 ·rw [List.getElem?_map] at hp;cases hq : es[i]? with
  | none => rw [hq] at hp; cases hp
  | some q => rw [hq] at hp; cases hp; obtain ⟨en, h1, h2, _⟩ := h.ent i q hq; exact ⟨en, h1, h2⟩
def zhs (ag : Bool) (v : Value) (j : Nat) : Value := if ag = true then (match v with | .agg vs => vs.toList.getD j undef | _ => undef) else v
theorem MapAt.toU {k : Kr} {kk ag ents clock b} {es : List (Key × List D)} {us us0 : List (Key × List U)} (h : MapAt k kk ag es ents clock) (e : es = us.map fun p => (p.1, p.2.map .u)) (hp : us.Perm us0) {m : Mem} (hb : m b 0 = some (.map ents clock)) (hm : k.mem.le m) : RepU m (.map kk ag us0) (.map (some b)) := by
 have hus : ∀ (i : Nat) (p : Key × List U), us[i]? = some p -> es[i]? = some (p.1, p.2.map .u) := fun i p hp => by rw [e, List.getElem?_map, hp]; rfl
 refine .map kk ag us0 us hp b ents clock (fun i j => zhs ag (((ents[i]?).map (·.val)).getD undef) j) hb ?_ (fun i p en hp hen => ?_) (fun i p hp j u hj => ?_)
 ·have := h.sh;rw [e, List.map_map] at this;exact this
 ·obtain ⟨en', h1, h2, h3⟩ := h.ent i _ (hus i p hp);rw [hen] at h1;cases h1;unfold MV at h3;simp only [hen, Option.map_some, Option.getD_some];cases ag with
  | true =>
   rw [if_pos rfl] at h3 ⊢;obtain ⟨vs, h4, h5, h6⟩ := h3;simp only [h4, zhs, if_true];refine ⟨⟨vs, rfl, by simpa using h5, fun j _ => rfl⟩, fun j hj => ?_⟩;exact (h6 j (.u p.2[j]) (by simp [hj])).1
  | false =>
   rw [if_neg (by simp)] at h3 ⊢;obtain ⟨d, h4, h5⟩ := h3;have hl : p.2.length = 1 := by have := congrArg List.length h4; simpa using this
   exact ⟨⟨hl, by simp [zhs]⟩, fun j hj => by simp only [zhs, Bool.false_eq_true, if_false]; exact h5.1⟩
 ·obtain ⟨en, h1, h2, h3⟩ := h.ent i _ (hus i p hp);unfold MV at h3;simp only [h1, Option.map_some, Option.getD_some];cases ag with
  | true =>
   rw [if_pos rfl] at h3;obtain ⟨vs, h4, h5, h6⟩ := h3;simp only [h4, zhs, if_true];have := (h6 j (.u u) (by simp [hj])).2;cases this with | u _ _ this => exact this.mono hm
  | false =>
   rw [if_neg (by simp)] at h3;obtain ⟨d, h4, h5⟩ := h3;obtain ⟨q, hq⟩ : ∃ q, p.2 = [q] := List.length_eq_one_iff.1 (by have := congrArg List.length h4; simpa using this);simp only at h4;rw [hq] at h4 hj;simp only [zzC, zzD, List.cons.injEq, and_true] at h4;subst h4
   match j, hj with
   | 0, hj =>
    simp at hj;subst hj;have := h5.2;cases this with | u _ _ this =>
     have h7 := this.mono hm;simpa [zhs] using h7
theorem RepU.zw2 {k : Kr} {kk ag us0 v} (h : RepU k.mem (.map kk ag us0) v) : ∃ (b : Nat) (ents : Array MapEntry) (clock : Nat) (us : List (Key × List U)), us.Perm us0 /\ v = .map (some b) /\ k.mem b 0 = some (.map ents clock) /\ MapAt k kk ag (us.map fun p => (p.1, p.2.map .u)) ents clock := by
 cases h with
 | map kk ag _ us hp b ents clock f hm hs hf hr =>
  refine ⟨b, ents, clock, us, hp, rfl, hm, ⟨by simpa using hs.size, fun p hp => ?_, ?_, fun i p hp => ?_, hs.born, hs.apart⟩⟩
  ·obtain ⟨q, hq, rfl⟩ := List.mem_map.1 hp;exact hs.kind q.1 (List.mem_map.2 ⟨q, hq, rfl⟩)
  ·have := hs.once;rw [List.pairwise_map] at this ⊢;exact this
  ·rw [List.getElem?_map] at hp;cases hq : us[i]? with
   | none => rw [hq] at hp; cases hp
   | some q =>
    rw [hq] at hp;cases hp;obtain ⟨en, h1, h2⟩ := hs.ent i q.1 (by rw [List.getElem?_map, hq]; rfl);obtain ⟨h3, h4⟩ := hf i q en hq h1;refine ⟨en, h1, h2, ?_⟩;unfold MV;cases ag with
    | true =>
     rw [if_pos rfl] at h3 ⊢;obtain ⟨vs, h5, h6, h7⟩ := h3;refine ⟨vs, h5, by simpa using h6, fun j d hj => ?_⟩;simp only [List.getElem?_map] at hj;cases hu : q.2[j]? with
     | none => rw [hu] at hj; cases hj
     | some u =>
      rw [hu] at hj;cases hj;have hjl := (List.getElem?_eq_some_iff.1 hu).1;rw [h7 j (by omega)];exact ⟨h4 j hjl, .u _ _ (hr i q hq j u hu)⟩
    | false =>
     rw [if_neg (by simp)] at h3 ⊢;obtain ⟨h5, h6⟩ := h3;obtain ⟨u, hu⟩ := List.length_eq_one_iff.1 h5;refine ⟨.u u, by simp [hu], ?_⟩;rw [h6];exact ⟨h4 0 (by omega), .u _ _ (hr i q hq 0 u (by simp [hu]))⟩
theorem MapAt.pure {k k' : Kr} {kk ag ents clock} {us : List (Key × List U)} (h : MapAt k kk ag (us.map fun p => (p.1, p.2.map .u)) ents clock) (hm : k.mem.le k'.mem) : MapAt k' kk ag (us.map fun p => (p.1, p.2.map .u)) ents clock := by
 have one : ∀ u v, zdQ k (.u u) v -> zdQ k' (.u u) v := fun u v g => ⟨g.1, by cases g.2 with | u _ _ g => exact .u _ _ (g.mono hm)⟩;refine ⟨h.size, h.kind, h.once, fun i p hp => ?_, h.born, h.apart⟩;obtain ⟨en, h1, h2, h3⟩ := h.ent i p hp;refine ⟨en, h1, h2, ?_⟩;rw [List.getElem?_map] at hp;cases hq : us[i]? with
 | none => rw [hq] at hp; cases hp
 | some q =>
  rw [hq] at hp;cases hp;unfold MV at h3 ⊢;split at h3
  ·grind
  ·rename_i hag;obtain ⟨d, h4, h5⟩ := h3;rw [if_neg hag];refine ⟨d, h4, ?_⟩;simp only at h4;cases hl : q.2 with
   | nil => rw [hl] at h4; cases h4
   | cons u l => rw [hl] at h4; simp only [zzC, List.cons.injEq] at h4; rw [<- h4.1] at h5 ⊢; exact one u _ h5
def lfI (us : List (Key × List U)) (ents : Array MapEntry) (seen : Array Nat) (i : Nat) : Option (Key × List U) := match us[i]?, ents[i]? with | some p, some en => if seen.contains en.born = true then none else some p | _, _ => none
def zkz (us : List (Key × List U)) (ents : Array MapEntry) (seen : Array Nat) : List (Key × List U) := (List.range us.length).filterMap (lfI us ents seen)
def ItAt (m : Mem) (w : World) (b : Nat) (kk : KK) (ag : Bool) (es left : List (Key × List U)) (cur : Option (Key × List U)) : Prop :=
 ∃ (bm : Nat) (ents : Array MapEntry) (clock : Nat) (seen : Array Nat) (us : List (Key × List U)), w.heap[b]? = some (.mapIter (some bm) clock seen clock) /\ m bm 0 = some (.map ents clock) /\ us.Perm es /\ (∃ hg : GlobIn m, MapAt ⟨m, fun _ => none, hg⟩ kk ag (us.map fun p => (p.1, p.2.map .u)) ents clock) /\
  left.Perm (zkz us ents seen) /\ (∀ p, cur = some p -> ∃ (i : Nat) (en : MapEntry), us[i]? = some p /\ ents[i]? = some en /\ seen.back? = some en.born)
theorem ItAt.keep {m m' : Mem} {w w' : World} {b kk ag es left cur} (h : ItAt m w b kk ag es left cur) (hm : m.le m') (hw : w'.heap[b]? = w.heap[b]?) : ItAt m' w' b kk ag es left cur := by
 obtain ⟨bm, ents, clock, seen, us, h1, h2, h3, h4, h5, h6⟩ := h;exact ⟨bm, ents, clock, seen, us, by rw [hw]; exact h1, hm _ _ _ h2, h3, let ⟨hg, h4⟩ := h4; ⟨hg.mono hm, h4.pure hm⟩, h5, h6⟩
def ObAt (k : Kr) (w : World) (h : Option Nat × Nat) : Ob -> Prop
 | .box cells => ∃ b vs t, h.1 = some b /\ w.heap[b]? = some (.cells vs t (0, 0)) /\ vs.size = cells.length /\ ∀ j d, cells[j]? = some d -> zdQ k d (vs.getD j undef)
 | .vec e sz rows => ∃ xs, w.ownsRow 0 e sz (za8 h rows.length) rows.length xs /\ 0 < sz /\ (∀ r ∈ rows, r.length = sz) /\
   ∀ i r, rows[i]? = some r -> ∀ j d, r[j]? = some d -> zdQ k d (xs.getD (i * sz + j) undef)
 | .map kk ag es => ∃ b ents clock es0, h.1 = some b /\ w.heap[b]? = some (.map ents clock) /\ es0.Perm es /\ MapAt k kk ag es0 ents clock
 | .it kk ag es left cur => ∃ b, h.1 = some b /\ ItAt k.mem w b kk ag es left cur
 | .nw t => ∃ b, h.1 = some b /\ w.heap[b]? = some (.cells #[.pointer none, .slice none 0 0] t (0, 0))
 | .sit s pos => ∃ b, h.1 = some b /\ w.heap[b]? = some (.stringIter ⟨s.toArray⟩ pos)
def ObOK (k : Kr) (own : Nat -> Prop) (w : World) (i : Nat) (ob : Ob) : Prop :=
 ∃ h, k.hdr i = some h /\ (∀ b, h.1 = some b -> own b /\ ∀ o, k.mem b o = none) /\ ObAt k w h ob
theorem zfC {w : World} {e sz n xs} {h : Option Nat × Nat} (ho : w.ownsRow 0 e sz (za8 h n) n xs) : h.1 = none -> h.2 = 0 := by
 intro hn;rcases ho.2 with ⟨hv, _⟩ | ⟨g, cap, cur, hv, _⟩
 ·simp [za8, hn] at hv;exact hv.2
 ·simp [za8, hn] at hv
theorem ObOK.box {k own w i cells} (h : ObOK k own w i (.box cells)) : ∃ b c vs t, k.hdr i = some (some b, c) /\ own b /\ w.heap[b]? = some (.cells vs t (0, 0)) /\ vs.size = cells.length /\
  (∀ j d, cells[j]? = some d -> zdQ k d (vs.getD j undef)) /\ ∀ o, k.mem b o = none := by
 obtain ⟨⟨hb, c⟩, h1, h2, b, vs, t, e, h3, h4, h5⟩ := h;simp only at e;subst e;exact ⟨b, c, vs, t, h1, (h2 b rfl).1, h3, h4, h5, (h2 b rfl).2⟩
theorem ObOK.vec {k own w i e sz rows} (h : ObOK k own w i (.vec e sz rows)) : ∃ h xs, k.hdr i = some h /\ w.ownsRow 0 e sz (za8 h rows.length) rows.length xs /\ 0 < sz /\ (∀ r ∈ rows, r.length = sz) /\
  (∀ i r, rows[i]? = some r -> ∀ j d, r[j]? = some d -> zdQ k d (xs.getD (i * sz + j) undef)) /\ ∀ b, h.1 = some b -> own b /\ ∀ o, k.mem b o = none := by
 obtain ⟨h, h1, h2, xs, h3, h4, h5, h6⟩ := h;exact ⟨h, xs, h1, h3, h4, h5, h6, h2⟩
theorem ObOK.map {k own w i kk ag es} (h : ObOK k own w i (.map kk ag es)) : ∃ b c ents clock es0, k.hdr i = some (some b, c) /\ own b /\ w.heap[b]? = some (.map ents clock) /\ es0.Perm es /\ MapAt k kk ag es0 ents clock /\ ∀ o, k.mem b o = none := by
 obtain ⟨⟨hb, c⟩, h1, h2, b, ents, clock, es0, e, h3, hp, h4⟩ := h;simp only at e;subst e;exact ⟨b, c, ents, clock, es0, h1, (h2 b rfl).1, h3, hp, h4, (h2 b rfl).2⟩
theorem ObOK.it {k own w i kk ag es left cur} (h : ObOK k own w i (.it kk ag es left cur)) : ∃ b c, k.hdr i = some (some b, c) /\ own b /\ ItAt k.mem w b kk ag es left cur /\ ∀ o, k.mem b o = none := by
 obtain ⟨⟨hb, c⟩, h1, h2, b, e, h3⟩ := h;simp only at e;subst e;exact ⟨b, c, h1, (h2 b rfl).1, h3, (h2 b rfl).2⟩
theorem ObOK.sit {k own w i s pos} (h : ObOK k own w i (.sit s pos)) : ∃ b c, k.hdr i = some (some b, c) /\ own b /\ w.heap[b]? = some (.stringIter ⟨s.toArray⟩ pos) /\ ∀ o, k.mem b o = none := by
 obtain ⟨⟨hb, c⟩, h1, h2, b, e, h3⟩ := h;simp only at e;subst e;exact ⟨b, c, h1, (h2 b rfl).1, h3, (h2 b rfl).2⟩
theorem ObAt.keep {k k' w w' h ob} (ho : ObAt k w h ob) (hk : k.le k') (hw : ∀ b, h.1 = some b -> w'.heap[b]? = w.heap[b]?) : ObAt k' w' h ob := by
 cases ob with
 | box cells =>
  obtain ⟨b, vs, t, e, h1, h2, h3⟩ := ho;exact ⟨b, vs, t, e, by rw [hw b e]; exact h1, h2, fun j d hj => ⟨(h3 j d hj).1, (h3 j d hj).2.mono hk⟩⟩
 | map kk ag es =>
  obtain ⟨b, ents, clock, es0, e, h1, hp, h2⟩ := ho;exact ⟨b, ents, clock, es0, e, by rw [hw b e]; exact h1, hp, h2.mono hk⟩
 | it kk ag es left cur =>
  obtain ⟨b, e, h1⟩ := ho;exact ⟨b, e, h1.keep hk.mem (hw b e)⟩
 | nw t =>
  obtain ⟨b, e, h1⟩ := ho;exact ⟨b, e, by rw [hw b e]; exact h1⟩
 | sit s pos =>
  obtain ⟨b, e, h1⟩ := ho;exact ⟨b, e, by rw [hw b e]; exact h1⟩
 | vec e sz rows =>
  obtain ⟨xs, h1, h2, h3, h4⟩ := ho;refine ⟨xs, ⟨h1.1, ?_⟩, h2, h3, fun i r hr j d hj => ⟨(h4 i r hr j d hj).1, (h4 i r hr j d hj).2.mono hk⟩⟩;rcases h1.2 with hn | ⟨g, cap, cur, hv, hb, hg, rest⟩
  ·exact .inl hn
  ·refine .inr ⟨g, cap, cur, hv, hb, ?_, rest⟩;have : h.1 = some g := by
    simp only [za8, Value.slice.injEq, Option.map_eq_some_iff] at hv;obtain ⟨⟨b, hb, e⟩, _⟩ := hv;simp only [Addr.mk.injEq] at e;rw [hb, e.1]
   rw [hw g this];exact hg
structure Sat (k : Kr) (own : Nat -> Prop) (obs : List (Nat × Ob)) (w : World) : Prop where
 mem : ∀ b o v, k.mem b o = some v -> look w b o = some v
 ob : ∀ i ob, getK obs i = some ob -> ObOK k own w i ob
 apart : ∀ i j x y h g b, getK obs i = some x -> getK obs j = some y -> i ≠ j -> k.hdr i = some h -> k.hdr j = some g -> h.1 = some b -> g.1 ≠ some b
theorem Sat.cell {k own obs w} (h : Sat k own obs w) {b o v} (e : k.mem b o = some (.val v)) : w.cell? ⟨b, o, none⟩ = some v := ztf (h.mem _ _ _ e)
structure St where
 n : Nat
 env : List (Nat × D)
 obs : List (Nat × Ob)
 next : Nat
structure Own where
 own : Nat -> Prop
 dfr : List Deferred
instance : CoeFun Own fun _ => Nat -> Prop := ⟨Own.own⟩
instance : Coe Own (Nat -> Prop) := ⟨Own.own⟩
structure Ctx where
 own : Own
 k0 : Kr
 n0 : Nat
 w0 : World
 pan : List PanicEntry -> St -> Prop
 esc : Exit -> Act -> World -> Prop
abbrev Ctx.of (own : Nat -> Prop) (k : Kr) (n : Nat) (w : World) : Ctx := ⟨⟨own, []⟩, k, n, w, fun _ _ => False, fun _ _ _ => False⟩
structure In (Γ : Ctx) (k : Kr) (w : World) : Prop where
 le : Γ.k0.le k
 none0 : ∀ i, Γ.n0 <= i -> Γ.k0.hdr i = none
 memNew : ∀ b o v, k.mem b o = some v -> Γ.k0.mem b o = some v \/ Γ.own b
 fresh : ∀ b, Γ.w0.heap.size <= b -> Γ.own b
 os : w.os = Γ.w0.os
 tape : w.tape = Γ.w0.tape
 output : w.output = Γ.w0.output
 size : Γ.w0.heap.size <= w.heap.size
 block : ∀ b, ¬ Γ.own b -> w.heap[b]? = Γ.w0.heap[b]?
theorem In.conv {Γ Γ' : Ctx} {k w} (h : In Γ k w) (h1 : Γ'.own.own = Γ.own.own) (h2 : Γ'.k0 = Γ.k0) (h3 : Γ'.n0 = Γ.n0) (h4 : Γ'.w0 = Γ.w0) : In Γ' k w :=
 ⟨by rw [h2]; exact h.le, fun i hi => by rw [h2]; exact h.none0 i (by rw [<- h3]; exact hi), fun b o v e => by rw [h2, h1]; exact h.memNew b o v e, fun b hb => by rw [h1]; exact h.fresh b (by rw [<- h4]; exact hb),
  by rw [h4]; exact h.os, by rw [h4]; exact h.tape, by rw [h4]; exact h.output, by rw [h4]; exact h.size, fun b hb => by rw [h4]; exact h.block b (by rw [<- h1]; exact hb)⟩
def St.at (s : St) (x : Nat) : D := (getK s.env x).getD .any
def St.put (s : St) (x : Option Nat) (d : D) : St := match x with | some x => { s with env := (x, d) :: s.env } | none => s
structure Sim (k : Kr) (own : Own) (s : St) (a : Act) (w : World) : Prop where
 sat : Sat k own s.obs w
 defers : a.defers = own.dfr
 size : a.tmps.size = s.n
 env : ∀ x d, getK s.env x = some d -> x < s.n /\ Rep k d (a.tmps.getD x undef)
 hdr : ∀ i, s.next <= i -> k.hdr i = none
theorem Sim.at {k own s a w} (h : Sim k own s a w) (x : Nat) : Rep k (s.at x) (a.tmps.getD x undef) := by
 unfold St.at;cases hg : getK s.env x with
 | none => exact .any _
 | some d => exact (h.env x d hg).2
end Go.VL
namespace Go.VL
open Go
def uOf : Value -> U
 | .int k n => .int k n
 | .bool b => .bool b
 | .string s => .str s.data.toList
 | .slice none 0 0 => .nil
 | v => .oth v
theorem zeN (m : Mem) (v : Value) : RepU m (uOf v) v := by
 unfold uOf;split
 ·exact .int _ _
 ·exact .bool _
 ·rename_i s;have h := RepU.str (m := m) s.data.toList;simpa using h
 ·exact .nil
 ·exact .oth _
def zrA (g : Nat) : D := match globs.find? (·.1 == g) with | some p => .u (.row (p.2.map uOf) 0) | none => .u (.oth (.pointer (some ⟨g, 0, none⟩)))
theorem zrz (k : Kr) (g : Nat) : Rep k (zrA g) (.pointer (some ⟨g, 0, none⟩)) := by
 unfold zrA;split
 ·rename_i p hp;have hm := List.mem_of_find?_eq_some hp;have hg : p.1 = g := by have := List.find?_some hp; simpa using this
  subst hg;refine .u _ _ (.row (p.2.map uOf) 0 p.1 0 (fun j => p.2.getD j undef) (fun j hj => ?_) (fun j u hj => ?_))
  ·rw [Nat.zero_add]; exact (k.glob.tab p hm).1 j (by simpa using hj)
  ·rw [List.getElem?_map] at hj;cases hv : p.2[j]? with
   | none => rw [hv] at hj; cases hj
   | some v =>
    rw [hv] at hj;cases hj;have : p.2.getD j undef = v := by rw [List.getD_eq_getElem?_getD, hv]; rfl
    rw [this];exact zeN _ v
 ·exact .u _ _ (.oth _)
def opd (s : St) : Operand -> D
 | .tmp t => s.at t
 | .const v => .u (uOf v)
 | .global g => zrA g
 | .func f => .fnc (.func f) []
theorem zaX {k own s a w} (h : Sim k own s a w) (x : Operand) : Rep k (opd s x) (a.eval x) := by
 cases x with
 | tmp t => exact h.at t
 | const v => exact .u _ _ (zeN _ v)
 | global g => exact zrz k g
 | func f => exact .fnc (.func f) [] [] rfl (by simp)
section
variable {k : Kr} {v : Value}
theorem zcb {kd n} (h : Rep k (.u (.int kd n)) v) : v = .int kd n := by cases h with | u _ _ h => cases h; rfl
theorem zeH {b} (h : Rep k (.u (.bool b)) v) : v = .bool b := by cases h with | u _ _ h => cases h; rfl
theorem zgr {l} (h : Rep k (.u (.str l)) v) : v = .string ⟨l.toArray⟩ := by cases h with | u _ _ h => cases h; rfl
theorem zel {x} (h : Rep k (.u (.oth x)) v) : v = x := by cases h with | u _ _ h => cases h; rfl
theorem zdU (h : Rep k (.u .nil) v) : v = .slice none 0 0 := by cases h with | u _ _ h => cases h; rfl
theorem zfc {i len} (h : Rep k (.vec i len) v) : ∃ h, k.hdr i = some h /\ v = za8 h len := by
 cases h with | vec _ _ h hh => exact ⟨h, hh, rfl⟩
theorem zeb {i off} (h : Rep k (.ptr i off) v) : ∃ b c, k.hdr i = some (some b, c) /\ v = .pointer (some ⟨b, off, none⟩) := by
 cases h with | ptr _ _ b c hh => exact ⟨b, c, hh, rfl⟩
theorem zlq {i} (h : Rep k (.mp i) v) : ∃ b c, k.hdr i = some (some b, c) /\ v = .map (some b) := by
 cases h with | mp _ b c hh => exact ⟨b, c, hh, rfl⟩
theorem zim {i sz idx off} (h : Rep k (.elt i sz idx off) v) : ∃ b c, k.hdr i = some (some b, c) /\ v = .pointer (some ⟨b, idx * sz + off, none⟩) := by
 cases h with | elt _ _ _ _ b c hh => exact ⟨b, c, hh, rfl⟩
theorem rep_row {cells off} (h : Rep k (.u (.row cells off)) v) : ∃ b o, v = .pointer (some ⟨b, o + off, none⟩) /\
  ∀ j u, cells[j]? = some u -> ∃ x, k.mem b (o + j) = some (.val x) /\ RepU k.mem u x := by
 cases h with
 | u _ _ h => cases h with
  | row _ _ b o f hm hr => exact ⟨b, o, rfl, fun j u hj => ⟨f j, hm j (List.getElem?_eq_some_iff.1 hj).1, hr j u hj⟩⟩
theorem zee {cells} (h : Rep k (.u (.agg cells)) v) : ∃ vs : List Value, cells.length = vs.length /\ v = .agg vs.toArray /\
  ∀ j u, cells[j]? = some u -> RepU k.mem u (vs.getD j undef) := by
 cases h with | u _ _ h => cases h with | agg _ vs hl hr => exact ⟨vs, hl, rfl, hr⟩
theorem zin {cells} (h : Rep k (.agg cells) v) : ∃ vs : List Value, cells.length = vs.length /\ v = .agg vs.toArray /\
  ∀ j u, cells[j]? = some u -> Rep k u (vs.getD j undef) := by
 cases h with | agg _ vs hl hr => exact ⟨vs, hl, rfl, hr⟩
theorem zhm {cells} (h : Rep k (.tup cells) v) : ∃ vs : List Value, cells.length = vs.length /\ v = .tuple vs.toArray /\
  ∀ j u, cells[j]? = some u -> Rep k u (vs.getD j undef) := by
 cases h with | tup _ vs hl hr => exact ⟨vs, hl, rfl, hr⟩
theorem zko {f caps} (h : Rep k (.fnc f caps) v) : ∃ vs : List Value, caps.length = vs.length /\ v = .func f #[] vs.toArray /\
  ∀ j u, caps[j]? = some u -> Rep k u (vs.getD j undef) := by
 cases h with | fnc _ _ vs hl hr => exact ⟨vs, hl, rfl, hr⟩
theorem zqq {f caps} (h : Rep k (.bnd f caps) v) : ∃ vs : List Value, caps.length = vs.length /\ v = .func f vs.toArray #[] /\
  ∀ j u, caps[j]? = some u -> Rep k u (vs.getD j undef) := by
 cases h with | bnd _ _ vs hl hr => exact ⟨vs, hl, rfl, hr⟩
end
def arith (k : IntKind) (n : Int) (ret : U -> Prop) : Prop :=
 match k with
 | .i64 => (-9223372036854775808 <= n /\ n <= 9223372036854775807) /\ ret (.int .i64 n)
 | .u64 => ret (.int .u64 (n % 18446744073709551616))
 | .u32 => ret (.int .u32 (n % 4294967296))
 | .u8 => ret (.int .u8 (n % 256))
 | k => ret (.int k (k.wrap n))
theorem zfl {k n ret} (h : arith k n ret) : ret (.int k (k.wrap n)) := by
 unfold arith at h;split at h
 ·rw [IntWalk.i64_in n h.1]; exact h.2
 ·rw [IntKind.wrap_u64]; exact h
 ·rw [IntKind.wrap_u32]; exact h
 ·rw [IntKind.wrap_u8]; exact h
 ·exact h
def zsf (k : IntKind) (a b : Int) : Int := k.wrap ((BitVec.ofInt k.bits a) &&& (BitVec.ofInt k.bits b)).toNat
def zx9 (k : IntKind) (a b : Int) : Int := k.wrap ((BitVec.ofInt k.bits a) ||| (BitVec.ofInt k.bits b)).toNat
def zwR (k : IntKind) (a b : Int) : Int := k.wrap ((BitVec.ofInt k.bits a) ^^^ (BitVec.ofInt k.bits b)).toNat
def binI (op : BinOp) (k : IntKind) (a b : Int) (ret : U -> Prop) : Prop :=
 match op with
 | .add => arith k (a + b) ret
 | .sub => arith k (a - b) ret
 | .mul => arith k (a * b) ret
 | .quo => b ≠ 0 /\ arith k (a.tdiv b) ret
 | .rem => b ≠ 0 /\ ret (.int k (a.tmod b))
 | .eql => ret (.bool (decide (a = b)))
 | .neq => ret (.bool (!decide (a = b)))
 | .lss => ret (.bool (decide (a < b)))
 | .leq => ret (.bool (decide (a <= b)))
 | .gtr => ret (.bool (decide (b < a)))
 | .geq => ret (.bool (decide (b <= a)))
 | .and => ret (.int k (zsf k a b))
 | .or => ret (.int k (zx9 k a b))
 | .xor => ret (.int k (zwR k a b))
 | _ => False
def binS (op : BinOp) (a b : List UInt8) (ret : U -> Prop) : Prop :=
 match op with
 | .add => a.length + b.length <= 9223372036854775807 /\ ret (.str (a ++ b))
 | .eql => ret (.bool (decide (a = b)))
 | .neq => ret (.bool (!decide (a = b)))
 | .lss => ret (.bool (Op.bytesLess a b))
 | .leq => ret (.bool (Op.bytesLess a b || decide (a = b)))
 | .gtr => ret (.bool (!(Op.bytesLess a b || decide (a = b))))
 | .geq => ret (.bool (!Op.bytesLess a b))
 | _ => False
def binB (P : Program) (op : BinOp) (t : TypeId) (a b : Bool) (ret : U -> Prop) : Prop :=
 P.underlying t = some .bool /\ match op with
 | .eql => ret (.bool (a == b))
 | .neq => ret (.bool (!(a == b)))
 | _ => False
def shiftI (op : BinOp) (k : IntKind) (a : Int) (b : Int) (ret : U -> Prop) : Prop :=
 0 <= b /\ match op with
 | .shl => arith k (a * 2 ^ (min b.toNat k.bits)) ret
 | .shr => ret (.int k (a / (2 ^ (min b.toNat k.bits))))
 | _ => False
theorem zue {P : Program} {op k a b ret} (t : TypeId) (w : World) (h : binI op k a b ret) :
  ∃ u, ret u /\ ∃ v, (binOp op t (.int k a) (.int k b)).run P w = .ok v w /\ ∀ m, RepU m u v := by
 unfold binI at h;split at h
 ·exact ⟨_, zfl h, _, by simp [binOp, Op.intArith], fun m => .int _ _⟩
 ·exact ⟨_, zfl h, _, by simp [binOp, Op.intArith], fun m => .int _ _⟩
 ·exact ⟨_, zfl h, _, by simp [binOp, Op.intArith], fun m => .int _ _⟩
 ·exact ⟨_, zfl h.2, _, by simp [binOp, Op.intDiv, h.1], fun m => .int _ _⟩
 ·exact ⟨_, h.2, _, by simp [binOp, Op.intDiv, h.1], fun m => .int _ _⟩
 ·exact ⟨_, h, .bool (decide (a = b)), by simp [binOp, Op.intCmp]; rfl, fun m => .bool _⟩
 ·exact ⟨_, h, .bool (!decide (a = b)), by simp [binOp, Op.intCmp]; rfl, fun m => .bool _⟩
 ·exact ⟨_, h, _, by simp [binOp, Op.intCmp], fun m => .bool _⟩
 ·exact ⟨_, h, _, by simp [binOp, Op.intCmp], fun m => .bool _⟩
 ·exact ⟨_, h, _, by simp [binOp, Op.intCmp], fun m => .bool _⟩
 ·exact ⟨_, h, _, by simp [binOp, Op.intCmp], fun m => .bool _⟩
 ·exact ⟨_, h, _, by simp [binOp, Op.intBits]; rfl, fun m => .int _ _⟩
 ·exact ⟨_, h, _, by simp [binOp, Op.intBits]; rfl, fun m => .int _ _⟩
 ·exact ⟨_, h, _, by simp [binOp, Op.intBits]; rfl, fun m => .int _ _⟩
 ·exact h.elim
theorem zd4 (l : List UInt8) : (⟨l.toArray⟩ : ByteArray).toList = l := by rw [ByteArray.toList_eq]
theorem zud {P : Program} {op a b ret} (t : TypeId) (w : World) (h : binS op a b ret) :
  ∃ u, ret u /\ ∃ v, (binOp op t (.string ⟨a.toArray⟩) (.string ⟨b.toArray⟩)).run P w = .ok v w /\ ∀ m, RepU m u v := by
 unfold binS at h;have e : (a == b) = decide (a = b) := by by_cases hh : a = b <;> simp [hh]
 split at h
 ·refine ⟨_, h.2, .string (⟨a.toArray⟩ ++ ⟨b.toArray⟩), ?_, fun m => ?_⟩
  ·have : ¬ ((((⟨a.toArray⟩ : ByteArray).size + (⟨b.toArray⟩ : ByteArray).size : Nat) : Int) > IntKind.i64.max) := by
    show ¬ (((a.toArray.size + b.toArray.size : Nat) : Int) > IntKind.i64.max);have : IntKind.i64.max = 9223372036854775807 := by decide
    rw [this];simp only [List.size_toArray];have := h.1;omega
   simp only [binOp, Op.stringOp, if_neg this]
   try rfl
  ·have : (⟨a.toArray⟩ ++ ⟨b.toArray⟩ : ByteArray) = ⟨(a ++ b).toArray⟩ := by
    apply ByteArray.ext;simp [ByteArray.data_append]
   rw [this];exact .str _
 ·exact ⟨_, h, _, by simp only [binOp, Op.stringOp, zd4, e]; rfl, fun m => .bool _⟩
 ·exact ⟨_, h, _, by simp only [binOp, Op.stringOp, zd4, e]; rfl, fun m => .bool _⟩
 ·exact ⟨_, h, _, by simp only [binOp, Op.stringOp, zd4, e]; rfl, fun m => .bool _⟩
 ·exact ⟨_, h, _, by simp only [binOp, Op.stringOp, zd4, e]; rfl, fun m => .bool _⟩
 ·exact ⟨_, h, _, by simp only [binOp, Op.stringOp, zd4, e]; rfl, fun m => .bool _⟩
 ·exact ⟨_, h, _, by simp only [binOp, Op.stringOp, zd4, e]; rfl, fun m => .bool _⟩
 ·exact h.elim
theorem zug {P : Program} {op t a b ret} (w : World) (h : binB P op t a b ret) :
  ∃ u, ret u /\ ∃ v, (binOp op t (.bool a) (.bool b)).run P w = .ok v w /\ ∀ m, RepU m u v := by
 obtain ⟨ht, h⟩ := h;split at h
 ·exact ⟨_, h, _, run_eql_bool w t a b ht, fun m => .bool _⟩
 ·exact ⟨_, h, _, run_neq_bool w t a b ht, fun m => .bool _⟩
 ·exact h.elim
theorem zjz {P : Program} {op k a kb b ret} (t : TypeId) (w : World) (h : shiftI op k a b ret) (hop : op = .shl \/ op = .shr) :
  ∃ u, ret u /\ ∃ v, (binOp op t (.int k a) (.int kb b)).run P w = .ok v w /\ ∀ m, RepU m u v := by
 obtain ⟨h0, h⟩ := h;have hn : ¬ b < 0 := by omega
 rcases hop with rfl | rfl
 ·exact ⟨_, zfl h, _, by simp [binOp, Op.shift, hn], fun m => .int _ _⟩
 ·rw [<- Int.fdiv_eq_ediv_of_nonneg _ (Int.le_of_lt (Int.pow_pos (by omega)))] at h;exact ⟨_, h, _, by simp [binOp, Op.shift, hn], fun m => .int _ _⟩
def zdk (P : Program) (t : TypeId) : Bool := match P.underlying t with | some (.slice _) => true | _ => false
theorem zrq {P : Program} {t} (h : zdk P t = true) : ∃ e, P.underlying t = some (.slice e) := by grind [zdk]
def nilD (op : BinOp) (b : Bool) (ret : U -> Prop) : Prop :=
 match op with
 | .eql => ret (.bool b)
 | .neq => ret (.bool (!b))
 | _ => False
theorem zkw {P : Program} {op t b ret a c n} (w : World) (h : nilD op b ret) (ht : zdk P t = true) (hb : Option.isNone a = b) :
  ∃ u, ret u /\ ∃ v, (binOp op t (.slice a n c) (.slice none 0 0)).run P w = .ok v w /\ ∀ m, RepU m u v := by
 obtain ⟨e, hu⟩ := zrq ht;subst hb;unfold nilD at h;split at h
 ·exact ⟨_, h, _, Lib.run_eql_slice_nil w t e a n c 0 0 hu, fun m => .bool _⟩
 ·exact ⟨_, h, _, run_neq_slice_nil_any w t e a n c 0 0 hu, fun m => .bool _⟩
 ·exact h.elim
inductive Kd where
 | int | str | bool
 deriving DecidableEq
def zvl (P : Program) (t : TypeId) : Option Kd := match P.underlying t with
 | some (.int _) => some .int
 | some .string => some .str
 | some .bool => some .bool
 | _ => none
def zrl (P : Program) : Nat -> List Field -> Option (List Kd)
 | _, [] => some []
 | i, f :: l => if f.name ≠ "_" /\ f.offset = i then match zvl P f.type, zrl P (i + 1) l with
  | some k, some ks => some (k :: ks)
  | _, _ => none else none
def zyk (P : Program) (t : TypeId) : Option (List Kd) := match P.underlying t with
 | some (.struct fs) => if P.stoodInHeld t = false /\ P.eqGuardType P.depth t = false then zrl P 0 fs.toList else none
 | _ => none
def zge : Kd -> U -> U -> Option Bool
 | .int, .int k a, .int k' b => if k = k' then some (decide (a = b)) else none
 | .str, .str a, .str b => some (decide (a = b))
 | .bool, .bool a, .bool b => some (a == b)
 | _, _, _ => none
def zfJ : List Kd -> List U -> List U -> Option Bool
 | [], [], [] => some true
 | k :: ks, x :: xs, y :: ys => match zge k x y, zfJ ks xs ys with
  | some a, some b => some (a && b)
  | _, _ => none
 | _, _, _ => none
theorem ztS {P : Program} {t k x y r m v v'} (w : World) (hk : zvl P t = some k) (h : zge k x y = some r) (hx : RepU m x v) (hy : RepU m y v') (d : Nat) :
  (Op.equalIn (d + 1) t v v').run P w = .ok r w := by
 unfold zvl at hk;unfold zge at h;split at h
 ·split at h
  ·rename_i hkk;subst hkk;cases h;cases hx; cases hy;split at hk <;> first | (cases hk; done) | skip
   rename_i hu;rw [run_equalIn_int w d t _ _ _ _ hu]
   congr 1
  ·cases h
 ·cases h;cases hx; cases hy;split at hk <;> first | (cases hk; done) | skip
  rename_i hu;rw [run_equalIn_string w d t _ _ hu, zd4, zd4]
  congr 1
  rw [Bool.eq_iff_iff]; simp
 ·cases h;cases hx; cases hy;split at hk <;> first | (cases hk; done) | skip
  rename_i hu;rw [run_equalIn_bool' w d t _ _ hu]
 ·cases h
theorem ziK {P : Program} {t k} (h : zvl P t = some k) (w : World) (cs : Array Value) (o : Nat) (v : Value) (hv : cs[o]? = some v) : (part t cs o).run P w = .ok v w := by
 unfold zvl at h;split at h <;> first | (cases h; done) | skip
 all_goals
  rename_i hu;simp [part, isAgg, run_underlying hu, hv]
theorem zog {P : Program} (w : World) (d : Nat) (m : Mem) (az bs : List Value) : ∀ (fs : List Field) (i : Nat) (ks : List Kd) (xs ys : List U) (r : Bool), zrl P i fs = some ks -> zfJ ks xs ys = some r ->
  (∀ j u, xs[j]? = some u -> ∃ v, az[i + j]? = some v /\ RepU m u v) -> (∀ j u, ys[j]? = some u -> ∃ v, bs[i + j]? = some v /\ RepU m u v) -> (Op.eqFields (d + 1) az.toArray bs.toArray fs).run P w = .ok r w
 | [], i, ks, xs, ys, r, hk, h, _, _ => by
  simp [zrl] at hk;subst hk
  match xs, ys, h with
  | [], [], h => simp [zfJ] at h; subst h; simp [Op.eqFields]
 | f :: fs, i, ks, xs, ys, r, hk, h, hx, hy => by
  simp only [zrl] at hk;split at hk
  ·rename_i hn;split at hk
   ·rename_i k ks' hk1 hk2;cases hk
    match xs, ys, h with
    | x :: xs, y :: ys, h =>
     simp only [zfJ] at h;split at h
     ·rename_i a b ha hb;cases h;obtain ⟨v, hv, hrv⟩ := hx 0 x rfl;obtain ⟨v', hv', hrv'⟩ := hy 0 y rfl;simp only [Op.eqFields];rw [if_pos hn.1, hn.2];have e1 := ziK hk1 w az.toArray i v (by simpa using hv);have e2 := ziK hk1 w bs.toArray i v' (by simpa using hv');have e3 := ztS w hk1 ha hrv hrv' d;have e4 := zog w d m az bs fs (i + 1) ks' xs ys b hk2 hb (fun j u hj => by have := hx (j + 1) u (by simpa using hj); rwa [show i + (j + 1) = i + 1 + j by omega] at this)
       (fun j u hj => by have := hy (j + 1) u (by simpa using hj); rwa [show i + (j + 1) = i + 1 + j by omega] at this)
      simp only [Sem.run_bind, e1, Result.andThen_ok, e2, e3];cases a
      ·simp
      ·simpa using e4
     ·cases h
   ·cases hk
  ·cases hk
def aggD (P : Program) (op : BinOp) (t : TypeId) (xs ys : List U) (ret : U -> Prop) : Prop :=
 match zyk P t with
 | some ks => match zfJ ks xs ys with
  | some b => nilD op b ret
  | none => False
 | none => False
def zm9 (P : Program) (t : TypeId) : Bool := match P.underlying t with | some (.interface ms) => ms.isEmpty | _ => false
theorem zhu {P : Program} {t} (h : zm9 P t = true) : P.underlying t = some (.interface #[]) := by grind [zm9]
def zmY (P : Program) (t : TypeId) : Bool := match P.underlying t with | some (.interface _) => false | some _ => true | none => false
theorem zhp {P : Program} {t} (h : zmY P t = true) : ∃ u, P.underlying t = some u /\ ∀ ms, u ≠ .interface ms := by grind [zmY]
section
variable {P : Program}
theorem zkH (w : World) (d : Nat) (t : TypeId) (T : TypeId) (v : Value) (hu : P.underlying t = some (.interface #[])) : (Op.equalIn (d + 1) t (.iface T v) .nilIface).run P w = .ok false w := by
 unfold Op.equalIn;rw [Sem.run_bind, run_underlying hu]
 try rfl
theorem zjk (w : World) (d : Nat) (t : TypeId) (hu : P.underlying t = some (.interface #[])) : (Op.equalIn (d + 1) t .nilIface .nilIface).run P w = .ok true w := by
 unfold Op.equalIn;rw [Sem.run_bind, run_underlying hu]
 try rfl
theorem zof (w : World) (t T : TypeId) (v : Value) (hu : P.underlying t = some (.interface #[])) : (Op.equal t (.iface T v) .nilIface).run P w = .ok false w := zkH w 9999 t T v hu
theorem zl8 (w : World) (t : TypeId) (hu : P.underlying t = some (.interface #[])) : (Op.equal t .nilIface .nilIface).run P w = .ok true w := zjk w 9999 t hu
theorem zCT (w : World) (t T : TypeId) (v : Value) (hu : P.underlying t = some (.interface #[])) : (binOp .eql t (.iface T v) .nilIface).run P w = .ok (.bool false) w := by
 simp only [binOp];rw [Sem.run_bind, zof w t T v hu]
 try rfl
theorem zCS (w : World) (t T : TypeId) (v : Value) (hu : P.underlying t = some (.interface #[])) : (binOp .neq t (.iface T v) .nilIface).run P w = .ok (.bool true) w := by
 simp only [binOp];rw [Sem.run_bind, zof w t T v hu]
 try rfl
theorem zCR (w : World) (t : TypeId) (hu : P.underlying t = some (.interface #[])) : (binOp .eql t .nilIface .nilIface).run P w = .ok (.bool true) w := by
 simp only [binOp];rw [Sem.run_bind, zl8 w t hu]
 try rfl
theorem zCQ (w : World) (t : TypeId) (hu : P.underlying t = some (.interface #[])) : (binOp .neq t .nilIface .nilIface).run P w = .ok (.bool false) w := by
 simp only [binOp];rw [Sem.run_bind, zl8 w t hu]
 try rfl
theorem zCd (w : World) (d : Nat) (t : TypeId) (hu : P.underlying t = some (.interface #[])) : (Op.eqGuardIn (d + 1) t .nilIface .nilIface).run P w = .ok false w := by
 unfold Op.eqGuardIn;rw [Sem.run_bind, run_underlying hu]
 try rfl
theorem zx1 (w : World) (t : TypeId) (hu : P.underlying t = some (.interface #[])) : (Op.eqGuardIn Op.maxDepth t .nilIface .nilIface).run P w = .ok false w := zCd w 9999 t hu
theorem znf (op : BinOp) {t : TypeId} (x y : Operand) (w : World) (hu : P.underlying t = some (.interface #[])) : (eqGuard op t x y .nilIface .nilIface).run P w = .ok () w := by
 have h := zx1 w t hu;unfold eqGuard;generalize Op.eqGuardIn Op.maxDepth t .nilIface .nilIface = e at h;cases op <;> cases x <;> cases y <;> first | rfl | (simp [h])
end
theorem zrr {P : Program} {op t b ret T v} (w : World) (h : nilD op b ret) (ht : zm9 P t = true) (hb : b = false) :
  ∃ u, ret u /\ ∃ v', (binOp op t (.iface T v) .nilIface).run P w = .ok v' w /\ ∀ m, RepU m u v' := by
 have hu := zhu ht;subst hb;unfold nilD at h;split at h
 ·exact ⟨_, h, .bool false, zCT w t T v hu, fun m => .bool _⟩
 ·exact ⟨_, h, .bool true, zCS w t T v hu, fun m => .bool _⟩
 ·exact h.elim
theorem zoV {P : Program} {op t b ret} (w : World) (h : nilD op b ret) (ht : zm9 P t = true) (hb : b = true) :
  ∃ u, ret u /\ ∃ v', (binOp op t .nilIface .nilIface).run P w = .ok v' w /\ ∀ m, RepU m u v' := by
 have hu := zhu ht;subst hb;unfold nilD at h;split at h
 ·exact ⟨_, h, .bool true, zCR w t hu, fun m => .bool _⟩
 ·exact ⟨_, h, .bool false, zCQ w t hu, fun m => .bool _⟩
 ·exact h.elim
def binD (P : Program) (op : BinOp) (t : TypeId) (x y : D) (ret : D -> Prop) : Prop :=
 match op, x, y with
 | op, .u (.oth (.iface _ _)), .u (.oth .nilIface) => zm9 P t = true /\ nilD op false (ret <| .u ·)
 | op, .u (.oth .nilIface), .u (.oth .nilIface) => zm9 P t = true /\ nilD op true (ret <| .u ·)
 | .shl, .u (.int k a), .u (.int _ b) => shiftI .shl k a b (ret <| .u ·)
 | .shr, .u (.int k a), .u (.int _ b) => shiftI .shr k a b (ret <| .u ·)
 | op, .u (.int k a), .u (.int k' b) => k = k' /\ binI op k a b (ret <| .u ·)
 | op, .u (.str a), .u (.str b) => binS op a b (ret <| .u ·)
 | op, .u (.bool a), .u (.bool b) => binB P op t a b (ret <| .u ·)
 | op, .u (.sl (_ :: _)), .u .nil => zdk P t = true /\ nilD op false (ret <| .u ·)
 | op, .u .nil, .u .nil => zdk P t = true /\ nilD op true (ret <| .u ·)
 | op, .u (.oth (.slice (some _) _ _)), .u .nil => zdk P t = true /\ nilD op false (ret <| .u ·)
 | op, .u (.agg xs), .u (.agg ys) => aggD P op t xs ys (ret <| .u ·)
 | _, _, _ => False
theorem zcy {P : Program} (op : BinOp) (t : TypeId) (x y : Operand) (a b : Value) (w : World) (h : ∀ c, a ≠ .agg c) (h2 : a ≠ .nilIface) :
  (eqGuard op t x y a b).run P w = .ok () w := by
 unfold eqGuard;cases op <;> first | (simp; done) | (cases a <;> simp_all)
theorem zuf {P : Program} {k : Kr} {op t x y ret a b} (X Y : Operand) (w : World) (h : binD P op t x y ret) (hx : Rep k x a) (hy : Rep k y b) :
  ∃ d, ret d /\ ∃ v, (do eqGuard op t X Y a b; binOp op t a b : Sem Value).run P w = .ok v w /\ Rep k d v := by
 have fin : ∀ {ret' : U -> Prop} , (∃ u, ret' u /\ ∃ v, (binOp op t a b).run P w = .ok v w /\ ∀ m, RepU m u v) -> (∀ u, ret' u -> ret (.u u)) ->
   (eqGuard op t X Y a b).run P w = .ok () w -> ∃ d, ret d /\ ∃ v, (do eqGuard op t X Y a b; binOp op t a b : Sem Value).run P w = .ok v w /\ Rep k d v := by
  rintro ret' ⟨u, hu, v, hv, hm⟩ hr hg;exact ⟨_, hr u hu, v, by simp [hg, hv], .u _ _ (hm _)⟩
 unfold binD at h;split at h
 ·obtain rfl := zel hx; obtain rfl := zel hy;exact fin (zrr w h.2 h.1 rfl) (fun _ h => h) (zcy _ _ _ _ _ _ _ (by simp) (by simp))
 ·obtain rfl := zel hx; obtain rfl := zel hy;exact fin (zoV w h.2 h.1 rfl) (fun _ h => h) (znf _ _ _ _ (zhu h.1))
 ·obtain rfl := zcb hx; obtain rfl := zcb hy;exact fin (zjz t w h (.inl rfl)) (fun _ h => h) (zcy _ _ _ _ _ _ _ (by simp) (by simp))
 ·obtain rfl := zcb hx; obtain rfl := zcb hy;exact fin (zjz t w h (.inr rfl)) (fun _ h => h) (zcy _ _ _ _ _ _ _ (by simp) (by simp))
 ·obtain rfl := zcb hx; obtain rfl := zcb hy;obtain ⟨rfl, h⟩ := h;exact fin (zue t w h) (fun _ h => h) (zcy _ _ _ _ _ _ _ (by simp) (by simp))
 ·obtain rfl := zgr hx; obtain rfl := zgr hy;exact fin (zud t w h) (fun _ h => h) (zcy _ _ _ _ _ _ _ (by simp) (by simp))
 ·obtain rfl := zeH hx; obtain rfl := zeH hy;exact fin (zug w h) (fun _ h => h) (zcy _ _ _ _ _ _ _ (by simp) (by simp))
 ·obtain ⟨ht, h⟩ := h;obtain rfl := zdU hy;cases hx with | u _ _ hx => cases hx with
   | sl _ b o sz c f hc hxm hsz hm hr => exact fin (zkw w h ht rfl) (fun _ h => h) (zcy _ _ _ _ _ _ _ (by simp) (by simp))
 ·obtain ⟨ht, h⟩ := h;obtain rfl := zdU hx; obtain rfl := zdU hy;exact fin (zkw w h ht rfl) (fun _ h => h) (zcy _ _ _ _ _ _ _ (by simp) (by simp))
 ·obtain ⟨ht, h⟩ := h;obtain rfl := zel hx; obtain rfl := zdU hy;exact fin (zkw w h ht rfl) (fun _ h => h) (zcy _ _ _ _ _ _ _ (by simp) (by simp))
 ·obtain ⟨va, hla, rfl, ha⟩ := zee hx;obtain ⟨vb, hlb, rfl, hb⟩ := zee hy;unfold aggD at h;split at h
  ·rename_i ks hks;split at h
   ·rename_i b heq;unfold zyk at hks;split at hks
    ·rename_i fs hu;split at hks
     ·rename_i hc;have hfs : P.fieldsOf t = fs := by simp [Program.fieldsOf, hu]
      have hrun : (Op.equalIn 10000 t (.agg va.toArray) (.agg vb.toArray)).run P w = .ok b w := by
       rw [run_equalIn_struct w 9999 t _ _ (by rw [hfs]; exact hu) hc.1, hfs];refine zog w 9998 k.mem va vb fs.toList 0 ks _ _ b hks heq (fun j u hj => ?_) (fun j u hj => ?_)
       ·grind
       ·grind
      have hg := run_eqGuard_agg (P := P) w op t X Y va.toArray vb.toArray hc.2;unfold nilD at h;split at h
      ·exact fin (ret' := fun u => ret (.u u)) ⟨_, h, .bool b, by rw [run_eql_struct, hrun]; rfl, fun m => .bool _⟩ (fun _ h => h) hg
      ·exact fin (ret' := fun u => ret (.u u)) ⟨_, h, .bool (!b), by rw [run_neq_struct, hrun]; rfl, fun m => .bool _⟩ (fun _ h => h) hg
      ·exact h.elim
     ·cases hks
    ·cases hks
   ·exact h.elim
  ·exact h.elim
 ·exact h.elim
def unD (op : UnOp) (x : D) (ret : D -> Prop) : Prop :=
 match op, x with
 | .neg, .u (.int k n) => arith k (0 - n) (ret <| .u ·)
 | .not, .u (.bool b) => ret (.u (.bool (!b)))
 | _, _ => False
theorem zu2 {P : Program} {k : Kr} {op x ret a} (w : World) (h : unD op x ret) (hx : Rep k x a) :
  ∃ d, ret d /\ ∃ v, (Op.unary op a).run P w = .ok v w /\ Rep k d v := by
 unfold unD at h;split at h
 ·obtain rfl := zcb hx;exact ⟨_, zfl h, _, by simp [Op.unary, Op.intArith], .u _ _ (.int _ _)⟩
 ·obtain rfl := zeH hx;exact ⟨_, h, _, by simp [Op.unary], .u _ _ (.bool _)⟩
 ·exact h.elim
end Go.VL
namespace Go.VL
open Go
def tsz (P : Program) (t : TypeId) : Option Nat := (P.info? t).map (·.size)
def zfg (P : Program) (t : TypeId) : Option (Option Nat) :=
 match P.underlying t, P.info? t with
 | some (.struct _), some i | some (.array _ _), some i => some (some i.size)
 | some _, some _ => some none
 | _, _ => none
def ziV (P : Program) (t : TypeId) : Option (TypeId × Nat) :=
 match P.underlying t with
 | some (.slice e) => (P.info? e).map fun i => (e, i.size)
 | _ => none
def zbI (P : Program) (t : TypeId) (f : Nat) : Option (Nat × Nat × Option Nat) :=
 match P.underlying t with
 | some (.struct fs) => match fs[f]? with
  | some fd => match tsz P fd.type, zfg P fd.type with
   | some (n + 1), some l => some (fd.offset, n + 1, l)
   | _, _ => none
  | none => none
 | _ => none
def zbA (P : Program) (t : TypeId) : Bool := match P.underlying t with | some .string => true | _ => false
def zlQ (P : Program) (t : TypeId) : Option IntKind := match P.underlying t with | some (.int k) => some k | _ => none
theorem zfV {P : Program} {t n} (h : zfg P t = some (some n)) (w : World) : (isAgg t).run P w = .ok true w /\ (sizeOf t).run P w = .ok n w := by
 unfold zfg at h;split at h <;> simp at h
 ·rename_i i hu hi;subst h;exact ⟨by simp [isAgg, run_underlying hu], by simp [sizeOf, typeInfo, hi]⟩
 ·rename_i i hu hi;subst h;exact ⟨by simp [isAgg, run_underlying hu], by simp [sizeOf, typeInfo, hi]⟩
theorem zjW {P : Program} {t} (h : zfg P t = some none) (w : World) : (isAgg t).run P w = .ok false w := by
 unfold zfg at h;cases hu : P.underlying t with
 | none => simp [hu] at h
 | some d => cases hi : P.info? t <;> cases d <;> simp_all [isAgg, run_underlying hu]
theorem zde (b o n : Nat) : (⟨b, o, none⟩ : Addr).add n = ⟨b, o + n, none⟩ := by unfold Addr.add; split <;> simp_all
def exS {α : Type} (o : Option α) (A : α -> Prop) : Prop := ∃ a, o = some a /\ A a
theorem zbw {α : Type} {a : α} {A : α -> Prop} : exS (some a) A = A a := by simp [exS]
theorem zwJ {α : Type} {o o' : Option α} {A : α -> Prop} (h : o = o') : exS o A = exS o' A := by rw [h]
attribute [congr] zwJ
def cellsAt {α : Type} (cells : List α) (off : Nat) (l : Option Nat) (one : α -> Prop) (many : List α -> Prop) : Prop :=
 match l with
 | none => exS cells[off]? one
 | some n => off + n <= cells.length /\ many ((cells.drop off).take n)
theorem zgw {P : Program} {t} (w : World) (b o : Nat) (v : Value) (h : zfg P t = some none) (hc : w.cell? ⟨b, o, none⟩ = some v) :
  (loadVar t ⟨b, o, none⟩).run P w = .ok v w := by
 simp [loadVar, zjW h w, hc]
theorem zfE {P : Program} {t n} (w : World) (b o : Nat) (vs : List Value) (h : zfg P t = some (some n)) (hn : vs.length = n)
  (hc : ∀ j v, vs[j]? = some v -> w.cell? ⟨b, o + j, none⟩ = some v) : (loadVar t ⟨b, o, none⟩).run P w = .ok (.agg vs.toArray) w := by
 have hl := run_loadCells_list (P := P) w ⟨b, o, none⟩ vs (fun j v hv => by rw [zde]; exact hc j v hv);rw [hn] at hl;simp [loadVar, (zfV h w).1, (zfV h w).2, hl]
def zef : List D -> Option (List U)
 | [] => some []
 | .u x :: l => match zef l with | some r => some (x :: r) | none => none
 | _ :: _ => none
theorem zkS : ∀ {l : List D} {r : List U}, zef l = some r -> r.length = l.length /\ ∀ (j : Nat) (u : U), r[j]? = some u -> l[j]? = some (D.u u)
 | [], r, h => by simp [zef] at h; subst h; simp
 | d :: l, r, h => by
  cases d <;> simp [zef] at h;rename_i x;cases hl : zef l with
  | none => simp [hl] at h
  | some q =>
   simp [hl] at h;subst h;have := zkS hl;refine ⟨by simp [this.1], fun j u hj => ?_⟩;cases j with
   | zero => simpa using hj
   | succ j => simpa using this.2 j u (by simpa using hj)
def zcW (cells : List D) : D := match zef cells with | some r => .u (.agg r) | none => .agg cells
theorem zeY {k : Kr} {cells : List D} {vs : List Value} (hl : cells.length = vs.length) (hr : ∀ j d, cells[j]? = some d -> Rep k d (vs.getD j undef)) :
  Rep k (zcW cells) (.agg vs.toArray) := by
 unfold zcW;split
 ·rename_i r h;obtain ⟨h1, h2⟩ := zkS h;refine .u _ _ (.agg _ vs (by omega) fun j u hj => ?_);have := hr j _ (h2 j u hj);cases this with | u _ _ hh => exact hh
 ·exact .agg _ vs hl hr
def loadD (P : Program) (s : St) (t : TypeId) (x : D) (ret : D -> Prop) : Prop :=
 match zfg P t with
 | none => False
 | some l => match x with
  | .u (.row cells off) => cellsAt cells off l (ret <| .u ·) (ret <| .u <| .agg ·)
  | .ptr i off => match getK s.obs i with
   | some (.box cells) => cellsAt cells off l ret (ret <| zcW ·)
   | _ => False
  | .elt i sz idx off => match getK s.obs i with
   | some (.vec _ sz' rows) => sz = sz' /\ exS rows[idx]? fun r => cellsAt r off l ret (ret <| zcW ·)
   | _ => False
  | _ => False
theorem zcI {α : Type} (l : List α) (o n j : Nat) (h : j < n) : ((l.drop o).take n)[j]? = l[o + j]? := by simp_all
theorem zlL {P : Program} {s : St} {t x ret} (h : loadD P s t x ret) {k own a w v} (hs : Sim k own s a w) (hx : Rep k x v) :
  ∃ d, ret d /\ ∃ u, (Instr.loadAt t v).run P w = .ok u w /\ Rep k d u := by
 unfold loadD at h;split at h
 ·exact h.elim
 ·rename_i l hl;split at h
  ·
   rename_i cells off;obtain ⟨b, o, rfl, hc⟩ := rep_row hx;unfold cellsAt at h;cases l with
   | none =>
    obtain ⟨u, hu, hret⟩ := h;obtain ⟨y, hy, hr⟩ := hc off u hu;exact ⟨_, hret, y, by simp [Instr.loadAt, Instr.sureAddr, zgw w b (o + off) y hl (hs.sat.cell hy)], .u _ _ hr⟩
   | some n =>
    obtain ⟨hle, hret⟩ := h;have hf : ∀ j, j < n -> ∃ y, k.mem b (o + (off + j)) = some (.val y) /\ RepU k.mem (cells.getD (off + j) default) y := fun j hj => by grind
    refine ⟨_, hret, .agg ((List.range n).map fun j => Known.get (k.mem b (o + (off + j)))).toArray, ?_, .u _ _ (.agg _ _ (by simp; omega) fun j u hj => ?_)⟩
    ·have := zfE w b (o + off) ((List.range n).map fun j => Known.get (k.mem b (o + (off + j)))) hl (by simp) (fun j v hv => by
      have hj : j < n := by grind
      obtain ⟨y, hy, _⟩ := hf j hj;simp [hj, hy] at hv;subst hv;rw [zzA];exact hs.sat.cell hy)
     simp [Instr.loadAt, Instr.sureAddr, this]
    ·have hj' : j < n := by grind
     rw [zcI _ _ _ _ hj'] at hj;obtain ⟨y, hy, hr⟩ := hf j hj';simp [hj', hy];rw [List.getD_eq_getElem?_getD, hj] at hr;exact hr
  ·
   rename_i i off;obtain ⟨b, c, hh, rfl⟩ := zeb hx;split at h
   ·rename_i cells hg;obtain ⟨b', c', vs, ty, hh', hown, hheap, hsz, hcells, hno⟩ := (hs.sat.ob i _ hg).box;rw [hh] at hh';simp only [Option.some.injEq, Prod.mk.injEq] at hh';obtain ⟨rfl, rfl⟩ := hh';have hcell : ∀ j, j < cells.length -> w.cell? ⟨b, j, none⟩ = some (vs.getD j undef) := fun j hj => by
     rw [cell_of_row w b j vs ty (0, 0) hheap];simp [show j < vs.size by omega]
    unfold cellsAt at h;cases l with
    | none =>
     obtain ⟨u, hu, hret⟩ := h;have hlt := (List.getElem?_eq_some_iff.1 hu).1;exact ⟨_, hret, _, by simp [Instr.loadAt, Instr.sureAddr, zgw w b off _ hl (hcell off hlt)], (hcells off u hu).2⟩
    | some n =>
     obtain ⟨hle, hret⟩ := h;refine ⟨_, hret, .agg ((List.range n).map fun j => vs.getD (off + j) undef).toArray, ?_, zeY (by simp; omega) fun j u hj => ?_⟩
     ·have := zfE w b off ((List.range n).map fun j => vs.getD (off + j) undef) hl (by simp) (fun j v hv => by
       have hj : j < n := by grind
       simp [hj] at hv;rw [hcell _ (by omega)];simpa using hv)
      simp [Instr.loadAt, Instr.sureAddr, this]
     ·have hj' : j < n := by grind
      rw [zcI _ _ _ _ hj'] at hj;have := (hcells _ u hj).2;simpa [hj'] using this
   ·exact h.elim
  ·
   rename_i i sz idx off;obtain ⟨b, c, hh, rfl⟩ := zim hx;split at h
   ·rename_i e sz' rows hg;obtain ⟨rfl, r, hr, h⟩ := h;obtain ⟨h', xs, hh', hrow, hpos, hlen, hcells, hno⟩ := (hs.sat.ob i _ hg).vec;rw [hh] at hh';simp only [Option.some.injEq] at hh';subst hh';have hxl := hrow.1;have hcell : ∀ j u, xs[j]? = some u -> w.cell? ⟨b, j, none⟩ = some u := fun j u hj => by
     have := hrow.cells (g := b) (by simp [za8, Value.ownBlock]) j u hj
     rwa [zde, Nat.zero_add] at this
    have hrl := hlen r (List.mem_of_getElem? hr);have hidx := (List.getElem?_eq_some_iff.1 hr).1;have hbound : ∀ j, j < r.length -> idx * sz + j < xs.length := fun j hj => by
     rw [hxl];have : (idx + 1) * sz <= rows.length * sz := Nat.mul_le_mul_right _ hidx;rw [Nat.add_mul, Nat.one_mul] at this;omega
    have hcell' : ∀ j, j < r.length -> w.cell? ⟨b, idx * sz + j, none⟩ = some (xs.getD (idx * sz + j) undef) := fun j hj => by
     refine hcell _ _ ?_;simp [hbound j hj]
    unfold cellsAt at h;cases l with
    | none =>
     obtain ⟨u, hu, hret⟩ := h;have hlt := (List.getElem?_eq_some_iff.1 hu).1;exact ⟨_, hret, _, by simp [Instr.loadAt, Instr.sureAddr, zgw w b (idx * sz + off) _ hl (hcell' off hlt)], (hcells idx r hr off u hu).2⟩
    | some n =>
     obtain ⟨hle, hret⟩ := h;refine ⟨_, hret, .agg ((List.range n).map fun j => xs.getD (idx * sz + (off + j)) undef).toArray, ?_, zeY (by simp; omega) fun j u hj => ?_⟩
     ·have := zfE w b (idx * sz + off) ((List.range n).map fun j => xs.getD (idx * sz + (off + j)) undef) hl (by simp) (fun j v hv => by
       have hj : j < n := by grind
       simp [hj] at hv;rw [zzA, hcell' _ (by omega)];simpa using hv)
      simp [Instr.loadAt, Instr.sureAddr, this]
     ·have hj' : j < n := by grind
      rw [zcI _ _ _ _ hj'] at hj;have := (hcells idx r hr _ u hj).2;simpa [hj'] using this
   ·exact h.elim
  ·exact h.elim
end Go.VL
namespace Go.VL
open Go
def fieldAddrD (P : Program) (t : TypeId) (x : D) (f : Nat) (ret : D -> Prop) : Prop :=
 match zbI P t f with
 | none => False
 | some (off, _, _) => match x with
  | .u (.row cells o) => ret (.u (.row cells (o + off)))
  | .ptr i o => ret (.ptr i (o + off))
  | .elt i sz idx o => ret (.elt i sz idx (o + off))
  | _ => False
theorem zj0 {P : Program} {t f off n l} (h : zbI P t f = some (off, n, l)) :
  ∃ fs fd, P.underlying t = some (.struct fs) /\ fs[f]? = some fd /\ fd.offset = off /\ 0 < n /\ tsz P fd.type = some n /\ zfg P fd.type = some l := by
 unfold zbI at h;split at h
 ·grind
 ·cases h
theorem zdp {P : Program} {t n} (h : tsz P t = some n) (w : World) : (sizeOf t).run P w = .ok n w := by
 unfold tsz at h;cases hi : P.info? t with
 | none => simp [hi] at h
 | some i => simp [hi] at h; subst h; simp [sizeOf, typeInfo, hi]
theorem zjj {P : Program} {t x f ret} (h : fieldAddrD P t x f ret) {k v} (w : World) (hx : Rep k x v) :
  ∃ d, ret d /\ ∃ u, (Instr.fieldAt t v f).run P w = .ok u w /\ Rep k d u := by
 unfold fieldAddrD at h;split at h
 ·exact h.elim
 ·rename_i off n l hf;obtain ⟨fs, fd, hu, hfd, rfl, hn, hsz, _⟩ := zj0 hf;have hrun : ∀ b o, (Instr.fieldAt t (.pointer (some ⟨b, o, none⟩)) f).run P w = .ok (.pointer (some ⟨b, o + fd.offset, none⟩)) w := fun b o => by
   simp [Instr.fieldAt, run_underlying hu, hfd, Instr.sureAddr, fieldPlace, zdp hsz w, show n ≠ 0 by omega, zde]
  split at h
  ·rename_i cells o';cases hx with
   | u _ _ hx => cases hx with
    | row _ _ b o g hm hr => exact ⟨_, h, _, hrun _ _, .u _ _ (by rw [zzA]; exact .row cells _ b o g hm hr)⟩
  ·obtain ⟨b, c, hh, rfl⟩ := zeb hx;exact ⟨_, h, _, hrun _ _, .ptr _ _ b c hh⟩
  ·obtain ⟨b, c, hh, rfl⟩ := zim hx;exact ⟨_, h, _, hrun _ _, by rw [zzA]; exact .elt _ _ _ _ b c hh⟩
  ·exact h.elim
def fieldD (P : Program) (t : TypeId) (x : D) (f : Nat) (ret : D -> Prop) : Prop :=
 match zbI P t f with
 | none => False
 | some (off, _, l) => match x with
  | .u (.agg cells) => cellsAt cells off l (ret <| .u ·) (ret <| .u <| .agg ·)
  | .agg cells => cellsAt cells off l ret (ret <| zcW ·)
  | _ => False
theorem zl6 (vs : List Value) (o n : Nat) : vs.toArray.extract o (o + n) = ((vs.drop o).take n).toArray := by simp_all
theorem zps {P : Program} {t x f ret} (h : fieldD P t x f ret) {k v} (w : World) (hx : Rep k x v) :
  ∃ d, ret d /\ ∃ u, (Instr.field t v f).run P w = .ok u w /\ Rep k d u := by
 unfold fieldD at h;split at h
 ·exact h.elim
 ·rename_i off n l hf;obtain ⟨fs, fd, hu, hfd, rfl, hn, hsz, hl⟩ := zj0 hf;have hone : l = none -> ∀ (vs : List Value), fd.offset < vs.length -> (Instr.field t (.agg vs.toArray) f).run P w = .ok (vs.getD fd.offset undef) w := fun e vs hlt => by
   subst e;simp [Instr.field, run_underlying hu, hfd, part, zjW hl w, asAgg, hlt]
  have hmany : ∀ m, l = some m -> ∀ (vs : List Value), (Instr.field t (.agg vs.toArray) f).run P w = .ok (.agg ((vs.drop fd.offset).take m).toArray) w := fun m e vs => by
   subst e;simp [Instr.field, run_underlying hu, hfd, part, (zfV hl w).1, (zfV hl w).2, asAgg, zl6]
  split at h
  ·obtain ⟨vs, hlen, rfl, hr⟩ := zee hx;unfold cellsAt at h;cases l with
   | none =>
    obtain ⟨u, hu, hret⟩ := h;exact ⟨_, hret, _, hone rfl vs (by have := (List.getElem?_eq_some_iff.1 hu).1; omega), .u _ _ (hr _ _ hu)⟩
   | some m =>
    obtain ⟨hle, hret⟩ := h;refine ⟨_, hret, _, hmany m rfl vs, .u _ _ (.agg _ _ (by simp; omega) fun j u hj => ?_)⟩;have hj' : j < m := by have := (List.getElem?_eq_some_iff.1 hj).1; simp at this; omega
    rw [zcI _ _ _ _ hj'] at hj;rw [List.getD_eq_getElem?_getD, zcI _ _ _ _ hj', <- List.getD_eq_getElem?_getD];exact hr _ _ hj
  ·obtain ⟨vs, hlen, rfl, hr⟩ := zin hx;unfold cellsAt at h;cases l with
   | none =>
    obtain ⟨u, hu, hret⟩ := h;exact ⟨_, hret, _, hone rfl vs (by have := (List.getElem?_eq_some_iff.1 hu).1; omega), hr _ _ hu⟩
   | some m =>
    obtain ⟨hle, hret⟩ := h;refine ⟨_, hret, _, hmany m rfl vs, zeY (by simp; omega) fun j u hj => ?_⟩;have hj' : j < m := by have := (List.getElem?_eq_some_iff.1 hj).1; simp at this; omega
    rw [zcI _ _ _ _ hj'] at hj;rw [List.getD_eq_getElem?_getD, zcI _ _ _ _ hj', <- List.getD_eq_getElem?_getD];exact hr _ _ hj
  ·exact h.elim
def indexSlD (P : Program) (s : St) (t : TypeId) (x i : D) (ret : D -> Prop) : Prop :=
 match ziV P t, i with
 | some (_, sz), .u (.int _ i) => match x with
  | .u (.sl rows) => 0 <= i /\ exS rows[i.toNat]? fun r => r.length = sz /\ ret (.u (.row r 0))
  | .vec v len => 0 <= i /\ i.toNat < len /\ ret (.elt v sz i.toNat 0) /\ (match getK s.obs v with | some (.vec _ sz' rows) => sz = sz' /\ len <= rows.length | _ => False)
  | _ => False
 | _, _ => False
theorem zfL {P : Program} {t e sz} (h : ziV P t = some (e, sz)) : P.underlying t = some (.slice e) /\ tsz P e = some sz := by
 unfold ziV at h;split at h
 ·rename_i e' hu;unfold tsz;cases hi : P.info? e' with
  | none => simp [hi] at h
  | some i => simp [hi] at h; obtain ⟨rfl, rfl⟩ := h; exact ⟨hu, by simp [hi]⟩
 ·cases h
theorem zlR {P : Program} {s t x i ret} (h : indexSlD P s t x i ret) {k own a w v iv} (hs : Sim k own s a w) (hx : Rep k x v) (hi : Rep k i iv) :
  ∃ d, ret d /\ ∃ u, (Instr.indexAt t v iv).run P w = .ok u w /\ Rep k d u := by
 unfold indexSlD at h;split at h
 ·rename_i e sz kd i' he;obtain ⟨hu, hsz⟩ := zfL he;obtain rfl := zcb hi;have hrun : ∀ b o len c, 0 <= i' -> i'.toNat < len -> (Instr.indexAt t (.slice (some ⟨b, o, none⟩) len c) (.int kd i')).run P w = .ok (.pointer (some ⟨b, o + i'.toNat * sz, none⟩)) w := fun b o len c h0 hlt => by
   have : 0 <= i' /\ i' < (len : Int) := ⟨h0, by omega⟩;simp [Instr.indexAt, asIntOf, run_underlying hu, this, zdp hsz w, zde]
  split at h
  ·obtain ⟨h0, r, hr, hrl, hret⟩ := h;have hlt := (List.getElem?_eq_some_iff.1 hr).1;cases hx with
   | u _ _ hx => cases hx with
    | slE => simp at hr
    | sl _ b o sz' c f hcap hcx h1 h2 h3 =>
     have hz : sz' = sz := (h1 r (List.mem_of_getElem? hr)).symm.trans hrl;subst hz;refine ⟨_, hret, _, hrun b o _ c h0 hlt, .u _ _ ?_⟩;have := RepU.row (m := k.mem) r 0 b (o + i'.toNat * sz') (f i'.toNat) (fun j hj => h2 _ hlt j (by omega)) (h3 _ r hr);simpa using this
  ·obtain ⟨h0, hlt, hret, hob⟩ := h;obtain ⟨g, hg, rfl⟩ := zfc hx;split at hob
   ·rename_i e' sz' rows hgo;obtain ⟨rfl, hlen⟩ := hob;obtain ⟨g', xs, hg', hrow, _⟩ := (hs.sat.ob _ _ hgo).vec;rw [hg] at hg';simp only [Option.some.injEq] at hg';subst hg';obtain ⟨gb, gc⟩ := g;cases gb with
    | none =>
     rcases hrow.2 with ⟨_, hz⟩ | ⟨_, _, _, hv, _⟩
     ·omega
     ·simp [za8] at hv
    | some b => exact ⟨_, hret, _, hrun b 0 _ gc h0 hlt, by simpa using Rep.elt _ _ _ 0 b gc hg⟩
   ·exact hob.elim
  ·exact h.elim
 ·exact h.elim
def zwl (P : Program) (t : TypeId) : Option Nat := match P.underlying t with
 | some (.array n e) => if (zvl P e).isSome = true /\ tsz P e = some 1 then some n else none
 | _ => none
theorem zi3 {P : Program} {t n} (h : zwl P t = some n) : ∃ e kd, P.underlying t = some (.array n e) /\ zvl P e = some kd /\ tsz P e = some 1 := by
 unfold zwl at h;split at h
 ·rename_i n' e hu;split at h
  ·rename_i hc;cases h;obtain ⟨kd, hkd⟩ := Option.isSome_iff_exists.1 hc.1;exact ⟨e, kd, hu, hkd, hc.2⟩
  ·cases h
 ·cases h
def arrAddr (P : Program) (t : TypeId) (i : D) (ret : Nat -> Prop) : Prop :=
 match zwl P t, i with
 | some n, .u (.int _ i) => 0 <= i /\ i.toNat < n /\ ret i.toNat
 | _, _ => False
theorem zi2 {P : Program} {t i ret} (h : arrAddr P t i ret) {k iv} (hi : Rep k i iv) (w : World) : ∃ j, ret j /\ ∀ b o, (Instr.indexAt t (.pointer (some ⟨b, o, none⟩)) iv).run P w = .ok (.pointer (some ⟨b, o + j, none⟩)) w := by
 unfold arrAddr at h;split at h
 ·rename_i n kd i' hn;obtain ⟨h0, hlt, hr⟩ := h;obtain ⟨e, kd', hu, _, hsz⟩ := zi3 hn;obtain rfl := zcb hi;refine ⟨_, hr, fun b o => ?_⟩;have : 0 <= i' /\ i' < (n : Int) := ⟨h0, by omega⟩;simp [Instr.indexAt, Instr.sureAddr, asIntOf, run_underlying hu, this, zdp hsz w, zde]
 ·exact h.elim
def indexAddrD (P : Program) (s : St) (t : TypeId) (x i : D) (ret : D -> Prop) : Prop :=
 match x with
 | .u (.row cells o) => arrAddr P t i fun j => ret (.u (.row cells (o + j)))
 | .ptr b o => arrAddr P t i fun j => ret (.ptr b (o + j))
 | _ => indexSlD P s t x i ret
theorem zjg {P : Program} {s t x i ret} (h : indexAddrD P s t x i ret) {k own a w v iv} (hs : Sim k own s a w) (hx : Rep k x v) (hi : Rep k i iv) :
  ∃ d, ret d /\ ∃ u, (Instr.indexAt t v iv).run P w = .ok u w /\ Rep k d u := by
 unfold indexAddrD at h;split at h
 ·rename_i cells o';obtain ⟨j, hr, hrun⟩ := zi2 h hi w;cases hx with
  | u _ _ hx => cases hx with
   | row _ _ b o g hm hf => exact ⟨_, hr, _, hrun _ _, .u _ _ (by rw [zzA]; exact .row cells _ b o g hm hf)⟩
 ·obtain ⟨j, hr, hrun⟩ := zi2 h hi w;obtain ⟨b, c, hh, rfl⟩ := zeb hx;exact ⟨_, hr, _, hrun _ _, .ptr _ _ b c hh⟩
 ·exact zlR h hs hx hi
def indexD (P : Program) (t : TypeId) (x i : D) (ret : D -> Prop) : Prop :=
 match x, i with
 | .u (.str l), .u (.int _ i) => zbA P t = true /\ 0 <= i /\ exS l[i.toNat]? fun b => ret (.u (.int .u8 b.toNat))
 | .u (.agg cells), .u (.int _ i) => zwl P t = some cells.length /\ 0 <= i /\ exS cells[i.toNat]? fun u => ret (.u u)
 | _, _ => False
theorem zeh {P : Program} {t} (h : zbA P t = true) : P.underlying t = some .string := by grind [zbA]
theorem zph {P : Program} {t x i ret} (h : indexD P t x i ret) {k v iv} (w : World) (hx : Rep k x v) (hi : Rep k i iv) :
  ∃ d, ret d /\ ∃ u, (Instr.index t v iv).run P w = .ok u w /\ Rep k d u := by
 unfold indexD at h;split at h
 ·obtain ⟨ht, h0, b, hb, hret⟩ := h;obtain rfl := zgr hx;obtain rfl := zcb hi;rename_i l kd i';have hlt := (List.getElem?_eq_some_iff.1 hb).1;refine ⟨_, hret, _, ?_, .u _ _ (.int _ _)⟩;have hget : (⟨l.toArray⟩ : ByteArray)[i'.toNat]? = some b := by
   rw [getElem?_pos _ _ (by show i'.toNat < l.toArray.size; simpa using hlt)]
   congr 1
   show l.toArray[i'.toNat] = b;simpa using (List.getElem?_eq_some_iff.1 hb).2
  simp [Instr.index, asIntOf, run_underlying (zeh ht), h0, hget]
 ·obtain ⟨ht, h0, u, hu, hret⟩ := h;obtain ⟨vs, hl, rfl, hr⟩ := zee hx;obtain rfl := zcb hi;rename_i cells kd i';obtain ⟨e, kd', hue, hk, hsz⟩ := zi3 ht;have hlt := (List.getElem?_eq_some_iff.1 hu).1;refine ⟨_, hret, vs.getD i'.toNat undef, ?_, .u _ _ (hr _ _ hu)⟩;have hp := ziK hk w vs.toArray i'.toNat (vs.getD i'.toNat undef) (by simp [show i'.toNat < vs.length by omega]);have hs := zdp hsz w;have hb : i' < (cells.length : Int) := by omega
  simp [Instr.index, asIntOf, run_underlying hue, h0, hb, hs, hp]
 ·exact h.elim
def cutD (n : Nat) (lo hi : Option D) (go : Nat -> Nat -> Prop) : Prop :=
 match lo, hi with
 | none, none => go 0 n
 | some (.u (.int _ l)), none => (0 <= l /\ l <= n) /\ go l.toNat n
 | none, some (.u (.int _ h)) => (0 <= h /\ h <= n) /\ go 0 h.toNat
 | some (.u (.int _ l)), some (.u (.int _ h)) => (0 <= l /\ l <= h /\ h <= n) /\ go l.toNat h.toNat
 | _, _ => False
def zkW {α : Type} (sz : Nat) (rs : List (List α)) : Prop := ∀ r ∈ rs, r.length = sz
section
variable {α β : Type} {sz : Nat}
@[simp] theorem zxe : zkW sz ([] : List (List α)) := by simp [zkW]
@[simp] theorem zwz (r : List α) (l : List (List α)) : zkW sz (r :: l) ↔ r.length = sz /\ zkW sz l := by simp [zkW]
@[simp] theorem zxf (f : β -> List α) (l : List β) : zkW sz (l.map f) ↔ ∀ x ∈ l, (f x).length = sz := by simp [zkW]
end
def sliceD (P : Program) (s : St) (t : TypeId) (x : D) (lo hi : Option D) (ret : D -> Prop) : Prop :=
 match x with
 | .u (.str b) => zbA P t = true /\ cutD b.length lo hi fun l h => ret (.u (.str ((b.take h).drop l)))
 | .u (.sl rows) => match ziV P t with
  | some (_, sz) => zkW sz rows /\ cutD rows.length lo hi fun l h => ret (.u (.sl ((rows.take h).drop l)))
  | none => False
 | .vec i len => match ziV P t, getK s.obs i with
  | some (_, sz), some (.vec _ sz' rows) => sz = sz' /\ len <= rows.length /\ cutD len lo hi fun l h => l = 0 /\ ret (.vec i h)
  | _, _ => False
 | .u (.row cells 0) => zwl P t = some cells.length /\ lo = none /\ hi = none /\ cells.length <= 1000 /\ ret (.u (.sl (cells.map fun u => [u])))
 | _ => False
theorem zkJ {P : Program} (k : Kr) (isS : Bool) (n cap : Nat) (hc : n <= cap) (lo hi : Option D) (lv hv : Option Value) (w : World) (go : Nat -> Nat -> Prop)
  (hl : ∀ d, lo = some d -> ∃ v, lv = some v /\ Rep k d v) (hl' : lo = none -> lv = none) (hh : ∀ d, hi = some d -> ∃ v, hv = some v /\ Rep k d v) (hh' : hi = none -> hv = none)
  (h : cutD n lo hi go) : ∃ l h, go l h /\ l <= h /\ h <= n /\ (Instr.sliceBounds isS n cap lv hv none).run P w = .ok (l, h, cap) w := by
 unfold cutD at h;split at h
 ·rw [hl' rfl, hh' rfl];exact ⟨0, n, h, by omega, by omega, by simp [Instr.sliceBounds]⟩
 ·rename_i kd l;obtain ⟨⟨h0, h1⟩, h⟩ := h;obtain ⟨v, rfl, hr⟩ := hl _ rfl;obtain rfl := zcb hr;rw [hh' rfl];have : 0 <= l /\ l <= (n : Int) := ⟨h0, h1⟩;exact ⟨_, _, h, by omega, by omega, by simp [Instr.sliceBounds, Instr.sliceBound, asIntOf, this]⟩
 ·rename_i kd l;obtain ⟨⟨h0, h1⟩, h⟩ := h;obtain ⟨v, rfl, hr⟩ := hh _ rfl;obtain rfl := zcb hr;rw [hl' rfl];have : 0 <= l /\ l <= (cap : Int) := ⟨h0, by omega⟩;exact ⟨_, _, h, by omega, by omega, by simp [Instr.sliceBounds, Instr.sliceBound, asIntOf, this]⟩
 ·rename_i kd l kd' l';obtain ⟨⟨h0, h1, h2⟩, h⟩ := h;obtain ⟨v, rfl, hr⟩ := hl _ rfl;obtain rfl := zcb hr;obtain ⟨v, rfl, hr⟩ := hh _ rfl;obtain rfl := zcb hr;have : 0 <= l' /\ l' <= (cap : Int) := ⟨by omega, by omega⟩;have g2 : 0 <= l /\ l <= ((l'.toNat : Nat) : Int) := ⟨h0, by omega⟩;have g3 : ¬ max l' 0 < l := by omega
  exact ⟨_, _, h, by omega, by omega, by simp [Instr.sliceBounds, Instr.sliceBound, asIntOf, this, g2]; omega⟩
 ·exact h.elim
theorem zoE {P : Program} {s t x lo hi ret} (h : sliceD P s t x lo hi ret) {k own a w v} {lv hv : Option Value} (hs : Sim k own s a w) (hx : Rep k x v)
  (hl : ∀ d, lo = some d -> ∃ v, lv = some v /\ Rep k d v) (hl' : lo = none -> lv = none) (hh : ∀ d, hi = some d -> ∃ v, hv = some v /\ Rep k d v) (hh' : hi = none -> hv = none) :
  ∃ d, ret d /\ ∃ u, (Instr.sliceAt t v lv hv none).run P w = .ok u w /\ Rep k d u := by
 unfold sliceD at h;split at h
 ·rename_i b;obtain ⟨ht, h⟩ := h;obtain rfl := zgr hx;obtain ⟨l, e, hret, hle, hen, hrun⟩ := zkJ (P := P) k false _ b.length (Nat.le_refl _) lo hi lv hv w _ hl hl' hh hh' h;have hsz : (⟨b.toArray⟩ : ByteArray).size = b.length := by show b.toArray.size = _; simp
  refine ⟨_, hret, .string ((⟨b.toArray⟩ : ByteArray).extract l e), ?_, .u _ _ ?_⟩
  ·simp [Instr.sliceAt, Instr.slice, run_underlying (zeh ht), hsz, hrun]
  ·have : (⟨b.toArray⟩ : ByteArray).extract l e = ⟨((b.take e).drop l).toArray⟩ := by
    apply ByteArray.ext;rw [ByteArray.data_extract];simp [List.extract_toArray, List.extract_eq_take_drop, List.drop_take]
   rw [this];exact .str _
 ·rename_i rows;split at h
  ·rename_i e sz he;obtain ⟨hall, h⟩ := h;obtain ⟨hu, hsz⟩ := zfL he;cases hx with
   | u _ _ hx => cases hx with
    | slE a c hnc =>
     obtain ⟨l, e', hret, hle, hen, hrun⟩ := zkJ (P := P) k true _ c (by simp) lo hi lv hv w _ hl hl' hh hh' h;simp at hen;subst hen;simp at hle;subst hle;refine ⟨_, hret, .slice (if c = 0 then a else a.map (·.add (0 * sz))) (0 - 0) (c - 0), ?_, ?_⟩
     ·simp only [List.length_nil] at hrun;simp [Instr.sliceAt, Instr.slice, run_underlying hu, hrun, zdp hsz w]
     simp;refine .u _ _ (.slE _ _ fun e => ?_);by_cases hc0 : c = 0
     ·simp [hc0]
     ·simp_all
    | sl _ b o sz' c f hcap hcx h1 h2 h3 =>
     obtain ⟨l, e', hret, hle, hen, hrun⟩ := zkJ (P := P) k true _ c hcap lo hi lv hv w _ hl hl' hh hh' h;refine ⟨_, hret, .slice (if c = l then some ⟨b, o, none⟩ else some ⟨b, o + l * sz, none⟩) (e' - l) (c - l), ?_, .u _ _ ?_⟩
     ·simp only [Instr.sliceAt, Instr.slice, run_underlying hu, Sem.run_bind, Result.andThen_ok, hrun, zdp hsz w];split <;> simp [zde]
     ·have hlen : ((rows.take e').drop l).length = e' - l := by simp; omega
      by_cases hz : e' - l = 0
      ·rw [List.eq_nil_of_length_eq_zero (hlen.trans hz), hz];refine .slE _ _ fun e => ?_;split at e <;> cases e
      ·have hrow0 : sz' = sz := by
        have hp : 0 < rows.length := by omega
        have hm : rows[0] ∈ rows := List.getElem_mem hp;exact (h1 _ hm).symm.trans (hall _ hm)
       subst hrow0;rw [if_neg (by omega), <- hlen];refine .sl _ b _ sz' _ (fun i => f (l + i)) (by omega) (by omega) (fun r hr => h1 r (List.mem_of_mem_take (List.mem_of_mem_drop hr))) (fun i hi j hj => ?_) (fun i r hr j u hu => ?_)
       ·grind
       ·grind
  ·exact h.elim
 ·rename_i i len;split at h
  ·rename_i e sz e' sz' rows he hg;obtain ⟨rfl, hlen, h⟩ := h;obtain ⟨hu, hsz⟩ := zfL he;obtain ⟨g, hg', rfl⟩ := zfc hx;obtain ⟨g2, xs, hg2, hrow, _⟩ := (hs.sat.ob _ _ hg).vec;rw [hg'] at hg2;simp only [Option.some.injEq] at hg2;subst hg2;obtain ⟨gb, gc⟩ := g;have hcap : rows.length <= gc := by
    rcases hrow.2 with ⟨hv, hz⟩ | ⟨_, _, _, hv, _, _, hle, _⟩
    ·omega
    ·simp_all [za8, Value.slice.injEq]
   obtain ⟨l, e', hret, hle, hen, hrun⟩ := zkJ (P := P) k true len gc (by omega) lo hi lv hv w _ hl hl' hh hh' h;obtain ⟨rfl, hret⟩ := hret;refine ⟨_, hret, za8 (gb, gc) e', ?_, .vec _ _ _ hg'⟩;have e0 : (gb.map fun b => (⟨b, 0, none⟩ : Addr)).map (·.add (0 * sz)) = gb.map fun b => (⟨b, 0, none⟩ : Addr) := by
    cases gb <;> simp [zde]
   have e1 : ∀ (x : Option Addr), x.map (·.add (0 * sz)) = x := fun x => by cases x <;> simp [Addr.add]
   simp only [za8, Instr.sliceAt, Instr.slice, run_underlying hu, Sem.run_bind, Result.andThen_ok, hrun, zdp hsz w, e1];simp
  ·exact h.elim
 ·rename_i cells;obtain ⟨hp, rfl, rfl, hlen, hret⟩ := h;obtain ⟨e, kd, hu, _, hsz⟩ := zi3 hp;rw [hl' rfl, hh' rfl];cases hx with
  | u _ _ hx => cases hx with
   | row _ _ b o f hm hf =>
    refine ⟨_, hret, .slice (some ⟨b, o, none⟩) (cells.map fun u => [u]).length cells.length, ?_, .u _ _ (.sl _ b o 1 cells.length (fun i _ => f i) (by simp) (Nat.le_trans hlen (by decide)) (fun r hr => ?_) (fun i hi j hj => ?_) (fun i r hr j u hu => ?_))⟩
    ·simp [Instr.sliceAt, Instr.sureAddr, Instr.sliceBounds, run_underlying hu, zdp hsz w, zde]
    ·grind
    ·simp_all
    ·grind
 ·exact h.elim
end Go.VL
namespace Go.VL
open Go
def zc7 : D -> Bool
 | .u (.agg _) | .agg _ | .tup _ | .any => false
 | .u (.oth v) => v.oneCell'
 | _ => true
theorem zfG {k : Kr} {d : D} {v : Value} (h : zc7 d = true) (hr : Rep k d v) : v.oneCell' = true /\ v.cells = #[v] := by
 have key : v.oneCell' = true := by
  cases hr with
  | u x v hu => cases hu <;> simp_all [zc7, Value.oneCell']
  | any v => simp [zc7] at h
  | ptr => rfl
  | vec => rfl
  | elt => rfl
  | mp => rfl
  | fnc => rfl
  | bnd => rfl
  | agg => simp [zc7] at h
  | tup => simp [zc7] at h
 refine ⟨key, ?_⟩;cases v <;> simp_all [Value.oneCell', Value.cells]
def zb0 : D -> Option (List D)
 | .agg cs => some cs
 | .u (.agg us) => some (us.map .u)
 | d => if zc7 d then some [d] else none
theorem zhE {k : Kr} {d : D} {cs : List D} {v : Value} (h : zb0 d = some cs) (hr : Rep k d v) :
  v.cells.size = cs.length /\ ∀ j c, cs[j]? = some c -> Rep k c (v.cells.getD j undef) := by
 unfold zb0 at h;split at h
 ·rename_i l;simp at h; subst h;obtain ⟨vs, hl, rfl, hc⟩ := zin hr;exact ⟨by simp [Value.cells, hl], fun j c hj => by simpa [Value.cells] using hc j c hj⟩
 ·rename_i us;simp at h; subst h;obtain ⟨vs, hl, rfl, hc⟩ := zee hr;refine ⟨by simp [Value.cells, hl], fun j c hj => ?_⟩;rw [List.getElem?_map] at hj;cases hu : us[j]? with
  | none => simp [hu] at hj
  | some x => simp [hu] at hj; subst hj; simpa [Value.cells] using Rep.u (k := k) _ _ (hc j x hu)
 ·split at h
  ·rename_i hone;simp at h; subst h;have hv := (zfG hone hr).2;refine ⟨by simp [hv], fun j c hj => ?_⟩;cases j with
   | zero => simp at hj; subst hj; simpa [hv] using hr
   | succ j => simp at hj
  ·cases h
def setAll {α : Type} : List α -> Nat -> List α -> List α
 | cs, _, [] => cs
 | cs, o, d :: ds => setAll (cs.set o d) (o + 1) ds
theorem zfa {α : Type} : ∀ (ds cs : List α) (o : Nat), (setAll cs o ds).length = cs.length
 | [], _, _ => rfl
 | d :: ds, cs, o => by rw [setAll, zfa ds]; simp
def RepL (k : Kr) (ds : List D) (vs : Array Value) : Prop := vs.size = ds.length /\ ∀ j d, ds[j]? = some d -> Rep k d (vs.getD j undef)
theorem RepL.set {k ds vs} (h : RepL k ds vs) (o : Nat) {d v} (hr : Rep k d v) : RepL k (ds.set o d) (vs.setIfInBounds o v) := by
 refine ⟨by simp [h.1], fun j c hj => ?_⟩;rw [List.getElem?_set] at hj;by_cases he : o = j
 ·subst he;simp at hj;obtain ⟨hlt, rfl⟩ := hj;have : o < vs.size := by rw [h.1]; exact hlt
  simpa [this] using hr
 ·rw [if_neg he] at hj;have := h.2 j c hj;simpa [Array.getElem?_setIfInBounds_ne he] using this
theorem RepL.setAll {k : Kr} : ∀ (news : List D) (nv : List Value) (ds : List D) (vs : Array Value) (o : Nat), RepL k ds vs -> news.length = nv.length -> (∀ j c, news[j]? = some c -> Rep k c (nv.getD j undef)) ->
  RepL k (setAll ds o news) ((nv.zipIdx 0).foldl (fun cs (x : Value × Nat) => cs.setIfInBounds (o + x.2) x.1) vs)
 | [], nv, ds, vs, o, h, hl, _ => by
  have : nv = [] := List.eq_nil_of_length_eq_zero hl.symm;subst this;simpa [VL.setAll] using h
 | d :: news, [], ds, vs, o, h, hl, _ => by simp at hl
 | d :: news, v :: nv, ds, vs, o, h, hl, hr => by
  have h1 := h.set o (hr 0 d rfl);have ih := RepL.setAll news nv _ _ (o + 1) h1 (by simpa using hl) (fun j c hj => by simpa using hr (j + 1) c (by simpa using hj));simp only [VL.setAll, List.zipIdx_cons, List.foldl_cons, Nat.add_zero];have e : ∀ (l : List Value) (n : Nat) (a : Array Value), (l.zipIdx (n + 1)).foldl (fun cs (x : Value × Nat) => cs.setIfInBounds (o + x.2) x.1) a =
    (l.zipIdx n).foldl (fun cs (x : Value × Nat) => cs.setIfInBounds (o + 1 + x.2) x.1) a := by
   intro l
   induction l with
   | nil => intro n a; rfl
   | cons y l ih =>
    intro n a;simp only [List.zipIdx_cons, List.foldl_cons, ih]
    congr 2
    omega
  rw [Nat.zero_add, <- Nat.zero_add 1, e];exact ih
def zp (P : Program) (t : TypeId) : Option (List Value × List (Nat × Nat)) :=
 match P.info? t, P.underlying t with
 | some it, some (.struct fields) =>
  match it.zero, fields.toList.mapM (fun f => (P.info? f.type).map fun i => (f.offset, i.size)) with
  | some z, some places => some (z.cells.toList, places)
  | _, _ => none
 | some it, some (.array n e) =>
  match it.zero, P.info? e with
  | some z, some ie => some (z.cells.toList, (List.range n).map fun i => (i * ie.size, ie.size))
  | _, _ => none
 | _, _ => none
theorem zl1 {p q : Nat -> Option (Nat × Nat)} (h : ∀ i x, p i = some x -> q i = some x) : ∀ (l : List (Nat × Value)) (cs r : Array Value), Instr.fill p cs l = some r -> Instr.fill q cs l = some r
 | [], _, _, hr => hr
 | (i, v) :: l, cs, r, hr => by
  rw [Instr.fill] at hr ⊢;cases hp : p i with
  | none => rw [hp] at hr; cases hr
  | some x =>
     obtain ⟨off, size⟩ := x;rw [hp] at hr;rw [h i _ hp];simp only at hr ⊢;split
     ·grind
     ·rename_i hc; rw [if_neg hc] at hr; exact zl1 h l _ _ hr
def fillD (places : List (Nat × Nat)) : List (Nat × D) -> List D -> (List D -> Prop) -> Prop
 | [], cs, k => k cs
 | (f, d) :: rest, cs, k => match places[f]?, zb0 d with
  | some (off, n), some new => new.length = n /\ off + n <= cs.length /\ fillD places rest (setAll cs off new) k
  | _, _ => False
theorem ziS {k : Kr} {places : List (Nat × Nat)} : ∀ {parts : List (Nat × D)} {pv : List (Nat × Value)} {cs : List D} {vs : Array Value} {K : List D -> Prop},
  fillD places parts cs K -> RepL k cs vs -> parts.length = pv.length -> (∀ (j : Nat) (p : Nat × D) (q : Nat × Value), parts[j]? = some p -> pv[j]? = some q -> q.1 = p.1 /\ Rep k p.2 q.2) ->
  ∃ cs' vs', K cs' /\ RepL k cs' vs' /\ Instr.fill (places[·]?) vs pv = some vs'
 | [], pv, cs, vs, K, h, hr, hl, _ => by
  have : pv = [] := List.eq_nil_of_length_eq_zero hl.symm;subst this;exact ⟨cs, vs, h, hr, rfl⟩
 | (f, d) :: parts, [], cs, vs, K, h, hr, hl, _ => by simp at hl
 | (f, d) :: parts, (g, v) :: pv, cs, vs, K, h, hr, hl, hp => by
  obtain ⟨hfg, hdv⟩ := hp 0 (f, d) (g, v) rfl rfl;simp only at hfg hdv;subst hfg;unfold fillD at h;split at h
  ·rename_i off n new hpl hcd;obtain ⟨hn, hle, h⟩ := h;obtain ⟨h1, h2⟩ := zhE hcd hdv;have h3 := RepL.setAll new v.cells.toList cs vs off hr (by simp [h1]) (fun j c hj => by simpa using h2 j c hj);obtain ⟨cs', vs', hk, hr', hf⟩ := ziS (pv := pv) h h3 (by simpa using hl) (fun j p q hj hq => hp (j + 1) p q (by simpa using hj) (by simpa using hq));refine ⟨cs', vs', hk, hr', ?_⟩;have hg : ¬ (v.cells.size ≠ n \/ off + v.cells.size > vs.size) := by
    rw [h1, hr.1];omega
   have e : (v.cells.zipIdx.foldl (fun cs (x : Value × Nat) => cs.setIfInBounds (off + x.2) x.1) vs) = (v.cells.toList.zipIdx 0).foldl (fun cs (x : Value × Nat) => cs.setIfInBounds (off + x.2) x.1) vs := by
    rw [<- Array.foldl_toList];simp
   simp only [Instr.fill, hpl];rw [if_neg (by simpa using hg)];rw [e];exact hf
  ·exact h.elim
def buildD (P : Program) (t : TypeId) (parts : List (Nat × D)) (ret : D -> Prop) : Prop :=
 match zp P t with
 | some (z, places) => fillD places parts (z.map fun v => .u (uOf v)) fun cs => ret (zcW cs)
 | none => False
theorem zqr (k : Kr) (z : List Value) : RepL k (z.map fun v => .u (uOf v)) z.toArray := by
 refine ⟨by simp, fun j d hj => ?_⟩;rw [List.getElem?_map] at hj;cases hz : z[j]? with
 | none => simp [hz] at hj
 | some v =>
  simp [hz] at hj;subst hj;have : z.toArray.getD j undef = v := by simp [hz]
  rw [this];exact .u _ _ (zeN _ _)
theorem zpK {P : Program} {k : Kr} {t parts ret} (h : buildD P t parts ret) (w : World) (pv : List (Nat × Value)) (hl : parts.length = pv.length)
  (hp : ∀ (j : Nat) (p : Nat × D) (q : Nat × Value), parts[j]? = some p -> pv[j]? = some q -> q.1 = p.1 /\ Rep k p.2 q.2) :
  ∃ d, ret d /\ ∃ u, (Instr.build t pv.toArray).run P w = .ok u w /\ Rep k d u := by
 unfold buildD at h;split at h
 ·rename_i z places hz;obtain ⟨cs', vs', hk, hr', hf⟩ := ziS h (zqr k z) hl hp;refine ⟨_, hk, .agg vs', ?_, ?_⟩
  ·refine run_build w t pv.toArray vs' ?_;unfold zp at hz;unfold Program.built;split at hz
   ·rename_i it fields hi hu;split at hz
    ·rename_i zv pl hzero hpl;simp at hz;obtain ⟨rfl, rfl⟩ := hz;simp only [hi, hu, hzero, hpl];simpa using hf
    ·cases hz
   ·rename_i it n e hi hu;split at hz
    ·rename_i zv ie hzero hie;simp at hz;obtain ⟨rfl, rfl⟩ := hz;simp only [hi, hu, hzero, hie];refine zl1 (fun i x hx => ?_) _ _ _ hf;rw [List.getElem?_map] at hx;cases hr : (List.range n)[i]? with
     | none => rw [hr] at hx; cases hx
     | some j =>
      rw [hr] at hx;have := (List.getElem?_eq_some_iff.1 hr).2;simp at this;subst this;simpa using hx
    ·cases hz
   ·cases hz
  ·have := zeY (k := k) (cells := cs') (vs := vs'.toList) (by simp [hr'.1]) (fun j d hj => by simpa using hr'.2 j d hj);simpa using this
 ·exact h.elim
def lenD (P : Program) (s : St) (t : TypeId) (x : D) (ret : D -> Prop) : Prop :=
 match x with
 | .u (.str l) => zbA P t = true /\ ret (.u (.int .i64 l.length))
 | .u (.sl rows) => (ziV P t).isSome = true /\ ret (.u (.int .i64 rows.length))
 | .u .nil => (ziV P t).isSome = true /\ ret (.u (.int .i64 0))
 | .vec i len => (ziV P t).isSome = true /\ (match getK s.obs i with
  | some (.vec _ _ rows) => len <= rows.length /\ ret (.u (.int .i64 len))
  | _ => False)
 | _ => False
theorem ztn {P : Program} {s t x ret} (h : lenD P s t x ret) {k own a w v} (hs : Sim k own s a w) (ty : TypeId) (hx : Rep k x v) :
  ∃ d, ret d /\ ∃ u, (Builtin.len_ #[t] ty #[v]).run P w = .ok u w /\ Rep k d u := by
 have hsl : (ziV P t).isSome = true -> ∃ e, P.underlying t = some (.slice e) := fun hh => by
  obtain ⟨⟨e, sz⟩, he⟩ := Option.isSome_iff_exists.1 hh;exact ⟨e, (zfL he).1⟩
 unfold lenD at h;split at h
 ·obtain ⟨ht, h⟩ := h;rename_i l;obtain rfl := zgr hx;have hsz : (⟨l.toArray⟩ : ByteArray).size = l.length := by show l.toArray.size = _; simp
  exact ⟨_, h, goInt l.length, by simp [Builtin.len_, run_underlying (zeh ht), hsz], .u _ _ (.int _ _)⟩
 ·obtain ⟨ht, h⟩ := h;rename_i rows;obtain ⟨e, hu⟩ := hsl ht;cases hx with
  | u _ _ hx => cases hx with
   | slE a c _ => exact ⟨_, h, goInt 0, by simp [Builtin.len_, run_underlying hu], .u _ _ (.int _ _)⟩
   | sl _ b o sz c f hc hcx =>
    exact ⟨_, h, goInt rows.length, by simp [Builtin.len_, run_underlying hu], .u _ _ (.int _ _)⟩
 ·obtain ⟨ht, h⟩ := h;obtain ⟨e, hu⟩ := hsl ht;obtain rfl := zdU hx;exact ⟨_, h, goInt 0, by simp [Builtin.len_, run_underlying hu], .u _ _ (.int _ _)⟩
 ·obtain ⟨ht, h⟩ := h;rename_i i len;obtain ⟨e, hu⟩ := hsl ht;split at h
  ·rename_i e' sz' rows hg;obtain ⟨hle, h⟩ := h;obtain ⟨g, hg', rfl⟩ := zfc hx;obtain ⟨g2, xs, hg2, hrow, _⟩ := (hs.sat.ob _ _ hg).vec;exact ⟨_, h, goInt len, by simp [za8, Builtin.len_, run_underlying hu], .u _ _ (.int _ _)⟩
  ·exact h.elim
 ·exact h.elim
def minmaxD (isMax : Bool) (l : List D) (ret : D -> Prop) : Prop :=
 match l with
 | [.u (.int k a), .u (.int k' b)] => k = k' /\ ret (.u (.int k (if isMax then max a b else min a b)))
 | [.u (.int k a), .u (.int k' b), .u (.int k'' c)] => k = k' /\ k = k'' /\ ret (.u (.int k (if isMax then max (max a b) c else min (min a b) c)))
 | _ => False
theorem znW {P : Program} (k k' : IntKind) (a b : Int) (w : World) : (Builtin.min2 (.int k a) (.int k' b)).run P w = .ok (.int k (min a b)) w := by
 have : (if b < a then b else a) = min a b := by rw [Int.min_def]; split <;> split <;> omega
 simp [Builtin.min2, this]
theorem znX {P : Program} (k k' : IntKind) (a b : Int) (w : World) : (Builtin.max2 (.int k a) (.int k' b)).run P w = .ok (.int k (max a b)) w := by
 have : (if a < b then b else a) = max a b := by rw [Int.max_def]; split <;> split <;> omega
 simp [Builtin.max2, this]
end Go.VL
namespace Go.VL
open Go Go.MapKept
def zfs : U -> Option Key
 | .str l => some (.s l)
 | .int k n => some (.i k n)
 | _ => none
def zuD : Value -> Bool
 | .agg _ => true
 | _ => false
def okZ (v : Value) : Bool := v.cells.toList.all (·.oneCell') && (match v with | .agg _ => true | v => v.oneCell')
def zou (P : Program) (t : TypeId) : Option (Bool × List U) :=
 match P.info? t with
 | some i => match i.zero with
  | some z => if okZ z = true then some (zuD z, z.cells.toList.map uOf) else none
  | none => none
 | none => none
theorem uOf_row (m : Mem) (vs : List Value) : ∀ (j : Nat) (u : U), (vs.map uOf)[j]? = some u -> RepU m u (vs.getD j undef) := fun j u hj => by
 rw [List.getElem?_map] at hj;cases hc : vs[j]? with
 | none => rw [hc] at hj; cases hj
 | some v => rw [hc] at hj; cases hj; rw [List.getD_eq_getElem?_getD, hc]; exact zeN m v
theorem zjt {P : Program} {t ag z} (h : zou P t = some (ag, z)) : ∃ v, (∀ w, (zeroValue t).run P w = .ok v w) /\ ∀ k, MV k ag (z.map .u) v := by
 unfold zou at h;split at h
 ·rename_i i hi;split at h
  ·rename_i v hz;by_cases hc : okZ v = true
   ·rw [if_pos hc] at h;cases h;refine ⟨v, fun w => by simp [zeroValue, typeInfo, hi, hz], fun k => ?_⟩;unfold MV;cases v with
    | agg cs =>
     rw [if_pos (by rfl)];refine ⟨cs.toList, by simp, by simp [Value.cells], fun j d hj => ?_⟩;simp only [Value.cells, List.map_map, List.getElem?_map] at hj;cases hq : cs.toList[j]? with
     | none => rw [hq] at hj; cases hj
     | some x =>
      rw [hq] at hj;cases hj;rw [List.getD_eq_getElem?_getD, hq];simp only [okZ, Bool.and_eq_true, List.all_eq_true] at hc;exact ⟨hc.1 x (List.mem_of_getElem? hq), .u _ _ (zeN _ x)⟩
    | _ =>
     rw [if_neg (by simp [zuD])];exact ⟨_, rfl, by simp [okZ] at hc; exact hc.2, .u _ _ (zeN _ _)⟩
   ·rw [if_neg hc] at h;cases h
  ·cases h
 ·cases h
def zeK (P : Program) (t : TypeId) : Option (KK × Bool × List U) :=
 match P.underlying t with
 | some (.map kt e) => match (match P.underlying kt with | some .string => some KK.s | some (.int k) => some (KK.i k) | _ => none), zou P e with
  | some kk, some (ag, z) => some (kk, ag, z)
  | _, _ => none
 | _ => none
def zcv {α : Type} : List (Key × List α) -> Key -> Option (List α)
 | [], _ => none
 | (k, c) :: l, x => if x = k then some c else zcv l x
def mkV (ag : Bool) (cells : List D) : Option D := if ag then some (zcW cells) else match cells with | [u] => some u | _ => none
def lookR (ag : Bool) (z : List U) (r : Option (List D)) (ok : Bool) (ret : D -> Prop) : Prop := match r with
 | some cells => (match mkV ag cells with | some u => ret (if ok then .tup [u, .u (.bool true)] else u) | none => False)
 | none => (match mkV ag (z.map .u) with | some u => ret (if ok then .tup [u, .u (.bool false)] else u) | none => False)
def lookD (P : Program) (s : St) (t : TypeId) (x i : D) (ok : Bool) (ret : D -> Prop) : Prop :=
 match zeK P t, x, i with
 | some (kk, ag, z), .mp m, .u key => match getK s.obs m, zfs key with
  | some (.map kk' ag' es), some key => kk = kk' /\ ag = ag' /\ key.kk = kk /\ lookR ag z (zcv es key) ok ret
  | _, _ => False
 | some (kk, ag, z), .u (.map kk' ag' us), .u key => match zfs key with
  | some key => kk = kk' /\ ag = ag' /\ key.kk = kk /\ lookR ag z ((zcv us key).map fun c => c.map .u) ok ret
  | none => False
 | _, _, _ => False
theorem ziF {α β : Type} (f : α -> β) (key : Key) : ∀ (us : List (Key × List α)), zcv (us.map fun p => (p.1, p.2.map f)) key = (zcv us key).map fun c => c.map f
 | [] => rfl
 | (k, c) :: l => by
  simp only [zzC, zcv];split
  ·rfl
  ·exact ziF f key l
def zj3 (us : List (Key × List U)) : List (Key × List D) := us.map fun p => (p.1, p.2.map .u)
theorem zbi : zj3 [] = [] := rfl
theorem zaT (us : List (Key × List U)) (key : Key) : zcv (zj3 us) key = (zcv us key).map fun c => c.map .u := ziF _ _ _
theorem zkA {m : Mem} {x : U} {v : Value} {key : Key} (h : zfs x = some key) (hr : RepU m x v) : v = key.val := by
 unfold zfs at h;split at h <;> cases h <;> cases hr <;> rfl
theorem Key.zuq {P : Program} {kt : TypeId} {kk : KK} {key : Key} (h : (match P.underlying kt with | some .string => some KK.s | some (.int k) => some (KK.i k) | _ => none) = some kk) (hk : key.kk = kk) :
  ∃ d, P.underlying kt = some d /\ IsKey d key.val := by
 split at h
 ·rename_i hu;cases h;cases key with
  | s l => exact ⟨_, hu, by simp [IsKey, Key.val]⟩
  | i k n => simp [Key.kk] at hk
 ·rename_i k hu;cases h;cases key with
  | s l => simp [Key.kk] at hk
  | i k' n => simp [Key.kk] at hk; subst hk; exact ⟨_, hu, by simp [IsKey, Key.val]⟩
 ·cases h
theorem Key.zv9 {a b : Key} (h : a.val = b.val) : a = b := by
 cases a <;> cases b <;> simp [Key.val] at h ⊢
 ·exact h
 ·exact h
theorem zht {α : Type} {key : Key} : ∀ {es : List (Key × List α)}, (∀ p ∈ es, p.1 ≠ key) -> zcv es key = none
 | [], _ => rfl
 | (k, c) :: l, h => by
  rw [zcv, if_neg (fun e => h (k, c) (by simp) e.symm)];exact zht fun p hp => h p (by simp [hp])
theorem znY {P : Program} {kt : TypeId} {kk : KK} {ag : Bool} {key : Key} {k : Kr} {es : List (Key × List D)} {ents : Array MapEntry} {clock : Nat} {w : World} (h : (match P.underlying kt with | some .string => some KK.s | some (.int k) => some (KK.i k) | _ => none) = some kk)
  (hk : key.kk = kk) (hm : MapAt k kk ag es ents clock) :
  ((Instr.findKey kt key.val ents.toList).run P w = .ok none w /\ ∀ p ∈ es, p.1 ≠ key) \/
  ∃ (j : Nat) (en : MapEntry) (p : Key × List D), (Instr.findKey kt key.val ents.toList).run P w = .ok (some (j, en.val)) w /\ ents[j]? = some en /\ es[j]? = some p /\ p.1 = key /\ MV k ag p.2 en.val := by
 obtain ⟨d, hu, hik⟩ := Key.zuq h hk;have hall : ∀ x ∈ ents.toList, IsKey d x.key := fun x hx => by
  obtain ⟨j, hj⟩ := List.getElem?_of_mem hx;have hjl := (List.getElem?_eq_some_iff.1 hj).1;have hjs : j < es.length := by simp at hjl; rw [<- hm.size]; exact hjl
  obtain ⟨en, h1, h2, _⟩ := hm.ent j es[j] (List.getElem?_eq_getElem hjs);have : x = en := by simp_all
  subst this;rw [h2];obtain ⟨d', hu', hk'⟩ := Key.zuq (key := (es[j]).1) h (hm.kind _ (List.getElem_mem hjs));rw [hu] at hu';cases hu';exact hk'
 rcases findNow_spec hik ents.toList 0 hall with ⟨h1, h2⟩ | ⟨j, e, h1, h2, h3⟩
 ·refine .inl ⟨run_findKey hu h1, fun p hp e => ?_⟩;obtain ⟨j, hj⟩ := List.getElem?_of_mem hp;obtain ⟨en, h4, h5, _⟩ := hm.ent j p hj;exact h2 en (List.mem_of_getElem? (by rw [Array.getElem?_toList]; exact h4)) (by rw [h5, e])
 ·have hj : ents[j]? = some e := by rw [<- Array.getElem?_toList]; exact h2
  have hjl := (Array.getElem?_eq_some_iff.1 hj).1;have hjs : j < es.length := by rw [<- hm.size]; exact hjl
  obtain ⟨en, h4, h5, h6⟩ := hm.ent j es[j] (List.getElem?_eq_getElem hjs);rw [hj] at h4;cases h4;exact .inr ⟨j, e, es[j], by have := run_findKey (P := P) (w := w) hu h1; rwa [Nat.zero_add] at this, hj, List.getElem?_eq_getElem hjs, Key.zv9 (h5.symm.trans h3), h6⟩
theorem zfT {α : Type} {key : Key} : ∀ {es : List (Key × List α)} {j : Nat} {p : Key × List α}, es.Pairwise (fun p q => p.1 ≠ q.1) -> es[j]? = some p -> p.1 = key -> zcv es key = some p.2
 | [], j, p, _, hj, _ => by simp at hj
 | (k, c) :: l, 0, p, _, hj, hk => by grind [zcv]
 | (k, c) :: l, j + 1, p, hn, hj, hk => by
  rw [List.pairwise_cons] at hn;have hj' : l[j]? = some p := by simpa using hj
  rw [zcv, if_neg (fun e => hn.1 p (List.mem_of_getElem? hj') (by rw [hk, e]))];exact zfT hn.2 hj' hk
theorem zlx {α : Type} {es es' : List (Key × List α)} (hp : es.Perm es') (h : es.Pairwise fun p q => p.1 ≠ q.1) : es'.Pairwise fun p q => p.1 ≠ q.1 :=
 hp.pairwise h fun e => e.symm
theorem zjT {α : Type} {key : Key} {es es' : List (Key × List α)} (hp : es.Perm es') (h : es.Pairwise fun p q => p.1 ≠ q.1) : zcv es key = zcv es' key := by
 by_cases hk : ∃ p ∈ es, p.1 = key
 ·obtain ⟨p, hm, hk⟩ := hk;obtain ⟨j, hj⟩ := List.getElem?_of_mem hm;obtain ⟨j', hj'⟩ := List.getElem?_of_mem (hp.mem_iff.1 hm);rw [zfT h hj hk, zfT (zlx hp h) hj' hk]
 ·grind [zht]
theorem zff {P : Program} {t kk ag z} (h : zeK P t = some (kk, ag, z)) : ∃ kt e, P.underlying t = some (.map kt e) /\ (match P.underlying kt with | some .string => some KK.s | some (.int k) => some (KK.i k) | _ => none) = some kk /\ zou P e = some (ag, z) := by
 unfold zeK at h;split at h
 ·grind
 ·cases h
theorem zq0 {k : Kr} {ag cells u v} (h : mkV ag cells = some u) (hm : MV k ag cells v) : Rep k u v := by
 unfold mkV at h;unfold MV at hm;cases ag with
 | true =>
  rw [if_pos rfl] at h hm;cases h;obtain ⟨vs, rfl, h1, h2⟩ := hm;exact zeY h1 fun j d hj => (h2 j d hj).2
 | false =>
  rw [if_neg (by simp)] at h hm;obtain ⟨x, rfl, _, hx⟩ := hm;cases h;exact hx
theorem zlK {P : Program} {kt e : TypeId} {kk : KK} {ag : Bool} {z : List U} {key : Key} {es : List (Key × List D)} {ents : Array MapEntry} {clock b t : Nat} {w : World} {k : Kr} {ok : Bool} {ret : D -> Prop} (hu : P.underlying t = some (.map kt e))
  (hkk : (match P.underlying kt with | some .string => some KK.s | some (.int k) => some (KK.i k) | _ => none) = some kk) (hzc : zou P e = some (ag, z)) (hkk2 : key.kk = kk) (hm : MapAt k kk ag es ents clock)
  (hheap : w.heap[b]? = some (.map ents clock)) (h : lookR ag z (zcv es key) ok ret) : ∃ d, ret d /\ ∃ u, (Instr.lookup t (.map (some b)) key.val ok).run P w = .ok u w /\ Rep k d u := by
 obtain ⟨d, hud, hik⟩ := Key.zuq hkk hkk2;obtain ⟨zv, hzv, hz1⟩ := zjt hzc;have hrun : ∀ r, (Instr.findKey kt key.val ents.toList).run P w = .ok r w -> (Instr.lookup t (.map (some b)) key.val ok).run P w = .ok (if ok then .tuple #[(match r with | some (_, v) => v | none => zv), .bool r.isSome] else (match r with | some (_, v) => v | none => zv)) w := fun r hr => by
  unfold Instr.lookup;cases r with
  | none =>
   simp only [Sem.run_bind, run_underlying hu, Result.andThen_ok, MapKept.run_getObj_map hheap, run_checkKey hud hik, hr, hzv, Sem.run_pure];cases ok <;> simp [hzv]
  | some p =>
   obtain ⟨j, v⟩ := p;simp only [Sem.run_bind, run_underlying hu, Result.andThen_ok, MapKept.run_getObj_map hheap, run_checkKey hud hik, hr, Sem.run_pure];cases ok <;> simp
 have fin : ∀ (u : D) (v : Value) (b : Bool), Rep k u v -> Rep k (if ok then .tup [u, .u (.bool b)] else u) (if ok then .tuple #[v, .bool b] else v) := fun u v b hr => by
  cases ok with
  | false => exact hr
  | true =>
   refine .tup _ [v, .bool b] rfl fun j d hj => ?_
   match j, hj with
   | 0, hj => simp at hj; subst hj; exact hr
   | 1, hj => simp at hj; subst hj; exact .u _ _ (.bool b)
 unfold lookR at h;rcases znY (P := P) (w := w) hkk hkk2 hm with ⟨h1, h2⟩ | ⟨j, en, p, h1, h2, h3, h4, h5⟩
 ·rw [zht h2] at h;simp only at h;split at h
  ·rename_i u hu';exact ⟨_, h, _, hrun none h1, fin u zv false (zq0 hu' (hz1 _))⟩
  ·exact h.elim
 ·rw [zfT hm.once h3 h4] at h;simp only at h;split at h
  ·rename_i u hu';exact ⟨_, h, _, hrun _ h1, fin u en.val true (zq0 hu' h5)⟩
  ·exact h.elim
theorem zq4 {P : Program} {s : St} {t x i ok ret} (h : lookD P s t x i ok ret) {k own a w v iv} (hs : Sim k own s a w) (hx : Rep k x v) (hi : Rep k i iv) :
  ∃ d, ret d /\ ∃ u, (Instr.lookup t v iv ok).run P w = .ok u w /\ Rep k d u := by
 unfold lookD at h;split at h
 ·rename_i kk ag z m key hinf;obtain ⟨kt, e, hu, hkk, hzc⟩ := zff hinf;split at h
  ·rename_i kk' ag' es ky hg hky;obtain ⟨rfl, rfl, hkk2, h⟩ := h;obtain ⟨b, c, ents, clock, es0, hh, hown, hheap, hpm, hm, hno⟩ := (hs.sat.ob m _ hg).map;obtain ⟨b', c', hh', rfl⟩ := zlq hx;rw [hh] at hh';cases hh';have hiv : iv = ky.val := by cases hi with | u _ _ hi => exact zkA hky hi
   subst hiv;rw [<- zjT hpm hm.once] at h;exact zlK hu hkk hzc hkk2 hm hheap h
  ·exact h.elim
 ·rename_i kk ag z kk' ag' us key hinf;obtain ⟨kt, e, hu, hkk, hzc⟩ := zff hinf;split at h
  ·rename_i ky hky;obtain ⟨rfl, rfl, hkk2, h⟩ := h;have hiv : iv = ky.val := by cases hi with | u _ _ hi => exact zkA hky hi
   subst hiv;cases hx with | u _ _ hx =>
    obtain ⟨b, ents, clock, us1, hpm, rfl, hb, hm⟩ := RepU.zw2 hx;refine zlK hu hkk hzc hkk2 hm (zh6 (hs.sat.mem _ _ _ hb)) ?_;rw [zjT (hpm.map _) hm.once, ziF];exact h
  ·exact h.elim
 ·exact h.elim
end Go.VL
namespace Go.VL
open Go
def zdu (t : Bool) (a b : D) : D :=
 match a, b with
 | .u (.bool x), .u (.bool y) => .u (.bool (if t then x else y))
 | a, b => if t then a else b
theorem zqy {k : Kr} {t a b va vb} (ha : Rep k a va) (hb : Rep k b vb) : Rep k (zdu t a b) (if t then va else vb) := by
 unfold zdu;split
 ·grind
 ·cases t <;> simpa
def convD (P : Program) (src dst : TypeId) (x : D) (ret : D -> Prop) : Prop :=
 match x with
 | .u (.int _ n) => (P.underlying src).isSome = true /\ match zlQ P dst with | some k => arith k n (ret <| .u ·) | none => False
 | .u (.str l) => (P.underlying src).isSome = true /\ zbA P dst = true /\ ret (.u (.str l))
 | _ => False
theorem ziL {P : Program} {t k} (h : zlQ P t = some k) : P.underlying t = some (.int k) := by grind [zlQ]
theorem zrP {P : Program} {k : Kr} {src dst x ret v} (h : convD P src dst x ret) (w : World) (hx : Rep k x v) :
  ∃ d, ret d /\ ∃ u, (convert src dst v).run P w = .ok u w /\ Rep k d u := by
 unfold convD at h;split at h
 ·obtain ⟨hs, h⟩ := h;obtain ⟨ts, hs⟩ := Option.isSome_iff_exists.1 hs;obtain rfl := zcb hx;split at h
  ·rename_i kd hk;exact ⟨_, zfl h, _, by simp [convert, run_underlying hs, run_underlying (ziL hk), Conv.intToInt], .u _ _ (.int _ _)⟩
  ·exact h.elim
 ·obtain ⟨hs, hd, h⟩ := h;obtain ⟨ts, hs⟩ := Option.isSome_iff_exists.1 hs;obtain rfl := zgr hx;exact ⟨_, h, _, by simp [convert, run_underlying hs, run_underlying (zeh hd)], .u _ _ (.str _)⟩
 ·exact h.elim
def nilCheckD (x : D) (ret : D -> Prop) : Prop :=
 match x with
 | .u (.row _ _) | .ptr _ _ | .elt _ _ _ _ => ret x
 | .fnc (.func _) _ => ret x
 | _ => False
def makeFuncD (f : Fn) (first caps : List D) (ret : D -> Prop) : Prop := match first, caps with
 | [], cs => ret (.fnc f cs)
 | fs, [] => ret (.bnd f fs)
 | _, _ => False
def zaY (P : Program) (t : TypeId) : Bool := match P.underlying t with | some (.array _ _) | none => false | _ => true
def zdn : U -> Option Value
 | .int k n => some (.int k n)
 | .bool b => some (.bool b)
 | .str l => some (.string ⟨l.toArray⟩)
 | _ => none
def zdm : List U -> Option (List Value)
 | [] => some []
 | u :: us => match zdn u, zdm us with | some v, some vs => some (v :: vs) | _, _ => none
def zgd : U -> Option Value
 | .agg us => (zdm us).map fun vs => .agg vs.toArray
 | u => zdn u
theorem zmc {m : Mem} {u v w} (h : RepU m u w) (hc : zdn u = some v) : w = v := by
 cases h <;> simp_all [zdn]
theorem zmb : ∀ {us : List U} {vs : List Value}, zdm us = some vs -> us.length = vs.length /\ ∀ (j : Nat) (u : U) (v : Value), us[j]? = some u -> vs[j]? = some v -> zdn u = some v
 | [], vs, h => by simp [zdm] at h; subst h; simp
 | u :: us, vs, h => by
  simp only [zdm] at h;split at h
  ·rename_i v vs' h1 h2;cases h;obtain ⟨h3, h4⟩ := zmb h2;refine ⟨by simp [h3], fun j => ?_⟩;cases j with
   | zero => intro a b ha hb; simp at ha hb; subst ha; subst hb; exact h1
   | succ j => intro a b ha hb; exact h4 j a b (by simpa using ha) (by simpa using hb)
  ·cases h
theorem ztQ {m : Mem} {u v w} (h : RepU m u w) (hc : zgd u = some v) : w = v := by
 cases u with
 | agg us =>
  simp only [zgd, Option.map_eq_some_iff] at hc;obtain ⟨vs, hv, rfl⟩ := hc;cases h with
  | agg _ ws hl hr =>
   obtain ⟨h1, h2⟩ := zmb hv
   congr 2
   refine List.ext_getElem (by omega) fun j h3 h4 => ?_;have h5 := hr j (us[j]'(by omega)) (List.getElem?_eq_getElem (by omega));have h6 := zmc h5 (h2 j _ vs[j] (List.getElem?_eq_getElem (by omega)) (List.getElem?_eq_getElem h4));simpa [h3] using h6
 | _ => exact zmc h hc
def zf8 : Value -> U
 | .agg vs => .agg (vs.toList.map uOf)
 | v => uOf v
theorem zsU (m : Mem) (v : Value) : RepU m (zf8 v) v := by
 unfold zf8;split
 ·rename_i vs;have := RepU.agg (m := m) (vs.toList.map uOf) vs.toList (by simp) (uOf_row m vs.toList);simpa using this
 ·exact zeN m _
def makeIfD (P : Program) (t : TypeId) (x : D) (ret : D -> Prop) : Prop := match x with
 | .u u => match zgd u with | some v => zmY P t = true /\ ret (.u (.oth (.iface t v))) | none => False
 | _ => False
theorem zm5 {P : Program} {k : Kr} {t x ret v} (w : World) (h : makeIfD P t x ret) (hx : Rep k x v) : ∃ d, ret d /\ ∃ u, (Instr.makeInterface t v).run P w = .ok u w /\ Rep k d u := by
 unfold makeIfD at h;split at h
 ·rename_i u;split at h
  ·rename_i v' hc;cases hx with
   | u _ _ hx =>
    obtain rfl := ztQ hx hc;obtain ⟨ut, hu, hn⟩ := zhp h.1;refine ⟨_, h.2, .iface t v, ?_, .u _ _ (.oth _)⟩;unfold Instr.makeInterface;simp only [Sem.run_bind, run_underlying hu, Result.andThen_ok];cases ut <;> first | exact absurd rfl (hn _) | rfl
  ·exact h.elim
 ·exact h.elim
def typeAssertD (P : Program) (x : D) (t : TypeId) (ok : Bool) (ret : D -> Prop) : Prop := match x with
 | .u (.oth (.iface t' v)) => ok = true /\ t' = t /\ zmY P t = true /\ ret (.tup [.u (zf8 v), .u (.bool true)])
 | .u (.oth .nilIface) => ok = true /\ zmY P t = true /\ exS (zou P t) fun q => q.1 = true /\ ret (.tup [.u (.agg q.2), .u (.bool false)])
 | _ => False
theorem zih {P : Program} {k : Kr} {x xt t ok ret v} (w : World) (h : typeAssertD P x t ok ret) (hx : Rep k x v) : ∃ d, ret d /\ ∃ u, (Instr.typeAssert v xt t ok).run P w = .ok u w /\ Rep k d u := by
 unfold typeAssertD at h;split at h
 ·obtain ⟨rfl, rfl, hn, hret⟩ := h;rename_i t' v';obtain rfl := zel hx;obtain ⟨ut, hu, hne⟩ := zhp hn;refine ⟨_, hret, .tuple #[v', .bool true], ?_, .tup _ [v', .bool true] rfl fun j d hj => ?_⟩
  ·unfold Instr.typeAssert;simp only [Sem.run_bind, run_underlying hu, Result.andThen_ok];cases ut <;> first | exact absurd rfl (hne _) | simp
  ·match j, hj with
   | 0, hj => cases hj; exact .u _ _ (zsU _ _)
   | 1, hj => cases hj; exact .u _ _ (.bool _)
 ·obtain ⟨rfl, hn, ⟨ag, z⟩, hz, hag, hret⟩ := h;obtain rfl : ag = true := hag;obtain rfl := zel hx;obtain ⟨ut, hu, hne⟩ := zhp hn;obtain ⟨v', hv, hm⟩ := zjt hz;refine ⟨_, hret, .tuple #[v', .bool false], ?_, .tup _ [v', .bool false] rfl fun j d hj => ?_⟩
  ·unfold Instr.typeAssert;simp only [Sem.run_bind, run_underlying hu, Result.andThen_ok];cases ut <;> first | exact absurd rfl (hne _) | simp [hv]
  ·match j, hj with
   | 0, hj =>
    cases hj;have := hm k;unfold MV at this;rw [if_pos rfl] at this;obtain ⟨vs, rfl, hl, hc⟩ := this;refine .u _ _ (.agg z vs (by simpa using hl) fun q u hq => ?_);have h1 := (hc q (.u u) (by rw [List.getElem?_map, hq]; rfl)).2;cases h1 with | u _ _ h1 => exact h1
   | 1, hj => cases hj; exact .u _ _ (.bool _)
 ·exact h.elim
def evPure (P : Program) (s : St) (op : Op) (ret : D -> Prop) : Prop :=
 match op with
 | .move x => ret (opd s x)
 | .assign x => ret (opd s x)
 | .pick c a b => match opd s c with | .u (.bool t) => ret (zdu t (opd s a) (opd s b)) | _ => False
 | .load t x => loadD P s t (opd s x) ret
 | .binOp op t x y _ => binD P op t (opd s x) (opd s y) ret
 | .unOp op _ x => unD op (opd s x) ret
 | .convert src dst x => convD P src dst (opd s x) ret
 | .fieldAddr t x f => fieldAddrD P t (opd s x) f ret
 | .field t x f => fieldD P t (opd s x) f ret
 | .indexAddr t x i => indexAddrD P s t (opd s x) (opd s i) ret
 | .index t x i => indexD P t (opd s x) (opd s i) ret
 | .lookup t x i ok => lookD P s t (opd s x) (opd s i) ok ret
 | .slice t x lo hi none => sliceD P s t (opd s x) (lo.map (opd s)) (hi.map (opd s)) ret
 | .extract x i => match opd s x with | .tup vs => exS vs[i]? ret | _ => False
 | .nilCheck x => nilCheckD (opd s x) ret
 | .makeFunc f first caps => makeFuncD f (first.toList.map (opd s)) (caps.toList.map (opd s)) ret
 | .build t parts => buildD P t (parts.toList.map fun p => (p.1, opd s p.2)) ret
 | .makeInterface t x => makeIfD P t (opd s x) ret
 | .typeAssert x _ t ok => typeAssertD P (opd s x) t ok ret
 | .call c => match c.callee with
  | .builtin .len => match c.args, c.argTypes with | ⟨[x]⟩, ⟨[t]⟩ => lenD P s t (opd s x) ret | _, _ => False
  | .builtin .min => minmaxD false (c.args.toList.map (opd s)) ret
  | .builtin .max => minmaxD true (c.args.toList.map (opd s)) ret
  | _ => False
 | _ => False
def zyc (P : Program) (o : Oper) (s : St) (ret : D -> Prop) : Prop :=
 ∀ k own a w, Sim k own s a w -> ∃ d, ret d /\ ∃ v, (execOp a.eval o).run P w = .ok (.value v) w /\ Rep k d v
theorem zoH {P : Program} {s : Sem Value} {v w} (h : s.run P w = .ok v w) : (do pure (.value (<- s)) : Sem Next).run P w = .ok (.value v) w := by simp [h]
theorem zfF {k own s a w} (h : Sim k own s a w) (xs : List Operand) : ∀ j d, (xs.map (opd s))[j]? = some d -> Rep k d ((xs.map a.eval).getD j undef) := by
 intro j d hj;rw [List.getElem?_map] at hj;cases hx : xs[j]? with
 | none => simp [hx] at hj
 | some x =>
  simp [hx] at hj;subst hj;have : (xs.map a.eval).getD j undef = a.eval x := by simp [hx]
  rw [this];exact zaX h x
theorem zjP {P : Program} {k : Kr} {isMax ds ret} (h : minmaxD isMax ds ret) (w : World) (vs : List Value) (hl : ds.length = vs.length) (hr : ∀ j d, ds[j]? = some d -> Rep k d (vs.getD j undef))
  (ts : Array TypeId) (ty : TypeId) : ∃ d, ret d /\ ∃ u, (if isMax then Builtin.max_ ts ty vs.toArray else Builtin.min_ ts ty vs.toArray).run P w = .ok u w /\ Rep k d u := by
 unfold minmaxD at h;split at h
 ·rename_i ka x kb y;obtain ⟨rfl, h⟩ := h
  match vs, hl with
  | [v0, v1], _ =>
   obtain rfl := zcb (hr 0 _ rfl);obtain rfl := zcb (hr 1 _ rfl);refine ⟨_, h, _, ?_, .u _ _ (.int _ _)⟩;cases isMax <;> simp [Builtin.max_, Builtin.min_, znW, znX]
 ·rename_i ka x kb y kc z;obtain ⟨rfl, rfl, h⟩ := h
  match vs, hl with
  | [v0, v1, v2], _ =>
   obtain rfl := zcb (hr 0 _ rfl);obtain rfl := zcb (hr 1 _ rfl);obtain rfl := zcb (hr 2 _ rfl);refine ⟨_, h, _, ?_, .u _ _ (.int _ _)⟩;cases isMax <;> simp [Builtin.max_, Builtin.min_, znW, znX]
 ·exact h.elim
theorem zjS {α β : Type} (f : α -> β) (xs : Array α) : xs.map f = (xs.toList.map f).toArray := by
 obtain ⟨l⟩ := xs;simp
theorem zl7 {P : Program} {s : St} {o : Oper} {ret : D -> Prop} (h : evPure P s o.op ret) : zyc P o s ret := by
 intro k own a w hs;obtain ⟨dst, op, type, pos, after, guard⟩ := o;simp only at h;have fin : ∀ {x : Sem Value}, (∃ d, ret d /\ ∃ u, x.run P w = .ok u w /\ Rep k d u) -> ∃ d, ret d /\ ∃ v, (do pure (.value (<- x)) : Sem Next).run P w = .ok (.value v) w /\ Rep k d v :=
  fun ⟨d, hd, u, hu, hr⟩ => ⟨d, hd, u, zoH hu, hr⟩
 unfold evPure at h;split at h
 ·rename_i x;exact ⟨_, h, a.eval x, rfl, zaX hs x⟩
 ·rename_i x;exact ⟨_, h, a.eval x, rfl, zaX hs x⟩
 ·rename_i c x y;split at h
  ·rename_i t ht;have hc := zaX hs c;rw [ht] at hc;have hc := zeH hc;refine ⟨_, h, if t then a.eval x else a.eval y, ?_, zqy (zaX hs x) (zaX hs y)⟩;simp [execOp, hc, asBool]
  ·exact h.elim
 ·exact fin (zlL h hs (zaX hs _))
 ·exact fin (zuf _ _ w h (zaX hs _) (zaX hs _))
 ·exact fin (zu2 w h (zaX hs _))
 ·exact fin (zrP h w (zaX hs _))
 ·exact fin (zjj h w (zaX hs _))
 ·exact fin (zps h w (zaX hs _))
 ·exact fin (zjg h hs (zaX hs _) (zaX hs _))
 ·exact fin (zph h w (zaX hs _) (zaX hs _))
 ·exact fin (zq4 h hs (zaX hs _) (zaX hs _))
 ·rename_i t x lo hi;obtain ⟨d, hd, u, hu, hr⟩ := zoE (lv := lo.map a.eval) (hv := hi.map a.eval) h hs (zaX hs _)
   (fun d hd => by cases lo <;> simp at hd; subst hd; exact ⟨_, rfl, zaX hs _⟩) (fun hd => by cases lo <;> simp_all)
   (fun d hd => by cases hi <;> simp at hd; subst hd; exact ⟨_, rfl, zaX hs _⟩) (fun hd => by cases hi <;> simp_all)
  exact ⟨d, hd, u, zoH hu, hr⟩
 ·rename_i x i;split at h
  ·rename_i vs hx;obtain ⟨d, hd, h⟩ := h;have hr := zaX hs x;rw [hx] at hr;obtain ⟨us, hl, hv, hu⟩ := zhm hr;have hlt := (List.getElem?_eq_some_iff.1 hd).1;have hget : us.toArray[i]? = some (us.getD i undef) := by simp [show i < us.length by omega]
   refine ⟨d, h, us.getD i undef, ?_, hu i d hd⟩;simp only [execOp, hv];exact zoH (by simp only [Instr.extract, hget]; rfl)
  ·exact h.elim
 ·rename_i x;have hr := zaX hs x;generalize opd s x = X at h hr;unfold nilCheckD at h;split at h
  ·obtain ⟨b, o, hv, _⟩ := rep_row hr;exact ⟨_, h, a.eval x, by simp [execOp, hv], hr⟩
  ·obtain ⟨b, c, _, hv⟩ := zeb hr;exact ⟨_, h, a.eval x, by simp [execOp, hv], hr⟩
  ·obtain ⟨b, c, _, hv⟩ := zim hr;exact ⟨_, h, a.eval x, by simp [execOp, hv], hr⟩
  ·obtain ⟨vs, _, hv, _⟩ := zko hr;exact ⟨_, h, a.eval x, by simp [execOp, hv], hr⟩
  ·exact h.elim
 ·rename_i f first caps
  unfold makeFuncD at h;split at h
  ·rename_i he;obtain rfl : first = #[] := by simpa using he
   refine ⟨_, h, .func f #[] (caps.toList.map a.eval).toArray, ?_, .fnc f _ _ (by simp) (zfF hs caps.toList)⟩;simp only [execOp];rw [<- zjS];exact zoH (by simp [Instr.makeFunc])
  ·obtain rfl : caps = #[] := by simp_all
   refine ⟨_, h, .func f (first.toList.map a.eval).toArray #[], ?_, .bnd f _ _ (by simp) (zfF hs first.toList)⟩;simp only [execOp];rw [<- zjS];exact zoH (by simp [Instr.makeFunc])
  ·exact h.elim
 ·rename_i t parts;have := zpK h w (parts.toList.map fun p => (p.1, a.eval p.2)) (by simp) (fun j p q hj hq => by
   rw [List.getElem?_map] at hj hq;cases hp : parts.toList[j]? with
   | none => simp [hp] at hj
   | some x =>
    simp [hp] at hj hq;subst hj; subst hq;exact ⟨rfl, zaX hs _⟩)
  have e : (parts.map fun (p : Nat × Operand) => (p.1, a.eval p.2)) = (parts.toList.map fun p => (p.1, a.eval p.2)).toArray := zjS _ _;obtain ⟨d, hd, u, hu, hr⟩ := this;refine ⟨d, hd, u, zoH ?_, hr⟩;have : (parts.map fun (x : Nat × Operand) => match x with | (i, x) => (i, a.eval x)) = (parts.toList.map fun p => (p.1, a.eval p.2)).toArray := e;rw [this];exact hu
 ·exact fin (zm5 w h (zaX hs _))
 ·exact fin (zih w h (zaX hs _))
 ·rename_i c;obtain ⟨callee, args, argTypes⟩ := c;simp only at h;split at h
  ·split at h
   ·rename_i x t;obtain ⟨d, hd, u, hu, hr⟩ := ztn h hs type (zaX hs x);exact ⟨d, hd, u, by simp [execOp, resolve, invoke, builtin, hu], hr⟩
   ·exact h.elim
  ·obtain ⟨d, hd, u, hu, hr⟩ := zjP (P := P) h w (args.toList.map a.eval) (by simp) (zfF hs args.toList) argTypes type;rw [<- zjS] at hu;simp only [if_true, Bool.false_eq_true, if_false] at hu;exact ⟨d, hd, u, by simp [execOp, resolve, invoke, builtin, hu], hr⟩
  ·obtain ⟨d, hd, u, hu, hr⟩ := zjP (P := P) h w (args.toList.map a.eval) (by simp) (zfF hs args.toList) argTypes type;rw [<- zjS] at hu;simp only [if_true, Bool.false_eq_true, if_false] at hu;exact ⟨d, hd, u, by simp [execOp, resolve, invoke, builtin, hu], hr⟩
  ·exact h.elim
 ·exact h.elim
end Go.VL
namespace Go.VL
open Go
def zay (dst : Option Tmp) (s : St) : Prop := match dst with | some x => x < s.n | none => True
theorem zaa {α : Type} (k : Nat) (d : α) (l : List (Nat × α)) (x : Nat) : getK ((k, d) :: l) x = if x = k then some d else getK l x := rfl
theorem Sim.put {k own s a w d v dst} (h : Sim k own s a w) (hp : zay dst s) (hr : Rep k d v) : Sim k own (s.put dst d) (a.put dst v) w := by
 cases dst with
 | none => exact h
 | some x =>
  have hx : x < s.n := hp;refine ⟨h.sat, h.defers, by simp [Act.put, St.put, h.size], fun y e hy => ?_, h.hdr⟩;simp only [St.put, zaa] at hy;by_cases hxy : y = x
  ·subst hxy;simp at hy;subst hy;exact ⟨hx, by simpa [Act.put, h.size, hx] using hr⟩
  ·rw [if_neg hxy] at hy;obtain ⟨h1, h2⟩ := h.env y e hy;refine ⟨h1, ?_⟩;simpa [Act.put, Array.getElem?_setIfInBounds_ne (Ne.symm hxy)] using h2
def Eff (P : Program) (Γ : Ctx) (o : Oper) (s : St) (k : St -> Prop) : Prop :=
 ∀ K a w, In Γ K w -> Sim K Γ.own s a w -> ∀ (Kont : Act -> World -> Prop) (Q : Exit -> Act -> World -> Prop),
  (∀ K' a' w' s', In Γ K' w' -> Sim K' Γ.own s' a' w' -> k s' -> Kont a' w') -> o.wp P a w Kont Q
def EffP (P : Program) (Γ : Ctx) (o : Oper) (s : St) (k : St -> Prop) : Prop :=
 ∀ K a w, In Γ K w -> Sim K Γ.own s a w -> ∀ (Kont : Act -> World -> Prop) (Q : Exit -> Act -> World -> Prop),
  (∀ K' a' w' s', In Γ K' w' -> Sim K' Γ.own s' a' w' -> k s' -> Kont a' w') ->
  (∀ ch K' a' w' s', In Γ K' w' -> Sim K' Γ.own s' a' w' -> Γ.pan ch s' -> Q (.panic ch) a' w') -> o.wp P a w Kont Q
theorem Eff.p {P Γ o s k} (h : Eff P Γ o s k) : EffP P Γ o s k := fun K a w hin hs Kont Q hK _ => h K a w hin hs Kont Q hK
theorem Eff.pure {P Γ o s k} (h : evPure P s o.op fun d => zay o.dst s /\ k (s.put o.dst d)) : Eff P Γ o s k := by
 intro K a w hin hs Kont Q hK;obtain ⟨d, ⟨hp, hk⟩, v, hv, hr⟩ := zl7 h K Γ.own a w hs;unfold Oper.wp;rw [hv];exact hK K _ w _ hin (hs.put hp hr) hk
def Blk (k : Kr) (obs : List (Nat × Ob)) (b : Nat) : Prop := ∃ i ob h, getK obs i = some ob /\ k.hdr i = some h /\ h.1 = some b
theorem zoO {w : World} {b e sz n xs v} (h : w.ownsRow b e sz v n xs) {g} (hg : v.ownBlock = some g) : g < w.heap.size := (h.lt g hg).2
theorem Sat.lt {k own obs w} (h : Sat k own obs w) {b} (hb : Blk k obs b) : b < w.heap.size := by
 obtain ⟨i, ob, g, h1, h2, h3⟩ := hb;obtain ⟨g', h4, h5, h6⟩ := h.ob i ob h1;rw [h2] at h4;cases h4;cases ob with
 | box cells =>
  obtain ⟨b', vs, t, e, h7, _⟩ := h6;rw [h3] at e;cases e;exact (Array.getElem?_eq_some_iff.1 h7).1
 | map kk ag es =>
  obtain ⟨b', ents, clock, _, e, h7, _⟩ := h6;rw [h3] at e;cases e;exact (Array.getElem?_eq_some_iff.1 h7).1
 | nw t =>
  obtain ⟨b', e, h7⟩ := h6;rw [h3] at e;cases e;exact (Array.getElem?_eq_some_iff.1 h7).1
 | sit s pos =>
  obtain ⟨b', e, h7⟩ := h6;rw [h3] at e;cases e;exact (Array.getElem?_eq_some_iff.1 h7).1
 | it kk ag es left cur =>
  obtain ⟨b', e, bm, ents, clock, seen, us, h7, _⟩ := h6;rw [h3] at e;cases e;exact (Array.getElem?_eq_some_iff.1 h7).1
 | vec e sz rows =>
  obtain ⟨xs, h7, _⟩ := h6;exact zoO h7 (by simp [za8, h3, Value.ownBlock])
theorem Sat.memLt {k own obs w} (h : Sat k own obs w) {b o v} (hm : k.mem b o = some v) : b < w.heap.size := by
 have := h.mem b o v hm;exact zvj this
theorem zd9 {w w' : World} {b : Nat} (h : w'.heap[b]? = w.heap[b]?) (o : Nat) : look w' b o = look w b o := zq3 h o
theorem Sat.keep {k k' own obs w w'} (h : Sat k own obs w) (hk : k.le k') (hb : ∀ b, Blk k obs b -> w'.heap[b]? = w.heap[b]?)
  (hm : ∀ b o v, k'.mem b o = some v -> look w' b o = some v) (hn : ∀ b, Blk k obs b -> ∀ o, k'.mem b o = none) : Sat k' own obs w' := by
 refine ⟨hm, fun i ob hi => ?_, fun i j x y g g' b hx hy hij hg hg' hb' => ?_⟩
 ·obtain ⟨g, h1, h2, h3⟩ := h.ob i ob hi;exact ⟨g, hk.hdr _ _ h1, fun b e => ⟨(h2 b e).1, hn b ⟨i, ob, g, hi, h1, e⟩⟩, h3.keep hk fun b e => hb b ⟨i, ob, g, hi, h1, e⟩⟩
 ·obtain ⟨g1, h1, _⟩ := h.ob i x hx;obtain ⟨g2, h2, _⟩ := h.ob j y hy;have e1 := hk.hdr _ _ h1;have e2 := hk.hdr _ _ h2;rw [hg] at e1;rw [hg'] at e2;cases e1;cases e2;exact h.apart i j x y g g' b hx hy hij h1 h2 hb'
theorem Sat.set {k own obs w w' i ob ob' h} (hs : Sat k own obs w) (hi : getK obs i = some ob) (hh : k.hdr i = some h)
  (hb : ∀ b, h.1 ≠ some b -> w'.heap[b]? = w.heap[b]?) (ho : ObAt k w' h ob') : Sat k own ((i, ob') :: obs) w' := by
 have hh' := hs.ob i ob hi;obtain ⟨h2, h1, hno, _⟩ := hh';rw [hh] at h1;cases h1;refine ⟨fun b o v hm => ?_, fun j oj hj => ?_, fun x y ox oy g g' b hx hy hxy hg hg' hb' => ?_⟩
 ·rw [zd9 (hb b (fun e => by have := (hno b e).2 o; rw [hm] at this; cases this))];exact hs.mem b o v hm
 ·rw [zaa] at hj;by_cases hji : j = i
  ·subst hji;simp at hj;subst hj;exact ⟨h, hh, hno, ho⟩
  ·rw [if_neg hji] at hj;obtain ⟨g, h3, h4, h5⟩ := hs.ob j oj hj;refine ⟨g, h3, h4, h5.keep (.refl k) fun b e => hb b fun e' => ?_⟩;exact hs.apart i j ob oj h g b hi hj (Ne.symm hji) hh h3 e' e
 ·rw [zaa] at hx hy;have fx : ∃ o, getK obs x = some o := by grind
  have fy : ∃ o, getK obs y = some o := by grind
  obtain ⟨px, fx⟩ := fx;obtain ⟨py, fy⟩ := fy;exact hs.apart x y px py g g' b fx fy hxy hg hg' hb'
def del {α : Type} (obs : List (Nat × α)) (i : Nat) : List (Nat × α) := obs.filter fun p => !(p.1 == i)
theorem zac {α : Type} (obs : List (Nat × α)) (i j : Nat) : getK (del obs i) j = if j = i then none else getK obs j := by
 induction obs with
 | nil => simp [del, getK]
 | cons p l ih =>
  obtain ⟨k, d⟩ := p;unfold del at ih ⊢;by_cases hk : k = i
  ·subst hk;simp only [List.filter_cons, beq_self_eq_true, Bool.not_true, Bool.false_eq_true, if_false, ih, zaa];by_cases hj : j = k <;> simp [hj]
  ·have : (!(k == i)) = true := by simp [hk]
   rw [List.filter_cons, if_pos this, zaa, zaa, ih];by_cases hj : j = k
   ·subst hj; simp [hk]
   ·simp [hj]
theorem Sat.del {k own obs w} (h : Sat k own obs w) (i : Nat) : Sat k own (del obs i) w := by
 have e : ∀ j o, getK (VL.del obs i) j = some o -> getK obs j = some o := fun j o hj => by simp_all [zac]
 exact ⟨h.mem, fun j o hj => h.ob j o (e j o hj), fun x y ox oy g g' b hx hy => h.apart x y ox oy g g' b (e _ _ hx) (e _ _ hy)⟩
def Kr.add (k : Kr) (i : Nat) (h : Option Nat × Nat) : Kr := { k with hdr := fun j => if j = i then some h else k.hdr j }
theorem Kr.zg7 {k : Kr} {i h} (hi : k.hdr i = none) : k.le (k.add i h) := by
 refine ⟨.refl _, fun j g hj => ?_⟩;simp only [Kr.add];rw [if_neg (fun e => by subst e; rw [hi] at hj; cases hj)];exact hj
theorem Sat.add {k own obs w w' i ob h} (hs : Sat k own obs w) (hi : k.hdr i = none) (hown : ∀ b, h.1 = some b -> own b /\ (∀ o, k.mem b o = none) /\ ¬ Blk k obs b)
  (hb : ∀ b, (Blk k obs b \/ ∃ o v, k.mem b o = some v) -> w'.heap[b]? = w.heap[b]?) (ho : ObAt (k.add i h) w' h ob) : Sat (k.add i h) own ((i, ob) :: obs) w' := by
 have hle := Kr.zg7 (h := h) hi;have hne : ∀ j o, getK obs j = some o -> j ≠ i := fun j o hj e => by
  subst e;obtain ⟨g, h1, _⟩ := hs.ob _ o hj;rw [hi] at h1;cases h1
 refine ⟨fun b o v hm => ?_, fun j oj hj => ?_, fun x y ox oy g g' b hx hy hxy hg hg' hb' => ?_⟩
 ·have hm' : k.mem b o = some v := hm;rw [zd9 (hb b (.inr ⟨o, v, hm'⟩))];exact hs.mem b o v hm'
 ·rw [zaa] at hj;by_cases hji : j = i
  ·subst hji;simp at hj;subst hj;exact ⟨h, by simp [Kr.add], fun b e => ⟨(hown b e).1, (hown b e).2.1⟩, ho⟩
  ·rw [if_neg hji] at hj;obtain ⟨g, h3, h4, h5⟩ := hs.ob j oj hj;refine ⟨g, hle.hdr _ _ h3, h4, h5.keep hle fun b e => hb b (.inl ⟨j, oj, g, hj, h3, e⟩)⟩
 ·rw [zaa] at hx hy;simp only [Kr.add] at hg hg';by_cases ex : x = i
  ·subst ex;have ey : y ≠ x := Ne.symm hxy;rw [if_neg ey] at hy;rw [if_pos rfl] at hg;rw [if_neg ey] at hg';cases hg;exact fun e => (hown b hb').2.2 ⟨y, oy, g', hy, hg', e⟩
  ·rw [if_neg ex] at hx hg;by_cases ey : y = i
   ·subst ey;rw [if_pos rfl] at hg';cases hg';exact fun e => (hown b e).2.2 ⟨x, ox, g, hx, hg, hb'⟩
   ·rw [if_neg ey] at hy hg';exact hs.apart x y ox oy g g' b hx hy hxy hg hg' hb'
theorem In.step {Γ k k' w w'} (h : In Γ k w) (hm : k.le k') (hn : ∀ b o v, k'.mem b o = some v -> k.mem b o = some v \/ Γ.own b)
  (h1 : w'.os = w.os) (h2 : w'.tape = w.tape) (h3 : w'.output = w.output) (h4 : w.heap.size <= w'.heap.size) (h5 : ∀ b, ¬ Γ.own b -> w'.heap[b]? = w.heap[b]?) : In Γ k' w' :=
 ⟨h.le.trans hm, h.none0, fun b o v e => (hn b o v e).elim (h.memNew b o v) .inr, h.fresh, h1.trans h.os, h2.trans h.tape, h3.trans h.output, Nat.le_trans h.size h4, fun b hb => (h5 b hb).trans (h.block b hb)⟩
theorem In.own_of_ge {Γ k w} (h : In Γ k w) {b} (hb : w.heap.size <= b) : Γ.own b := h.fresh b (Nat.le_trans h.size hb)
def St.add (s : St) (ob : Ob) : St := { s with obs := (s.next, ob) :: s.obs, next := s.next + 1 }
theorem zgS (w : World) (o : Obj) {b : Nat} (h : b < w.heap.size) : (w.alloc o).heap[b]? = w.heap[b]? := by
 show (w.heap.push o)[b]? = _;rw [Array.getElem?_push, if_neg (by omega)]
theorem Sim.alloc {Γ : Ctx} {k s a w} (hin : In Γ k w) (hs : Sim k Γ.own s a w) (o : Obj) (c : Nat) (ob : Ob)
  (ho : ObAt (k.add s.next (some w.heap.size, c)) (w.alloc o) (some w.heap.size, c) ob) :
  In Γ (k.add s.next (some w.heap.size, c)) (w.alloc o) /\ Sim (k.add s.next (some w.heap.size, c)) Γ.own (s.add ob) a (w.alloc o) := by
 have hn := hs.hdr s.next (Nat.le_refl _)
 have hle := Kr.zg7 (h := (some w.heap.size, c)) hn;refine ⟨hin.step hle (fun b o v e => .inl e) rfl rfl rfl (by simp) (fun b hb => ?_), ?_, hs.defers, hs.size, fun x d hx => ⟨(hs.env x d hx).1, (hs.env x d hx).2.mono hle⟩, fun i hi => ?_⟩
 ·refine zgS w o ?_;rcases Nat.lt_or_ge b w.heap.size with h | h
  ·exact h
  ·exact absurd (hin.own_of_ge h) hb
 ·refine hs.sat.add hn (fun b e => ?_) (fun b hb => zgS w o (hb.elim hs.sat.lt fun ⟨_, _, e⟩ => hs.sat.memLt e)) ho;simp only [Option.some.injEq] at e;subst e;refine ⟨hin.own_of_ge (Nat.le_refl _), fun o => ?_, fun hb => absurd (hs.sat.lt hb) (by omega)⟩;cases hm : k.mem w.heap.size o with
  | none => rfl
  | some v => exact absurd (hs.sat.memLt hm) (by omega)
 ·have hi' : s.next + 1 <= i := hi
  simp only [Kr.add];rw [if_neg (by omega)];exact hs.hdr i (by omega)
def zeC (P : Program) (t : TypeId) : Option (List Value) :=
 match P.info? t with
 | some i => match i.zero with
  | some z => if z.cells.toList.all (·.oneCell') then some z.cells.toList else none
  | none => none
 | none => none
theorem zjr {P : Program} {t z} (h : zeC P t = some z) : ∃ v, (∀ w, (zeroValue t).run P w = .ok v w) /\ v.cells = z.toArray /\ ∀ x ∈ z, x.oneCell' = true := by
 unfold zeC at h;split at h
 ·rename_i i hi;split at h
  ·rename_i v hz;split at h
   ·rename_i hall;simp at h;subst h;exact ⟨v, fun w => by simp [zeroValue, typeInfo, hi, hz], by simp, fun x hx => (List.all_eq_true.1 hall) x hx⟩
   ·cases h
  ·cases h
 ·cases h
def zeD (cs : List D) : Bool := cs.all zc7
def zck (P : Program) (t : TypeId) (s : St) (dst : Option Tmp) (k : St -> Prop) : Prop :=
 match zeC P t with
 | some z => zay dst s /\ k ((s.add (.box (z.map fun v => .u (uOf v)))).put dst (.ptr s.next 0))
 | none => False
theorem Eff.alloc {P Γ o s k t} (ho : o.op = .alloc t) (h : zck P t s o.dst k) : Eff P Γ o s k := by
 intro K a w hin hs Kont Q hK;unfold zck at h;split at h
 ·rename_i z hz;obtain ⟨hp, hk⟩ := h;obtain ⟨v, hv, hc, hone⟩ := zjr hz;obtain ⟨h1, h2⟩ := Sim.alloc hin hs (.cells v.cells t) 0 (.box (z.map fun v => .u (uOf v))) ⟨w.heap.size, v.cells, t, rfl, heap_alloc_new w _, by simp [hc], fun j d hj => by
   rw [List.getElem?_map] at hj;cases hx : z[j]? with
   | none => simp [hx] at hj
   | some x =>
    simp [hx] at hj;subst hj;have : v.cells.getD j undef = x := by simp [hc, hx]
    rw [this];exact ⟨hone x (List.mem_of_getElem? hx), .u _ _ (zeN _ _)⟩⟩
  have hrun : (execOp a.eval o).run P w = .ok (.value (.pointer (some ⟨w.heap.size, 0, none⟩))) (w.alloc (.cells v.cells t)) := by
   obtain ⟨dst, op, type, pos, after, guard⟩ := o;simp only at ho;subst ho;simp [execOp, Instr.alloc, hv, newVar, newRow]
  unfold Oper.wp;rw [hrun];refine hK _ _ _ _ h1 (h2.put (by cases hd : o.dst <;> simp_all [zay, St.add]) (.ptr _ _ w.heap.size 0 (by simp [Kr.add]))) hk
 ·exact h.elim
def zfv (x : D) (s : St) (dst : Option Tmp) (k : St -> Prop) : Prop :=
 match zb0 x with
 | some cs => zeD cs = true /\ zay dst s /\ k ((s.add (.box cs)).put dst (.ptr s.next 0))
 | none => False
theorem zku {k : Kr} {cs : List D} {vs : Array Value} (h : zeD cs = true) (hr : ∀ j c, cs[j]? = some c -> Rep k c (vs.getD j undef)) : ∀ j c, cs[j]? = some c -> zdQ k c (vs.getD j undef) :=
 fun j c hj => ⟨(zfG ((List.all_eq_true.1 h) c (List.mem_of_getElem? hj)) (hr j c hj)).1, hr j c hj⟩
theorem Eff.box {P Γ o s k t x} (ho : o.op = .box t x) (h : zfv (opd s x) s o.dst k) : Eff P Γ o s k := by
 intro K a w hin hs Kont Q hK;unfold zfv at h;split at h
 ·rename_i cs hc;obtain ⟨hone, hp, hk⟩ := h;have hr := zaX hs x;obtain ⟨h3, h4⟩ := zhE hc hr;have hle := Kr.zg7 (k := K) (h := (some w.heap.size, 0)) (hs.hdr s.next (Nat.le_refl _));obtain ⟨h1, h2⟩ := Sim.alloc hin hs (.cells (a.eval x).cells t) 0 (.box cs) ⟨w.heap.size, (a.eval x).cells, t, rfl, heap_alloc_new w _, h3, fun j d hj =>
   ⟨(zku hone h4 j d hj).1, (h4 j d hj).mono hle⟩⟩
  have hrun : (execOp a.eval o).run P w = .ok (.value (.pointer (some ⟨w.heap.size, 0, none⟩))) (w.alloc (.cells (a.eval x).cells t)) := by
   obtain ⟨dst, op, type, pos, after, guard⟩ := o;simp only at ho;subst ho;simp [execOp, Instr.box, newVar, newRow]
  unfold Oper.wp;rw [hrun];refine hK _ _ _ _ h1 (h2.put (by cases hd : o.dst <;> simp_all [zay, St.add]) (.ptr _ _ w.heap.size 0 (by simp [Kr.add]))) hk
 ·exact h.elim
end Go.VL
namespace Go.VL
open Go
theorem Sat.congr {k own obs obs' w} (h : Sat k own obs w) (e : ∀ j, getK obs' j = getK obs j) : Sat k own obs' w :=
 ⟨h.mem, fun i ob hi => h.ob i ob (by rw [<- e]; exact hi), fun i j x y g g' b hx hy => h.apart i j x y g g' b (by rw [<- e]; exact hx) (by rw [<- e]; exact hy)⟩
def zcw : List (Nat × Ob) -> Nat -> Ob -> List (Nat × Ob)
 | [], i, o => [(i, o)]
 | (k, d) :: l, i, o => if i = k then (k, o) :: l else (k, d) :: zcw l i o
theorem zad : ∀ (l : List (Nat × Ob)) (i : Nat) (o : Ob) (j : Nat), getK (zcw l i o) j = getK ((i, o) :: l) j
 | [], i, o, j => rfl
 | (k, d) :: l, i, o, j => by
  unfold zcw;by_cases h : i = k
  ·simp_all [zaa]
  ·rw [if_neg h];simp only [zaa, zad l i o j];by_cases hj : j = k
   ·subst hj; simp [Ne.symm h]
   ·simp [hj]
theorem zhi {α : Type} : ∀ (ds cs : List α) (o j : Nat), o + ds.length <= cs.length -> (setAll cs o ds)[j]? = if o <= j /\ j < o + ds.length then ds[j - o]? else cs[j]?
 | [], cs, o, j, _ => by simp only [setAll, List.length_nil, Nat.add_zero]; rw [if_neg (by omega)]
 | d :: ds, cs, o, j, h => by
  simp only [List.length_cons] at h;rw [setAll, zhi ds (cs.set o d) (o + 1) j (by simp; omega)];simp only [List.length_cons];by_cases h1 : o + 1 <= j /\ j < o + 1 + ds.length
  ·grind
  ·grind
theorem zh3 (cur nv : List Value) (o j : Nat) (h : o + nv.length <= cur.length) :
  (cur.take o ++ nv ++ cur.drop (o + nv.length))[j]? = if o <= j /\ j < o + nv.length then nv[j - o]? else cur[j]? := by
 by_cases h1 : j < o
 ·grind
 ·grind
theorem zlc {P : Program} {t n} (w : World) (b o : Nat) (ty : TypeId) (cur : Array Value) (v : Value) (ht : tsz P t = some n) (hv : v.cells.size = n)
  (hg : w.heap[b]? = some (.cells cur ty (0, 0))) (hle : o + n <= cur.size) (h1 : ∀ x ∈ v.cells.toList, x.oneCell' = true) :
  (storeVar t ⟨b, o, none⟩ v).run P w = .ok () (w.setRow b (cur.toList.take o ++ v.cells.toList ++ cur.toList.drop (o + n)).toArray) := by
 have h := run_storeCells_at P b o ty v.cells.toList 0 cur w hg (by simp [hv]; omega) h1;simp only [Nat.add_zero, Array.length_toList, hv] at h;simp [storeVar, zdp ht w, hv, h]
def zcj (P : Program) (t : TypeId) (addr x : D) (s : St) (k : St -> Prop) : Prop :=
 match zb0 x with
 | some new => zeD new = true /\ tsz P t = some new.length /\ match addr with
  | .ptr i off => match getK s.obs i with
   | some (.box cells) => off + new.length <= cells.length /\ k { s with obs := zcw s.obs i (.box (setAll cells off new)) }
   | _ => False
  | .elt i sz idx off => match getK s.obs i with
   | some (.vec e sz' rows) => sz = sz' /\ exS rows[idx]? fun r => off + new.length <= r.length /\ k { s with obs := zcw s.obs i (.vec e sz' (rows.set idx (setAll r off new))) }
   | _ => False
  | _ => False
 | none => False
theorem zmL (w : World) (g : Nat) (cs : Array Value) : (w.setRow g cs).heap.size = w.heap.size := by simp [World.setRow]
theorem In.setRow {Γ k w} (h : In Γ k w) (b : Nat) (hb : Γ.own b) (cs : Array Value) : In Γ k (w.setRow b cs) :=
 h.step (.refl _) (fun _ _ _ e => .inl e) rfl rfl rfl (by rw [zmL]; exact Nat.le_refl _) (fun b' hb' => setRow_other w b b' cs (fun e => hb' (e ▸ hb)))
theorem Eff.store {P Γ o s k t x y} (ho : o.op = .store t x y) (hd : o.dst = none) (h : zcj P t (opd s x) (opd s y) s k) : Eff P Γ o s k := by
 intro K a w hin hs Kont Q hK;unfold zcj at h;have hrx := zaX hs x;have hry := zaX hs y;obtain ⟨dst, op, type, pos, after, guard⟩ := o;simp only at ho hd;subst ho;subst hd;split at h
 ·rename_i new hc;obtain ⟨hone, hsz, h⟩ := h;obtain ⟨hn, hcell⟩ := zhE hc hry;have hones := zku hone hcell;have hone' : ∀ z ∈ (a.eval y).cells.toList, z.oneCell' = true := fun z hz => by
   obtain ⟨j, hj⟩ := List.getElem?_of_mem hz;have hlt := (List.getElem?_eq_some_iff.1 hj).1;have hlt' : j < new.length := by simpa [hn] using hlt
   have := (hones j (new[j]) (List.getElem?_eq_getElem hlt')).1;have e : (a.eval y).cells.getD j undef = z := by simp_all
   rwa [e] at this
  have fin : ∀ b off cur ty, w.heap[b]? = some (.cells cur ty (0, 0)) -> off + new.length <= cur.size -> a.eval x = .pointer (some ⟨b, off, none⟩) ->
    (execOp a.eval { dst := none, op := .store t x y, type, pos, after, guard }).run P w = .ok .skip (w.setRow b (cur.toList.take off ++ (a.eval y).cells.toList ++ cur.toList.drop (off + new.length)).toArray) :=
   fun b off cur ty hg hle hax => by
    have := zlc w b off ty cur (a.eval y) hsz hn hg hle hone';simp [execOp, Instr.storeAt, hax, Instr.sureAddr, this]
  split at h
  ·rename_i i off hxi;rw [hxi] at hrx;obtain ⟨b, c, hh, hav⟩ := zeb hrx;split at h
   ·rename_i cells hg;obtain ⟨hle, hk⟩ := h;obtain ⟨b', c', vs, ty, hh', hown, hheap, hvs, hcs, hno⟩ := (hs.sat.ob i _ hg).box;rw [hh] at hh';simp only [Option.some.injEq, Prod.mk.injEq] at hh';obtain ⟨rfl, rfl⟩ := hh';have hrun := fin b off vs ty hheap (by omega) hav;unfold Oper.wp;rw [hrun];refine hK K _ _ _ (hin.setRow b hown _) (?_ : Sim K Γ.own _ (a.put none undef) _) hk;refine ⟨Sat.congr (Sat.set (h := (some b, c)) hs.sat hg hh (fun b' hb' => setRow_other w b b' _ (fun e => hb' (by rw [e]))) (ob' := .box (setAll cells off new))
     ⟨b, _, ty, rfl, setRow_heap w b vs _ ty _ hheap, ?_, fun j d hj => ?_⟩) (zad _ _ _), hs.defers, hs.size, hs.env, hs.hdr⟩
    ·simp [zfa, hn]; omega
    ·rw [zhi _ _ _ _ (by omega)] at hj;have e : ((vs.toList.take off ++ (a.eval y).cells.toList ++ vs.toList.drop (off + new.length)).toArray.getD j undef) = ((if off <= j /\ j < off + new.length then (a.eval y).cells.toList[j - off]? else vs.toList[j]?)).getD undef := by
      have := zh3 vs.toList (a.eval y).cells.toList off j (by simp [hn]; omega);rw [Array.length_toList, hn] at this;rw [<- this];simp
     rw [e];by_cases hc : off <= j /\ j < off + new.length
     ·simp_all
     ·rw [if_neg hc] at hj ⊢;have := hcs j d hj;simpa using this
   ·exact h.elim
  ·rename_i i sz idx off hxi;rw [hxi] at hrx;obtain ⟨b, c, hh, hav⟩ := zim hrx;split at h
   ·rename_i e sz' rows hg;obtain ⟨rfl, r, hr, hle, hk⟩ := h;obtain ⟨h', xs, hh', hrow, hpos, hlen, hcs, hno⟩ := (hs.sat.ob i _ hg).vec;rw [hh] at hh';simp only [Option.some.injEq] at hh';subst hh';have hidx := (List.getElem?_eq_some_iff.1 hr).1;have hrl := hlen r (List.mem_of_getElem? hr);have hmul : (idx + 1) * sz <= rows.length * sz := Nat.mul_le_mul_right _ hidx;rw [Nat.add_mul, Nat.one_mul] at hmul;rcases hrow.2 with ⟨hv, hz⟩ | ⟨g, cap, cur, hv, hb0, hheap, hncap, hcm, hcs', htake⟩
    ·omega
    ·have hgb : g = b /\ cap = c := by simp_all [za8]
     obtain ⟨rfl, rfl⟩ := hgb;have hcapmul : rows.length * sz <= cap * sz := Nat.mul_le_mul_right _ hncap;have hrun := fin g (idx * sz + off) cur e hheap (by omega) hav;unfold Oper.wp;rw [hrun];refine hK K _ _ _ (hin.setRow g (hno g rfl).1 _) (?_ : Sim K Γ.own _ (a.put none undef) _) hk;have hxl := hrow.1;refine ⟨Sat.congr (Sat.set (h := (some g, cap)) hs.sat hg hh (fun b' hb' => setRow_other w g b' _ (fun e => hb' (by rw [e]))) (ob' := .vec e sz (rows.set idx (setAll r off new)))
      ⟨xs.take (idx * sz + off) ++ (a.eval y).cells.toList ++ xs.drop (idx * sz + off + new.length), ⟨?_, .inr ⟨g, cap, _, ?_, Nat.zero_le _, setRow_heap w g cur _ e _ hheap, ?_, hcm, ?_, ?_⟩⟩, hpos, ?_, ?_⟩) (zad _ _ _), hs.defers, hs.size, hs.env, hs.hdr⟩
     ·simp [hn]; omega
     ·simp [za8]
     ·simpa using hncap
     ·simp [hn]; omega
     ·have hcl : cur.toList.length = cap * sz := by simpa using hcs'
      apply List.ext_getElem?;intro j;have hl1 : (a.eval y).cells.toList.length = new.length := by simpa using hn
      simp only [List.length_set];rw [List.getElem?_take];have e1 := zh3 xs (a.eval y).cells.toList (idx * sz + off) j (by omega);have e2 := zh3 cur.toList (a.eval y).cells.toList (idx * sz + off) j (by omega);rw [hl1] at e1 e2;rw [e1, e2];by_cases hj : j < rows.length * sz
      ·grind
      ·grind
     ·grind [zfa]
     ·intro i' r' hr' j d hj;have hl1 : (a.eval y).cells.toList.length = new.length := by simpa using hn
      have e1 := zh3 xs (a.eval y).cells.toList (idx * sz + off) (i' * sz + j) (by omega);rw [hl1] at e1;rw [List.getD_eq_getElem?_getD, e1];rw [List.getElem?_set] at hr';by_cases hii : idx = i'
      ·subst hii;rw [if_pos rfl, if_pos hidx] at hr';cases hr';rw [zhi _ _ _ _ hle] at hj;by_cases hc : off <= j /\ j < off + new.length
       ·rw [if_pos hc] at hj;rw [if_pos (by omega)];have := hones (j - off) d hj;rw [show idx * sz + j - (idx * sz + off) = j - off by omega];simpa using this
       ·grind
      ·rw [if_neg hii] at hr';have hrl' := hlen r' (List.mem_of_getElem? hr');have hjl := (List.getElem?_eq_some_iff.1 hj).1;rw [if_neg ?_, <- List.getD_eq_getElem?_getD]
       ·exact hcs i' r' hr' j d hj
       ·intro hc;rcases Nat.lt_or_gt_of_ne hii with hlt | hgt
        ·have : (idx + 1) * sz <= i' * sz := Nat.mul_le_mul_right _ hlt;rw [Nat.add_mul, Nat.one_mul] at this;omega
        ·have : (i' + 1) * sz <= idx * sz := Nat.mul_le_mul_right _ hgt;rw [Nat.add_mul, Nat.one_mul] at this;omega
   ·exact h.elim
  ·exact h.elim
 ·exact h.elim
end Go.VL
namespace Go.VL
open Go
def zeF (P : Program) (t : TypeId) : Option (TypeId × Nat × Nat × List Value) :=
 match P.underlying t with
 | some (.slice e) => match P.info? e, zeC P e with
  | some i, some z => if z.length = i.size /\ 0 < i.size then some (e, i.size, i.bytes, z) else none
  | _, _ => none
 | _ => none
theorem zf2 {P : Program} {t e sz by_ z} (h : zeF P t = some (e, sz, by_, z)) :
  P.underlying t = some (.slice e) /\ (∃ i v, P.info? e = some i /\ i.size = sz /\ i.bytes = by_ /\ i.zero = some v /\ v.cells = z.toArray) /\ z.length = sz /\ 0 < sz /\ ∀ x ∈ z, x.oneCell' = true := by
 unfold zeF at h;split at h
 ·rename_i e' hu;split at h
  ·rename_i i z' hi hz;split at h
   ·rename_i hc;simp at h;obtain ⟨rfl, rfl, rfl, rfl⟩ := h;obtain ⟨v, hv, hcz, hone⟩ := zjr hz;refine ⟨hu, ⟨i, v, hi, rfl, rfl, ?_, hcz⟩, hc.1, hc.2, hone⟩;have := hv default;cases hzz : i.zero with
    | none => simp [zeroValue, typeInfo, hi, hzz] at this
    | some u => simp [zeroValue, typeInfo, hi, hzz] at this; rw [this]
   ·cases h
  ·cases h
 ·cases h
def zbO {α : Type} (n sz : Nat) (l : List α) : List (List α) := (List.range n).map fun i => (l.drop (i * sz)).take sz
theorem zl2 {p q : Nat -> Option (Nat × Nat)} (h : ∀ i x, p i = some x -> q i = some x) : ∀ (parts : List (Nat × Value)) (cs : Array Value) (r : Array Value), Instr.fill p cs parts = some r -> Instr.fill q cs parts = some r
 | [], cs, r, hr => hr
 | (i, v) :: rest, cs, r, hr => by
  simp only [Instr.fill] at hr ⊢;cases hp : p i with
  | none => simp [hp] at hr
  | some x =>
     simp only [hp] at hr;simp only [h i x hp];split at hr
     ·cases hr
     ·rename_i hc;rw [if_neg hc];exact zl2 h rest _ r hr
def zbT (n sz : Nat) (z : List Value) : List D := (List.range (n * sz)).map fun j => .u (uOf (z.getD (j % sz) undef))
def zaw (P : Program) (t : TypeId) (len : Nat) (parts : List (Nat × D)) (s : St) (dst : Option Tmp) (k : St -> Prop) : Prop :=
 match zeF P t with
 | some (e, sz, _, z) => len * sz <= 16777216 /\ fillD ((List.range len).map fun i => (i * sz, sz)) parts (zbT len sz z) fun cs =>
   zeD cs = true /\ zay dst s /\ k ((s.add (.vec e sz (zbO len sz cs))).put dst (.vec s.next len))
 | none => False
theorem St.zeB {dst s ob} (h : zay dst s) : zay dst (s.add ob) := by cases dst <;> simp_all [zay, St.add]
theorem ObAt.zw4 {k : Kr} {w' : World} {g c e sz n : Nat} {cs : List D} {vs : Array Value} (hg : w'.heap[g]? = some (.cells vs e (0, 0))) (hnc : n <= c) (hcm : c <= maxLen) (hvs : vs.size = c * sz) (hsz : 0 < sz)
  (hcs : n * sz <= cs.length) (hr : ∀ j d, j < n * sz -> cs[j]? = some d -> zdQ k d (vs.getD j undef)) : ObAt k w' (some g, c) (.vec e sz (zbO n sz cs)) := by
 have hmul : n * sz <= c * sz := Nat.mul_le_mul_right _ hnc;have hlen : (zbO n sz cs).length = n := by simp [zbO]
 have hget : ∀ i r, (zbO n sz cs)[i]? = some r -> i < n /\ r = (cs.drop (i * sz)).take sz := fun i r hr => by grind [zbO]
 have hin : ∀ i j, i < n -> j < sz -> i * sz + j < n * sz := fun i j hi hj => by
  have : (i + 1) * sz <= n * sz := Nat.mul_le_mul_right _ hi;rw [Nat.add_mul, Nat.one_mul] at this;omega
 refine ⟨vs.toList.take (n * sz), ⟨by rw [hlen, List.length_take, Array.length_toList, hvs]; omega, .inr ⟨g, c, vs, by simp [za8], Nat.zero_le _, hg, by omega, hcm, hvs, by rw [hlen]⟩⟩, hsz, fun r hr => ?_, fun i r hi j d hj => ?_⟩
 ·obtain ⟨i, hi⟩ := List.getElem?_of_mem hr;obtain ⟨h1, rfl⟩ := hget i r hi;have : (i + 1) * sz <= n * sz := Nat.mul_le_mul_right _ h1;rw [Nat.add_mul, Nat.one_mul] at this;simp; omega
 ·obtain ⟨h1, rfl⟩ := hget i r hi;have hjl : j < sz := by have := (List.getElem?_eq_some_iff.1 hj).1; simp at this; omega
  rw [zcI _ _ _ _ hjl] at hj;have := hr (i * sz + j) d (hin i j h1 hjl) hj;have e : (vs.toList.take (n * sz)).getD (i * sz + j) undef = vs.getD (i * sz + j) undef := by simp_all [List.getElem?_take]
  rwa [e]
theorem zil {P : Program} {x : Sem Value} {v : Value} {w w' : World} (h : x.run P w = .ok v w') : (do pure (.value (<- x)) : Sem Next).run P w = .ok (.value v) w' := by simp [h]
theorem Eff.buildSlice {P Γ o s k t len parts} (ho : o.op = .buildSlice t len parts) (h : zaw P t len (parts.toList.map fun p => (p.1, opd s p.2)) s o.dst k) : Eff P Γ o s k := by
 intro K a w hin hs Kont Q hK;obtain ⟨dst, op, type, pos, after, guard⟩ := o;simp only at ho h;subst ho;unfold zaw at h;split at h
 ·rename_i e sz by_ z he;obtain ⟨hbig, h⟩ := h;obtain ⟨hu, ⟨i, v, hi, hsz, _, hz, hvz⟩, hzl, hpos, hone⟩ := zf2 he;subst hsz;have hzero : RepL K (zbT len i.size z) ((Array.range (len * i.size)).map fun j => v.cells[j % v.cells.size]!) := by
   refine ⟨by simp [zbT], fun j d hj => ?_⟩;have hj' : j < len * i.size := by have := (List.getElem?_eq_some_iff.1 hj).1; simpa [zbT] using this
   simp [zbT, hj'] at hj;subst hj;have hm : j % i.size < z.length := by rw [hzl]; exact Nat.mod_lt _ hpos
   have e1 : (((Array.range (len * i.size)).map fun j => v.cells[j % v.cells.size]!).getD j undef) = z.getD (j % i.size) undef := by simp_all
   rw [e1];exact .u _ _ (zeN _ _)
  have hparts : ∀ (j : Nat) (p : Nat × D) (q : Nat × Value), (parts.toList.map fun p => (p.1, opd s p.2))[j]? = some p -> (parts.toList.map fun p => (p.1, a.eval p.2))[j]? = some q -> q.1 = p.1 /\ Rep K p.2 q.2 := fun j p q hj hq => by
   rw [List.getElem?_map] at hj hq;cases hp : parts.toList[j]? with
   | none => simp [hp] at hj
   | some x =>
    simp [hp] at hj hq;subst hj; subst hq;exact ⟨rfl, zaX hs _⟩
  obtain ⟨cs, vs, ⟨hones, hp, hk⟩, hr, hf⟩ := ziS h hzero (by simp) hparts;have hf' : Instr.fill (fun i' => some (i' * i.size, i.size)) ((Array.range (len * i.size)).map fun j => v.cells[j % v.cells.size]!) (parts.toList.map fun p => (p.1, a.eval p.2)) = some vs :=
   zl2 (fun j x hx => by
    have hj : j < len := by have := (List.getElem?_eq_some_iff.1 hx).1; simpa using this
    simp [hj] at hx;rw [<- hx]) _ _ _ hf
  have hcl : cs.length = len * i.size := by
   have h1 := hr.1;have : vs.size = len * i.size := by
    have hsize : ∀ (p : Nat -> Option (Nat × Nat)) (l : List (Nat × Value)) (c r : Array Value), Instr.fill p c l = some r -> r.size = c.size := by
     intro p l
     induction l with
     | nil => intro c r hr; simp [Instr.fill] at hr; rw [hr]
     | cons x l ih =>
      intro c r hr;obtain ⟨xi, xv⟩ := x;simp only [Instr.fill] at hr;split at hr
      ·cases hr
      ·split at hr
       ·cases hr
       ·rw [ih _ _ hr];rw [<- Array.foldl_toList];have : ∀ (ll : List (Value × Nat)) (off : Nat) (c : Array Value), (ll.foldl (fun cs (y : Value × Nat) => cs.setIfInBounds (off + y.2) y.1) c).size = c.size := by
         intro ll
         induction ll with
         | nil => intro off c; rfl
         | cons y ll ih => intro off c; simp only [List.foldl_cons]; rw [ih]; simp
        exact this _ _ _
    have := hsize _ _ _ _ hf';simpa using this
   omega
  have hle := Kr.zg7 (k := K) (h := (some w.heap.size, len)) (hs.hdr s.next (Nat.le_refl _));have hlen63 : len <= maxLen := by
   have : len * 1 <= len * i.size := Nat.mul_le_mul_left _ hpos;unfold maxLen;omega
  obtain ⟨h1, h2⟩ := Sim.alloc hin hs (.cells vs e) len (.vec e i.size (zbO len i.size cs)) (ObAt.zw4 (heap_alloc_new w _) (Nat.le_refl _) hlen63 (by rw [hr.1, hcl]) hpos (by omega)
   fun j d _ hj => ⟨(zku hones hr.2 j d hj).1, (hr.2 j d hj).mono hle⟩)
  have hrun : (execOp a.eval { dst, op := .buildSlice t len parts, type, pos, after, guard }).run P w = .ok (.value (za8 (some w.heap.size, len) len)) (w.alloc (.cells vs e)) := by
   have e1 : (parts.map fun (x : Nat × Operand) => match x with | (i, x) => (i, a.eval x)) = (parts.toList.map fun p => (p.1, a.eval p.2)).toArray := zjS _ _;have hb : ¬ (16777216 < len * i.size) := by omega
   simp only [execOp];refine zil ?_;rw [e1];by_cases hz0 : len * i.size = 0
   ·have hl0 : len = 0 := by
     rcases Nat.mul_eq_zero.1 hz0 with h | h
     ·exact h
     ·omega
    subst hl0;have hr0 : Array.range 0 = #[] := rfl;simp only [Nat.zero_mul, hr0, Array.map_empty] at hf';simp [Instr.buildSlice, run_underlying hu, sizeOf, typeInfo, hi, hr0, hf', newRow, za8]
   ·simp [Instr.buildSlice, run_underlying hu, sizeOf, typeInfo, zeroValue, hi, hz, hb, hz0, hf', newRow, za8]
  unfold Oper.wp;rw [hrun];exact hK _ _ _ _ h1 (h2.put (St.zeB hp) (.vec _ _ _ (by simp [Kr.add]))) hk
 ·exact h.elim
end Go.VL
namespace Go.VL
open Go
def rowsD (l : List (List U)) : List (List D) := l.map (·.map .u)
def zkv (rs : List (List D)) : Prop := ∀ r ∈ rs, zeD r = true
section
@[simp] theorem rowsD_nil : rowsD [] = [] := rfl
@[simp] theorem rowsD_cons (r : List U) (l : List (List U)) : rowsD (r :: l) = r.map .u :: rowsD l := rfl
@[simp] theorem rowsD_append (a b : List (List U)) : rowsD (a ++ b) = rowsD a ++ rowsD b := by simp [rowsD]
@[simp] theorem rowsD_length (l : List (List U)) : (rowsD l).length = l.length := by simp [rowsD]
@[simp] theorem zwi (sz : Nat) (l : List (List U)) : zkW sz (rowsD l) ↔ zkW sz l := by simp [rowsD, zkW]
@[simp] theorem zww : zkv [] := by simp [zkv]
@[simp] theorem zwf (r : List D) (l : List (List D)) : zkv (r :: l) ↔ zeD r = true /\ zkv l := by simp [zkv]
@[simp] theorem zqI {β : Type} (f : β -> List U) (l : List β) : zkv (rowsD (l.map f)) ↔ ∀ x ∈ l, zeD ((f x).map .u) = true := by simp [zkv, rowsD]
end
def rowsOf (s : St) : D -> Option (List (List D))
 | .u (.sl rows) => some (rowsD rows)
 | .u .nil => some []
 | .u (.oth (.slice _ 0 _)) => some []
 | .vec i len => match getK s.obs i with
  | some (.vec _ _ rows) => if len <= rows.length then some (rows.take len) else none
  | _ => none
 | _ => none
theorem rowsOf_rep {k own s a w d v rs} {sz : Nat} (hs : Sim k own s a w) (h : rowsOf s d = some rs) (hr : Rep k d v) (hsz : ∀ r ∈ rs, r.length = sz) (hpos : 0 < sz)
  (hone : ∀ r ∈ rs, zeD r = true) :
  ∃ (A : Option Addr) (c : Nat) (news : List Value), v = .slice A rs.length c /\ news.length = rs.length * sz /\ (rs = [] \/ ∃ b o, A = some ⟨b, o, none⟩ /\ ∀ j u, news[j]? = some u -> w.cell? ⟨b, o + j, none⟩ = some u) /\
   ∀ i r, rs[i]? = some r -> ∀ j e, r[j]? = some e -> zdQ k e (news.getD (i * sz + j) undef) := by
 unfold rowsOf at h;split at h
 ·rename_i rows;simp at h;subst h;cases hr with
  | u _ _ hr => cases hr with
   | slE A c _ => exact ⟨A, c, [], rfl, by simp, .inl rfl, fun i r hi => by simp at hi⟩
   | sl _ b o sz' c f hc hx h1 h2 h3 =>
    by_cases hnil : rows = []
    ·simp_all
    ·have hz : sz' = sz := by
      obtain ⟨r, hm⟩ := List.exists_mem_of_ne_nil rows hnil;have e1 := h1 r hm;have e2 := hsz (r.map .u) (List.mem_map.2 ⟨r, hm, rfl⟩);simp at e2;omega
     subst hz;refine ⟨some ⟨b, o, none⟩, c, (List.range (rows.length * sz')).map fun t => f (t / sz') (t % sz'), by simp, by simp, .inr ⟨b, o, rfl, fun j u hj => ?_⟩, fun i r hi j e hj => ?_⟩
     ·have hjl : j < rows.length * sz' := by have := (List.getElem?_eq_some_iff.1 hj).1; simpa using this
      simp [hjl] at hj;subst hj;refine hs.sat.cell ?_;have hd : j / sz' < rows.length := Nat.div_lt_of_lt_mul (by rw [Nat.mul_comm]; exact hjl);have := h2 (j / sz') hd (j % sz') (Nat.mod_lt _ hpos);rw [zzA, Nat.mul_comm (j / sz') sz', Nat.div_add_mod] at this;exact this
     ·rw [rowsD, List.getElem?_map] at hi;cases hri : rows[i]? with
      | none => simp [hri] at hi
      | some r0 =>
       simp [hri] at hi;subst hi;rw [List.getElem?_map] at hj;cases hj0 : r0[j]? with
       | none => simp [hj0] at hj
       | some u0 =>
        simp [hj0] at hj;subst hj;have hil := (List.getElem?_eq_some_iff.1 hri).1;have hrl := h1 r0 (List.mem_of_getElem? hri);have hjl := (List.getElem?_eq_some_iff.1 hj0).1;have hjs : j < sz' := by omega
        have hlt : i * sz' + j < rows.length * sz' := by
                have : (i + 1) * sz' <= rows.length * sz' := Nat.mul_le_mul_right _ hil;rw [Nat.add_mul, Nat.one_mul] at this;omega
        have e1 : (i * sz' + j) / sz' = i := by simp_all [Nat.mul_comm, Nat.mul_add_div, Nat.div_eq_of_lt, Nat.add_zero]
        have e2 : (i * sz' + j) % sz' = j := by simp_all [Nat.mul_comm, Nat.mul_add_mod, Nat.mod_eq_of_lt]
        have e3 : ((List.range (rows.length * sz')).map fun t => f (t / sz') (t % sz')).getD (i * sz' + j) undef = f i j := by
                simp [hlt, e1, e2]
        rw [e3];have hrep : Rep k (.u u0) (f i j) := .u _ _ (h3 i r0 hri j u0 hj0);have ho := hone (r0.map .u) (List.mem_map.2 ⟨r0, List.mem_of_getElem? hri, rfl⟩);exact ⟨(zfG ((List.all_eq_true.1 ho) (.u u0) (List.mem_map.2 ⟨u0, List.mem_of_getElem? hj0, rfl⟩)) hrep).1, hrep⟩
 ·simp at h;subst h;obtain rfl := zdU hr;exact ⟨none, 0, [], rfl, by simp, .inl rfl, fun i r hi => by simp at hi⟩
 ·simp at h;subst h;obtain rfl := zel hr;exact ⟨_, _, [], rfl, by simp, .inl rfl, fun i r hi => by simp at hi⟩
 ·rename_i i len;split at h
  ·rename_i e sz' rows hg;split at h
   ·rename_i hle;simp at h;subst h;obtain ⟨g, hg', rfl⟩ := zfc hr;obtain ⟨g2, xs, hg2, hrow, hpos', hlen, hcs, hno⟩ := (hs.sat.ob _ _ hg).vec;rw [hg'] at hg2;simp only [Option.some.injEq] at hg2;subst hg2;have hl : (rows.take len).length = len := by simp; omega
    by_cases hz0 : len = 0
    ·subst hz0;exact ⟨_, g.2, [], rfl, by simp, .inl (by simp), fun i r hi => by simp at hi⟩
    ·have hz : sz' = sz := by
      have hp : 0 < (rows.take len).length := by omega
      have hm : (rows.take len)[0] ∈ rows.take len := List.getElem_mem hp;exact (hlen _ (List.mem_of_mem_take hm)).symm.trans (hsz _ hm)
     subst hz;have hxl := hrow.1;have hmul : len * sz' <= rows.length * sz' := Nat.mul_le_mul_right _ hle;refine ⟨_, g.2, xs.take (len * sz'), by rw [hl]; rfl, by rw [hl]; simp; omega, .inr ?_, fun i r hi j e hj => ?_⟩
     ·rcases hrow.2 with ⟨_, hn⟩ | ⟨b, cap, cur, hv, _⟩
      ·omega
      ·have hb : g.1 = some b := by simp_all [za8, Value.slice.injEq, Option.map_eq_some_iff, Addr.mk.injEq]
       refine ⟨b, 0, by simp [hb], fun j u hj => ?_⟩;have hj' : xs[j]? = some u := by grind
       have := hrow.cells (g := b) (by simp [za8, hb, Value.ownBlock]) j u hj'
       rwa [zde] at this
     ·have hil : i < len := by have := (List.getElem?_eq_some_iff.1 hi).1; omega
      rw [List.getElem?_take, if_pos hil] at hi;have hrl := hlen r (List.mem_of_getElem? hi);have hjl := (List.getElem?_eq_some_iff.1 hj).1;have hlt : i * sz' + j < len * sz' := by
       have : (i + 1) * sz' <= len * sz' := Nat.mul_le_mul_right _ hil;rw [Nat.add_mul, Nat.one_mul] at this;omega
      have := hcs i r hi j e hj;have e1 : (xs.take (len * sz')).getD (i * sz' + j) undef = xs.getD (i * sz' + j) undef := by
       simp [List.getElem?_take, hlt]
      rwa [e1]
   ·cases h
  ·cases h
 ·cases h
theorem zhj {P : Program} (w : World) (base : Nat) (t ty e : TypeId) (i : TypeInfo) (size : Nat) (ht : P.underlying t = some (.slice e)) (hi : P.info? e = some i)
  (v : Value) (n : Nat) (xs : List Value) (hown : w.ownsRow base e size v n xs) (A : Option Addr) (c : Nat) : (Builtin.append_ #[t, t] ty #[v, .slice A 0 c]).run P w = .ok v w := by
 rcases hown.2 with ⟨rfl, rfl⟩ | ⟨g, cap, cur, rfl, _, _, hnc, _⟩
 ·cases A <;> simp [Builtin.append_, run_underlying ht, sizeOf, typeInfo, hi, Builtin.lenOf, Builtin.firstCells, loadCells, loadCellsFrom]
 ·cases A <;> simp [Builtin.append_, run_underlying ht, sizeOf, typeInfo, hi, Builtin.lenOf, Builtin.firstCells, hnc, storeCells, loadCells, loadCellsFrom]
def zbB (P : Program) (t : TypeId) (x y : D) (s : St) (dst : Option Tmp) (k : St -> Prop) : Prop :=
 match zeF P t, rowsOf s y with
 | some (e, sz, bytes, _), some rs => zkW sz rs /\ zkv rs /\ zay dst s /\ match x with
  | .u .nil => rs.length * bytes <= 140737488355328 /\ rs.length <= 9223372036854775807 /\ k ((s.add (.vec e sz rs)).put dst (.vec s.next rs.length))
  | .vec i len => match getK s.obs i with
   | some (.vec e' sz' rows) => e = e' ∧ sz = sz' ∧ len ≤ rows.length ∧ (len + rs.length) * bytes ≤ 140737488355328 ∧ len + rs.length ≤ 9223372036854775807 ∧
         k ((({ s with obs := del s.obs i } : St).add (.vec e sz (rows.take len ++ rs))).put dst (.vec s.next (len + rs.length)))
   | _ => False
  | _ => False
 | _, _ => False
theorem zhL {w : World} {base e sz n xs} {h : Option Nat × Nat} (ho : w.ownsRow base e sz (za8 h n) n xs) {m : Nat} (hm : m <= n) :
  w.ownsRow base e sz (za8 h m) m (xs.take (m * sz)) := by
 have hmul : m * sz <= n * sz := Nat.mul_le_mul_right _ hm;refine ⟨by rw [List.length_take, ho.1]; omega, ?_⟩;rcases ho.2 with ⟨hv, hn⟩ | ⟨g, cap, cur, hv, hb, hg, hnc, hcm, hcs, ht⟩
 ·simp_all
 ·refine .inr ⟨g, cap, cur, ?_, hb, hg, by omega, hcm, hcs, ?_⟩
  ·simp_all [za8, Value.slice.injEq]
  ·grind
theorem zka {P : Program} {t e sz bytes z} (he : zeF P t = some (e, sz, bytes, z)) (w : World) (ty : TypeId) {v : Value} {n : Nat} {xs : List Value} (hown : w.ownsRow 0 e sz v n xs)
  {A : Option Addr} {m c : Nat} {news : List Value} (hl : news.length = m * sz) (hA : m = 0 \/ ∃ b o, A = some ⟨b, o, none⟩ /\ ∀ j u, news[j]? = some u -> w.cell? ⟨b, o + j, none⟩ = some u)
  (h1 : ∀ u ∈ news, u.oneCell' = true) (h63 : n + m <= 9223372036854775807) (hby : (n + m) * bytes <= 140737488355328) :
  ∃ v' w', (Builtin.append_ #[t, t] ty #[v, .slice A m c]).run P w = .ok v' w' /\ w'.ownsRow 0 e sz v' (n + m) (xs ++ news) /\ w.grownBy w' v.ownBlock /\ (v'.ownBlock = v.ownBlock \/ v'.ownBlock = some w.heap.size) := by
 obtain ⟨hu, ⟨i, zv, hi, hsz, hb, hz, hvz⟩, hzl, hpos, _⟩ := zf2 he;rcases hA with rfl | ⟨b, o, rfl, hc⟩
 ·have hn : news = [] := List.eq_nil_of_length_eq_zero (by simpa using hl);subst hn;exact ⟨v, w, zhj w 0 t ty e i sz hu hi v n xs hown A c, by simpa using hown, World.grownBy.refl w _, .inl rfl⟩
 ·obtain ⟨v', w', h2, h3, h4, _, h5⟩ := run_append_own_at (P := P) w 0 t ty e i zv sz bytes hu hi hz hsz hb (by simp [hvz, hzl]) hpos v n xs hown ⟨b, o, none⟩ m c news hl
   (fun j u hj => by rw [zde]; exact hc j u hj) h1 (by unfold maxLen; omega) hby (Nat.zero_le _)
  exact ⟨v', w', h2, h3, h4, h5⟩
theorem znO {w : World} {e sz v n xs} (h : w.ownsRow 0 e sz v n xs) : ∃ g : Option Nat × Nat, v = za8 g n /\ g.1 = v.ownBlock := by
 rcases h.2 with ⟨rfl, rfl⟩ | ⟨g, cap, cur, rfl, _⟩
 ·exact ⟨(none, 0), rfl, rfl⟩
 ·exact ⟨(some g, cap), rfl, rfl⟩
theorem ztb {k : Kr} {rs : List (List D)} {news : List Value} {sz : Nat} (hpos : 0 < sz) (hl : news.length = rs.length * sz) (hsz : ∀ r ∈ rs, r.length = sz)
  (h : ∀ i r, rs[i]? = some r -> ∀ j e, r[j]? = some e -> zdQ k e (news.getD (i * sz + j) undef)) : ∀ u ∈ news, u.oneCell' = true := by
 intro u hu;obtain ⟨t, ht⟩ := List.getElem?_of_mem hu;have htl := (List.getElem?_eq_some_iff.1 ht).1;have hd : t / sz < rs.length := Nat.div_lt_of_lt_mul (by rw [Nat.mul_comm]; omega);have hr := List.getElem?_eq_getElem hd;have hrl := hsz _ (List.mem_of_getElem? hr);have hm : t % sz < (rs[t / sz]).length := by rw [hrl]; exact Nat.mod_lt _ hpos
 have := (h (t / sz) _ hr (t % sz) _ (List.getElem?_eq_getElem hm)).1;rw [Nat.mul_comm, Nat.div_add_mod, List.getD_eq_getElem?_getD, ht] at this;exact this
theorem rows_append {k : Kr} {rows rs : List (List D)} {xs news : List Value} {sz : Nat} (hxl : xs.length = rows.length * sz) (hlen : ∀ r ∈ rows, r.length = sz)
  (h1 : ∀ i r, rows[i]? = some r -> ∀ j e, r[j]? = some e -> zdQ k e (xs.getD (i * sz + j) undef)) (h2 : ∀ i r, rs[i]? = some r -> ∀ j e, r[j]? = some e -> zdQ k e (news.getD (i * sz + j) undef)) :
  ∀ i r, (rows ++ rs)[i]? = some r -> ∀ j e, r[j]? = some e -> zdQ k e ((xs ++ news).getD (i * sz + j) undef) := by
 intro i r hi j e hj;by_cases hlt : i < rows.length
 ·rw [List.getElem?_append_left hlt] at hi;have hrl := hlen r (List.mem_of_getElem? hi);have hjl := (List.getElem?_eq_some_iff.1 hj).1;have : (i + 1) * sz <= rows.length * sz := Nat.mul_le_mul_right _ hlt;rw [Nat.add_mul, Nat.one_mul] at this;have hb : i * sz + j < xs.length := by omega
  have := h1 i r hi j e hj;rw [List.getD_eq_getElem?_getD, List.getElem?_append_left hb, <- List.getD_eq_getElem?_getD];exact this
 ·rw [List.getElem?_append_right (by omega)] at hi;have := h2 (i - rows.length) r hi j e hj;have hmul : rows.length * sz <= i * sz := Nat.mul_le_mul_right _ (by omega);rw [List.getD_eq_getElem?_getD, List.getElem?_append_right (by omega)];rw [Nat.sub_mul] at this;rw [List.getD_eq_getElem?_getD] at this;rw [show i * sz + j - xs.length = i * sz - rows.length * sz + j by omega];exact this
theorem In.grown {Γ k w w' row} (h : In Γ k w) (hg : w.grownBy w' row) (hr : ∀ b, row = some b -> Γ.own b) : In Γ k w' :=
 h.step (.refl _) (fun _ _ _ e => .inl e) hg.os hg.tape hg.output hg.size fun b hb => by
  rcases Nat.lt_or_ge b w.heap.size with hlt | hge
  ·exact hg.block b hlt (fun e => hb (hr b e.symm))
  ·exact absurd (h.own_of_ge hge) hb
theorem Eff.append {P Γ o s k x y t} (ho : o.op = .call { callee := .builtin .append, args := #[x, y], argTypes := #[t, t] }) (h : zbB P t (opd s x) (opd s y) s o.dst k) : Eff P Γ o s k := by
 intro K a w hin hs Kont Q hK;obtain ⟨dst, op, type, pos, after, guard⟩ := o;simp only at ho h;subst ho;unfold zbB at h;split at h
 ·rename_i e sz bytes z rs he hrs;obtain ⟨hsz, hone, hp, h⟩ := h;obtain ⟨_, _, _, hpos, _⟩ := zf2 he;obtain ⟨A, c, news, hyv, hnl, hA, hnews⟩ := rowsOf_rep hs hrs (zaX hs y) hsz hpos hone;have hA' : rs.length = 0 \/ ∃ b o, A = some ⟨b, o, none⟩ /\ ∀ j u, news[j]? = some u -> w.cell? ⟨b, o + j, none⟩ = some u := hA.imp (fun e => by simp [e]) id;have hn1 := ztb hpos hnl hsz hnews;have hnext := hs.hdr s.next (Nat.le_refl _)
  split at h
  ·rename_i hx;obtain ⟨hby, h63, hk⟩ := h;have hxr := zaX hs x;rw [hx] at hxr;have hxv := zdU hxr;obtain ⟨v', w', hrun, hown, hgrow, hob⟩ := zka he w type (World.ownsRow_nil w 0 e sz) hnl hA' hn1 (by omega) (by rw [Nat.zero_add]; exact hby) (c := c);simp only [Nat.zero_add, List.nil_append] at hown;obtain ⟨g, hv', hg⟩ := znO hown;subst hv';have hrun' : (execOp a.eval { dst, op := .call { callee := .builtin .append, args := #[x, y], argTypes := #[t, t] }, type, pos, after, guard }).run P w = .ok (.value (za8 g rs.length)) w' := by
    simp only [execOp];simp [resolve, invoke, builtin, hxv, hyv, hrun]
   unfold Oper.wp;rw [hrun'];have hle := Kr.zg7 (k := K) (h := g) hnext;have hin' : In Γ (K.add s.next g) w' := (hin.grown hgrow (fun b e => by simp [Value.ownBlock] at e)).step hle (fun _ _ _ e => .inl e) rfl rfl rfl (Nat.le_refl _) fun _ _ => rfl;have hbb : ∀ b, g.1 = some b -> b = w.heap.size := fun b e => by grind [Value.ownBlock]
   have hold : ∀ b, b < w.heap.size -> w'.heap[b]? = w.heap[b]? := fun b hb => hgrow.block b hb (by simp [Value.ownBlock])
   suffices hsim : Sim (K.add s.next g) Γ.own (s.add (.vec e sz rs)) a w' from hK _ _ _ _ hin' (hsim.put (St.zeB hp) (.vec _ _ _ (by simp [Kr.add]))) hk
   refine ⟨?_, hs.defers, hs.size, fun x d hx => ⟨(hs.env x d hx).1, (hs.env x d hx).2.mono hle⟩, fun i hi => ?_⟩
   ·refine hs.sat.add hnext (fun b e => ?_) (fun b hb => hold b (hb.elim hs.sat.lt fun ⟨_, _, e⟩ => hs.sat.memLt e)) ⟨news, hown, hpos, hsz, fun i r hi j d hj => ⟨(hnews i r hi j d hj).1, (hnews i r hi j d hj).2.mono hle⟩⟩;have := hbb b e;subst this;refine ⟨hin.own_of_ge (Nat.le_refl _), fun o => ?_, fun hb => absurd (hs.sat.lt hb) (by omega)⟩;cases hm : K.mem w.heap.size o with
    | none => rfl
    | some v => exact absurd (hs.sat.memLt hm) (by omega)
   ·have hi' : s.next + 1 <= i := hi
    simp only [Kr.add];rw [if_neg (by omega)];exact hs.hdr i (by omega)
  ·rename_i i len hx;split at h
   ·rename_i e' sz' rows hg;obtain ⟨rfl, rfl, hle', hby, h63, hk⟩ := h;have hxr := zaX hs x;rw [hx] at hxr;obtain ⟨gi, hgi, hxv⟩ := zfc hxr;obtain ⟨g2, xs, hg2, hrow, _, hlen, hcs, hno⟩ := (hs.sat.ob _ _ hg).vec;rw [hgi] at hg2;simp only [Option.some.injEq] at hg2;subst hg2;have hrow' := zhL hrow hle';obtain ⟨v', w', hrun, hown, hgrow, hob⟩ := zka he w type hrow' hnl hA' hn1 h63 hby (c := c);obtain ⟨g, hv', hgv⟩ := znO hown;subst hv';have hrun' : (execOp a.eval { dst, op := .call { callee := .builtin .append, args := #[x, y], argTypes := #[t, t] }, type, pos, after, guard }).run P w = .ok (.value (za8 g (len + rs.length))) w' := by
     simp only [execOp];simp [resolve, invoke, builtin, hxv, hyv, hrun]
    unfold Oper.wp;rw [hrun'];have hle := Kr.zg7 (k := K) (h := g) hnext;have hvb : (za8 gi len).ownBlock = gi.1 := by
     obtain ⟨gb, gc⟩ := gi;cases gb <;> rfl
    rw [hvb] at hgrow hob;have hin' : In Γ (K.add s.next g) w' := (hin.grown hgrow (fun b e => (hno b e).1)).step hle (fun _ _ _ e => .inl e) rfl rfl rfl (Nat.le_refl _) fun _ _ => rfl;have hd := hs.sat.del i;have hnb : ∀ b, gi.1 = some b -> ¬ Blk K (del s.obs i) b := fun b e ⟨j, oj, gj, h1, h2, h3⟩ => by
     rw [zac] at h1;split at h1
     ·cases h1
     ·rename_i hji;exact hs.sat.apart i j _ oj gi gj b hg h1 (Ne.symm hji) hgi h2 e h3
    have hold : ∀ b, b < w.heap.size -> gi.1 ≠ some b -> w'.heap[b]? = w.heap[b]? := fun b hb hne => hgrow.block b hb (fun e => hne e.symm)
    suffices hsim : Sim (K.add s.next g) Γ.own (({ s with obs := del s.obs i } : St).add (.vec e sz (rows.take len ++ rs))) a w' from
     hK _ _ _ _ hin' (hsim.put (St.zeB (s := { s with obs := del s.obs i }) (by cases dst <;> simp_all [zay])) (.vec _ _ _ (by simp [Kr.add]))) hk
    refine ⟨?_, hs.defers, hs.size, fun x d hx => ⟨(hs.env x d hx).1, (hs.env x d hx).2.mono hle⟩, fun i hi => ?_⟩
    ·refine hd.add hnext (fun b e => ?_) (fun b hb => ?_) ⟨xs.take (len * sz) ++ news, ?_, hpos, ?_, ?_⟩
     ·rw [hgv] at e;rcases hob with ho | ho
      ·simp_all
      ·rw [ho] at e;simp only [Option.some.injEq] at e;subst e;refine ⟨hin.own_of_ge (Nat.le_refl _), fun o => ?_, fun hb => absurd (hd.lt hb) (by omega)⟩;cases hm : K.mem w.heap.size o with
       | none => rfl
       | some v => exact absurd (hs.sat.memLt hm) (by omega)
     ·refine hold b (hb.elim hd.lt fun ⟨_, _, e⟩ => hs.sat.memLt e) fun e => ?_;rcases hb with hb | ⟨o, v, hm⟩
      ·exact hnb b e hb
      ·simp_all
     ·simp_all
     ·intro r hr;rcases List.mem_append.1 hr with hr | hr
      ·exact hlen r (List.mem_of_mem_take hr)
      ·exact hsz r hr
     ·have hmul : len * sz <= rows.length * sz := Nat.mul_le_mul_right _ hle';have hmono : ∀ {e : D} {v : Value}, zdQ K e v -> zdQ (K.add s.next g) e v := fun h => ⟨h.1, h.2.mono hle⟩;refine fun i' r hi' j d hj => hmono (rows_append (k := K) (rows := rows.take len) (by rw [List.length_take, List.length_take, hrow.1, Nat.min_eq_left hmul, Nat.min_eq_left hle']) (fun r hr => hlen r (List.mem_of_mem_take hr)) (fun i' r hi' j d hj => ?_) hnews i' r hi' j d hj);have hil : i' < len := by have := (List.getElem?_eq_some_iff.1 hi').1; simp at this; omega
      rw [List.getElem?_take, if_pos hil] at hi';have hrl := hlen r (List.mem_of_getElem? hi');have hjl := (List.getElem?_eq_some_iff.1 hj).1;have hlt : i' * sz + j < len * sz := by
       have : (i' + 1) * sz <= len * sz := Nat.mul_le_mul_right _ hil;rw [Nat.add_mul, Nat.one_mul] at this;omega
      have := hcs i' r hi' j d hj;have e1 : (xs.take (len * sz)).getD (i' * sz + j) undef = xs.getD (i' * sz + j) undef := by
       simp [List.getElem?_take, hlt]
      rwa [e1]
    ·have hi' : s.next + 1 <= i := hi
     simp only [Kr.add];rw [if_neg (by omega)];exact hs.hdr i (by omega)
   ·exact h.elim
  ·exact h.elim
 ·exact h.elim
def zdg (P : Program) (t : TypeId) (n c : D) (s : St) (dst : Option Tmp) (k : St -> Prop) : Prop :=
 match zeF P t, n, c with
 | some (e, sz, bytes, z), .u (.int _ n), .u (.int _ c) => (0 <= n /\ n <= c) /\ c * (bytes : Int) <= 140737488355328 /\ c <= 9223372036854775807 /\ zay dst s /\
   k ((s.add (.vec e sz (List.replicate n.toNat (z.map fun v => .u (uOf v))))).put dst (.vec s.next n.toNat))
 | _, _, _ => False
theorem Eff.make {P Γ o s k t x y} (ho : o.op = .makeSlice t x y) (h : zdg P t (opd s x) (opd s y) s o.dst k) : Eff P Γ o s k := by
 intro K a w hin hs Kont Q hK;obtain ⟨dst, op, type, pos, after, guard⟩ := o;simp only at ho h;subst ho;unfold zdg at h;split at h
 ·rename_i e sz bytes z kn n kc c he hx hy;obtain ⟨⟨h0, hnc⟩, hby, h63, hp, hk⟩ := h;obtain ⟨hu, ⟨i, v, hi, hsz, hb, hz, hvz⟩, hzl, hpos, hone⟩ := zf2 he;subst hsz hb;have hxr := zaX hs x;have hyr := zaX hs y;rw [hx] at hxr;rw [hy] at hyr;have hxv := zcb hxr;have hyv := zcb hyr;have hrun := run_make (P := P) w t e i v hu hi hz kn kc n c h0 hnc (by rw [Int.mul_comm]; omega) h63;have hle := Kr.zg7 (k := K) (h := (some w.heap.size, c.toNat)) (hs.hdr s.next (Nat.le_refl _));have hsize : (madeCells v.cells (c.toNat * i.size)).size = c.toNat * i.size := size_madeCells _ _;have hvs : v.cells.size = i.size := by simp [hvz, hzl]
  have hmul : n.toNat * i.size <= c.toNat * i.size := Nat.mul_le_mul_right _ (by omega);obtain ⟨h1, h2⟩ := Sim.alloc hin hs (.cells (madeCells v.cells (c.toNat * i.size)) e) c.toNat (.vec e i.size (List.replicate n.toNat (z.map fun v => .u (uOf v))))
   ⟨(madeCells v.cells (c.toNat * i.size)).toList.take (n.toNat * i.size), ⟨by rw [List.length_take, Array.length_toList, hsize, List.length_replicate]; omega,
     .inr ⟨w.heap.size, c.toNat, _, by simp [za8], Nat.zero_le _, heap_alloc_new w _, by simp; omega, by unfold maxLen; omega, hsize, by simp⟩⟩, hpos,
     fun r hr => by rw [List.eq_of_mem_replicate hr]; simp [hzl], fun j r hj q d hq => by
      have hj' : j < n.toNat := by have := (List.getElem?_eq_some_iff.1 hj).1; simpa using this
      have hr : r = z.map fun v => .u (uOf v) := by simp [hj'] at hj; exact hj.symm
      subst hr;rw [List.getElem?_map] at hq;cases hzq : z[q]? with
      | none => simp [hzq] at hq
      | some u =>
       simp [hzq] at hq;subst hq;have hql := (List.getElem?_eq_some_iff.1 hzq).1;have hlt : j * i.size + q < n.toNat * i.size := by
        have : (j + 1) * i.size <= n.toNat * i.size := Nat.mul_le_mul_right _ hj';rw [Nat.add_mul, Nat.one_mul] at this;omega
       have hlt2 : j * i.size + q < c.toNat * i.size := by omega
       have hmod : (j * i.size + q) % i.size = q := by simp_all [Nat.mul_comm, Nat.mul_add_mod, Nat.mod_eq_of_lt]
       have e1 : ((madeCells v.cells (c.toNat * i.size)).toList.take (n.toNat * i.size)).getD (j * i.size + q) undef = u := by
        rw [List.getD_eq_getElem?_getD, List.getElem?_take, if_pos hlt, Array.getElem?_toList];simp only [madeCells];simp [hlt2, hvs, hmod];simp [hvz, hzq]
       rw [e1];exact ⟨hone u (List.mem_of_getElem? hzq), .u _ _ (zeN _ _)⟩⟩
  have hrun' : (execOp a.eval { dst, op := .makeSlice t x y, type, pos, after, guard }).run P w = .ok (.value (za8 (some w.heap.size, c.toNat) n.toNat)) (w.alloc (.cells (madeCells v.cells (c.toNat * i.size)) e)) := by
   simp only [execOp];exact zil (by rw [hxv, hyv]; exact hrun)
  unfold Oper.wp;rw [hrun'];exact hK _ _ _ _ h1 (h2.put (St.zeB hp) (.vec _ _ _ (by simp [Kr.add]))) hk
 ·exact h.elim
end Go.VL
namespace Go.VL
open Go Go.MapKept
def zba (P : Program) (t : TypeId) (s : St) (dst : Option Tmp) (k : St -> Prop) : Prop :=
 match zeK P t with
 | some (kk, ag, _) => zay dst s /\ k ((s.add (.map kk ag [])).put dst (.mp s.next))
 | none => False
theorem MapAt.nil (m : Kr) (kk : KK) (ag : Bool) : MapAt m kk ag [] #[] 0 :=
 ⟨rfl, by simp, List.Pairwise.nil, by simp, by simp, by simp⟩
theorem Eff.makeMap {P Γ o s k t} (ho : o.op = .makeMap t none) (h : zba P t s o.dst k) : Eff P Γ o s k := by
 intro K a w hin hs Kont Q hK;unfold zba at h;split at h
 ·rename_i kk ag z _;obtain ⟨hp, hk⟩ := h;obtain ⟨h1, h2⟩ := Sim.alloc hin hs (.map #[] 0) 0 (.map kk ag []) ⟨w.heap.size, #[], 0, [], rfl, (MapKept.heap_alloc w _).1, .refl _, MapAt.nil _ kk ag⟩;have hrun : (execOp a.eval o).run P w = .ok (.value (.map (some w.heap.size))) (w.alloc (.map #[] 0)) := by
   obtain ⟨dst, op, type, pos, after, guard⟩ := o;simp only at ho;subst ho;simp [execOp, Instr.makeMap]
  unfold Oper.wp;rw [hrun];exact hK _ _ _ _ h1 (h2.put (St.zeB hp) (.mp _ _ 0 (by simp [Kr.add]))) hk
 ·exact h.elim
def zdE {α : Type} : List (Key × List α) -> Key -> List α -> List (Key × List α)
 | [], x, c => [(x, c)]
 | (k, c0) :: l, x, c => if x = k then (k, c) :: l else (k, c0) :: zdE l x c
theorem zkh {α β : Type} (f : α -> β) (key : Key) (c : List α) : ∀ (us : List (Key × List α)), zdE (us.map fun p => (p.1, p.2.map f)) key (c.map f) = (zdE us key c).map fun p => (p.1, p.2.map f)
 | [] => rfl
 | (k, d) :: l => by
  simp only [zzC, zdE];split
  ·rfl
  ·simp_all [zzC, zkh]
theorem zaS (us : List (Key × List U)) (key : Key) (a : U) : zdE (zj3 us) key [.u a] = zj3 (zdE us key [a]) := zkh D.u key [a] us
theorem zaR (us : List (Key × List U)) (key : Key) (a b c : U) : zdE (zj3 us) key [.u a, .u b, .u c] = zj3 (zdE us key [a, b, c]) := zkh D.u key [a, b, c] us
theorem zk7 {α : Type} {key : Key} {c : List α} : ∀ {es : List (Key × List α)}, (∀ p ∈ es, p.1 ≠ key) -> zdE es key c = es ++ [(key, c)]
 | [], _ => rfl
 | (k, c0) :: l, h => by
  rw [zdE, if_neg (fun e => h (k, c0) (by simp) e.symm), zk7 fun p hp => h p (by simp [hp])]
  try rfl
theorem zk6 {α : Type} {key : Key} {c : List α} : ∀ {es : List (Key × List α)} {j : Nat} {p : Key × List α}, es.Pairwise (fun p q => p.1 ≠ q.1) -> es[j]? = some p -> p.1 = key -> zdE es key c = es.set j (key, c)
 | [], j, p, _, hj, _ => by simp at hj
 | (k, c0) :: l, 0, p, _, hj, hk => by grind [zdE]
 | (k, c0) :: l, j + 1, p, hn, hj, hk => by
  rw [List.pairwise_cons] at hn;have hj' : l[j]? = some p := by simpa using hj
  rw [zdE, if_neg (fun e => hn.1 p (List.mem_of_getElem? hj') (by rw [hk, e])), zk6 hn.2 hj' hk]
  try rfl
theorem zqb {α : Type} {key : Key} {c : List α} {es es' : List (Key × List α)} (hp : es.Perm es') (h : es.Pairwise fun p q => p.1 ≠ q.1) : (zdE es key c).Perm (zdE es' key c) := by
 induction hp with
 | nil => exact .refl _
 | cons x hp ih =>
  rw [List.pairwise_cons] at h;obtain ⟨k, d⟩ := x;simp only [zdE];split
  ·exact hp.cons _
  ·exact (ih h.2).cons _
 | swap x y l =>
  obtain ⟨k, d⟩ := x;obtain ⟨k', d'⟩ := y;simp only [List.pairwise_cons, List.mem_cons, forall_eq_or_imp] at h;simp only [zdE];by_cases h1 : key = k'
  ·subst h1;rw [if_pos rfl, if_neg h.1.1, if_pos rfl];exact .swap _ _ _
  ·rw [if_neg h1];by_cases h2 : key = k
   ·subst h2;rw [if_pos rfl, if_pos rfl];exact .swap _ _ _
   ·rw [if_neg h2, if_neg h2, if_neg h1];exact .swap _ _ _
 | trans p1 p2 ih1 ih2 => exact (ih1 h).trans (ih2 (zlx p1 h))
def zfp (ag : Bool) (d : D) : Option (List D) := match ag, d with
 | true, .u (.agg cs) => if zeD (cs.map .u) then some (cs.map .u) else none
 | true, .agg cs => if zeD cs then some cs else none
 | false, d => if zc7 d then some [d] else none
 | _, _ => none
theorem zlC {k : Kr} {cs : List D} {vs : List Value} (h : zeD cs = true) (hr : ∀ (j : Nat) (c : D), cs[j]? = some c -> Rep k c (vs.getD j undef)) : ∀ (j : Nat) (c : D), cs[j]? = some c -> zdQ k c (vs.getD j undef) := fun j c hj =>
 ⟨(zfG ((List.all_eq_true.1 h) c (List.mem_of_getElem? hj)) (hr j c hj)).1, hr j c hj⟩
theorem zsF {k : Kr} {ag d cells v} (h : zfp ag d = some cells) (hr : Rep k d v) : MV k ag cells v := by
 unfold zfp at h;unfold MV;split at h
 ·split at h
  ·rename_i cs hc;cases h;rw [if_pos rfl];obtain ⟨vs, hl, rfl, hv⟩ := zee hr;refine ⟨vs, rfl, by simpa using hl, zlC hc fun j c hj => ?_⟩;rw [List.getElem?_map] at hj;cases hq : cs[j]? with
   | none => rw [hq] at hj; cases hj
   | some u => rw [hq] at hj; cases hj; exact .u _ _ (hv j u hq)
  ·cases h
 ·split at h
  ·rename_i cs hc;cases h;rw [if_pos rfl];obtain ⟨vs, hl, rfl, hv⟩ := zin hr;exact ⟨vs, rfl, hl, zlC hc hv⟩
  ·cases h
 ·split at h
  ·rename_i hx;cases h;rw [if_neg (by simp)];exact ⟨_, rfl, (zfG hx hr).1, hr⟩
  ·cases h
 ·cases h
def zbs (P : Program) (t : TypeId) (x i v : D) (s : St) (k : St -> Prop) : Prop :=
 match zeK P t, x, i with
 | some (kk, ag, _), .mp m, .u key => match getK s.obs m, zfs key, zfp ag v with
  | some (.map kk' ag' es), some key, some cells => kk = kk' /\ ag = ag' /\ key.kk = kk /\ k { s with obs := zcw s.obs m (.map kk ag (zdE es key cells)) }
  | _, _, _ => False
 | _, _, _ => False
theorem MapAt.push {m : Kr} {kk ag es ents clock} (h : MapAt m kk ag es ents clock) {key : Key} {cells : List D} {v : Value} (hk : key.kk = kk) (hn : ∀ p ∈ es, p.1 ≠ key) (hv : MV m ag cells v) :
  MapAt m kk ag (es ++ [(key, cells)]) (ents.push { key := key.val, val := v, born := clock }) (clock + 1) := by
 refine ⟨by simp [h.size], fun p hp => ?_, ?_, fun i p hp => ?_, fun i en hi => ?_, fun i j en en' hi hj e => ?_⟩
 ·rcases List.mem_append.1 hp with hp | hp
  ·exact h.kind p hp
  ·simp at hp; subst hp; exact hk
 ·rw [List.pairwise_append];exact ⟨h.once, by simp, fun p hp q hq => by simp at hq; subst hq; exact hn p hp⟩
 ·rw [List.getElem?_append] at hp;by_cases hi : i < es.length
  ·rw [if_pos hi] at hp;obtain ⟨en, h1, h2⟩ := h.ent i p hp;exact ⟨en, by rw [Array.getElem?_push, if_neg (by rw [h.size]; omega)]; exact h1, h2⟩
  ·rw [if_neg hi] at hp;have hl := (List.getElem?_eq_some_iff.1 hp).1;simp at hl;have : i = es.length := by omega
   subst this;simp at hp;subst hp;exact ⟨_, by rw [Array.getElem?_push, if_pos h.size.symm], rfl, hv⟩
 ·rw [Array.getElem?_push] at hi;split at hi
  ·cases hi; simp
  ·have := h.born i en hi; omega
 ·rw [Array.getElem?_push] at hi hj;split at hi <;> split at hj
  ·omega
  ·cases hi; have := h.born j en' hj; simp at e; omega
  ·cases hj; have := h.born i en hi; simp at e; omega
  ·exact h.apart i j en en' hi hj e
theorem MapAt.put {m : Kr} {kk ag es ents clock} (h : MapAt m kk ag es ents clock) {key : Key} {cells : List D} {v : Value} {j : Nat} {p : Key × List D} (hj : es[j]? = some p) (hk : p.1 = key) (hv : MV m ag cells v) :
  MapAt m kk ag (es.set j (key, cells)) (ents.modify j fun e => { e with key := key.val, val := v }) clock := by
 have hjl := (List.getElem?_eq_some_iff.1 hj).1;have hget : ∀ i, (ents.modify j fun e => { e with key := key.val, val := v })[i]? = if j = i then (ents[i]?).map (fun e => { e with key := key.val, val := v }) else ents[i]? := fun i => by
  rw [Array.getElem?_modify]
 have hborn : ∀ (i : Nat) (en : MapEntry), (ents.modify j fun e => { e with key := key.val, val := v })[i]? = some en -> ∃ en0, ents[i]? = some en0 /\ en0.born = en.born := fun i en hi => by grind
 refine ⟨by simp [h.size], fun q hq => ?_, ?_, fun i q hq => ?_, fun i en hi => ?_, fun i i' en en' hi hi' e => ?_⟩
 ·rcases List.mem_or_eq_of_mem_set hq with hm | rfl
  ·exact h.kind q hm
  ·rw [<- hk]; exact h.kind p (List.mem_of_getElem? hj)
 ·rw [List.pairwise_iff_getElem];intro a b ha hb hab;have ho := h.once;rw [List.pairwise_iff_getElem] at ho;simp only [List.length_set] at ha hb;have e1 : ∀ x (hx : x < es.length), ((es.set j (key, cells))[x]'(by simpa using hx)).1 = (es[x]).1 := fun x hx => by grind
  rw [e1 a ha, e1 b hb];exact ho a b ha hb hab
 ·rw [List.getElem?_set] at hq;by_cases hji : j = i
  ·subst hji;rw [if_pos rfl, if_pos hjl] at hq;cases hq;obtain ⟨en, h1, _⟩ := h.ent j p hj;exact ⟨_, by rw [hget, if_pos rfl, h1]; rfl, rfl, hv⟩
  ·rw [if_neg hji] at hq;obtain ⟨en, h1, h2⟩ := h.ent i q hq;exact ⟨en, by rw [hget, if_neg hji]; exact h1, h2⟩
 ·obtain ⟨en0, h1, h2⟩ := hborn i en hi;rw [<- h2];exact h.born i en0 h1
 ·obtain ⟨a, h1, h2⟩ := hborn i en hi;obtain ⟨b, h3, h4⟩ := hborn i' en' hi';exact h.apart i i' a b h1 h3 (by rw [h2, h4, e])
theorem ztu {P : Program} {w : World} (key : Key) : (Instr.keyThatStays key.val key.val).run P w = .ok key.val w := by
 unfold Instr.keyThatStays;have : Instr.sameBits 10000 key.val key.val = true := by
  cases key with
  | s l => simp only [Key.val, Instr.sameBits]; exact (MapKept.bytes_beq _ _).2 rfl
  | i k n => simp [Key.val, Instr.sameBits]
 simp [this]
def _root_.Go.World.putMap (w : World) (b : Nat) (ents : Array MapEntry) (clock : Nat) : World := { w with heap := w.heap.setIfInBounds b (.map ents clock) }
theorem zo0 {P : Program} {t kt e : TypeId} {kk : KK} {ag : Bool} {key : Key} {m : Kr} {es : List (Key × List D)} {ents : Array MapEntry} {clock b : Nat} {w : World} {cells : List D} {v : Value} (hu : P.underlying t = some (.map kt e))
  (h : (match P.underlying kt with | some .string => some KK.s | some (.int k) => some (KK.i k) | _ => none) = some kk) (hk : key.kk = kk) (hm : MapAt m kk ag es ents clock) (hb : w.heap[b]? = some (.map ents clock)) (hv : MV m ag cells v) :
  ∃ ents' clock', (Instr.mapUpdate t (.map (some b)) key.val v).run P w = .ok () (w.putMap b ents' clock') /\ MapAt m kk ag (zdE es key cells) ents' clock' := by
 obtain ⟨d, hud, hik⟩ := Key.zuq h hk;rcases znY (P := P) (w := w) h hk hm with ⟨h1, h2⟩ | ⟨j, en, p, h1, h2, h3, h4, h5⟩
 ·refine ⟨_, _, ?_, by rw [zk7 h2]; exact hm.push hk h2 hv⟩;unfold Instr.mapUpdate;simp only [Sem.run_bind, run_underlying hu, Result.andThen_ok, MapKept.run_getObj_map hb, run_checkKey hud hik, h1];exact MapKept.run_setObj_map _ hb
 ·refine ⟨_, _, ?_, by rw [zk6 hm.once h3 h4]; exact hm.put h3 h4 hv⟩;have hkey : ((ents[j]?).map (·.key)).getD key.val = key.val := by
   obtain ⟨en', h6, h7, _⟩ := hm.ent j p h3;rw [h2] at h6;cases h6;rw [h2];simp [h7, h4]
  unfold Instr.mapUpdate;simp only [Sem.run_bind, run_underlying hu, Result.andThen_ok, MapKept.run_getObj_map hb, run_checkKey hud hik, h1, hkey, ztu];exact MapKept.run_setObj_map _ hb
theorem Eff.mapUpdate {P Γ o s k t x i v} (ho : o.op = .mapUpdate t x i v \/ o.op = .insert t x i v) (hd : o.dst = none) (h : zbs P t (opd s x) (opd s i) (opd s v) s k) : Eff P Γ o s k := by
 intro K a w hin hs Kont Q hK;unfold zbs at h;split at h
 ·rename_i kk ag z m key hinf hx hi;obtain ⟨kt, e, hu, hkk, _⟩ := zff hinf;split at h
  ·rename_i kk' ag' es ky cells hg hky hvm;obtain ⟨rfl, rfl, hkk2, hk⟩ := h;obtain ⟨b, c, ents, clock, es0, hh, hown, hheap, hpm, hm, hno⟩ := (hs.sat.ob m _ hg).map;have hrx := zaX hs x;rw [hx] at hrx;obtain ⟨b', c', hh', hxv⟩ := zlq hrx;rw [hh] at hh';cases hh';have hri := zaX hs i;rw [hi] at hri;have hiv : a.eval i = ky.val := by cases hri with | u _ _ hri => exact zkA hky hri
   obtain ⟨ents', clock', hrun, hm'⟩ := zo0 (w := w) hu hkk hkk2 hm hheap (zsF hvm (zaX hs v));have hrun' : (execOp a.eval o).run P w = .ok .skip (w.putMap b ents' clock') := by
    obtain ⟨dst, op, type, pos, after, guard⟩ := o;simp only at ho;rcases ho with rfl | rfl
    ·simp [execOp, hxv, hiv, hrun]
    ·simp [execOp, hxv, hiv, hrun]
   unfold Oper.wp;rw [hrun'];have hsame := MapKept.heap_set (o' := .map ents' clock') hheap;have hin' : In Γ K (w.putMap b ents' clock') := hin.step (.refl K) (fun _ _ _ e => .inl e) rfl rfl rfl (by simp [World.putMap]) (fun b' hb' => hsame.2 b' fun e => hb' (by rw [e]; exact hown));refine hK K _ _ _ hin' (?_ : Sim K Γ.own _ (a.put o.dst undef) _) hk;rw [hd];exact ⟨Sat.congr (Sat.set (h := (some b, c)) hs.sat hg hh (fun b' hb' => hsame.2 b' fun e => hb' (by rw [e])) (ob' := .map kk ag (zdE es ky cells)) ⟨b, ents', clock', _, rfl, hsame.1, zqb hpm hm.once, hm'⟩) (zad _ _ _), hs.defers, hs.size, hs.env, hs.hdr⟩
  ·exact h.elim
 ·exact h.elim
end Go.VL
namespace Go.VL
open Go Go.MapKept
def zcn (P : Program) (t : TypeId) (x : D) (s : St) (dst : Option Tmp) (k : St -> Prop) : Prop :=
 match zeK P t, x with
 | some (kk, ag, _), .u (.map kk' ag' es) => kk = kk' /\ ag = ag' /\ zay dst s /\ k ((s.add (.it kk ag es es none)).put dst (.ptr s.next 0))
 | _, _ => False
theorem zhy {α β : Type} {f g : α -> Option β} : ∀ {l : List α}, (∀ x ∈ l, f x = g x) -> l.filterMap f = l.filterMap g
 | [], _ => rfl
 | a :: l, h => by rw [List.filterMap_cons, List.filterMap_cons, h a (by simp), zhy fun x hx => h x (by simp [hx])]
theorem zrg (us : List (Key × List U)) (ents : Array MapEntry) (h : ents.size = us.length) : zkz us ents #[] = us := by
 unfold zkz;rw [zhy (g := fun i => us[i]?) fun i hi => by
  have hi := List.mem_range.1 hi;unfold lfI;rw [List.getElem?_eq_getElem hi, Array.getElem?_eq_getElem (by omega)];simp]
 clear h
 induction us with
 | nil => rfl
 | cons a l ih =>
  rw [List.length_cons, List.range_succ_eq_map, List.filterMap_cons];simp only [List.getElem?_cons_zero, List.filterMap_map]
  congr 1
theorem Eff.range {P Γ o s k t x} (ho : o.op = .range t x) (h : zcn P t (opd s x) s o.dst k) : Eff P Γ o s k := by
 intro K a w hin hs Kont Q hK;unfold zcn at h;split at h
 ·rename_i kk ag z kk' ag' es hinf hx;obtain ⟨rfl, rfl, hp, hk⟩ := h;obtain ⟨kt, e, hu, _, _⟩ := zff hinf;have hrx := zaX hs x;rw [hx] at hrx;cases hrx with | u _ _ hrx =>
   obtain ⟨bm, ents, clock, us, hpm, hv, hb, hm⟩ := RepU.zw2 hrx;have hheap := zh6 (hs.sat.mem _ _ _ hb);have hlt : bm < w.heap.size := (Array.getElem?_eq_some_iff.1 hheap).1;obtain ⟨h1, h2⟩ := Sim.alloc hin hs (.mapIter (some bm) clock #[] clock) 0 (.it kk ag es es none) ⟨w.heap.size, rfl, bm, ents, clock, #[], us, (MapKept.heap_alloc w _).1, hb, hpm, ⟨K.glob, hm.pure (.refl _)⟩, by rw [zrg us ents (by have := hm.size; simpa using this)]; exact hpm.symm, fun p hp => by cases hp⟩;have hrun : (execOp a.eval o).run P w = .ok (.value (.pointer (some ⟨w.heap.size, 0, none⟩))) (w.alloc (.mapIter (some bm) clock #[] clock)) := by
    obtain ⟨dst, op, type, pos, after, guard⟩ := o;simp only at ho;subst ho;have := run_range_map (P := P) w t kt e bm ents clock hu hheap;simp [execOp, hv, this]
   unfold Oper.wp;rw [hrun];exact hK _ _ _ _ h1 (h2.put (St.zeB hp) (.ptr _ 0 _ 0 (by simp [Kr.add]))) hk
 ·exact h.elim
def nextD (x : D) (s : St) (dst : Option Tmp) (k : St -> Prop) : Prop :=
 match x with
 | .ptr i 0 => match getK s.obs i with
  | some (.it kk ag es left cur) => zay dst s /\ (left = [] -> k (s.put dst (.tup [.u (.bool false)]))) /\
    ∀ l1 p l2, left = l1 ++ p :: l2 -> k ({ s with obs := zcw s.obs i (.it kk ag es (l1 ++ l2) (some p)) }.put dst (.tup [.u (.bool true), .any, .any]))
  | _ => False
 | _ => False
theorem zs9 {P : Program} {w : World} {ty : TypeId} {r bm clock : Nat} {seen : Array Nat} {es : Array MapEntry} (hr : w.heap[r]? = some (.mapIter (some bm) clock seen clock)) (hb : w.heap[bm]? = some (.map es clock)) (hold : ∀ x ∈ es.toList, x.born < clock) :
  ((leftOf es seen).size = 0 /\ (Instr.next (.pointer (some ⟨r, 0, none⟩)) false ty).run P w = .ok (.tuple #[.bool false]) w) \/
  ∃ e ∈ (leftOf es seen).toList, ∃ w1 : World, w1.heap = w.heap /\ w1.os = w.os /\ w1.tape = w.tape /\ w1.output = w.output /\ (Instr.next (.pointer (some ⟨r, 0, none⟩)) false ty).run P w = .ok (.tuple #[.bool true, e.key, e.val]) { w1 with heap := w.heap.setIfInBounds r (.mapIter (some bm) clock (seen.push e.born) clock) } := by
 simp only [Instr.next, getObj, Sem.run_bind, Sem.run, hr, hb, Result.andThen, next_test_false seen es clock clock hold (Nat.le_refl _), Bool.false_eq_true, if_false];unfold leftOf;have hmem : ∀ x ∈ (Array.filter (fun e => !seen.contains e.born) es).toList, x.born < clock := fun x hx => hold x (by simp at hx ⊢; exact hx.1);generalize Array.filter (fun e => !seen.contains e.born) es = L at hmem ⊢;have e1 : L.filter (fun x => decide (x.born < clock)) = L := Array.filter_eq_self.2 (fun x hx => by simpa using hmem x (by simpa using hx));have e2 : L.filter (fun x => decide (x.born >= clock)) = #[] := by simp_all
 simp only [e1, e2, Array.append_empty];by_cases h0 : L.size = 0
 ·simp_all [Sem.run, Question.forced]
 ·right;have hne : L.isEmpty = false := by simp [Array.isEmpty, h0]
  simp only [hne, Bool.false_eq_true, if_false, Array.empty_append, Array.size_map];have hch : ∃ (j : Nat) (w1 : World), j < L.size /\ w1.heap = w.heap /\ w1.os = w.os /\ w1.tape = w.tape /\ w1.output = w.output /\ (choose (Question.mapNext L.size)).run P w = .ok j w1 := by
   by_cases hf : L.size <= 1
   ·exact ⟨0, w, by omega, rfl, rfl, rfl, rfl, by simp [choose, Sem.run, Question.forced, hf]⟩
   ·exact ⟨_, w.drew, Nat.mod_lt _ (by omega), rfl, rfl, rfl, rfl, by
     simp only [choose, Sem.run, Question.forced, decide_eq_true_eq, hf, if_false, Question.cut];rfl⟩
  obtain ⟨j, w1, hj, hh, ho, ht, hou, hrun⟩ := hch;refine ⟨L[j], by simp, w1, hh, ho, ht, hou, ?_⟩;have hset : ∀ (o' : Obj), (setObj r o').run P w1 = .ok () { w1 with heap := w.heap.setIfInBounds r o' } := fun o' => by
   have hr' : w1.heap[r]? = some (.mapIter (some bm) clock seen clock) := by rw [hh]; exact hr
   simp only [setObj, Sem.run, hr'];rw [hh]
  simp only [hrun, Array.getElem?_map, Array.getElem?_eq_getElem hj, Option.map_some, Sem.run_bind, hset, Result.andThen]
  try rfl
theorem zrh {us : List (Key × List U)} {ents : Array MapEntry} {seen : Array Nat} {e : MapEntry} (hsz : ents.size = us.length) (he : e ∈ (leftOf ents seen).toList) : ∃ (i : Nat) (p : Key × List U), us[i]? = some p /\ ents[i]? = some e /\ seen.contains e.born = false := by
 simp only [leftOf, Array.toList_filter, List.mem_filter, Bool.not_eq_true'] at he;obtain ⟨i, hi⟩ := List.getElem?_of_mem he.1;rw [Array.getElem?_toList] at hi;have hl := (Array.getElem?_eq_some_iff.1 hi).1;exact ⟨i, us[i]'(by omega), List.getElem?_eq_getElem (by omega), hi, he.2⟩
theorem zo6 {us : List (Key × List U)} {ents : Array MapEntry} {seen : Array Nat} {i : Nat} {p : Key × List U} {e : MapEntry} (hp : us[i]? = some p) (he : ents[i]? = some e) (hs : seen.contains e.born = false)
  (hap : ∀ (i j : Nat) (en en' : MapEntry), ents[i]? = some en -> ents[j]? = some en' -> en.born = en'.born -> i = j) : (zkz us ents seen).Perm (p :: zkz us ents (seen.push e.born)) := by
 unfold zkz;have hil := (List.getElem?_eq_some_iff.1 hp).1;have h1 : lfI us ents seen i = some p := by unfold lfI; rw [hp, he]; simp only [hs]; rfl
 have h2 : lfI us ents (seen.push e.born) i = none := by unfold lfI; rw [hp, he]; simp
 have h3 : ∀ j, j ≠ i -> lfI us ents (seen.push e.born) j = lfI us ents seen j := fun j hj => by
  unfold lfI;cases hq : us[j]? with
  | none => rfl
  | some q =>
   cases hen : ents[j]? with
   | none => rfl
   | some en =>
    have : en.born ≠ e.born := fun h => hj (hap j i en e hen he h);simp [this]
 have : ∀ (l : List Nat), l.Nodup -> i ∈ l -> (l.filterMap (lfI us ents seen)).Perm (p :: l.filterMap (lfI us ents (seen.push e.born))) := by
  intro l
  induction l with
  | nil => intro _ hm; cases hm
  | cons a l ih =>
   intro hnd hm;rw [List.nodup_cons] at hnd;by_cases ha : a = i
   ·subst ha;rw [List.filterMap_cons, List.filterMap_cons, h1, h2];simp only;rw [zhy (f := lfI us ents (seen.push e.born)) (g := lfI us ents seen) fun x hx => h3 x fun q => hnd.1 (q ▸ hx)]
   ·have hm' : i ∈ l := by rcases List.mem_cons.1 hm with rfl | hm; exact absurd rfl ha; exact hm
    rw [List.filterMap_cons, List.filterMap_cons, h3 a ha];split
    ·exact ih hnd.2 hm'
    ·exact ((ih hnd.2 hm').cons _).trans (.swap _ _ _)
 exact this _ List.nodup_range (List.mem_range.2 hil)
theorem zo5 {us : List (Key × List U)} {ents : Array MapEntry} {seen : Array Nat} (h : (leftOf ents seen).size = 0) : zkz us ents seen = [] := by
 unfold zkz;rw [List.filterMap_eq_nil_iff];intro i _;unfold lfI;split
 ·rename_i p en hp hen;have h0 : leftOf ents seen = #[] := Array.eq_empty_of_size_eq_zero h;have : seen.contains en.born = true := by
   cases hc : seen.contains en.born with
   | true => rfl
   | false =>
    exfalso;have : en ∈ leftOf ents seen := by
     simp only [leftOf, Array.mem_filter, hc, Bool.not_false, and_true];exact Array.mem_of_getElem? hen
    rw [h0] at this;simp at this
  rw [if_pos this]
 ·rfl
theorem Eff.next {P Γ o s k x} (ho : o.op = .next x false) (h : nextD (opd s x) s o.dst k) : Eff P Γ o s k := by
 intro K a w hin hs Kont Q hK;unfold nextD at h;split at h
 ·rename_i i hx;split at h
  ·rename_i kk ag es left cur hg;obtain ⟨hp, hend, hmore⟩ := h;obtain ⟨b, c, hh, hown, ⟨bm, ents, clock, seen, us, h1, h2, h3, ⟨hg0, h4⟩, h5, h6⟩, hno⟩ := (hs.sat.ob i _ hg).it;have hrx := zaX hs x;rw [hx] at hrx;obtain ⟨b', c', hh', hv⟩ := zeb hrx;rw [hh] at hh';cases hh';have hheap := zh6 (hs.sat.mem _ _ _ h2);have hsz : ents.size = us.length := by have := h4.size; simpa using this
   have hold : ∀ x ∈ ents.toList, x.born < clock := fun x hx => by
    obtain ⟨j, hj⟩ := List.getElem?_of_mem hx;rw [Array.getElem?_toList] at hj;exact h4.born j x hj
   unfold Oper.wp;rcases zs9 (P := P) (ty := o.type) h1 hheap hold with ⟨hz, hrun⟩ | ⟨e, he, w1, e1, e2, e3, e4, hrun⟩
   ·have hrun' : (execOp a.eval o).run P w = .ok (.value (.tuple #[.bool false])) w := by
     obtain ⟨dst, op, type, pos, after, guard⟩ := o;simp only at ho hrun;subst ho;simp [execOp, hv, hrun]
    rw [hrun'];have hl : left = [] := by simp_all [zo5]
    refine hK K _ _ _ hin (hs.put hp (.tup _ [.bool false] rfl fun j d hj => ?_)) (hend hl)
    match j, hj with
    | 0, hj => simp at hj; subst hj; exact .u _ _ (.bool _)
   ·obtain ⟨q, p, hq1, hq2, hq3⟩ := zrh hsz he;have hpm := (zo6 hq1 hq2 hq3 h4.apart);obtain ⟨l1, l2, hleft⟩ : ∃ l1 l2, left = l1 ++ p :: l2 := List.append_of_mem (h5.mem_iff.2 (hpm.mem_iff.2 (by simp)))
    let w2 : World := { w1 with heap := w.heap.setIfInBounds b (.mapIter (some bm) clock (seen.push e.born) clock) }
    have hrun' : (execOp a.eval o).run P w = .ok (.value (.tuple #[.bool true, e.key, e.val])) w2 := by
     obtain ⟨dst, op, type, pos, after, guard⟩ := o;simp only at ho hrun;subst ho;simp [execOp, hv, hrun, w2]
    rw [hrun'];have hsame := MapKept.heap_set (o' := .mapIter (some bm) clock (seen.push e.born) clock) h1;have hin' : In Γ K w2 := hin.step (.refl K) (fun _ _ _ e => .inl e) e2 e3 e4 (by simp [w2]) (fun b' hb' => hsame.2 b' fun e => hb' (by rw [e]; exact hown));have hit : ItAt K.mem w2 b kk ag es (l1 ++ l2) (some p) := by
     refine ⟨bm, ents, clock, seen.push e.born, us, hsame.1, h2, h3, ⟨hg0, h4⟩, ?_, fun p' hp' => ?_⟩
     ·have h7 : (p :: (l1 ++ l2)).Perm (p :: zkz us ents (seen.push e.born)) := by
       refine List.Perm.trans ?_ (h5.trans hpm);rw [hleft];exact (List.perm_middle).symm
      exact h7.cons_inv
     ·grind
    have hsim : Sim K Γ.own { s with obs := zcw s.obs i (.it kk ag es (l1 ++ l2) (some p)) } a w2 :=
     ⟨Sat.congr (Sat.set (h := (some b, c)) hs.sat hg hh (fun b' hb' => hsame.2 b' fun e => hb' (by rw [e])) (ob' := .it kk ag es (l1 ++ l2) (some p)) ⟨b, rfl, hit⟩) (zad _ _ _), hs.defers, hs.size, hs.env, hs.hdr⟩
    refine hK K _ _ _ hin' (hsim.put (by cases hd : o.dst <;> simp_all [zay]) (.tup _ [.bool true, e.key, e.val] rfl fun j d hj => ?_)) (hmore l1 p l2 hleft)
    match j, hj with
    | 0, hj => simp at hj; subst hj; exact .u _ _ (.bool _)
    | 1, hj => simp at hj; subst hj; exact .any _
    | 2, hj => simp at hj; subst hj; exact .any _
  ·exact h.elim
 ·exact h.elim
def rangeS (P : Program) (t : TypeId) (z : List UInt8) (s : St) (dst : Option Tmp) (k : St -> Prop) : Prop :=
 zbA P t = true /\ zay dst s /\ k ((s.add (.sit z 0)).put dst (.ptr s.next 0))
theorem Eff.rangeS {P Γ o s k t x z} (ho : o.op = .range t x) (hx : opd s x = .u (.str z)) (h : Go.VL.rangeS P t z s o.dst k) : Eff P Γ o s k := by
 intro K a w hin hs Kont Q hK;obtain ⟨hst, hp, hk⟩ := h;have hu := zeh hst;have hrx := zaX hs x;rw [hx] at hrx;have hv := zgr hrx;obtain ⟨h1, h2⟩ := Sim.alloc hin hs (.stringIter ⟨z.toArray⟩ 0) 0 (.sit z 0) ⟨w.heap.size, rfl, World.iter_heap w ⟨z.toArray⟩ 0⟩;have hrun : (execOp a.eval o).run P w = .ok (.value (.pointer (some ⟨w.heap.size, 0, none⟩))) (w.alloc (.stringIter ⟨z.toArray⟩ 0)) := by
  obtain ⟨dst, op, type, pos, after, guard⟩ := o;simp only at ho;subst ho;have := run_range_string (P := P) w t ⟨z.toArray⟩ hu;simp [execOp, hv, this, World.iter]
 unfold Oper.wp;rw [hrun];exact hK _ _ _ _ h1 (h2.put (St.zeB hp) (.ptr _ 0 _ 0 (by simp [Kr.add]))) hk
def nextS (x : D) (s : St) (dst : Option Tmp) (k : St -> Prop) : Prop :=
 match x with
 | .ptr i 0 => match getK s.obs i with
  | some (.sit z pos) => zay dst s /\ (if pos < z.length then (z.getD pos 0).toNat < 128 /\ k (({ s with obs := zcw s.obs i (.sit z (pos + 1)) } : St).put dst (.tup [.u (.bool true), .u (.int .i64 pos), .u (.int .i32 (z.getD pos 0).toNat)]))
    else k (s.put dst (.tup [.u (.bool false)])))
  | _ => False
 | _ => False
theorem zqS {P : Program} {w : World} {r pos : Nat} {s : ByteArray} {ty : TypeId} (hr : w.heap[r]? = some (.stringIter s pos)) :
  (Instr.next (.pointer (some ⟨r, 0, none⟩)) true ty).run P w = if h : pos < s.size then (if (s[pos]'h).toNat < 128 then .ok (.tuple #[.bool true, .int .i64 pos, .int .i32 (s[pos]'h).toNat]) { w with heap := w.heap.setIfInBounds r (.stringIter s (pos + 1)) }
    else (Instr.next (.pointer (some ⟨r, 0, none⟩)) true ty).run P w) else .ok (.tuple #[.bool false]) w := by
 split
 ·rename_i h;split
  ·rename_i ha;simp only [Instr.next, getObj, setObj, Sem.run_bind, Sem.run, hr, Result.andThen, h, if_true, decode_ascii s pos h ha];simp [goInt, Sem.run, hr]
  ·rfl
 ·rename_i h;simp [Instr.next, getObj, Sem.run, hr, h]
theorem Eff.nextS {P Γ o s k x} (ho : o.op = .next x true) (h : Go.VL.nextS (opd s x) s o.dst k) : Eff P Γ o s k := by
 intro K a w hin hs Kont Q hK;unfold Go.VL.nextS at h;split at h
 ·rename_i i hx;split at h
  ·rename_i z pos hg;obtain ⟨hp, h⟩ := h;obtain ⟨b, c, hh, hown, h1, hno⟩ := (hs.sat.ob i _ hg).sit;have hrx := zaX hs x;rw [hx] at hrx;obtain ⟨b', c', hh', hv⟩ := zeb hrx;rw [hh] at hh';cases hh';have hrun := zqS (P := P) (ty := o.type) h1;have hsz : (⟨z.toArray⟩ : ByteArray).size = z.length := rfl;unfold Oper.wp;by_cases hlt : pos < z.length
   ·rw [if_pos hlt] at h;rw [dif_pos (by rw [hsz]; exact hlt)] at hrun;obtain ⟨h128, hk⟩ := h;have hget : (⟨z.toArray⟩ : ByteArray)[pos]'(by rw [hsz]; exact hlt) = z.getD pos 0 := by
     show z.toArray[pos]'hlt = _;simp [List.getD, hlt]
    rw [hget, if_pos h128] at hrun
    let w2 : World := { w with heap := w.heap.setIfInBounds b (.stringIter ⟨z.toArray⟩ (pos + 1)) }
    have hrun' : (execOp a.eval o).run P w = .ok (.value (.tuple #[.bool true, .int .i64 pos, .int .i32 (z.getD pos 0).toNat])) w2 := by
     obtain ⟨dst, op, type, pos, after, guard⟩ := o;simp only at ho hrun;subst ho;simp [execOp, hv, hrun, w2]
    rw [hrun'];have hsame := MapKept.heap_set (o' := .stringIter ⟨z.toArray⟩ (pos + 1)) h1;have hin' : In Γ K w2 := hin.step (.refl K) (fun _ _ _ e => .inl e) rfl rfl rfl (by simp [w2]) (fun b' hb' => hsame.2 b' fun e => hb' (by rw [e]; exact hown));have hsim : Sim K Γ.own { s with obs := zcw s.obs i (.sit z (pos + 1)) } a w2 :=
     ⟨Sat.congr (Sat.set (h := (some b, c)) hs.sat hg hh (fun b' hb' => hsame.2 b' fun e => hb' (by rw [e])) (ob' := .sit z (pos + 1)) ⟨b, rfl, hsame.1⟩) (zad _ _ _), hs.defers, hs.size, hs.env, hs.hdr⟩
    refine hK K _ _ _ hin' (hsim.put (by cases hd : o.dst <;> simp_all [zay]) (.tup _ [.bool true, .int .i64 pos, .int .i32 (z.getD pos 0).toNat] rfl fun j d hj => ?_)) hk
    match j, hj with
    | 0, hj => simp at hj; subst hj; exact .u _ _ (.bool _)
    | 1, hj => simp at hj; subst hj; exact .u _ _ (.int _ _)
    | 2, hj => simp at hj; subst hj; exact .u _ _ (.int _ _)
   ·rw [if_neg hlt] at h;rw [dif_neg (by rw [hsz]; exact hlt)] at hrun;have hrun' : (execOp a.eval o).run P w = .ok (.value (.tuple #[.bool false])) w := by
     obtain ⟨dst, op, type, pos, after, guard⟩ := o;simp only at ho hrun;subst ho;simp [execOp, hv, hrun]
    rw [hrun'];refine hK K _ _ _ hin (hs.put hp (.tup _ [.bool false] rfl fun j d hj => ?_)) h
    match j, hj with
    | 0, hj => simp at hj; subst hj; exact .u _ _ (.bool _)
  ·exact h.elim
 ·exact h.elim
def zgk : Key -> U
 | .s l => .str l
 | .i k n => .int k n
def zgh (ag : Bool) (cells : List U) : Option U := if ag then some (.agg cells) else match cells with | [u] => some u | _ => none
def zcr (x : D) (s : St) (ret : D -> Prop) : Prop :=
 match x with
 | .ptr i 0 => match getK s.obs i with
  | some (.it _ ag _ _ (some p)) => match zgh ag p.2 with
   | some u => ret (.tup [.u (zgk p.1), .u u])
   | none => False
  | _ => False
 | _ => False
theorem Eff.entry {P Γ o s k x} (ho : o.op = .entry x) (h : zcr (opd s x) s fun d => zay o.dst s /\ k (s.put o.dst d)) : Eff P Γ o s k := by
 intro K a w hin hs Kont Q hK;unfold zcr at h;split at h
 ·rename_i i hx;split at h
  ·rename_i kk ag es left p hg;split at h
   ·rename_i u hu;obtain ⟨hp, hk⟩ := h;obtain ⟨b, c, hh, hown, ⟨bm, ents, clock, seen, us, h1, h2, h3, ⟨hg0, h4⟩, h5, h6⟩, hno⟩ := (hs.sat.ob i _ hg).it;have hrx := zaX hs x;rw [hx] at hrx;obtain ⟨b', c', hh', hv⟩ := zeb hrx;rw [hh] at hh';cases hh';have hheap := zh6 (hs.sat.mem _ _ _ h2);obtain ⟨q, e, hq1, hq2, hq3⟩ := h6 p rfl;obtain ⟨en, g1, g2, g3⟩ := h4.ent q (p.1, p.2.map .u) (by rw [List.getElem?_map, hq1]; rfl);rw [hq2] at g1;cases g1;have hnd : (ents.toList.map (·.born)).Nodup := by
     rw [List.Nodup, List.pairwise_iff_getElem];intro i j hi hj hij heq;simp only [List.length_map, Array.length_toList] at hi hj;simp only [List.getElem_map, Array.getElem_toList] at heq;have := h4.apart i j _ _ (Array.getElem?_eq_getElem hi) (Array.getElem?_eq_getElem hj) heq;omega
    have hf : ents.find? (·.born == e.born) = some e := by
     rw [<- Array.find?_toList];exact find_born e ents.toList hnd (List.mem_of_getElem? (i := q) (by rw [Array.getElem?_toList]; exact hq2))
    have hrun' : (execOp a.eval o).run P w = .ok (.value (.tuple #[e.key, e.val])) w := by
     obtain ⟨dst, op, type, pos, after, guard⟩ := o;simp only at ho;subst ho;have : (Instr.entry (.pointer (some ⟨b, 0, none⟩))).run P w = .ok (.tuple #[e.key, e.val]) w := by
      simp only [Instr.entry, getObj, Sem.run_bind, Sem.run, h1, hheap, Result.andThen, hq3, bne_self_eq_false, Bool.false_eq_true, if_false, hf]
      try rfl
     simp [execOp, hv, this]
    unfold Oper.wp;rw [hrun'];refine hK K _ _ _ hin (hs.put hp (.tup _ [e.key, e.val] rfl fun j d hj => ?_)) hk
    match j, hj with
    | 0, hj =>
     simp at hj;subst hj;show Rep K (.u (zgk p.1)) e.key;rw [g2];cases p.1 with
     | s l => exact .u _ _ (.str l)
     | i k n => exact .u _ _ (.int k n)
    | 1, hj =>
     simp at hj;subst hj;show Rep K (.u u) e.val;unfold MV at g3;unfold zgh at hu;cases ag with
     | true =>
      rw [if_pos rfl] at g3 hu;cases hu;obtain ⟨vs, e5, e6, e7⟩ := g3;rw [e5];refine .u _ _ (.agg _ vs (by simpa using e6) fun j u hj => ?_);have := (e7 j (.u u) (by simp [hj])).2;cases this with | u _ _ this => exact this
     | false =>
      rw [if_neg (by simp)] at g3 hu;obtain ⟨d, e5, e6⟩ := g3;split at hu
      ·rename_i u0 hc;cases hu;rw [hc] at e5;simp only [zzC, zzD, List.cons.injEq, and_true] at e5;subst e5;have := e6.2;cases this with | u _ _ this => exact .u _ _ this
      ·cases hu
   ·exact h.elim
  ·exact h.elim
 ·exact h.elim
end Go.VL
