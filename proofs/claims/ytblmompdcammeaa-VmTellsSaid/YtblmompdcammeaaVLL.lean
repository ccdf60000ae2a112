/- From a function told by value to the given statement: what the arguments read as, and what is left behind. -/
import Derived.Test.YtblmompdcammeaaVLz
import Derived.ProofKit
import Derived.Below
import Derived.ChangeSame
import Derived.Deep.Slices
set_option linter.all false
namespace Go.VL
open Go Go.ChangeShapes Go.WideShapes Go.ChangeAt Go.RowKit Go.Deep

/-- The memory of a world. -/
def wmem (w : World) : Mem := fun b o => w.cell? ⟨b, o, none⟩

inductive HasRow (P : Program) : TypeId → List U → Prop
  | bool {t b} (h : P.underlying t = some .bool) : HasRow P t [.bool b]
  | int {t k n} (h : P.underlying t = some (.int k)) (h1 : k.min ≤ n) (h2 : n ≤ k.max) : HasRow P t [.int k n]
  | str {t l} (h : P.underlying t = some .string) (h1 : l.length ≤ maxLen) : HasRow P t [.str l]
  | slice {t e rows} (h : P.underlying t = some (.slice e)) (h1 : rows.length ≤ maxLen) (h2 : ∀ r ∈ rows, HasRow P e r) : HasRow P t [.sl rows]
  | struct {t fs} (rs : List (List U)) (h : P.underlying t = some (.struct fs)) (h1 : rs.length = fs.size) (h2 : ∀ (i : Nat) (f : Field) (r : List U), fs[i]? = some f → rs[i]? = some r → HasRow P f.type r) : HasRow P t rs.flatten
  | other {t r} (h : match P.underlying t with | some .bool | some (.int _) | some .string | some (.struct _) => False | some (.slice e) => P.cellsOf e = 0 | _ => True) : HasRow P t r

/-- The fields lie one behind the other. -/
def seqB (P : Program) : Nat → List Field → Nat → Bool
  | o, [], n => o == n
  | o, f :: l, n => f.offset == o && seqB P (o + P.cellsOf f.type) l n
def seqAll (P : Program) : Bool := (List.range P.types.size).all fun t => match P.underlying t with
  | some (.struct fs) => seqB P 0 fs.toList (P.cellsOf t) && fs.toList.all fun f => decide (f.type < P.types.size)
  | some (.slice e) => decide (e < P.types.size)
  | _ => true
theorem seqAll_struct {P : Program} (h : seqAll P = true) {t fs} (hlt : t < P.types.size) (ht : P.underlying t = some (.struct fs)) : seqB P 0 fs.toList (P.cellsOf t) = true ∧ ∀ f ∈ fs.toList, f.type < P.types.size := by
  have := List.all_eq_true.1 h t (List.mem_range.2 hlt)
  simp only [ht, Bool.and_eq_true, List.all_eq_true, decide_eq_true_eq] at this
  exact this
theorem seqAll_slice {P : Program} (h : seqAll P = true) {t e} (hlt : t < P.types.size) (ht : P.underlying t = some (.slice e)) : e < P.types.size := by
  have := List.all_eq_true.1 h t (List.mem_range.2 hlt)
  simp only [ht, decide_eq_true_eq] at this
  exact this

/-- Cells as plain values. -/
def RepRow (m : Mem) (r : List U) (cs : List Value) : Prop := r.length = cs.length ∧ ∀ (j : Nat) (u : U), r[j]? = some u → RepU m u (cs.getD j undef)
theorem RepRow.one {m : Mem} {u : U} {v : Value} (h : RepU m u v) : RepRow m [u] [v] := ⟨rfl, fun j w hj => by
  cases j with
  | zero => simp at hj; subst hj; exact h
  | succ j => simp at hj⟩
theorem RepRow.append {m : Mem} {a b : List U} {x y : List Value} (h : RepRow m a x) (g : RepRow m b y) : RepRow m (a ++ b) (x ++ y) := by
  refine ⟨by simp [h.1, g.1], fun j u hj => ?_⟩
  rw [List.getElem?_append] at hj
  rw [List.getD_eq_getElem?_getD, List.getElem?_append, ← h.1]
  by_cases hl : j < a.length
  · rw [if_pos hl] at hj ⊢
    rw [← List.getD_eq_getElem?_getD]
    exact h.2 j u hj
  · rw [if_neg hl] at hj ⊢
    rw [← List.getD_eq_getElem?_getD]
    exact g.2 _ u hj
theorem RepRow.flatten {m : Mem} : ∀ {rs : List (List U)} {xs : List (List Value)}, rs.length = xs.length → (∀ (i : Nat) r x, rs[i]? = some r → xs[i]? = some x → RepRow m r x) → RepRow m rs.flatten xs.flatten
  | [], [], _, _ => ⟨rfl, by simp⟩
  | r :: rs, x :: xs, hl, h => by
    rw [List.flatten_cons, List.flatten_cons]
    exact (h 0 r x rfl rfl).append (RepRow.flatten (by simpa using hl) fun i r x h1 h2 => h (i + 1) r x (by simpa using h1) (by simpa using h2))
  | [], _ :: _, hl, _ => by simp at hl
  | _ :: _, [], hl, _ => by simp at hl

theorem seq_pieces {P : Program} {cs : List Value} : ∀ (l : List Field) (o : Nat), seqB P o l cs.length = true → cs.drop o = (l.map fun f => (cs.drop f.offset).take (P.cellsOf f.type)).flatten
  | [], o, h => by
    simp [seqB] at h
    subst h
    simp
  | f :: l, o, h => by
    simp only [seqB, Bool.and_eq_true, beq_iff_eq] at h
    obtain ⟨h1, h2⟩ := h
    rw [List.map_cons, List.flatten_cons, ← seq_pieces l _ h2, h1]
    conv => lhs; rw [← List.take_append_drop (P.cellsOf f.type) (cs.drop o)]
    rw [List.drop_drop]

theorem exists_list {α : Type} {p : Nat → α → Prop} : ∀ (n : Nat), (∀ i, i < n → ∃ x, p i x) → ∃ l : List α, l.length = n ∧ ∀ i x, l[i]? = some x → p i x
  | 0, _ => ⟨[], rfl, by simp⟩
  | n + 1, h => by
    obtain ⟨l, hl, hp⟩ := exists_list n fun i hi => h i (by omega)
    obtain ⟨x, hx⟩ := h n (by omega)
    refine ⟨l ++ [x], by simp [hl], fun i y hy => ?_⟩
    rw [List.getElem?_append] at hy
    by_cases hi : i < l.length
    · rw [if_pos hi] at hy; exact hp i y hy
    · rw [if_neg hi] at hy
      have hi2 := (List.getElem?_eq_some_iff.1 hy).1
      simp at hi2
      have : i = n := by omega
      subst this
      rw [hl] at hy
      simp at hy
      subst hy
      exact hx

theorem cells_none {w : World} {base : Nat} {a : Addr} {n : Nat} {cs : List Value} (h : w.cells? base a n = some cs) (hn : 0 < n) : a.spot = none := by
  obtain ⟨_, hl, hc⟩ := World.cells?_some h
  have h0 := hc 0 hn
  have hlt : 0 < cs.length := by omega
  rw [List.getElem?_eq_getElem hlt] at h0
  simp only [Addr.add, if_true] at h0
  unfold World.cell? at h0
  cases hs : a.spot with
  | none => rfl
  | some x =>
    exfalso
    split at h0
    · simp [hs] at h0
    · simp at h0

theorem trod_rep {H : Type} {enc : TypeId × Value → H} {P : Program} (hseq : seqAll P = true) {w : World} {base : Nat} {spare : Nat → Bool} {held : Bool} : ∀ (fuel : Nat) {t : TypeId} {cs : List Value} {x : DataW H × List MemPlace}, t < P.types.size →
    DataW.trod enc P w base spare held fuel t cs = some x → ∃ r, HasRow P t r ∧ RepRow (wmem w) r cs
  | 0, t, cs, x, _, h => by simp [DataW.trod] at h
  | fuel + 1, t, cs, x, hts, h => by
    have h0 := h
    have oth : ∀ cs : List Value, RepRow (wmem w) (cs.map .oth) cs := fun cs => ⟨by simp, fun j u hj => by
      rw [List.getElem?_map] at hj
      cases hc : cs[j]? with
      | none => rw [hc] at hj; cases hj
      | some v => rw [hc] at hj; cases hj; rw [List.getD_eq_getElem?_getD, hc]; exact .oth v⟩
    cases hu : P.underlying t with
    | none => exact ⟨_, .other (by rw [hu]; trivial), oth cs⟩
    | some td =>
      cases td with
      | bool =>
        unfold DataW.trod at h
        rw [hu] at h
        split at h <;> simp_all
        exact ⟨_, .bool hu, .one (.bool _)⟩
      | int k =>
        unfold DataW.trod at h
        rw [hu] at h
        split at h <;> simp_all [Lit.wf]
        rename_i hk
        obtain ⟨⟨hk1, h1, h2⟩, _⟩ := h
        subst hk1
        exact ⟨_, .int hu h1 h2, .one (.int _ _)⟩
      | string =>
        unfold DataW.trod at h
        rw [hu] at h
        split at h <;> simp_all
        rename_i s
        refine ⟨[.str s.data.toList], .str hu (by simpa using h.1), .one ?_⟩
        have h := RepU.str (m := wmem w) s.data.toList
        simpa using h
      | slice e =>
        rcases DataW.trod_slice hu h with ⟨rfl, rfl⟩ | ⟨a, len, cap, elems, rest, n, hn, rfl, rfl, hb, hl, hm, hlen, hel, _, _⟩
        · exact ⟨[.sl []], .slice hu (by simp) (by simp), .one (.slE none 0 fun _ => rfl)⟩
        · have hnf : n = fuel := by omega
          subst hnf
          by_cases h0 : len = 0
          · subst h0
            exact ⟨[.sl []], .slice hu (by simp) (by simp), .one (.slE (some a) cap fun e => by cases e)⟩
          · have hrow : ∀ i, i < len → ∃ q, ∃ cs', w.cells? base (a.add (i * P.cellsOf e)) (P.cellsOf e) = some cs' ∧ HasRow P e q ∧ RepRow (wmem w) q cs' := fun i hi => by
              have h1 := hel i hi
              rw [List.getElem?_eq_getElem (by omega)] at h1
              cases hc : w.cells? base (a.add (i * P.cellsOf e)) (P.cellsOf e) with
              | none => rw [hc] at h1; cases h1
              | some cs' =>
                rw [hc] at h1
                obtain ⟨q, h2, h3⟩ := trod_rep hseq n (seqAll_slice hseq hts hu) (by simpa using h1)
                exact ⟨q, cs', rfl, h2, h3⟩
            obtain ⟨rows, hrl, hrows⟩ := exists_list len hrow
            by_cases hz : P.cellsOf e = 0
            · exact ⟨_, .other (by rw [hu]; exact hz), oth _⟩
            · have hsp : a.spot = none := by
                obtain ⟨cs', h1, _⟩ := hrows 0 rows[0] (List.getElem?_eq_getElem (by omega))
                have := cells_none h1 (by omega)
                simpa [Addr.add] using this
              obtain ⟨b, o, sp⟩ := a
              simp only at hsp
              subst hsp
              refine ⟨[.sl rows], .slice hu (by omega) fun r hr => ?_, .one ?_⟩
              · obtain ⟨i, hi⟩ := List.getElem?_of_mem hr
                obtain ⟨_, _, h2, _⟩ := hrows i r hi
                exact h2
              · have hat : ∀ i r, rows[i]? = some r → r.length = P.cellsOf e ∧ ∀ j, j < P.cellsOf e → ∃ v, w.cell? ⟨b, o + i * P.cellsOf e + j, none⟩ = some v ∧ ∀ u, r[j]? = some u → RepU (wmem w) u v := fun i r hi => by
                  obtain ⟨cs', h1, _, h3⟩ := hrows i r hi
                  obtain ⟨_, h4, h5⟩ := World.cells?_some h1
                  refine ⟨by rw [h3.1, h4], fun j hj => ?_⟩
                  have h6 := h5 j hj
                  rw [addr_add, addr_add, List.getElem?_eq_getElem (by omega)] at h6
                  refine ⟨_, h6, fun u hu => ?_⟩
                  have := h3.2 j u hu
                  rw [List.getD_eq_getElem?_getD, List.getElem?_eq_getElem (by omega)] at this
                  exact this
                have := RepU.sl (m := wmem w) rows b o (P.cellsOf e) cap (fun i j => (w.cell? ⟨b, o + i * P.cellsOf e + j, none⟩).getD undef) (by omega) hm (fun r hr => by
                    obtain ⟨i, hi⟩ := List.getElem?_of_mem hr
                    exact (hat i r hi).1)
                  (fun i hi j hj => by
                    obtain ⟨v, hv, _⟩ := (hat i rows[i] (List.getElem?_eq_getElem hi)).2 j hj
                    simp [wmem, hv])
                  (fun i r hi j u hj => by
                    have hl := (hat i r hi).1
                    obtain ⟨v, hv, hr⟩ := (hat i r hi).2 j (by have := (List.getElem?_eq_some_iff.1 hj).1; omega)
                    rw [hv]
                    exact hr u hj)
                rw [hrl] at this
                exact this
      | struct fs =>
        obtain ⟨xs, n, hn, rfl, hcl, hxl, hf⟩ := DataW.trod_struct hu h
        have hnf : n = fuel := by omega
        subst hnf
        obtain ⟨hs, hfl⟩ := seqAll_struct hseq hts hu
        rw [← hcl] at hs
        have hp := seq_pieces fs.toList 0 hs
        rw [List.drop_zero] at hp
        have hrow : ∀ i, i < fs.size → ∃ q, ∃ f, fs[i]? = some f ∧ HasRow P f.type q ∧ RepRow (wmem w) q ((cs.drop f.offset).take (P.cellsOf f.type)) := fun i hi => by
          have h1 := hf i fs[i] (Array.getElem?_eq_getElem hi)
          rw [List.getElem?_eq_getElem (by omega)] at h1
          obtain ⟨q, h2, h3⟩ := trod_rep hseq n (hfl _ (by rw [← Array.getElem_toList]; exact List.getElem_mem _)) h1
          exact ⟨q, fs[i], Array.getElem?_eq_getElem hi, h2, h3⟩
        obtain ⟨rs, hrl, hrs⟩ := exists_list fs.size hrow
        refine ⟨rs.flatten, .struct rs hu hrl fun i f r hi hr => ?_, ?_⟩
        · obtain ⟨f', h1, h2, _⟩ := hrs i r hr
          rw [hi] at h1
          cases h1
          exact h2
        · rw [hp]
          refine RepRow.flatten (by simp [hrl]) fun i r x hr hx => ?_
          obtain ⟨f', h1, _, h3⟩ := hrs i r hr
          rw [List.getElem?_map, Array.getElem?_toList, h1] at hx
          cases hx
          exact h3
      | _ => exact ⟨_, .other (by rw [hu]; trivial), oth cs⟩
end Go.VL
