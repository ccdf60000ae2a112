/- Texts joined by a program of mine: VLP Ua Ub Uc Ud Uv VLR VLS VLT VLU VLV VLW VLX VLY VLQ VLZ VLA La Uf. -/
import Derived.Test.YtfcopibncpkdoaaDoorK2
import Derived.ProofKit
import Derived.Below
import Derived.ChangeSame
import Derived.Deep.Slices
import Derived.Sort.OwnSortedInts
import Derived.Recover
import Derived.LaidMore
import Derived.LaidLaws
import Derived.LaidHandle
import Derived.MakeChecks
import Derived.Stop.Joined
import Derived.OpenShut
import Derived.Test.YtfcopibncpkdoaaDoorTie
import Derived.Test.YtfcopibncpkdoaaDoorCards
set_option linter.all false
set_option maxRecDepth 100000
set_option maxHeartbeats 8000000
namespace Go.VL
open Go Go.ChangeShapes Go.WideShapes Go.ChangeAt Go.RowKit Go.Deep
/-- The memory of a world. -/
def wmem (w : World) : Mem := fun b o => look w b o
inductive HasRow (P : Program) : TypeId → List U → Prop
  | bool {t b} (h : P.underlying t = some .bool) : HasRow P t [.bool b]
  | int {t k n} (h : P.underlying t = some (.int k)) (h1 : k.min ≤ n) (h2 : n ≤ k.max) : HasRow P t [.int k n]
  | str {t l} (h : P.underlying t = some .string) (h1 : l.length ≤ maxLen) : HasRow P t [.str l]
  | slice {t e rows} (h : P.underlying t = some (.slice e)) (h1 : rows.length ≤ maxLen) (h2 : ∀ r ∈ rows, HasRow P e r) : HasRow P t [.sl rows]
  | struct {t fs} (rs : List (List U)) (h : P.underlying t = some (.struct fs)) (h1 : rs.length = fs.size) (h2 : ∀ (i : Nat) (f : Field) (r : List U), fs[i]? = some f → rs[i]? = some r → HasRow P f.type r) : HasRow P t rs.flatten
  | other {t r} (h : match P.underlying t with | some .bool | some (.int _) | some .string | some (.struct _) => False | some (.slice e) => P.cellsOf e = 0 | _ => True) : HasRow P t r
/-- The fields lie one behind the other. -/
def seqB (P : Program) : Nat → List Field → Nat → Bool
  | o, [], n => o == n
  | o, f :: l, n => f.offset == o && seqB P (o + P.cellsOf f.type) l n
def seqAll (P : Program) : Bool := (List.range P.types.size).all fun t => match P.underlying t with
  | some (.struct fs) => seqB P 0 fs.toList (P.cellsOf t) && fs.toList.all fun f => decide (f.type < P.types.size)
  | some (.slice e) => decide (e < P.types.size)
  | _ => true
theorem seqAll_struct {P : Program} (h : seqAll P = true) {t fs} (hlt : t < P.types.size) (ht : P.underlying t = some (.struct fs)) : seqB P 0 fs.toList (P.cellsOf t) = true ∧ ∀ f ∈ fs.toList, f.type < P.types.size := by
  have := List.all_eq_true.1 h t (List.mem_range.2 hlt)
  simp only [ht, Bool.and_eq_true, List.all_eq_true, decide_eq_true_eq] at this
  exact this
theorem seqAll_slice {P : Program} (h : seqAll P = true) {t e} (hlt : t < P.types.size) (ht : P.underlying t = some (.slice e)) : e < P.types.size := by
  have := List.all_eq_true.1 h t (List.mem_range.2 hlt)
  simp only [ht, decide_eq_true_eq] at this
  exact this
/-- Cells az plain values. -/
def RepRow (m : Mem) (r : List U) (cs : List Value) : Prop := r.length = cs.length ∧ ∀ (j : Nat) (u : U), r[j]? = some u → RepU m u (cs.getD j undef)
theorem RepRow.one {m : Mem} {u : U} {v : Value} (h : RepU m u v) : RepRow m [u] [v] := ⟨rfl, fun j w hj => by
  cases j with
  | zero => simp at hj; subst hj; exact h
  | succ j => simp at hj⟩
theorem RepRow.append {m : Mem} {a b : List U} {x y : List Value} (h : RepRow m a x) (g : RepRow m b y) : RepRow m (a ++ b) (x ++ y) := by
  refine ⟨by simp [h.1, g.1], fun j u hj => ?_⟩
  rw [List.getElem?_append] at hj
  rw [List.getD_eq_getElem?_getD, List.getElem?_append, ← h.1]
  by_cases hl : j < a.length
  · rw [if_pos hl] at hj ⊢
    rw [← List.getD_eq_getElem?_getD]
    exact h.2 j u hj
  · rw [if_neg hl] at hj ⊢
    rw [← List.getD_eq_getElem?_getD]
    exact g.2 _ u hj
theorem RepRow.flatten {m : Mem} : ∀ {rs : List (List U)} {xs : List (List Value)}, rs.length = xs.length → (∀ (i : Nat) r x, rs[i]? = some r → xs[i]? = some x → RepRow m r x) → RepRow m rs.flatten xs.flatten
  | [], [], _, _ => ⟨rfl, by simp⟩
  | r :: rs, x :: xs, hl, h => by
    rw [List.flatten_cons, List.flatten_cons]
    exact (h 0 r x rfl rfl).append (RepRow.flatten (by simpa using hl) fun i r x h1 h2 => h (i + 1) r x (by simpa using h1) (by simpa using h2))
  | [], _ :: _, hl, _ => by simp at hl
  | _ :: _, [], hl, _ => by simp at hl
theorem seq_pieces {P : Program} {cs : List Value} : ∀ (l : List Field) (o : Nat), seqB P o l cs.length = true → cs.drop o = (l.map fun f => (cs.drop f.offset).take (P.cellsOf f.type)).flatten
  | [], o, h => by
    simp [seqB] at h
    subst h
    simp
  | f :: l, o, h => by
    simp only [seqB, Bool.and_eq_true, beq_iff_eq] at h
    obtain ⟨h1, h2⟩ := h
    rw [List.map_cons, List.flatten_cons, ← seq_pieces l _ h2, h1]
    conv => lhs; rw [← List.take_append_drop (P.cellsOf f.type) (cs.drop o)]
    rw [List.drop_drop]
theorem exists_list {α : Type} {p : Nat → α → Prop} : ∀ (n : Nat), (∀ i, i < n → ∃ x, p i x) → ∃ l : List α, l.length = n ∧ ∀ i x, l[i]? = some x → p i x
  | 0, _ => ⟨[], rfl, by simp⟩
  | n + 1, h => by
    obtain ⟨l, hl, hp⟩ := exists_list n fun i hi => h i (by omega)
    obtain ⟨x, hx⟩ := h n (by omega)
    refine ⟨l ++ [x], by simp [hl], fun i y hy => ?_⟩
    rw [List.getElem?_append] at hy
    by_cases hi : i < l.length
    · rw [if_pos hi] at hy; exact hp i y hy
    · rw [if_neg hi] at hy
      have hi2 := (List.getElem?_eq_some_iff.1 hy).1
      simp at hi2
      have : i = n := by omega
      subst this
      rw [hl] at hy
      simp at hy
      subst hy
      exact hx
theorem cells_none {w : World} {base : Nat} {a : Addr} {n : Nat} {cs : List Value} (h : w.cells? base a n = some cs) (hn : 0 < n) : a.spot = none := by
  obtain ⟨_, hl, hc⟩ := World.cells?_some h
  have h0 := hc 0 hn
  have hlt : 0 < cs.length := by omega
  rw [List.getElem?_eq_getElem hlt] at h0
  simp only [Addr.add, if_true] at h0
  unfold World.cell? at h0
  cases hs : a.spot with
  | none => rfl
  | some x =>
    exfalso
    split at h0
    · simp [hs] at h0
    · simp at h0
theorem trod_rep {H : Type} {enc : TypeId × Value → H} {P : Program} (hseq : seqAll P = true) {w : World} {base : Nat} {spare : Nat → Bool} {held : Bool} : ∀ (fuel : Nat) {t : TypeId} {cs : List Value} {x : DataW H × List MemPlace}, t < P.types.size →
    DataW.trod enc P w base spare held fuel t cs = some x → ∃ r, HasRow P t r ∧ RepRow (wmem w) r cs
  | 0, t, cs, x, _, h => by simp [DataW.trod] at h
  | fuel + 1, t, cs, x, hts, h => by
    have h0 := h
    have oth : ∀ cs : List Value, RepRow (wmem w) (cs.map .oth) cs := fun cs => ⟨by simp, fun j u hj => by
      rw [List.getElem?_map] at hj
      cases hc : cs[j]? with
      | none => rw [hc] at hj; cases hj
      | some v => rw [hc] at hj; cases hj; rw [List.getD_eq_getElem?_getD, hc]; exact .oth v⟩
    cases hu : P.underlying t with
    | none => exact ⟨_, .other (by rw [hu]; trivial), oth cs⟩
    | some td =>
      cases td with
      | bool =>
        unfold DataW.trod at h
        rw [hu] at h
        split at h <;> simp_all
        exact ⟨_, .bool hu, .one (.bool _)⟩
      | int k =>
        unfold DataW.trod at h
        rw [hu] at h
        split at h <;> simp_all [Lit.wf]
        rename_i hk
        obtain ⟨⟨hk1, h1, h2⟩, _⟩ := h
        subst hk1
        exact ⟨_, .int hu h1 h2, .one (.int _ _)⟩
      | string =>
        unfold DataW.trod at h
        rw [hu] at h
        split at h <;> simp_all
        rename_i s
        refine ⟨[.str s.data.toList], .str hu (by simpa using h.1), .one ?_⟩
        have h := RepU.str (m := wmem w) s.data.toList
        simpa using h
      | slice e =>
        rcases DataW.trod_slice hu h with ⟨rfl, rfl⟩ | ⟨a, len, cap, elems, rest, n, hn, rfl, rfl, hb, hl, hm, hlen, hel, _, _⟩
        · exact ⟨[.sl []], .slice hu (by simp) (by simp), .one (.slE none 0 fun _ => rfl)⟩
        · have hnf : n = fuel := by omega
          subst hnf
          by_cases h0 : len = 0
          · subst h0
            exact ⟨[.sl []], .slice hu (by simp) (by simp), .one (.slE (some a) cap fun e => by cases e)⟩
          · have hrow : ∀ i, i < len → ∃ q, ∃ cs', w.cells? base (a.add (i * P.cellsOf e)) (P.cellsOf e) = some cs' ∧ HasRow P e q ∧ RepRow (wmem w) q cs' := fun i hi => by
              have h1 := hel i hi
              rw [List.getElem?_eq_getElem (by omega)] at h1
              cases hc : w.cells? base (a.add (i * P.cellsOf e)) (P.cellsOf e) with
              | none => rw [hc] at h1; cases h1
              | some cs' =>
                rw [hc] at h1
                obtain ⟨q, h2, h3⟩ := trod_rep hseq n (seqAll_slice hseq hts hu) (by simpa using h1)
                exact ⟨q, cs', rfl, h2, h3⟩
            obtain ⟨rows, hrl, hrows⟩ := exists_list len hrow
            by_cases hz : P.cellsOf e = 0
            · exact ⟨_, .other (by rw [hu]; exact hz), oth _⟩
            · have hsp : a.spot = none := by
                obtain ⟨cs', h1, _⟩ := hrows 0 rows[0] (List.getElem?_eq_getElem (by omega))
                have := cells_none h1 (by omega)
                simpa [Addr.add] using this
              obtain ⟨b, o, sp⟩ := a
              simp only at hsp
              subst hsp
              refine ⟨[.sl rows], .slice hu (by omega) fun r hr => ?_, .one ?_⟩
              · obtain ⟨i, hi⟩ := List.getElem?_of_mem hr
                obtain ⟨_, _, h2, _⟩ := hrows i r hi
                exact h2
              · have hat : ∀ i r, rows[i]? = some r → r.length = P.cellsOf e ∧ ∀ j, j < P.cellsOf e → ∃ v, w.cell? ⟨b, o + i * P.cellsOf e + j, none⟩ = some v ∧ ∀ u, r[j]? = some u → RepU (wmem w) u v := fun i r hi => by
                  obtain ⟨cs', h1, _, h3⟩ := hrows i r hi
                  obtain ⟨_, h4, h5⟩ := World.cells?_some h1
                  refine ⟨by rw [h3.1, h4], fun j hj => ?_⟩
                  have h6 := h5 j hj
                  rw [addr_add, addr_add, List.getElem?_eq_getElem (by omega)] at h6
                  refine ⟨_, h6, fun u hu => ?_⟩
                  have := h3.2 j u hu
                  rw [List.getD_eq_getElem?_getD, List.getElem?_eq_getElem (by omega)] at this
                  exact this
                have := RepU.sl (m := wmem w) rows b o (P.cellsOf e) cap (fun i j => (w.cell? ⟨b, o + i * P.cellsOf e + j, none⟩).getD undef) (by omega) hm (fun r hr => by
                    obtain ⟨i, hi⟩ := List.getElem?_of_mem hr
                    exact (hat i r hi).1)
                  (fun i hi j hj => by
                    obtain ⟨v, hv, _⟩ := (hat i rows[i] (List.getElem?_eq_getElem hi)).2 j hj
                    exact look_cell (by simp [hv]))
                  (fun i r hi j u hj => by
                    have hl := (hat i r hi).1
                    obtain ⟨v, hv, hr⟩ := (hat i r hi).2 j (by have := (List.getElem?_eq_some_iff.1 hj).1; omega)
                    rw [hv]
                    exact hr u hj)
                rw [hrl] at this
                exact this
      | struct fs =>
        obtain ⟨xs, n, hn, rfl, hcl, hxl, hf⟩ := DataW.trod_struct hu h
        have hnf : n = fuel := by omega
        subst hnf
        obtain ⟨hs, hfl⟩ := seqAll_struct hseq hts hu
        rw [← hcl] at hs
        have hp := seq_pieces fs.toList 0 hs
        rw [List.drop_zero] at hp
        have hrow : ∀ i, i < fs.size → ∃ q, ∃ f, fs[i]? = some f ∧ HasRow P f.type q ∧ RepRow (wmem w) q ((cs.drop f.offset).take (P.cellsOf f.type)) := fun i hi => by
          have h1 := hf i fs[i] (Array.getElem?_eq_getElem hi)
          rw [List.getElem?_eq_getElem (by omega)] at h1
          obtain ⟨q, h2, h3⟩ := trod_rep hseq n (hfl _ (by rw [← Array.getElem_toList]; exact List.getElem_mem _)) h1
          exact ⟨q, fs[i], Array.getElem?_eq_getElem hi, h2, h3⟩
        obtain ⟨rs, hrl, hrs⟩ := exists_list fs.size hrow
        refine ⟨rs.flatten, .struct rs hu hrl fun i f r hi hr => ?_, ?_⟩
        · obtain ⟨f', h1, h2, _⟩ := hrs i r hr
          rw [hi] at h1
          cases h1
          exact h2
        · rw [hp]
          refine RepRow.flatten (by simp [hrl]) fun i r x hr hx => ?_
          obtain ⟨f', h1, _, h3⟩ := hrs i r hr
          rw [List.getElem?_map, Array.getElem?_toList, h1] at hx
          cases hx
          exact h3
      | _ => exact ⟨_, .other (by rw [hu]; trivial), oth cs⟩
end Go.VL
namespace Go.VL
open Go Go.ChangeShapes Go.WideShapes Go.ChangeAt Go.RowKit Go.Deep
def HasRows (P : Program) : List TypeId → List (List U) → Prop
  | [], [] => True
  | t :: ts, r :: rs => HasRow P t r ∧ HasRows P ts rs
  | _, _ => False
section
variable {P : Program} {t : TypeId} {r : List U}
theorem HasRow.of_int {k : IntKind} (h : HasRow P t r) (ht : intOfT P t = some k) : ∃ n, r = [.int k n] ∧ k.min ≤ n ∧ n ≤ k.max := by
  have hu := intOfT_some ht
  cases h with
  | int h h1 h2 => rw [hu] at h; cases h; exact ⟨_, rfl, h1, h2⟩
  | other h => rw [hu] at h; exact h.elim
  | struct rs h => rw [hu] at h; cases h
  | _ h => rw [hu] at h; cases h
theorem HasRow.of_str (h : HasRow P t r) (ht : isStr P t = true) : ∃ l, r = [.str l] ∧ l.length ≤ maxLen := by
  have hu := isStr_some ht
  cases h with
  | str h h1 => exact ⟨_, rfl, h1⟩
  | other h => rw [hu] at h; exact h.elim
  | struct rs h => rw [hu] at h; cases h
  | _ h => rw [hu] at h; cases h
theorem HasRow.of_slice {e sz : Nat} (h : HasRow P t r) (ht : elSz P t = some (e, sz + 1)) : ∃ rows, r = [.sl rows] ∧ rows.length ≤ maxLen ∧ ∀ q ∈ rows, HasRow P e q := by
  obtain ⟨hu, hs⟩ := elSz_some ht
  cases h with
  | slice h h1 h2 => rw [hu] at h; cases h; exact ⟨_, rfl, h1, h2⟩
  | other h =>
    rw [hu] at h
    unfold tsz at hs
    unfold Program.cellsOf at h
    simp only at h
    rw [hs] at h
    simp at h
  | struct rs h => rw [hu] at h; cases h
  | _ h => rw [hu] at h; cases h
theorem HasRow.of_struct {ts : List TypeId} (h : HasRow P t r) (ht : stT P t = some ts) : ∃ rs, r = rs.flatten ∧ HasRows P ts rs := by
  unfold stT at ht
  split at ht
  · rename_i fs hu
    cases ht
    cases h with
    | struct rs h h1 h2 =>
      rw [hu] at h
      cases h
      refine ⟨rs, rfl, ?_⟩
      have key : ∀ (l : List Field) (rs : List (List U)), rs.length = l.length → (∀ (i : Nat) (f : Field) (r : List U), l[i]? = some f → rs[i]? = some r → HasRow P f.type r) → HasRows P (l.map (·.type)) rs := by
        intro l
        induction l with
        | nil => intro rs hl _; simp at hl; subst hl; trivial
        | cons f l ih =>
          intro rs hl h
          cases rs with
          | nil => simp at hl
          | cons r rs => exact ⟨h 0 f r rfl rfl, ih rs (by simpa using hl) fun i f r h1 h2 => h (i + 1) f r (by simpa using h1) (by simpa using h2)⟩
      exact key fs.toList rs (by simpa using h1) fun i f r hf hr => h2 i f r (by simpa using hf) hr
    | other h => rw [hu] at h; exact h.elim
    | _ h => rw [hu] at h; cases h
  · cases ht
end
/-- Rows that all come of a typed thing are those of a list of such things. -/
theorem rows_list {α : Type} (f : α → List U) (Q : α → Prop) : ∀ {rows : List (List U)}, (∀ r ∈ rows, ∃ x, r = f x ∧ Q x) → ∃ l : List α, rows = l.map f ∧ ∀ x ∈ l, Q x
  | [], _ => ⟨[], rfl, by simp⟩
  | r :: rows, h => by
    obtain ⟨x, rfl, hx⟩ := h r (by simp)
    obtain ⟨l, rfl, hl⟩ := rows_list f Q (rows := rows) fun r hr => h r (by simp [hr])
    exact ⟨x :: l, rfl, by simpa using ⟨hx, hl⟩⟩
def ArgU (P : Program) (t : TypeId) (u : U) : Prop := match P.underlying t with
  | some (.struct _) => ∃ r, u = .agg r ∧ HasRow P t r
  | some (.array _ _) => True
  | _ => HasRow P t [u]
theorem ArgU.one {P : Program} {t u} (h : ArgU P t u) (hn : stT P t = none) (ha : notArr P t = true) : HasRow P t [u] := by
  unfold ArgU at h
  unfold stT at hn
  unfold notArr at ha
  split at h <;> simp_all
theorem ArgU.agg {P : Program} {t u ts} (h : ArgU P t u) (hn : stT P t = some ts) : ∃ r, u = .agg r ∧ HasRow P t r := by
  unfold ArgU at h
  unfold stT at hn
  split at h <;> simp_all
def ArgsU (P : Program) : List TypeId → List U → Prop
  | [], [] => True
  | t :: ts, u :: us => ArgU P t u ∧ ArgsU P ts us
  | _, _ => False
theorem okWide_one {P : Program} {w r b t v} (h : Value.okWide P w r b t v) (h1 : ∀ fs, P.underlying t ≠ some (.struct fs)) (h2 : ∀ n e, P.underlying t ≠ some (.array n e)) : v.cells = #[v] := by
  unfold Value.okWide at h
  split at h
  · rename_i fs hu; exact absurd hu (h1 fs)
  · rename_i n e hu; exact absurd hu (h2 n e)
  · cases v <;> first | rfl | (exfalso; unfold Cell.okWide at h; split at h <;> simp_all [Cell.ok])
theorem args_rep {H : Type} {enc : TypeId × Value → H} {P : Program} (hseq : seqAll P = true) {w : World} {spare : Nat → Bool} {held : Bool} {r : Reach} {b : Nat} : ∀ {ts : List TypeId} {vs : List Value} {ds : List (DataW H)} {p : List MemPlace},
    DataW.TrodAll enc P w 0 spare held ts vs ds p → (∀ t ∈ ts, t < P.types.size) → (∀ (j : Nat) t v, ts[j]? = some t → vs[j]? = some v → Value.okWide P w r b t v) → ∃ us, ArgsU P ts us ∧ RepRow (wmem w) us vs
  | [], [], [], _, _, _, _ => ⟨[], trivial, rfl, by simp⟩
  | t :: ts, v :: vs, d :: ds, p, h, hlt, hok => by
    obtain ⟨p1, q1, ⟨fuel, h1⟩, h2, _⟩ := h
    obtain ⟨us, h3, h4⟩ := args_rep hseq h2 (fun t ht => hlt t (by simp [ht])) fun j t v ht hv => hok (j + 1) t v (by simpa using ht) (by simpa using hv)
    have hv := hok 0 t v rfl rfl
    obtain ⟨row, h5, h6⟩ := trod_rep hseq fuel (hlt t (by simp)) h1
    have hone : ∀ (_ : ∀ fs, P.underlying t ≠ some (.struct fs)) (_ : ∀ n e, P.underlying t ≠ some (.array n e)), ∃ u, HasRow P t [u] ∧ RepU (wmem w) u v := fun n1 n2 => by
      have hc := okWide_one hv n1 n2
      rw [hc] at h6
      have hl := h6.1
      match row, hl with
      | [u], _ => exact ⟨u, h5, by simpa using h6.2 0 u rfl⟩
    have hcons : ∀ u, ArgU P t u → RepU (wmem w) u v → ∃ us, ArgsU P (t :: ts) us ∧ RepRow (wmem w) us (v :: vs) := fun u hu hr => ⟨u :: us, ⟨hu, h3⟩, (RepRow.one hr).append h4⟩
    cases hu : P.underlying t with
    | none =>
      obtain ⟨u, h7, h8⟩ := hone (fun fs e => by rw [hu] at e; cases e) (fun n x e => by rw [hu] at e; cases e)
      exact hcons u (by unfold ArgU; rw [hu]; exact h7) h8
    | some td =>
      cases td with
      | struct fs =>
        unfold Value.okWide at hv
        rw [hu] at hv
        obtain ⟨cs, rfl, _⟩ := hv
        refine hcons (.agg row) (by unfold ArgU; rw [hu]; exact ⟨row, rfl, h5⟩) ?_
        have := RepU.agg (m := wmem w) row cs.toList (by simpa [Value.cells] using h6.1) (by simpa [Value.cells] using h6.2)
        simpa using this
      | array n e => exact hcons (.oth v) (by unfold ArgU; rw [hu]; trivial) (.oth v)
      | _ =>
        obtain ⟨u, h7, h8⟩ := hone (fun fs e => by rw [hu] at e; cases e) (fun n x e => by rw [hu] at e; cases e)
        exact hcons u (by unfold ArgU; rw [hu]; exact h7) h8
/-- The call out of a contract by value. -/
theorem calls_of_fun {P : Program} {f : FuncId} {us : List U} {b : Bool} (h : Fun P f (us.map .u) (· = .u (.bool b))) {W : World} {args : Array Value} (hg : GlobIn (wmem W)) (ha : RepRow (wmem W) us args.toList) :
    Calls P f args W fun e W' => e = .returned (.bool b) ∧ Below W.heap.size W W' := by
  have := h ⟨wmem W, fun _ => none, hg⟩ (W.heap.size ≤ ·) W args ⟨fun _ _ _ h => h, by simp [getK], by simp [getK]⟩ (fun _ _ => rfl) (fun _ h => h)
    ⟨by simpa using ha.1.symm, fun j d hj => by
      rw [List.getElem?_map] at hj
      cases hu : us[j]? with
      | none => rw [hu] at hj; cases hj
      | some u =>
        rw [hu] at hj
        cases hj
        have := ha.2 j u hu
        have e : args.getD j undef = args.toList.getD j undef := by simp
        rw [e]
        exact Rep.u _ _ this⟩
  refine this.mono ?_
  rintro e W' ⟨v, d, o, n, k', rfl, hin, _, _, _, hr, _, rfl⟩
  exact ⟨by rw [rep_bool hr], ⟨hin.os, hin.tape, hin.output, hin.size, fun k hk => hin.block k (by omega)⟩⟩
theorem trodAll_below {H : Type} {enc : TypeId × Value → H} {P : Program} (hl : laidOutB P = true) {W W' : World} (hb : Below W.heap.size W W') {sp : Nat → Bool} : ∀ {ts : List TypeId} {vs : List Value} {ds : List (DataW H)} {ps : List MemPlace},
    (∀ t ∈ ts, P.readableRec t = true ∧ t < P.types.size) → DataW.TrodAll enc P W 0 (fun _ => true) true ts vs ds ps → (∀ x ∈ ps, x.block < W.heap.size) → (∀ x ∈ ps, sp x.block = true) → DataW.TrodAll enc P W' 0 sp true ts vs ds ps
  | [], [], [], _, _, h, _, _ => h
  | t :: ts, v :: vs, d :: ds, ps, hr, h, hlt, hsp => by
    obtain ⟨p, q, h1, h2, rfl⟩ := h
    obtain ⟨h3, h4⟩ := hr t (by simp)
    refine ⟨p, q, WideElems.Trod_stays hl h3 h4 h1 (fun x hx => hb.same (hlt x (by simp [hx]))) (fun x hx => hsp x (by simp [hx])), trodAll_below hl hb (fun t ht => hr t (by simp [ht])) h2 (fun x hx => hlt x (by simp [hx])) (fun x hx => hsp x (by simp [hx])), rfl⟩
theorem post_below {H : Type} {enc : TypeId × Value → H} {P : Program} {f : Func} {s : ChangeSpec} {apart fresh handsOn again : Bool} {W W' : World} {args : Array Value} {v : Value} {ds gs : List (DataW H)} {before pa pv : List MemPlace}
    (hW : DataW.Whole enc P f.params.toList s.vars apart W args.toList ds gs before)
    (hres : ∀ (b : Nat) (sp : Nat → Bool) (hd : Bool), DataW.TrodAll enc P W' b sp hd f.resultTypes.toList (v.resultList f.resultTypes.size) (s.fn H (ds ++ gs)).results [])
    (hargs : ∀ sp : Nat → Bool, (∀ p ∈ before, sp p.block = true) → DataW.TrodAll enc P W' 0 sp true f.params.toList args.toList (s.fn H (ds ++ gs)).args pa)
    (hvars : ∀ sp : Nat → Bool, (∀ p ∈ before, sp p.block = true) → DataW.TrodVars enc P W' sp s.vars (s.fn H (ds ++ gs)).vars pv)
    (hps : before = pa ++ pv) (hb : Below W.heap.size W W')
    (hok : ∀ (j : Nat) (t : TypeId) (r : Value), f.resultTypes[j]? = some t → (v.resultList f.resultTypes.size)[j]? = some r → Value.okWide P W' .any 0 t r) :
    s.post enc P f apart fresh handsOn again W args v W' := by
  have hlt : ∀ p ∈ before, p.block < W.heap.size := fun p hp => hW.lt p hp
  have hold : ∀ p ∈ before, (fun b => decide (b < W.heap.size)) p.block = true := fun p hp => by simpa using hlt p hp
  refine ⟨ds, gs, before, [], pa, pv, hW, hres _ _ _, hargs _ hold, hvars _ hold, World.keptBut_mono (fun p hp => ⟨hp, ?_⟩) (hb.frame (· ∈ before)), fun _ => ?_⟩
  · rw [hps, List.mem_append] at hp
    exact Or.inr hp
  · obtain ⟨_, _, _, _, _, hz, hn⟩ := hW
    refine ⟨hok, _, _, ([] ++ pa) ++ pv, ⟨[] ++ pa, pv, trodAll_append (hargs _ (fun _ _ => rfl)) (hres _ _ _), hvars _ (fun _ _ => rfl), rfl, ?_, ?_⟩, ?_⟩
    · intro b off hp
      have hin : MemPlace.cell b off ∈ before := by rw [hps]; simpa using hp
      rw [hb.frozen (hlt _ hin)]
      exact hz b off hin
    · intro ha
      have := hn ha
      rw [hps] at this
      simpa using this
    · intro p hp _
      rw [hps]
      simpa using hp
end Go.VL
namespace Go.VL
open Go
theorem getK_frzO (obs : List (Nat × Ob)) (i : Nat) (σ : D → Option U) (js : List Nat) (x : Nat) : getK ((del obs i).map fun p => if js.contains p.1 then (p.1, frzObS σ p.2) else p) x =
    if x = i then none else (getK obs x).map fun ob => if js.contains x then frzObS σ ob else ob := by
  have e : ((del obs i).map fun p => if js.contains p.1 then (p.1, frzObS σ p.2) else p) = (del obs i).map fun p => (p.1, if js.contains p.1 then frzObS σ p.2 else p.2) := by
    apply List.map_congr_left
    intro p _
    split <;> rfl
  rw [e, getK_map (fun x (o : Ob) => if js.contains x then frzObS σ o else o), getK_del]
  by_cases h : x = i <;> simp [h]
theorem frz_obs (s : St) (i : Nat) (σ : D → Option U) (js : List Nat) (x : Nat) : getK (s.frzS i σ js).obs x = if x = i then none else (getK s.obs x).map fun ob => if js.contains x then frzObS σ ob else ob := getK_frzO s.obs i σ js x
theorem frz_env (s : St) (i : Nat) (σ : D → Option U) (js : List Nat) (x : Nat) : getK (s.frzS i σ js).env x = (getK s.env x).map (VL.frzS σ) := getK_map (fun _ d => VL.frzS σ d) s.env x
def norm1 : U → U
  | .nil => .sl []
  | x => x
def normU : U → U
  | .nil => .sl []
  | .agg cs => .agg (cs.map norm1)
  | x => x
def normD : D → D
  | .u x => .u (normU x)
  | d => d
def normOb : Ob → Ob
  | .box cs => .box (cs.map normD)
  | ob => ob
def St.norm (s : St) : St := { s with env := s.env.map fun p => (p.1, normD p.2), obs := s.obs.map fun p => (p.1, normOb p.2) }
theorem getK_normO (obs : List (Nat × Ob)) (x : Nat) : getK (obs.map fun p => (p.1, normOb p.2)) x = (getK obs x).map normOb := getK_map (fun _ o => normOb o) obs x
theorem norm_obs (s : St) (x : Nat) : getK s.norm.obs x = (getK s.obs x).map normOb := getK_normO s.obs x
theorem norm_env (s : St) (x : Nat) : getK s.norm.env x = (getK s.env x).map normD := getK_map (fun _ d => normD d) s.env x
theorem norm1_rep {m : Mem} {x : U} {v : Value} (h : RepU m x v) : RepU m (norm1 x) v := by
  cases h with
  | nil => exact .slE none 0 fun _ => rfl
  | int k n => exact .int k n
  | bool b => exact .bool b
  | str l => exact .str l
  | oth v => exact .oth v
  | slE a c h => exact .slE a c h
  | sl rows b o sz c f h1 h2 h3 h4 h5 => exact .sl rows b o sz c f h1 h2 h3 h4 h5
  | row cells off b o f h1 h2 => exact .row cells off b o f h1 h2
  | agg cells vs h1 h2 => exact .agg cells vs h1 h2
  | map kk ag es0 es hp b ents clock f h1 h2 h3 h4 => exact .map kk ag es0 es hp b ents clock f h1 h2 h3 h4
theorem normU_rep {m : Mem} {x : U} {v : Value} (h : RepU m x v) : RepU m (normU x) v := by
  cases h with
  | map kk ag es0 es hp b ents clock f h1 h2 h3 h4 => exact .map kk ag es0 es hp b ents clock f h1 h2 h3 h4
  | nil => exact .slE none 0 fun _ => rfl
  | int k n => exact .int k n
  | bool b => exact .bool b
  | str l => exact .str l
  | oth v => exact .oth v
  | slE a c h => exact .slE a c h
  | sl rows b o sz c f h1 h2 h3 h4 h5 => exact .sl rows b o sz c f h1 h2 h3 h4 h5
  | row cells off b o f h1 h2 => exact .row cells off b o f h1 h2
  | agg cells vs h1 h2 =>
    refine .agg _ vs (by simpa using h1) fun j u hj => ?_
    rw [List.getElem?_map] at hj
    cases hc : cells[j]? with
    | none => rw [hc] at hj; cases hj
    | some e => rw [hc] at hj; cases hj; exact norm1_rep (h2 j e hc)
theorem normD_rep {k : Kr} {d : D} {v : Value} (h : Rep k d v) : Rep k (normD d) v := by
  cases h with
  | u x v h => exact .u _ _ (normU_rep h)
  | any v => exact .any v
  | ptr i off b c h => exact .ptr i off b c h
  | vec i len h hh => exact .vec i len h hh
  | mp i b c h => exact .mp i b c h
  | elt i sz idx off b c h => exact .elt i sz idx off b c h
  | fnc f caps vs hl hr => exact .fnc f caps vs hl hr
  | agg cells vs hl hr => exact .agg cells vs hl hr
  | tup cells vs hl hr => exact .tup cells vs hl hr
theorem Wk.norm {Γ : Ctx} (s : St) : Wk Γ s s.norm := by
  intro k a w hin hs
  have ho : ∀ i ob, getK s.norm.obs i = some ob → ∃ ob0, getK s.obs i = some ob0 ∧ ob = normOb ob0 := fun i ob hi => by
    have : getK (s.obs.map fun p => (p.1, normOb p.2)) i = some ob := hi
    rw [getK_map (fun _ o => normOb o)] at this
    cases hc : getK s.obs i with
    | none => rw [hc] at this; cases this
    | some o => rw [hc] at this; cases this; exact ⟨o, rfl, rfl⟩
  refine ⟨k, hin, ⟨⟨hs.sat.mem, fun i ob hi => ?_, fun i j x y g g' b hx hy hij => ?_⟩, hs.defers, hs.size, fun x d hx => ?_, hs.hdr⟩⟩
  · obtain ⟨ob0, h1, rfl⟩ := ho i ob hi
    obtain ⟨g, h2, h3, h4⟩ := hs.sat.ob i ob0 h1
    refine ⟨g, h2, h3, ?_⟩
    cases ob0 with
    | box cs =>
      obtain ⟨b, vs, t, e, h5, h6, h7⟩ := h4
      refine ⟨b, vs, t, e, h5, by simpa using h6, fun j d hj => ?_⟩
      rw [List.getElem?_map] at hj
      cases hc : cs[j]? with
      | none => rw [hc] at hj; cases hj
      | some e => rw [hc] at hj; cases hj; exact ⟨(h7 j e hc).1, normD_rep (h7 j e hc).2⟩
    | vec e sz rows => exact h4
    | map kk ag es => exact h4
    | it => exact h4
  · obtain ⟨o1, h1, _⟩ := ho i x hx
    obtain ⟨o2, h2, _⟩ := ho j y hy
    exact hs.sat.apart i j o1 o2 g g' b h1 h2 hij
  · have hx' : getK (s.env.map fun p => (p.1, normD p.2)) x = some d := hx
    rw [getK_map (fun _ d => normD d)] at hx'
    cases hc : getK s.env x with
    | none => rw [hc] at hx'; cases hx'
    | some e => rw [hc] at hx'; cases hx'; exact ⟨(hs.env x e hc).1, normD_rep (hs.env x e hc).2⟩
end Go.VL
namespace Go.VL
open Go
def frz1 (s : St) : List Nat → Option St
  | [] => none
  | i :: l => match getK s.obs i with
    | some (.vec _ _ rows) => match allU2 rows with
      | some us => some (s.frz i us (s.obs.map (·.1)))
      | none => frz1 s l
    | some (.map kk ag es) => match allUE es with
      | some us => some (s.frzS i (fzMap i kk ag us) (s.obs.map (·.1)))
      | none => frz1 s l
    | _ => frz1 s l
def frzN : Nat → St → St
  | 0, s => s
  | n + 1, s => match frz1 s (s.obs.map (·.1)) with
    | some s' => frzN n s'
    | none => s
theorem Wk.frz1 {Γ : Ctx} {s s' : St} : ∀ {l : List Nat}, frz1 s l = some s' → Wk Γ s s'
  | [], h => by cases h
  | i :: l, h => by
    rw [VL.frz1] at h
    split at h
    · rename_i e sz rows hg
      split at h
      · rename_i us hu
        cases h
        exact Wk.frz i _ hg hu
      · exact Wk.frz1 h
    · rename_i kk ag es hg
      split at h
      · rename_i us hu
        cases h
        exact Wk.frzM i _ hg hu
      · exact Wk.frz1 h
    · exact Wk.frz1 h
theorem Wk.frzN {Γ : Ctx} : ∀ (n : Nat) (s : St), Wk Γ s (frzN n s)
  | 0, s => .refl s
  | n + 1, s => by
    rw [VL.frzN]
    split
    · rename_i s' h
      exact (Wk.frz1 h).trans (Wk.frzN n s')
    · exact .refl s
theorem EndW.frzN {P Γ fn n0 post e s} (n : Nat) (h : EndW P Γ fn n0 post e (frzN n s)) : EndW P Γ fn n0 post e s := .wk _ (Wk.frzN n s) h
theorem EndW.norm {P Γ fn n0 post e s} (h : EndW P Γ fn n0 post e s.norm) : EndW P Γ fn n0 post e s := .wk _ (Wk.norm s) h
/-- A variable told az a value. -/
def frzB (i : Nat) (s : St) : St := match getK s.obs i with
  | some (.box cs) => match allU cs with
    | some us => s.frzS i (fzBox i us) (s.obs.map (·.1))
    | none => s
  | _ => s
theorem Wk.frzBx {Γ : Ctx} (i : Nat) (s : St) : Wk Γ s (VL.frzB i s) := by
  unfold VL.frzB
  split
  · rename_i cs hg
    split
    · rename_i us hu
      exact Wk.frzB i _ hg hu
    · exact .refl s
  · exact .refl s
theorem EndW.frzB {P Γ fn n0 post e s} (i : Nat) (h : EndW P Γ fn n0 post e (VL.frzB i s)) : EndW P Γ fn n0 post e s := .wk _ (Wk.frzBx i s) h
end Go.VL
namespace Go.VL
open Go
theorem cg_H {P Γ l s s' k} (h : s = s') : H P Γ l s k = H P Γ l s' k := by rw [h]
theorem cg_hcons {P Γ o r s s' k} (h : s = s') : hcons P Γ o r s k = hcons P Γ o r s' k := by rw [h]
theorem cg_HD {P l s s' k} (h : s = s') : HD P l s k = HD P l s' k := by rw [h]
theorem cg_HD2 {P l s s' fp fp' C k} (h : s = s') (h' : fp = fp') : HD2 P l s fp C k = HD2 P l s' fp' C k := by rw [h, h']
theorem cg_V {P Γ c s s' Q} (h : s = s') : V P Γ c s Q = V P Γ c s' Q := by rw [h]
theorem cg_RunK {P Γ Q k e s s'} (h : s = s') : RunK P Γ Q k e s = RunK P Γ Q k e s' := by rw [h]
theorem cg_LoopW {α : Type} {Γ : Ctx} {S : α → St} {μ : α → Nat} {x : α} {s s' : St} (h : s = s') : LoopW Γ S μ x s = LoopW Γ S μ x s' := by rw [h]
theorem cg_LoopI {α : Type} {n0 : Nat} {S : α → St} {μ : α → Nat} {x : α} {s s' : St} (h : s = s') : LoopI n0 S μ x s = LoopI n0 S μ x s' := by rw [h]
attribute [congr] cg_H cg_hcons cg_HD cg_HD2 cg_V cg_RunK cg_LoopW cg_LoopI
theorem RK_seq {P Γ Q b k s} : RunK P Γ Q (.seq b k) .normal s = V P Γ b s (RunK P Γ Q k) := rfl
theorem RK_seq_ret {P Γ Q b k s} : RunK P Γ Q (.seq b k) .ret s = RunK P Γ Q k .ret s := rfl
theorem RK_seq_exit {P Γ Q b k s i} : RunK P Γ Q (.seq b k) (.exit i) s = RunK P Γ Q k (.exit i) s := rfl
theorem RK_blk {P Γ Q i k s} : RunK P Γ Q (.blk i k) .normal s = RunK P Γ Q k .normal s := rfl
theorem RK_blk_ret {P Γ Q i k s} : RunK P Γ Q (.blk i k) .ret s = RunK P Γ Q k .ret s := rfl
theorem RK_blk_exit {P Γ Q i j k s} : RunK P Γ Q (.blk i k) (.exit j) s = if j = i then RunK P Γ Q k .normal s else RunK P Γ Q k (.exit j) s := rfl
theorem RK_loop {P Γ Q I k s} : RunK P Γ Q (.loop I k) .normal s = I s := rfl
theorem RK_loop_ret {P Γ Q I k s} : RunK P Γ Q (.loop I k) .ret s = RunK P Γ Q k .ret s := rfl
theorem RK_loop_exit {P Γ Q I k s i} : RunK P Γ Q (.loop I k) (.exit i) s = RunK P Γ Q k (.exit i) s := rfl
theorem RK_done {P Γ Q e s} : RunK P Γ Q .done e s = Q e s := rfl
/-- Control, told az a step. -/
def vstep (P : Program) (Γ : Ctx) (Q : Exit → St → Prop) : Code → Kt → St → Prop
  | .seq a b, k, s => vstep P Γ Q a (.seq b k) s
  | .block id c, k, s => vstep P Γ Q c (.blk id k) s
  | .skip, k, s => RunK P Γ Q k .normal s
  | .label _, k, s => RunK P Γ Q k .normal s
  | .exit id, k, s => RunK P Γ Q k (.exit id) s
  | .ret, k, s => RunK P Γ Q k .ret s
  | .cond c x y, k, s => match opd s c with
    | .u (.bool t) => (t = true → V P Γ x s (RunK P Γ Q k)) ∧ (t = false → V P Γ y s (RunK P Γ Q k))
    | _ => False
  | .region _ l false, k, s => match stripL l l.toList with | some l' => H P Γ l' s (RunK P Γ Q k .normal) | none => False
  | c, k, s => V P Γ c s (RunK P Γ Q k)
theorem V_step {P Γ Q} : ∀ {c : Code} {k : Kt} {s : St}, vstep P Γ Q c k s → V P Γ c s (RunK P Γ Q k)
  | .seq a b, k, s, h => V_seq (V_step (c := a) (by rw [vstep] at h; exact h))
  | .block id c, k, s, h => V_block (V_step (c := c) (by rw [vstep] at h; exact h))
  | .skip, k, s, h => V_skip (by rw [vstep] at h; exact h)
  | .label _, k, s, h => V_label (by rw [vstep] at h; exact h)
  | .exit id, k, s, h => V_exit (by rw [vstep] at h; exact h)
  | .ret, k, s, h => V_ret (by rw [vstep] at h; exact h)
  | .cond c x y, k, s, h => by
    rw [vstep] at h
    split at h
    · rename_i t ht
      exact V_cond ht h.1 h.2
    · exact h.elim
  | .region id l false, k, s, h => by
    rw [vstep] at h
    have := V_region1 (P := P) (Γ := Γ) (s := s) (Q := Q) (kt := k) (id := id) (l := l.toList) fun K hK => by
      split at h
      · rename_i l' hl
        simp only [Array.toArray_toList]
        rw [hl]
        exact fun all ops e K' a w h1 h2 Q' hQ => h all ops e K' a w h1 h2 Q' fun K2 a2 w2 s2 h3 h4 h5 => hQ K2 a2 w2 s2 h3 h4 (hK _ h5)
      · exact h.elim
    simpa using this
  | .region _ _ true, k, s, h => by rw [vstep] at h; exact h; all_goals simp
  | .loop c, k, s, h => by rw [vstep] at h; exact h; all_goals simp
  | .rangeFunc .., k, s, h => by rw [vstep] at h; exact h; all_goals simp
  | .scope .., k, s, h => by rw [vstep] at h; exact h; all_goals simp
  | .goto .., k, s, h => by rw [vstep] at h; exact h; all_goals simp
  | .refuse .., k, s, h => by rw [vstep] at h; exact h; all_goals simp
theorem cg_vstep {P Γ Q c k s s'} (h : s = s') : vstep P Γ Q c k s = vstep P Γ Q c k s' := by rw [h]
attribute [congr] cg_vstep
section
variable {P : Program} {Γ : Ctx} {Q : Exit → St → Prop} {k : Kt} {s : St}
theorem vs_seq {a b : Code} : vstep P Γ Q (.seq a b) k s = vstep P Γ Q a (.seq b k) s := by rw [vstep]
theorem vs_block {i} {a : Code} : vstep P Γ Q (.block i a) k s = vstep P Γ Q a (.blk i k) s := by rw [vstep]
theorem vs_cond {c x y} : vstep P Γ Q (.cond c x y) k s = match opd s c with
    | .u (.bool t) => (t = true → V P Γ x s (RunK P Γ Q k)) ∧ (t = false → V P Γ y s (RunK P Γ Q k))
    | _ => False := by rw [vstep]
theorem vs_region {i} {l : List Oper} : vstep P Γ Q (.region i l.toArray false) k s = match stripL l.toArray l with | some l' => H P Γ l' s (RunK P Γ Q k .normal) | none => False := by rw [vstep]
theorem vs_loop {c} : vstep P Γ Q (.loop c) k s = V P Γ (.loop c) s (RunK P Γ Q k) := by rw [vstep] <;> simp
theorem vs_draw {i l} : vstep P Γ Q (.region i l true) k s = V P Γ (.region i l true) s (RunK P Γ Q k) := by rw [vstep] <;> simp
theorem V_sseq {a b : Code} (h : vstep P Γ Q a (.seq b k) s) : V P Γ (.seq a b) s (RunK P Γ Q k) := V_seq (V_step h)
theorem V_sblock {i} {a : Code} (h : vstep P Γ Q a (.blk i k) s) : V P Γ (.block i a) s (RunK P Γ Q k) := V_block (V_step h)
theorem V_scond {c x y} (h : vstep P Γ Q (.cond c x y) k s) : V P Γ (.cond c x y) s (RunK P Γ Q k) := V_step h
theorem V_sregion {i} {l : List Oper} (h : vstep P Γ Q (.region i l.toArray false) k s) : V P Γ (.region i l.toArray false) s (RunK P Γ Q k) := V_step h
end
def wkO (s : St) (nx : Nat) : List (Nat × Ob) → Prop
  | [] => True
  | p :: l => (p.1 < nx ∧ getK s.obs p.1 = some p.2 ∧ p.2.under nx = true) ∧ wkO s nx l
def wkU (nx : Nat) : List (Nat × D) → Prop
  | [] => True
  | p :: l => p.2.under nx = true ∧ wkU nx l
theorem wkO_get {s nx} : ∀ {l : List (Nat × Ob)} {x ob}, wkO s nx l → getK l x = some ob → x < nx ∧ getK s.obs x = some ob ∧ ob.under nx = true
  | [], x, ob, _, h => by simp [getK] at h
  | (y, e) :: l, x, ob, hw, h => by
    rw [getK_cons] at h
    by_cases hx : x = y
    · rw [if_pos hx] at h; cases h; subst hx; exact hw.1
    · rw [if_neg hx] at h; exact wkO_get hw.2 h
theorem wkU_get {nx} : ∀ {l : List (Nat × D)} {x d}, wkU nx l → getK l x = some d → d.under nx = true
  | [], x, d, _, h => by simp [getK] at h
  | (y, e) :: l, x, d, hw, h => by
    rw [getK_cons] at h
    by_cases hx : x = y
    · rw [if_pos hx] at h; cases h; subst hx; exact hw.1
    · rw [if_neg hx] at h; exact wkU_get hw.2 h
theorem Wk.cut {Γ : Ctx} {s s' : St} (hn : s'.n = s.n) (hx : Γ.n0 ≤ s'.next) (ho : wkO s s'.next s'.obs) (hu : wkU s'.next s'.env) (he : wkE s s'.env) : Wk Γ s s' := by
  intro K0 a w hin0 hs0
  let s1 : St := { s with env := s'.env }
  obtain ⟨K1, hin1, hs1⟩ := (Wk.env (s := s) (s' := s1) (Γ := Γ) rfl rfl rfl he) K0 a w hin0 hs0
  refine ⟨_, Sim.weak (ρ := fun i => i) hin1 hs1 ⟨hn, fun x d' h => ⟨?_, wkU_get hu h⟩, fun x d' h => (hs1.env x d' h).1, fun i ob' h => ?_, fun i j ob ob' _ _ e => e, fun i hi => ⟨rfl, by omega⟩⟩⟩
  · have : s1.at x = d' := by show (getK s'.env x).getD .any = d'; rw [h]; rfl
    rw [this]
    exact D.le_id d'
  · obtain ⟨h1, h2, h3⟩ := wkO_get ho h
    exact ⟨h1, ob', h2, Ob.le_id ob', h3⟩
theorem under_rowsD (n : Nat) (us : List (List U)) : ((rowsD us).all fun r => r.all (·.under n)) = true := by
  simp [rowsD, List.all_eq_true, D.under]
theorem under_entD (n : Nat) (us : List (Key × List U)) : ((entD us).all fun p => p.2.all (·.under n)) = true := by
  simp [entD, List.all_eq_true, D.under]
def pureRow : List D → Prop
  | [] => True
  | .u _ :: l => pureRow l
  | _ => False
def pureRows : List (List D) → Prop
  | [] => True
  | r :: l => pureRow r ∧ pureRows l
theorem pureRow_out : ∀ {r : List D}, pureRow r → ∀ c ∈ r, ∃ x, c = D.u x
  | [], _, c, hc => by cases hc
  | d :: l, h, c, hc => by
    cases d <;> simp only [pureRow] at h
    rcases List.mem_cons.1 hc with rfl | hc
    · exact ⟨_, rfl⟩
    · exact pureRow_out h c hc
theorem pureRows_out : ∀ {r : List (List D)}, pureRows r → uRows r
  | [], _ => uRows_nil
  | r :: l, h => uRows_cons (pureRow_out h.1) (pureRows_out h.2)
@[simp] theorem pureRow_map (l : List U) : pureRow (l.map .u) = True := by
  induction l with
  | nil => simp [pureRow]
  | cons a l ih => simpa [pureRow] using ih
@[simp] theorem pureRows_rowsD (l : List (List U)) : pureRows (rowsD l) = True := by
  induction l with
  | nil => simp [pureRows]
  | cons a l ih => simpa [pureRows] using ih
@[simp] theorem pureRows_append (a b : List (List D)) : pureRows (a ++ b) = (pureRows a ∧ pureRows b) := by
  induction a with
  | nil => simp [pureRows]
  | cons r l ih => simp [pureRows, ih, and_assoc]
def pureEs (es : List (Key × List D)) : Prop := ∃ us, es = entD us
def leU (ρ : Nat → Nat) (nx : Nat) : List D → List D → Prop
  | [], [] => True
  | a :: az, b :: bs => (D.le ρ a b ∧ b.under nx = true) ∧ leU ρ nx az bs
  | _, _ => False
def fixRows (ρ : Nat → Nat) (nx : Nat) (B : List (List D)) : Prop := ∀ r ∈ B, ∀ c ∈ r, c = c.ren ρ ∧ c.under nx = true
def obR (ρ : Nat → Nat) (nx : Nat) : Ob → Ob → Prop
  | .box cs, .box cs' => leU ρ nx cs cs'
  | .vec e sz A, .vec e' sz' B => e = e' ∧ sz = sz' ∧ A = B ∧ (pureRows B ∨ fixRows ρ nx B)
  | .map kk ag es, .map kk' ag' es' => kk = kk' ∧ ag = ag' ∧ es = es' ∧ pureEs es'
  | .it kk ag es left cur, .it kk' ag' es' left' cur' => kk = kk' ∧ ag = ag' ∧ es = es' ∧ left = left' ∧ cur = cur'
  | _, _ => False
def wkR (s : St) (ρ : Nat → Nat) (nx : Nat) : List (Nat × Ob) → Prop
  | [] => True
  | p :: l => (p.1 < nx ∧ (match getK s.obs (ρ p.1) with | some ob => obR ρ nx ob p.2 | none => False)) ∧ wkR s ρ nx l
def wkER (s : St) (ρ : Nat → Nat) (nx : Nat) : List (Nat × D) → Prop
  | [] => True
  | p :: l => ((match getK s.env p.1 with | some d => D.le ρ d p.2 | none => False) ∧ p.2.under nx = true) ∧ wkER s ρ nx l
theorem leU_out {ρ nx} : ∀ {a b : List D}, leU ρ nx a b → leL ρ a b ∧ b.all (·.under nx) = true
  | [], [], _ => ⟨trivial, rfl⟩
  | a :: az, b :: bs, h => by
    obtain ⟨h1, h2⟩ := leU_out h.2
    exact ⟨⟨h.1.1, h1⟩, by simp [h.1.2, h2]⟩
  | [], b :: bs, h => h.elim
  | a :: az, [], h => h.elim
theorem obR_out {ρ nx ob ob'} (h : obR ρ nx ob ob') : Ob.le ρ ob ob' ∧ ob'.under nx = true := by
  cases ob <;> cases ob' <;> simp only [obR] at h
  · obtain ⟨h1, h2⟩ := leU_out h
    exact ⟨Ob.le_box h1, h2⟩
  · obtain ⟨rfl, rfl, rfl, h⟩ := h
    rcases h with h | h
    · have hu := pureRows_out h
      exact ⟨Ob.le_vec_refl hu, Ob.under_vec hu⟩
    · refine ⟨⟨rfl, rfl, Nat.le_refl _, fun i r r' hi hi' => ?_⟩, ?_⟩
      · rw [hi] at hi'
        cases hi'
        refine ⟨rfl, fun j c c' hj hj' => ?_⟩
        rw [hj] at hj'
        cases hj'
        exact .inr (.inl (h r (List.mem_of_getElem? hi) c (List.mem_of_getElem? hj)).1)
      · simp only [Ob.under, List.all_eq_true]
        exact fun r hr c hc => (h r hr c hc).2
  · obtain ⟨rfl, rfl, rfl, us, rfl⟩ := h
    refine ⟨⟨rfl, rfl, rfl, fun i p p' hi hi' => ?_⟩, under_entD _ _⟩
    rw [hi] at hi'
    cases hi'
    refine ⟨rfl, fun j c c' hj hj' => ?_⟩
    rw [hj] at hj'
    cases hj'
    rw [entD, List.getElem?_map] at hi
    cases hq : us[i]? with
    | none => rw [hq] at hi; cases hi
    | some q =>
      rw [hq] at hi
      cases hi
      simp only [List.getElem?_map] at hj
      cases hx : q.2[j]? with
      | none => rw [hx] at hj; cases hj
      | some x => rw [hx] at hj; cases hj; exact .inr (.inl (by simp [D.ren]))
  · exact ⟨h, rfl⟩
theorem wkR_out {s ρ nx} : ∀ {l : List (Nat × Ob)}, wkR s ρ nx l → ∀ x ob', getK l x = some ob' → x < nx ∧ ∃ ob, getK s.obs (ρ x) = some ob ∧ Ob.le ρ ob ob' ∧ ob'.under nx = true
  | [], _, x, d', h => by simp [getK] at h
  | (y, d) :: l, h, x, d', hx => by
    rw [getK_cons] at hx
    by_cases e : x = y
    · rw [if_pos e] at hx
      cases hx
      subst e
      obtain ⟨⟨h1, h2⟩, _⟩ := h
      refine ⟨h1, ?_⟩
      split at h2
      · rename_i ob hg
        exact ⟨ob, hg, obR_out h2⟩
      · exact h2.elim
    · rw [if_neg e] at hx; exact wkR_out h.2 x d' hx
theorem wkER_out {s ρ nx} : ∀ {l : List (Nat × D)}, wkER s ρ nx l → ∀ x d', getK l x = some d' → (∃ d, getK s.env x = some d ∧ D.le ρ d d') ∧ d'.under nx = true
  | [], _, x, d', h => by simp [getK] at h
  | (y, d) :: l, h, x, d', hx => by
    rw [getK_cons] at hx
    by_cases e : x = y
    · rw [if_pos e] at hx
      cases hx
      subst e
      obtain ⟨⟨h1, h2⟩, _⟩ := h
      refine ⟨?_, h2⟩
      split at h1
      · rename_i d0 hg
        exact ⟨d0, hg, h1⟩
      · exact h1.elim
    · rw [if_neg e] at hx; exact wkER_out h.2 x d' hx
theorem Wk.ren {Γ : Ctx} {s s' : St} (ρ : Nat → Nat) (hn : s'.n = s.n) (hx : ∀ i, i < Γ.n0 → ρ i = i ∧ i < s'.next) (he : wkER s ρ s'.next s'.env) (ho : wkR s ρ s'.next s'.obs)
    (hi : ∀ i ∈ s'.obs.map (·.1), ∀ j ∈ s'.obs.map (·.1), ρ i = ρ j → i = j) : Wk Γ s s' := by
  intro K0 a w hin0 hs0
  refine ⟨_, Sim.weak (ρ := ρ) hin0 hs0 ⟨hn, fun x d' h => ?_, fun x d' h => ?_, fun i ob h => wkR_out ho i ob h, fun i j ob ob' hi' hj' e => hi i (getK_mem hi') j (getK_mem hj') e, hx⟩⟩
  · obtain ⟨⟨d, h1, h2⟩, h3⟩ := wkER_out he x d' h
    have : s.at x = d := by show (getK s.env x).getD .any = d; rw [h1]; rfl
    rw [this]
    exact ⟨h2, h3⟩
  · obtain ⟨⟨d, h1, h2⟩, h3⟩ := wkER_out he x d' h
    exact (hs0.env x d h1).1
theorem frz_entD (σ : D → Option U) (us : List (Key × List U)) : (entD us).map (fun p => (p.1, p.2.map (frzS σ))) = entD us := by
  simp only [entD, List.map_map]
  apply List.map_congr_left
  intro p _
  have : (p.2.map D.u).map (frzS σ) = p.2.map D.u := by
    rw [List.map_map]
    apply List.map_congr_left
    intro x _
    simp [frzS]
  simp [Function.comp, frzS]
theorem frz_rowsD (σ : D → Option U) (us : List (List U)) : (rowsD us).map (fun r => r.map (frzS σ)) = rowsD us := by
  simp only [rowsD, List.map_map]
  apply List.map_congr_left
  intro p _
  simp [Function.comp, frzS]
end Go.VL
namespace Go.Proofs.YtfcopibncpkdoaaDoor
open Go Go.VL
attribute [local simp] hcons hstep evPure opd uOf putOK St.put St.at getK binD binI binS binB nilD aggD eqUs cmpK lookD lookR rangeD nextD entryD keyD valU keyU lookK mkV entD_nil lookK_entD updK_entD1 updK_entD3 allUE allUE_entD makeMapD mapUpdD mapEff updK valM Key.kk shiftI arith unD convD pickD loadD cellsAt fieldAddrD fieldD indexAddrD indexD sliceD cutD lenD minmaxD nilCheckD buildD fillD cellsD isOne ones setAll mkAgg allU allocD boxD storeD St.add buildSliceD appendD rowsOf makeD setOb getK_setOb getK_del getK_cons stripL strip guardTmp entry chunks zcells valD argsV argsW argW argU1 argU0 argsU0 argsU1 calleeOf scalarD scalarU delAll effD St.effS RK_seq RK_seq_ret RK_seq_exit RK_blk RK_blk_ret RK_blk_exit RK_loop RK_loop_ret RK_loop_exit RK_done vs_seq vs_block vs_cond vs_region vs_loop vs_draw applyW mkD rdIds lentIds callOf calleeOf freeOp D.ids Op.operands Call.operands isEffOp makeIfD typeAssertD conc concs conc1 uOfV panicD IntKind.bits allU2 allU2_append List.take_of_length_le List.range_succ
attribute [local irreducible] V G H HD HD2 RunK Eff CallP CallV EndOK Fun Ret FinOK LoopI LoopW EndW
inductive Exp where
  | mk (op n unit : Int) (s : List UInt8) (args : List Exp)
  deriving Inhabited
def Exp.row : Exp → List U
  | .mk op n u s args => [.int .i64 op, .int .i64 n, .int .i64 u, .str s, .sl (args.map fun e => e.row)]
def Exp.op : Exp → Int | .mk op _ _ _ _ => op
def Exp.n : Exp → Int | .mk _ n _ _ _ => n
def Exp.unit : Exp → Int | .mk _ _ u _ _ => u
def Exp.s : Exp → List UInt8 | .mk _ _ _ s _ => s
def Exp.args : Exp → List Exp | .mk _ _ _ _ args => args
theorem Exp.row_eq (e : Exp) : e.row = [.int .i64 e.op, .int .i64 e.n, .int .i64 e.unit, .str e.s, .sl (e.args.map Exp.row)] := by
  cases e with
  | mk op n u s args => rw [Exp.row]; rfl
structure Var where
  name : List UInt8
  unit : Int
  n : Int
  deriving DecidableEq, Inhabited
structure Let where
  name : List UInt8
  body : Exp
  deriving Inhabited
def Var.row (v : Var) : List U := [.str v.name, .int .i64 v.unit, .int .i64 v.n]
def Let.row (l : Let) : List U := .str l.name :: l.body.row
def vars (l : List Var) : U := .sl (l.map Var.row)
def lets (l : List Let) : U := .sl (l.map Let.row)
def isLetter (c : UInt8) : Bool := decide (97 ≤ c.toNat) && decide (c.toNat ≤ 122)
def isDigit (c : UInt8) : Bool := decide (48 ≤ c.toNat) && decide (c.toNat ≤ 57)
theorem letter_fun (c : UInt8) : Fun Tryd.prog 102 [.u (.int .u8 c.toNat)] (· = .u (.bool (isLetter c))) := by
  unfold isLetter
  (refine Fun.of_body Tryd.func102 rfl (by simp) fun Γ hn => ?_); simp only [entry, List.zipIdx_cons, List.zipIdx_nil, List.map_cons, List.map_nil, Nat.zero_add, Tryd.ntmps102]
  repeat' (first
    | (refine H_cons ?_; simp)
    | (refine H_nil ?_; simp)
    | (refine V_sseq ?_; simp)
    | (refine V_ret ?_; simp only [RunK])
    | (refine ⟨fun hc => ?_, fun hc => ?_⟩ <;> (try (exfalso; omega)))
    | fail)
  all_goals
    (refine EndOK.val (.inr rfl) ?_; simp [resD, oneOrTup, pureD, Tryd.results102])
  all_goals first | omega | (simp; omega) | (rw [Bool.eq_iff_iff]; simp; omega)
theorem digit_fun (c : UInt8) : Fun Tryd.prog 104 [.u (.int .u8 c.toNat)] (· = .u (.bool (isDigit c))) := by
  unfold isDigit
  (refine Fun.of_body Tryd.func104 rfl (by simp) fun Γ hn => ?_); simp only [entry, List.zipIdx_cons, List.zipIdx_nil, List.map_cons, List.map_nil, Nat.zero_add, Tryd.ntmps104]
  repeat' (first
    | (refine H_cons ?_; simp)
    | (refine H_nil ?_; simp)
    | (refine V_sseq ?_; simp)
    | (refine V_ret ?_; simp only [RunK])
    | (refine ⟨fun hc => ?_, fun hc => ?_⟩ <;> (try (exfalso; omega)))
    | fail)
  all_goals
    (refine EndOK.val (.inr rfl) ?_; simp [resD, oneOrTup, pureD, Tryd.results104])
  all_goals first | omega | (simp; omega) | (rw [Bool.eq_iff_iff]; simp; omega)
theorem word1_fun (c : UInt8) : Fun Tryd.prog 103 [.u (.int .u8 c.toNat)] (· = .u (.bool (isLetter c || isDigit c))) := by
  (refine Fun.of_body Tryd.func103 rfl (by simp) fun Γ hn => ?_); simp only [entry, List.zipIdx_cons, List.zipIdx_nil, List.map_cons, List.map_nil, Nat.zero_add, Tryd.ntmps103]
  repeat' (first
    | (refine H_cons ?_; simp)
    | (refine H_nil ?_; simp)
    | (refine V_sseq ?_; simp)
    | (refine V_ret ?_; simp only [RunK])
    | (refine ⟨fun hc => ?_, fun hc => ?_⟩ <;> (try (exfalso; omega)))
    | (refine CallP.fun_ (letter_fun c) (by first | rfl | fail) (by first | assumption | (simp; done) | fail) (by first | (simp; done) | (simp; rfl) | fail) (by first | (simp; done) | fail) (fun d hd => ?_); subst hd; (try simp))
    | (refine CallP.fun_ (digit_fun c) (by first | rfl | fail) (by first | assumption | (simp; done) | fail) (by first | (simp; done) | (simp; rfl) | fail) (by first | (simp; done) | fail) (fun d hd => ?_); subst hd; (try simp))
    | fail)
  all_goals
    (refine EndOK.val (.inr rfl) ?_; simp [resD, oneOrTup, pureD, Tryd.results103])
  all_goals simp_all
def spanL (p : UInt8 → Bool) (l : List UInt8) : Nat := (l.takeWhile p).length
theorem spanL_at {p : UInt8 → Bool} {l : List UInt8} {i : Nat} (h : ∀ c ∈ l.take i, p c = true) (hi : i ≤ l.length) (he : i = l.length ∨ ∃ c, l[i]? = some c ∧ p c = false) : spanL p l = i := by
  unfold spanL
  induction l generalizing i with
  | nil => simp at hi; simp [hi]
  | cons a l ih =>
    cases i with
    | zero =>
      rcases he with he | ⟨c, h1, h2⟩
      · simp at he
      · simp at h1; subst h1; simp [h2]
    | succ i =>
      have ha : p a = true := h a (by simp)
      rw [List.takeWhile_cons, if_pos ha, List.length_cons]
      rw [ih (i := i) (fun c hc => h c (by simp [hc])) (by simpa using hi) (by simpa using he)]
/-- The first place where something holds; -1 without one. -/
def idxP {α : Type} (p : α → Bool) : List α → Int → Int
  | [], _ => -1
  | x :: l, i => if p x = true then i else idxP p l (i + 1)
theorem idxP_at {α : Type} {p : α → Bool} {l : List α} {i : Nat} {x : α} {k : Int} (h : ∀ c ∈ l.take i, p c = false) (hx : l[i]? = some x) (hp : p x = true) : idxP p l k = k + i := by
  induction l generalizing i k with
  | nil => simp at hx
  | cons s l ih =>
    cases i with
    | zero => simp at hx; simp [idxP, hx, hp]
    | succ i =>
      rw [idxP, if_neg (by rw [h s (by simp)]; simp), ih (i := i) (fun c hc => h c (by simp [hc])) (by simpa using hx)]
      omega
theorem idxP_none {α : Type} {p : α → Bool} {l : List α} {k : Int} (h : ∀ c ∈ l, p c = false) : idxP p l k = -1 := by
  induction l generalizing k with
  | nil => rfl
  | cons s l ih => rw [idxP, if_neg (by rw [h s (by simp)]; simp), ih fun c hc => h c (by simp [hc])]
theorem idxP_any {α : Type} (p : α → Bool) (l : List α) : ∀ k : Int, 0 ≤ k → (0 ≤ idxP p l k ↔ l.any p = true) := by
  induction l with
  | nil => intro k hk; simp [idxP]
  | cons s l ih =>
    intro k hk
    by_cases h : p s = true
    · simp [idxP, h, hk]
    · rw [idxP, if_neg h, ih (k + 1) (by omega)]
      simp [h]
theorem take_succ_all {α : Type} {p : α → Prop} {l : List α} {i : Nat} {x : α} (hx : l[i]? = some x) (h : ∀ c ∈ l.take i, p c) (hp : p x) : ∀ c ∈ l.take (i + 1), p c := by
  obtain ⟨hi, rfl⟩ := List.getElem?_eq_some_iff.1 hx
  rw [List.take_succ_eq_append_getElem hi]
  intro c hc
  rcases List.mem_append.1 hc with hc | hc
  · exact h c hc
  · simp at hc; subst hc; exact hp
theorem span_fun (l : List UInt8) (hl : l.length ≤ 1000000) (f : FuncId) (p : UInt8 → Bool) (hf : ∀ c ∈ l, Fun Tryd.prog f [.u (.int .u8 c.toNat)] (· = .u (.bool (p c)))) (hcl : callable Tryd.prog f = true) :
    Fun Tryd.prog 93 [.u (.str l), .fnc (.func f) []] (· = .u (.int .i64 (spanL p l))) := by
  (refine Fun.of_body Tryd.func93 rfl (by simp) fun Γ hn => ?_); simp only [entry, List.zipIdx_cons, List.zipIdx_nil, List.map_cons, List.map_nil, Nat.zero_add, Tryd.ntmps93]
  repeat' (first
    | (refine H_cons ?_; simp)
    | (refine H_nil ?_; simp)
    | (refine V_sseq ?_; simp)
    | fail)
  refine V_loopF (α := { i : Nat // i ≤ l.length ∧ ∀ c ∈ l.take i, p c = true }) [0, 1] (fun i => [(5, .u (.int .i64 i.1))]) (fun i => l.length - i.1) ⟨0, by omega, by simp⟩ ?_ ?_
  · exact (Wk.env rfl rfl rfl (by simp [wkE, St.lp, keepE, getK_cons, getK] <;> (try (intros; simp_all; done)) <;> (try (intros; omega)) <;> (try grind)))
  rintro ⟨i, hi, hb⟩
  simp [St.lp, St.only, keepE, getK_cons, getK]
  rcases hx : l[i]? with _ | c
  · have hge : l.length ≤ i := by simpa using hx
    repeat' (first
    | (refine H_cons ?_; simp [hx])
    | (refine H_nil ?_; simp [hx])
    | (refine ⟨by omega, ?_⟩)
    | (refine V_sseq ?_; simp [hx])
    | (refine V_scond ?_; simp [hx])
    | (refine V_ret ?_; simp only [RunK])
    | (refine V_exit ?_; simp [RunK])
    | (intro hc <;> (try (exfalso; omega)))
    | fail)
    (refine EndOK.val (.inr rfl) ?_; simp [resD, oneOrTup, pureD, Tryd.results93])
    rw [spanL_at hb hi (.inl (by omega))]
  · have hlt := (List.getElem?_eq_some_iff.1 hx).1
    have h1 := hf c (List.mem_of_getElem? hx)
    repeat' (first
    | (refine H_cons ?_; simp [hx])
    | (refine H_nil ?_; simp [hx])
    | (refine ⟨by omega, ?_⟩)
    | (refine V_sseq ?_; simp [hx])
    | (refine V_scond ?_; simp [hx])
    | (refine V_sblock ?_; simp [hx])
    | (refine V_ret ?_; simp only [RunK])
    | (refine V_skip ?_; simp only [RunK])
    | (refine V_exit ?_; simp [RunK])
    | (refine ⟨?_, by omega⟩)
    | (refine ⟨fun hc => ?_, fun hc => ?_⟩ <;> (try (exfalso; omega)))
    | (intro hc <;> (try (exfalso; omega)))
    | (refine CallP.fun_ (h1) (by first | rfl | fail) (by first | assumption | (simp; done) | fail) (by first | (simp [hx]; done) | (simp [hx]; rfl) | fail) (by first | (simp; done) | fail) (fun d hd => ?_); subst hd; (try simp [hx]))
    | fail)
    · refine LoopW.next ⟨i + 1, by omega, take_succ_all hx hb (by assumption)⟩ (by simp; omega) ?_
      exact (Wk.env rfl rfl rfl (by simp [wkE, St.lp, keepE, getK_cons, getK] <;> (try (intros; simp_all; done)) <;> (try (intros; omega)) <;> (try grind)))
    · (refine EndOK.val (.inr rfl) ?_; simp [resD, oneOrTup, pureD, Tryd.results93])
      rw [spanL_at hb hi (.inr ⟨c, hx, by assumption⟩)]
def wordB (s : List UInt8) : Bool := match s with
  | [] => false
  | c :: _ => isLetter c && decide (s.length ≤ 20) && decide (spanL (fun c => isLetter c || isDigit c) s = s.length)
theorem word_fun (s : List UInt8) : Fun Tryd.prog 77 [.u (.str s)] (· = .u (.bool (wordB s))) := by
  cases s with
  | nil =>
    (refine Fun.of_body Tryd.func77 rfl (by simp) fun Γ hn => ?_); simp only [entry, List.zipIdx_cons, List.zipIdx_nil, List.map_cons, List.map_nil, Nat.zero_add, Tryd.ntmps77]
    repeat' (first
    | (refine H_cons ?_; simp)
    | (refine H_nil ?_; simp)
    | (refine V_sseq ?_; simp)
    | (refine V_scond ?_; simp)
    | (refine V_ret ?_; simp only [RunK])
    | fail)
    all_goals
      (refine EndOK.val (.inr rfl) ?_; simp [resD, oneOrTup, pureD, Tryd.results77])
    all_goals simp [wordB]
  | cons c s =>
    by_cases hl : s.length + 1 ≤ 20
    · have hs := span_fun (c :: s) (by simp; omega) 103 _ (fun c _ => word1_fun c) (by simp)
      (refine Fun.of_body Tryd.func77 rfl (by simp) fun Γ hn => ?_); simp only [entry, List.zipIdx_cons, List.zipIdx_nil, List.map_cons, List.map_nil, Nat.zero_add, Tryd.ntmps77]
      repeat' (first
    | (refine H_cons ?_; simp)
    | (refine H_nil ?_; simp)
    | (refine ⟨by omega, ?_⟩)
    | (refine V_sseq ?_; simp)
    | (refine V_scond ?_; simp)
    | (refine V_ret ?_; simp only [RunK])
    | (refine V_skip ?_; simp only [RunK])
    | (refine ⟨fun hc => ?_, fun hc => ?_⟩ <;> (try (exfalso; omega)))
    | (intro hc <;> (try (exfalso; omega)))
    | (refine CallP.fun_ (letter_fun c) (by first | rfl | fail) (by first | assumption | (simp; done) | fail) (by first | (simp; done) | (simp; rfl) | fail) (by first | (simp; done) | fail) (fun d hd => ?_); subst hd; (try simp))
    | (refine CallP.fun_ (hs) (by first | rfl | fail) (by first | assumption | (simp; done) | fail) (by first | (simp; done) | (simp; rfl) | fail) (by first | (simp; done) | fail) (fun d hd => ?_); subst hd; (try simp))
    | fail)
      all_goals
        (refine EndOK.val (.inr rfl) ?_; simp [resD, oneOrTup, pureD, Tryd.results77])
      all_goals
        simp [wordB, *]
        try omega
    · (refine Fun.of_body Tryd.func77 rfl (by simp) fun Γ hn => ?_); simp only [entry, List.zipIdx_cons, List.zipIdx_nil, List.map_cons, List.map_nil, Nat.zero_add, Tryd.ntmps77]
      repeat' (first
    | (refine H_cons ?_; simp)
    | (refine H_nil ?_; simp)
    | (refine V_sseq ?_; simp)
    | (refine V_scond ?_; simp)
    | (refine V_ret ?_; simp only [RunK])
    | (refine ⟨?_, by omega⟩)
    | (refine ⟨fun hc => ?_, fun hc => ?_⟩ <;> (try (exfalso; omega)))
    | (intro hc <;> (try (exfalso; omega)))
    | (refine CallP.fun_ (letter_fun c) (by first | rfl | fail) (by first | assumption | (simp; done) | fail) (by first | (simp; done) | (simp; rfl) | fail) (by first | (simp; done) | fail) (fun d hd => ?_); subst hd; (try simp))
    | fail)
      all_goals
        (refine EndOK.val (.inr rfl) ?_; simp [resD, oneOrTup, pureD, Tryd.results77])
      all_goals
        simp [wordB, *]
        try omega

def strs (l : List (List UInt8)) : U := .sl (l.map fun s => [.str s])
def idxS : List (List UInt8) → List UInt8 → Int → Int
  | [], _, _ => -1
  | s :: l, x, i => if x = s then i else idxS l x (i + 1)
theorem idxS_at {l : List (List UInt8)} {x : List UInt8} {i : Nat} {k : Int} (h : ∀ c ∈ l.take i, ¬ x = c) (hx : l[i]? = some x) : idxS l x k = k + i := by
  induction l generalizing i k with
  | nil => simp at hx
  | cons s l ih =>
    cases i with
    | zero => simp at hx; simp [idxS, hx]
    | succ i =>
      rw [idxS, if_neg (h s (by simp)), ih (i := i) (fun c hc => h c (by simp [hc])) (by simpa using hx)]
      omega
theorem idxS_none {l : List (List UInt8)} {x : List UInt8} {k : Int} (h : ∀ c ∈ l, ¬ x = c) : idxS l x k = -1 := by
  induction l generalizing k with
  | nil => rfl
  | cons s l ih => rw [idxS, if_neg (h s (by simp)), ih fun c hc => h c (by simp [hc])]
theorem indexS_fun (l : List (List UInt8)) (x : List UInt8) : Fun Tryd.prog 105 [.u (strs l), .u (.str x)] (· = .u (.int .i64 (idxS l x 0))) := by
  (refine Fun.of_body Tryd.func105 rfl (by simp) fun Γ hn => ?_); simp only [entry, List.zipIdx_cons, List.zipIdx_nil, List.map_cons, List.map_nil, Nat.zero_add, Tryd.ntmps105]
  simp only [strs]
  refine V_len (x := 0) rfl fun hl => ?_
  simp at hl
  repeat' (first
    | (refine H_cons ?_; simp)
    | (refine H_nil ?_; simp)
    | (refine V_sseq ?_; simp)
    | (refine V_sblock ?_; simp)
    | fail)
  refine V_loopF (α := { i : Nat // i ≤ l.length ∧ ∀ c ∈ l.take i, ¬ x = c }) [0, 1, 7] (fun i => [(8, .u (.int .i64 i.1))]) (fun i => l.length - i.1) ⟨0, by omega, by simp⟩ ?_ ?_
  · exact (Wk.env rfl rfl rfl (by simp [wkE, St.lp, keepE, getK_cons, getK] <;> (try (intros; simp_all; done)) <;> (try (intros; omega)) <;> (try grind)))
  rintro ⟨i, hi, hb⟩
  simp [St.lp, St.only, keepE, getK_cons, getK]
  rcases hx : l[i]? with _ | c
  · have hge : l.length ≤ i := by simpa using hx
    repeat' (first
    | (refine H_cons ?_; simp [hx])
    | (refine H_nil ?_; simp [hx])
    | (refine ⟨by omega, ?_⟩)
    | (refine V_sseq ?_; simp [hx])
    | (refine V_ret ?_; simp only [RunK])
    | (refine V_exit ?_; simp [RunK])
    | (intro hc <;> (try (exfalso; omega)))
    | fail)
    (refine EndOK.val (.inr rfl) ?_; simp [resD, oneOrTup, pureD, Tryd.results105])
    rw [List.take_of_length_le hge] at hb
    exact (idxS_none hb).symm
  · have hlt := (List.getElem?_eq_some_iff.1 hx).1
    by_cases hxc : x = c
    · subst hxc
      repeat' (first
    | (refine H_cons ?_; simp [hx])
    | (refine H_nil ?_; simp [hx])
    | (refine V_sseq ?_; simp [hx])
    | (refine V_scond ?_; simp [hx])
    | (refine V_ret ?_; simp only [RunK])
    | (refine V_skip ?_; simp only [RunK])
    | (refine ⟨?_, by omega⟩)
    | (intro hc <;> (try (exfalso; omega)))
    | fail)
      (refine EndOK.val (.inr rfl) ?_; simp [resD, oneOrTup, pureD, Tryd.results105])
      rw [idxS_at hb hx]
      omega
    · repeat' (first
    | (refine H_cons ?_; simp [hx, hxc])
    | (refine H_nil ?_; simp [hx, hxc])
    | (refine ⟨by omega, ?_⟩)
    | (refine V_sseq ?_; simp [hx, hxc])
    | (refine V_scond ?_; simp [hx, hxc])
    | (refine V_sregion ?_; simp [hx, hxc])
    | (refine V_skip ?_; simp only [RunK])
    | (refine ⟨?_, by omega⟩)
    | (intro hc <;> (try (exfalso; omega)))
    | fail)
      refine LoopW.next ⟨i + 1, by omega, take_succ_all hx hb hxc⟩ (by simp; omega) ?_
      exact (Wk.env rfl rfl rfl (by simp [wkE, St.lp, keepE, getK_cons, getK] <;> (try (intros; simp_all; done)) <;> (try (intros; omega)) <;> (try grind)))
theorem idxS_any (l : List (List UInt8)) (x : List UInt8) : ∀ k : Int, 0 ≤ k → decide (0 ≤ idxS l x k) = l.contains x := by
  induction l with
  | nil => intro k hk; simp [idxS]
  | cons s l ih =>
    intro k hk
    by_cases h : x = s
    · subst h; simp [idxS, hk]
    · rw [idxS, if_neg h, ih (k + 1) (by omega)]
      simp [h]
theorem containsS_fun (l : List (List UInt8)) (x : List UInt8) : Fun Tryd.prog 78 [.u (strs l), .u (.str x)] (· = .u (.bool (l.contains x))) := by
  have h1 := indexS_fun l x
  (refine Fun.of_body Tryd.func78 rfl (by simp) fun Γ hn => ?_); simp only [entry, List.zipIdx_cons, List.zipIdx_nil, List.map_cons, List.map_nil, Nat.zero_add, Tryd.ntmps78]
  simp only [strs] at h1 ⊢
  repeat' (first
    | (refine H_cons ?_; simp)
    | (refine H_nil ?_; simp)
    | (refine V_sseq ?_; simp)
    | (refine V_ret ?_; simp only [RunK])
    | (refine CallP.fun_ (h1) (by first | rfl | fail) (by first | assumption | (simp; done) | fail) (by first | (simp; done) | (simp; rfl) | fail) (by first | (simp; done) | fail) (fun d hd => ?_); subst hd; (try simp))
    | fail)
  (refine EndOK.val (.inr rfl) ?_; simp [resD, oneOrTup, pureD, Tryd.results78])
  have h2 := idxS_any l x 0 (by omega)
  simpa using h2
def words : List (List UInt8) := [[97, 110, 100], [98, 97, 99, 107, 115], [98, 105, 100, 100, 105, 110, 103], [99, 105, 114, 99, 108, 101], [99, 111, 105, 110, 115], [99, 111, 118, 101, 114], [100, 97, 121, 115], [100, 114, 97, 119], [100, 117, 101], [101, 108, 115, 101], [102, 97, 108, 115, 101], [102, 105, 110, 101], [102, 117, 110, 100], [103, 114, 97, 99, 101], [104, 111, 108, 100], [105, 102], [106, 111, 105, 110], [106, 117, 114, 121], [108, 101, 116], [109, 97, 120], [109, 105, 108, 108, 101], [109, 105, 110], [110, 101, 101, 100], [110, 111, 116], [111, 114], [111, 114, 100, 101, 114], [112, 97, 121], [112, 101, 114], [114, 111, 116, 97, 116, 105, 110, 103], [115, 97, 118, 105, 110, 103], [115, 101, 97, 108, 101, 100], [116, 104, 101, 110], [116, 114, 117, 101], [118, 111, 105, 99, 101, 115], [119, 97, 105, 116]]
set_option maxHeartbeats 4000000 in
set_option maxRecDepth 100000 in
theorem reserved_fun : Fun Tryd.prog 79 [] (· = .u (strs words)) := by
  (refine Fun.of_bodyW Tryd.func79 rfl (by simp) fun Γ hn => ?_); simp only [entry, List.zipIdx_cons, List.zipIdx_nil, List.map_cons, List.map_nil, Nat.zero_add, Tryd.ntmps79]
  simp only [strs, words, List.map_cons, List.map_nil]
  repeat' (first
    | (refine H_cons ?_; simp [zcells, chunks])
    | (refine H_nil ?_; simp [zcells, chunks])
    | (refine V_sseq ?_; simp [zcells, chunks])
    | (refine V_ret ?_; simp only [RunK])
    | fail)
  (refine EndW.frzN 1 ?_; simp [frzN, frz1, frz_env, frz_obs, St.frz, St.frzS, frzS, fv, fzVec, fzMap, fzBox, frzObS, frz_entD, frz_rowsD, del, frz, frzOb])
  refine EndW.here ?_
  (refine EndOK.val (.inr rfl) ?_; simp [resD, oneOrTup, pureD, Tryd.results79])

def nameB (s : List UInt8) : Bool := wordB s && !words.contains s
set_option maxRecDepth 100000 in
theorem name_fun (s : List UInt8) : Fun Tryd.prog 48 [.u (.str s)] (· = .u (.bool (nameB s))) := by
  have h1 := containsS_fun words s
  have h2 := word_fun s
  have h3 := reserved_fun
  generalize hw : words.contains s = w at h1
  simp only [strs] at h1 h3
  generalize (words.map fun s => [U.str s]) = W at h1 h3
  unfold nameB
  rw [hw]
  clear hw
  generalize wordB s = b at h2 ⊢
  cases b
  all_goals
    (refine Fun.of_body Tryd.func48 rfl (by simp) fun Γ hn => ?_); simp only [entry, List.zipIdx_cons, List.zipIdx_nil, List.map_cons, List.map_nil, Nat.zero_add, Tryd.ntmps48]
    repeat' (first
    | (refine H_cons ?_; simp)
    | (refine H_nil ?_; simp)
    | (refine V_sseq ?_; simp)
    | (refine V_ret ?_; simp only [RunK])
    | (refine CallP.fun_ (h1) (by first | rfl | fail) (by first | assumption | (simp; done) | fail) (by first | (simp; done) | (simp; rfl) | fail) (by first | (simp; done) | fail) (fun d hd => ?_); subst hd; (try simp))
    | (refine CallP.fun_ (h2) (by first | rfl | fail) (by first | assumption | (simp; done) | fail) (by first | (simp; done) | (simp; rfl) | fail) (by first | (simp; done) | fail) (fun d hd => ?_); subst hd; (try simp))
    | (refine CallP.fun_ (h3) (by first | rfl | fail) (by first | assumption | (simp; done) | fail) (by first | (simp; done) | (simp; rfl) | fail) (by first | (simp; done) | fail) (fun d hd => ?_); subst hd; (try simp))
    | fail)
    (refine EndOK.val (.inr rfl) ?_; simp [resD, oneOrTup, pureD, Tryd.results48])
def operandsI (op : Int) : Int := if op = 0 ∨ op = 1 then 0 else if op = 12 then 1 else if op = 13 then 3 else if op < 0 ∨ 14 ≤ op then -1 else 2
theorem operands_fun (op : Int) : Fun Tryd.prog 47 [.u (.int .i64 op)] (· = .u (.int .i64 (operandsI op))) := by
  unfold operandsI
  (refine Fun.of_body Tryd.func47 rfl (by simp) fun Γ hn => ?_); simp only [entry, List.zipIdx_cons, List.zipIdx_nil, List.map_cons, List.map_nil, Nat.zero_add, Tryd.ntmps47]
  repeat' (first
    | (refine H_cons ?_; simp)
    | (refine H_nil ?_; simp)
    | (refine V_sseq ?_; simp)
    | (refine V_scond ?_; simp)
    | (refine V_sblock ?_; simp)
    | (refine V_sregion ?_; simp)
    | (refine V_ret ?_; simp only [RunK])
    | (refine V_skip ?_; simp only [RunK])
    | (refine ⟨?_, by omega⟩)
    | (refine ⟨fun hc => ?_, fun hc => ?_⟩ <;> (try (exfalso; omega)))
    | (intro hc <;> (try (exfalso; omega)))
    | fail)
  all_goals
    (refine EndOK.val (.inr rfl) ?_; simp [resD, oneOrTup, pureD, Tryd.results47])
  all_goals (repeat' split) <;> first | rfl | omega | simp_all
theorem erow_eq : Exp.row = fun e => [.int .i64 e.op, .int .i64 e.n, .int .i64 e.unit, .str e.s, .sl (e.args.map Exp.row)] := funext fun e => e.row_eq
def eagg (e : Exp) : D := .u (.agg [.int .i64 e.op, .int .i64 e.n, .int .i64 e.unit, .str e.s, .sl (e.args.map Exp.row)])
def exps (l : List Exp) : U := .sl (l.map fun e => [.int .i64 e.op, .int .i64 e.n, .int .i64 e.unit, .str e.s, .sl (e.args.map Exp.row)])
theorem exps_eq (l : List Exp) : exps l = .sl (l.map Exp.row) := by rw [exps, ← erow_eq]
theorem indexE_fun (l : List (Exp)) (f : FuncId) (caps : List U) (p : Exp → Bool) (hf : ∀ n ∈ l, Fun Tryd.prog f (eagg n :: caps.map .u) (· = .u (.bool (p n)))) (hcl : callable Tryd.prog f = true)
    (hca : ∀ o, argsW o (caps.map .u) = some (caps.map .u, [])) : Fun Tryd.prog 80 [.u (exps l), .fnc (.func f) (caps.map .u)] (· = .u (.int .i64 (idxP p l 0))) := by
  (refine Fun.of_body Tryd.func80 rfl (by simp) fun Γ hn => ?_); simp only [entry, List.zipIdx_cons, List.zipIdx_nil, List.map_cons, List.map_nil, Nat.zero_add, Tryd.ntmps80]
  simp only [exps]
  refine V_len (x := 0) rfl fun hl => ?_
  simp at hl
  repeat' (first
    | (refine H_cons ?_; simp)
    | (refine H_nil ?_; simp)
    | (refine V_sseq ?_; simp)
    | (refine V_sblock ?_; simp)
    | fail)
  refine V_loopF (α := { i : Nat // i ≤ l.length ∧ ∀ c ∈ l.take i, p c = false }) [0, 1, 7] (fun i => [(8, .u (.int .i64 i.1))]) (fun i => l.length - i.1) ⟨0, by omega, by simp⟩ ?_ ?_
  · exact (Wk.env rfl rfl rfl (by simp [wkE, St.lp, keepE, getK_cons, getK] <;> (try (intros; simp_all; done)) <;> (try (intros; omega)) <;> (try grind)))
  rintro ⟨i, hi, hb⟩
  simp [St.lp, St.only, keepE, getK_cons, getK]
  rcases hx : l[i]? with _ | n
  · have hge : l.length ≤ i := by simpa using hx
    repeat' (first
    | (refine H_cons ?_; simp [hx])
    | (refine H_nil ?_; simp [hx])
    | (refine ⟨by omega, ?_⟩)
    | (refine V_sseq ?_; simp [hx])
    | (refine V_ret ?_; simp only [RunK])
    | (refine V_exit ?_; simp [RunK])
    | (intro hc <;> (try (exfalso; omega)))
    | fail)
    (refine EndOK.val (.inr rfl) ?_; simp [resD, oneOrTup, pureD, Tryd.results80])
    rw [List.take_of_length_le hge] at hb
    exact (idxP_none hb).symm
  · have hlt : i < l.length := (List.getElem?_eq_some_iff.1 hx).1
    have h1 := hf n (List.mem_of_getElem? hx)
    simp only [eagg] at h1
    cases hp : p n
    · rw [hp] at h1
      repeat' (first
    | (refine H_cons ?_; simp [hx, hca])
    | (refine H_nil ?_; simp [hx, hca])
    | (refine ⟨by omega, ?_⟩)
    | (refine V_sseq ?_; simp [hx, hca])
    | (refine V_scond ?_; simp [hx, hca])
    | (refine V_sregion ?_; simp [hx, hca])
    | (refine V_skip ?_; simp only [RunK])
    | (refine ⟨?_, by omega⟩)
    | (intro hc <;> (try (exfalso; omega)))
    | (refine CallP.fun_ (h1) (by first | rfl | fail) (by first | assumption | (simp; done) | fail) (by first | (simp [hx, hca]; done) | (simp [hx, hca]; rfl) | fail) (by first | (simp; done) | fail) (fun d hd => ?_); subst hd; (try simp [hx, hca]))
    | fail)
      refine LoopW.next ⟨i + 1, by omega, take_succ_all hx hb hp⟩ (by simp; omega) ?_
      exact (Wk.env rfl rfl rfl (by simp [wkE, St.lp, keepE, getK_cons, getK] <;> (try (intros; simp_all; done)) <;> (try (intros; omega)) <;> (try grind)))
    · rw [hp] at h1
      repeat' (first
    | (refine H_cons ?_; simp [hx, hca])
    | (refine H_nil ?_; simp [hx, hca])
    | (refine V_sseq ?_; simp [hx, hca])
    | (refine V_scond ?_; simp [hx, hca])
    | (refine V_ret ?_; simp only [RunK])
    | (refine V_skip ?_; simp only [RunK])
    | (refine ⟨?_, by omega⟩)
    | (intro hc <;> (try (exfalso; omega)))
    | (refine CallP.fun_ (h1) (by first | rfl | fail) (by first | assumption | (simp; done) | fail) (by first | (simp [hx, hca]; done) | (simp [hx, hca]; rfl) | fail) (by first | (simp; done) | fail) (fun d hd => ?_); subst hd; (try simp [hx, hca]))
    | fail)
      (refine EndOK.val (.inr rfl) ?_; simp [resD, oneOrTup, pureD, Tryd.results80])
      rw [idxP_at hb hx hp]
      omega
theorem containsE_fun (l : List (Exp)) (f : FuncId) (caps : List U) (p : Exp → Bool) (hf : ∀ n ∈ l, Fun Tryd.prog f (eagg n :: caps.map .u) (· = .u (.bool (p n)))) (hcl : callable Tryd.prog f = true)
    (hca : ∀ o, argsW o (caps.map .u) = some (caps.map .u, [])) (hcb : ∀ o, argsU1 o (caps.map .u) = some (caps, [])) : Fun Tryd.prog 49 [.u (exps l), .fnc (.func f) (caps.map .u)] (· = .u (.bool (l.any p))) := by
  have h1 := indexE_fun l f caps p hf hcl hca
  (refine Fun.of_body Tryd.func49 rfl (by simp) fun Γ hn => ?_); simp only [entry, List.zipIdx_cons, List.zipIdx_nil, List.map_cons, List.map_nil, Nat.zero_add, Tryd.ntmps49]
  simp only [exps] at h1 ⊢
  repeat' (first
    | (refine H_cons ?_; simp [hcb])
    | (refine H_nil ?_; simp [hcb])
    | (refine V_sseq ?_; simp [hcb])
    | (refine V_ret ?_; simp only [RunK])
    | (refine CallP.fun_ (h1) (by first | rfl | fail) (by first | assumption | (simp; done) | fail) (by first | (simp [hcb]; done) | (simp [hcb]; rfl) | fail) (by first | (simp; done) | fail) (fun d hd => ?_); subst hd; (try simp [hcb]))
    | fail)
  (refine EndOK.val (.inr rfl) ?_; simp [resD, oneOrTup, pureD, Tryd.results49])
  have h2 := idxP_any p l 0 (by omega)
  rw [Bool.eq_iff_iff]
  simpa using h2
def numB (e : Exp) : Bool := decide (e.s = []) && decide (0 ≤ e.unit) && decide (e.unit < 5) && decide (0 ≤ e.n) && decide (e.n ≤ if e.unit = 0 then 1 else 1099511627776)
def rightB : Nat → Exp → Bool
  | 0, _ => false
  | d + 1, e => decide ((e.args.length : Int) = operandsI e.op) && (if e.op = 0 then numB e else if e.n ≠ 0 ∨ e.unit ≠ 0 then false else if e.op = 1 then nameB e.s else decide (e.s = []) && !e.args.any (fun x => !rightB d x))
set_option maxRecDepth 100000 in
set_option maxHeartbeats 4000000 in
theorem right_fun : ∀ (d : Nat) (e : Exp), (d : Int) ≤ 100 → Fun Tryd.prog 28 [eagg e, .u (.int .i64 d)] (· = .u (.bool (rightB d e)))
  | 0, e, _ => by
    (refine Fun.of_body Tryd.func28 rfl (by simp) fun Γ hn => ?_); simp only [entry, List.zipIdx_cons, List.zipIdx_nil, List.map_cons, List.map_nil, Nat.zero_add, Tryd.ntmps28]
    simp only [eagg]
    repeat' (first
    | (refine H_cons ?_; simp)
    | (refine HD_cons ?_; simp)
    | (refine H_nil ?_; simp)
    | (refine V_sseq ?_; simp)
    | (refine V_scond ?_; simp)
    | (refine HD_nil ?_)
    | (refine hk _ ?_; clear hk k; simp only [RunK])
    | (refine V_drawV rfl (by kernel_rfl) (by kernel_rfl) fun k hk => ?_; simp)
    | (refine HD_guard rfl (by simp) (fun hc => ?_) (fun hc => ?_) <;> (try simp at hc) <;> (try (exfalso; omega)) <;> (try simp))
    | (refine V_ret ?_; simp only [RunK])
    | fail)
    (refine EndOK.val (.inr rfl) ?_; simp [resD, oneOrTup, pureD, Tryd.results28])
    rfl
  | d + 1, e, hd => by
    have hr : ∀ x : Exp, Fun Tryd.prog 50 (eagg x :: [U.row [.int .i64 ((d + 1 : Nat) : Int)] 0].map .u) (· = .u (.bool (!rightB d x))) := fun x => by
      have h1 := right_fun d x (by omega)
      (refine Fun.of_body Tryd.func50 rfl (by simp) fun Γ hn => ?_); simp only [entry, List.zipIdx_cons, List.zipIdx_nil, List.map_cons, List.map_nil, Nat.zero_add, Tryd.ntmps50]
      simp only [eagg] at h1 ⊢
      repeat' (first
    | (refine H_cons ?_; simp)
    | (refine H_nil ?_; simp)
    | (refine ⟨by omega, ?_⟩)
    | (refine V_sseq ?_; simp)
    | (refine V_ret ?_; simp only [RunK])
    | (refine CallP.fun_ (h1) (by first | rfl | fail) (by first | assumption | (simp; done) | fail) (by first | (simp; done) | (simp; rfl) | fail) (by first | (simp; done) | fail) (fun d hd => ?_); subst hd; (try simp))
    | fail)
      (refine EndOK.val (.inr rfl) ?_; simp [resD, oneOrTup, pureD, Tryd.results50])
    have hcon := containsE_fun e.args 50 [U.row [.int .i64 ((d + 1 : Nat) : Int)] 0] (fun x => !rightB d x) (fun x _ => hr x) (by simp) (fun _ => rfl) (fun _ => rfl)
    have hnam := name_fun e.s
    have hopr := operands_fun e.op
    simp only [List.map_cons, List.map_nil] at hcon
    rw [rightB]
    unfold numB
    generalize (e.args.any fun x => !rightB d x) = z at hcon ⊢
    generalize nameB e.s = nm at hnam ⊢
    generalize hop : operandsI e.op = oi at hopr ⊢
    (refine Fun.of_body Tryd.func28 rfl (by simp) fun Γ hn => ?_); simp only [entry, List.zipIdx_cons, List.zipIdx_nil, List.map_cons, List.map_nil, Nat.zero_add, Tryd.ntmps28]
    rw [exps_eq] at hcon
    simp only [eagg]
    by_cases hlen : (e.args.length : Int) = oi
    case neg =>
      repeat' (first
    | (refine H_cons ?_; simp [hlen])
    | (refine HD_cons ?_; simp [hlen])
    | (refine H_nil ?_; simp [hlen])
    | (refine V_sseq ?_; simp [hlen])
    | (refine V_scond ?_; simp [hlen])
    | (refine HD_nil ?_)
    | (refine hk _ ?_; clear hk k; simp only [RunK])
    | (refine V_drawV rfl (by kernel_rfl) (by kernel_rfl) fun k hk => ?_; simp [hlen])
    | (refine HD_guard rfl (by simp [hlen]) (fun hc => ?_) (fun hc => ?_) <;> (try simp [hlen] at hc) <;> (try (exfalso; omega)) <;> (try simp [hlen]))
    | (refine V_ret ?_; simp only [RunK])
    | (refine CallV.fun_ (hopr) (by first | rfl | fail) (by first | assumption | (simp; done) | fail) (by first | (simp [hlen]; done) | (simp [hlen]; rfl) | fail) (by first | (simp; done) | fail) ?_ <;> (try simp [hlen]))
    | fail)
      (refine EndOK.val (.inr rfl) ?_; simp [resD, oneOrTup, pureD, Tryd.results28])
      try (simp_all; done)
    by_cases h0 : e.op = 0
    case pos =>
      by_cases hu : e.unit = 0
      all_goals
        repeat' (first
    | (refine H_cons ?_; simp [hlen, h0, hu])
    | (refine HD_cons ?_; simp [hlen, h0, hu])
    | (refine H_nil ?_; simp [hlen, h0, hu])
    | (refine V_sseq ?_; simp [hlen, h0, hu])
    | (refine V_scond ?_; simp [hlen, h0, hu])
    | (refine HD_nil ?_)
    | (refine hk _ ?_; clear hk k; simp only [RunK])
    | (refine V_drawV rfl (by kernel_rfl) (by kernel_rfl) fun k hk => ?_; simp [hlen, h0, hu])
    | (refine HD_guard rfl (by simp [hlen, h0, hu]) (fun hc => ?_) (fun hc => ?_) <;> (try simp [hlen, h0, hu] at hc) <;> (try (exfalso; omega)) <;> (try simp [hlen, h0, hu]))
    | (refine V_sregion ?_; simp [hlen, h0, hu])
    | (refine V_ret ?_; simp only [RunK])
    | (refine V_skip ?_; simp only [RunK])
    | (refine ⟨fun hc => ?_, fun hc => ?_⟩ <;> (try (exfalso; omega)))
    | (refine CallV.fun_ (hopr) (by first | rfl | fail) (by first | assumption | (simp; done) | fail) (by first | (simp [hlen, h0, hu]; done) | (simp [hlen, h0, hu]; rfl) | fail) (by first | (simp; done) | fail) ?_ <;> (try simp [hlen, h0, hu]))
    | fail)
        all_goals
          (refine EndOK.val (.inr rfl) ?_; simp [resD, oneOrTup, pureD, Tryd.results28])
      all_goals clear hr hopr hcon hnam
      all_goals grind
    by_cases hnu : e.n ≠ 0 ∨ e.unit ≠ 0
    case pos =>
      repeat' (first
    | (refine H_cons ?_; simp [hlen, h0])
    | (refine HD_cons ?_; simp [hlen, h0])
    | (refine H_nil ?_; simp [hlen, h0])
    | (refine V_sseq ?_; simp [hlen, h0])
    | (refine V_scond ?_; simp [hlen, h0])
    | (refine HD_nil ?_)
    | (refine hk _ ?_; clear hk k; simp only [RunK])
    | (refine V_drawV rfl (by kernel_rfl) (by kernel_rfl) fun k hk => ?_; simp [hlen, h0])
    | (refine HD_guard rfl (by simp [hlen, h0]) (fun hc => ?_) (fun hc => ?_) <;> (try simp [hlen, h0] at hc) <;> (try (exfalso; omega)) <;> (try simp [hlen, h0]))
    | (refine V_ret ?_; simp only [RunK])
    | (refine V_skip ?_; simp only [RunK])
    | (refine ⟨?_, by omega⟩)
    | (refine ⟨fun hc => ?_, fun hc => ?_⟩ <;> (try (exfalso; omega)))
    | (intro hc <;> (try (exfalso; omega)))
    | (refine CallV.fun_ (hopr) (by first | rfl | fail) (by first | assumption | (simp; done) | fail) (by first | (simp [hlen, h0]; done) | (simp [hlen, h0]; rfl) | fail) (by first | (simp; done) | fail) ?_ <;> (try simp [hlen, h0]))
    | fail)
      all_goals
        (refine EndOK.val (.inr rfl) ?_; simp [resD, oneOrTup, pureD, Tryd.results28])
      all_goals clear hr hopr hcon hnam
      all_goals grind
    by_cases h1 : e.op = 1
    case pos =>
      repeat' (first
    | (refine H_cons ?_; simp [hlen, h0, h1])
    | (refine HD_cons ?_; simp [hlen, h0, h1])
    | (refine H_nil ?_; simp [hlen, h0, h1])
    | (refine ⟨by omega, ?_⟩)
    | (refine V_sseq ?_; simp [hlen, h0, h1])
    | (refine V_scond ?_; simp [hlen, h0, h1])
    | (refine HD_nil ?_)
    | (refine hk _ ?_; clear hk k; simp only [RunK])
    | (refine V_drawV rfl (by kernel_rfl) (by kernel_rfl) fun k hk => ?_; simp [hlen, h0, h1])
    | (refine HD_guard rfl (by simp [hlen, h0, h1]) (fun hc => ?_) (fun hc => ?_) <;> (try simp [hlen, h0, h1] at hc) <;> (try (exfalso; omega)) <;> (try simp [hlen, h0, h1]))
    | (refine V_ret ?_; simp only [RunK])
    | (refine V_skip ?_; simp only [RunK])
    | (refine ⟨?_, by omega⟩)
    | (intro hc <;> (try (exfalso; omega)))
    | (refine CallV.fun_ (hopr) (by first | rfl | fail) (by first | assumption | (simp; done) | fail) (by first | (simp [hlen, h0, h1]; done) | (simp [hlen, h0, h1]; rfl) | fail) (by first | (simp; done) | fail) ?_ <;> (try simp [hlen, h0, h1]))
    | (refine CallP.fun_ (hnam) (by first | rfl | fail) (by first | assumption | (simp; done) | fail) (by first | (simp [hlen, h0, h1]; done) | (simp [hlen, h0, h1]; rfl) | fail) (by first | (simp; done) | fail) (fun d hd => ?_); subst hd; (try simp [hlen, h0, h1]))
    | fail)
      all_goals
        (refine EndOK.val (.inr rfl) ?_; simp [resD, oneOrTup, pureD, Tryd.results28])
      all_goals clear hr hopr hcon hnam
      all_goals grind
    by_cases hs : e.s = []
    all_goals
      repeat' (first
    | (refine H_cons ?_; simp [hlen, h0, h1, hs])
    | (refine HD_cons ?_; simp [hlen, h0, h1, hs])
    | (refine H_nil ?_; simp [hlen, h0, h1, hs])
    | (refine ⟨by omega, ?_⟩)
    | (refine V_sseq ?_; simp [hlen, h0, h1, hs])
    | (refine V_scond ?_; simp [hlen, h0, h1, hs])
    | (refine HD_nil ?_)
    | (refine hk _ ?_; clear hk k; simp only [RunK])
    | (refine V_drawV rfl (by kernel_rfl) (by kernel_rfl) fun k hk => ?_; simp [hlen, h0, h1, hs])
    | (refine HD_guard rfl (by simp [hlen, h0, h1, hs]) (fun hc => ?_) (fun hc => ?_) <;> (try simp [hlen, h0, h1, hs] at hc) <;> (try (exfalso; omega)) <;> (try simp [hlen, h0, h1, hs]))
    | (refine V_ret ?_; simp only [RunK])
    | (refine V_skip ?_; simp only [RunK])
    | (refine ⟨?_, by omega⟩)
    | (intro hc <;> (try (exfalso; omega)))
    | (refine CallV.fun_ (hopr) (by first | rfl | fail) (by first | assumption | (simp; done) | fail) (by first | (simp [hlen, h0, h1, hs]; done) | (simp [hlen, h0, h1, hs]; rfl) | fail) (by first | (simp; done) | fail) ?_ <;> (try simp [hlen, h0, h1, hs]))
    | (refine CallP.fun_ (hcon) (by first | rfl | fail) (by first | assumption | (simp; done) | fail) (by first | (simp [hlen, h0, h1, hs]; done) | (simp [hlen, h0, h1, hs]; rfl) | fail) (by first | (simp; done) | fail) (fun d hd => ?_); subst hd; (try simp [hlen, h0, h1, hs]))
    | fail)
      all_goals
        (refine EndOK.val (.inr rfl) ?_; simp [resD, oneOrTup, pureD, Tryd.results28])
    all_goals clear hr hopr hcon hnam
    all_goals grind
theorem rightExp_fun (e : Exp) : Fun Tryd.prog 15 [eagg e] (· = .u (.bool (rightB 12 e))) := by
  have h1 := right_fun 12 e (by omega)
  (refine Fun.of_body Tryd.func15 rfl (by simp) fun Γ hn => ?_); simp only [entry, List.zipIdx_cons, List.zipIdx_nil, List.map_cons, List.map_nil, Nat.zero_add, Tryd.ntmps15]
  simp only [eagg] at h1 ⊢
  repeat' (first
    | (refine H_cons ?_; simp)
    | (refine H_nil ?_; simp)
    | (refine V_sseq ?_; simp)
    | (refine V_ret ?_; simp only [RunK])
    | (refine CallP.fun_ (h1) (by first | rfl | fail) (by first | assumption | (simp; done) | fail) (by first | (simp; done) | (simp; rfl) | fail) (by first | (simp; done) | fail) (fun d hd => ?_); subst hd; (try simp))
    | fail)
  (refine EndOK.val (.inr rfl) ?_; simp [resD, oneOrTup, pureD, Tryd.results15])

def iarg (n : Int) : D := .u (.int .i64 n)
def ints (l : List Int) : U := .sl (l.map fun n => [.int .i64 n])
theorem indexI_fun (l : List (Int)) (f : FuncId) (caps : List U) (p : Int → Bool) (hf : ∀ n ∈ l, Fun Tryd.prog f (iarg n :: caps.map .u) (· = .u (.bool (p n)))) (hcl : callable Tryd.prog f = true)
    (hca : ∀ o, argsW o (caps.map .u) = some (caps.map .u, [])) : Fun Tryd.prog 106 [.u (ints l), .fnc (.func f) (caps.map .u)] (· = .u (.int .i64 (idxP p l 0))) := by
  (refine Fun.of_body Tryd.func106 rfl (by simp) fun Γ hn => ?_); simp only [entry, List.zipIdx_cons, List.zipIdx_nil, List.map_cons, List.map_nil, Nat.zero_add, Tryd.ntmps106]
  simp only [ints]
  refine V_len (x := 0) rfl fun hl => ?_
  simp at hl
  repeat' (first
    | (refine H_cons ?_; simp)
    | (refine H_nil ?_; simp)
    | (refine V_sseq ?_; simp)
    | (refine V_sblock ?_; simp)
    | fail)
  refine V_loopF (α := { i : Nat // i ≤ l.length ∧ ∀ c ∈ l.take i, p c = false }) [0, 1, 7] (fun i => [(8, .u (.int .i64 i.1))]) (fun i => l.length - i.1) ⟨0, by omega, by simp⟩ ?_ ?_
  · exact (Wk.env rfl rfl rfl (by simp [wkE, St.lp, keepE, getK_cons, getK] <;> (try (intros; simp_all; done)) <;> (try (intros; omega)) <;> (try grind)))
  rintro ⟨i, hi, hb⟩
  simp [St.lp, St.only, keepE, getK_cons, getK]
  rcases hx : l[i]? with _ | n
  · have hge : l.length ≤ i := by simpa using hx
    repeat' (first
    | (refine H_cons ?_; simp [hx])
    | (refine H_nil ?_; simp [hx])
    | (refine ⟨by omega, ?_⟩)
    | (refine V_sseq ?_; simp [hx])
    | (refine V_ret ?_; simp only [RunK])
    | (refine V_exit ?_; simp [RunK])
    | (intro hc <;> (try (exfalso; omega)))
    | fail)
    (refine EndOK.val (.inr rfl) ?_; simp [resD, oneOrTup, pureD, Tryd.results106])
    rw [List.take_of_length_le hge] at hb
    exact (idxP_none hb).symm
  · have hlt : i < l.length := (List.getElem?_eq_some_iff.1 hx).1
    have h1 := hf n (List.mem_of_getElem? hx)
    simp only [iarg] at h1
    cases hp : p n
    · rw [hp] at h1
      repeat' (first
    | (refine H_cons ?_; simp [hx, hca])
    | (refine H_nil ?_; simp [hx, hca])
    | (refine ⟨by omega, ?_⟩)
    | (refine V_sseq ?_; simp [hx, hca])
    | (refine V_scond ?_; simp [hx, hca])
    | (refine V_sregion ?_; simp [hx, hca])
    | (refine V_skip ?_; simp only [RunK])
    | (refine ⟨?_, by omega⟩)
    | (intro hc <;> (try (exfalso; omega)))
    | (refine CallP.fun_ (h1) (by first | rfl | fail) (by first | assumption | (simp; done) | fail) (by first | (simp [hx, hca]; done) | (simp [hx, hca]; rfl) | fail) (by first | (simp; done) | fail) (fun d hd => ?_); subst hd; (try simp [hx, hca]))
    | fail)
      refine LoopW.next ⟨i + 1, by omega, take_succ_all hx hb hp⟩ (by simp; omega) ?_
      exact (Wk.env rfl rfl rfl (by simp [wkE, St.lp, keepE, getK_cons, getK] <;> (try (intros; simp_all; done)) <;> (try (intros; omega)) <;> (try grind)))
    · rw [hp] at h1
      repeat' (first
    | (refine H_cons ?_; simp [hx, hca])
    | (refine H_nil ?_; simp [hx, hca])
    | (refine V_sseq ?_; simp [hx, hca])
    | (refine V_scond ?_; simp [hx, hca])
    | (refine V_ret ?_; simp only [RunK])
    | (refine V_skip ?_; simp only [RunK])
    | (refine ⟨?_, by omega⟩)
    | (intro hc <;> (try (exfalso; omega)))
    | (refine CallP.fun_ (h1) (by first | rfl | fail) (by first | assumption | (simp; done) | fail) (by first | (simp [hx, hca]; done) | (simp [hx, hca]; rfl) | fail) (by first | (simp; done) | fail) (fun d hd => ?_); subst hd; (try simp [hx, hca]))
    | fail)
      (refine EndOK.val (.inr rfl) ?_; simp [resD, oneOrTup, pureD, Tryd.results106])
      rw [idxP_at hb hx hp]
      omega
theorem containsI_fun (l : List (Int)) (f : FuncId) (caps : List U) (p : Int → Bool) (hf : ∀ n ∈ l, Fun Tryd.prog f (iarg n :: caps.map .u) (· = .u (.bool (p n)))) (hcl : callable Tryd.prog f = true)
    (hca : ∀ o, argsW o (caps.map .u) = some (caps.map .u, [])) (hcb : ∀ o, argsU1 o (caps.map .u) = some (caps, [])) : Fun Tryd.prog 85 [.u (ints l), .fnc (.func f) (caps.map .u)] (· = .u (.bool (l.any p))) := by
  have h1 := indexI_fun l f caps p hf hcl hca
  (refine Fun.of_body Tryd.func85 rfl (by simp) fun Γ hn => ?_); simp only [entry, List.zipIdx_cons, List.zipIdx_nil, List.map_cons, List.map_nil, Nat.zero_add, Tryd.ntmps85]
  simp only [ints] at h1 ⊢
  repeat' (first
    | (refine H_cons ?_; simp [hcb])
    | (refine H_nil ?_; simp [hcb])
    | (refine V_sseq ?_; simp [hcb])
    | (refine V_ret ?_; simp only [RunK])
    | (refine CallP.fun_ (h1) (by first | rfl | fail) (by first | assumption | (simp; done) | fail) (by first | (simp [hcb]; done) | (simp [hcb]; rfl) | fail) (by first | (simp; done) | fail) (fun d hd => ?_); subst hd; (try simp [hcb]))
    | fail)
  (refine EndOK.val (.inr rfl) ?_; simp [resD, oneOrTup, pureD, Tryd.results85])
  have h2 := idxP_any p l 0 (by omega)
  rw [Bool.eq_iff_iff]
  simpa using h2
def lagg (l : Let) : D := .u (.agg [.str l.name, .int .i64 l.body.op, .int .i64 l.body.n, .int .i64 l.body.unit, .str l.body.s, .sl (l.body.args.map Exp.row)])
def letsU (l : List Let) : U := .sl (l.map fun l => [.str l.name, .int .i64 l.body.op, .int .i64 l.body.n, .int .i64 l.body.unit, .str l.body.s, .sl (l.body.args.map Exp.row)])
theorem indexL_fun (l : List (Let)) (f : FuncId) (caps : List U) (p : Let → Bool) (hf : ∀ n ∈ l, Fun Tryd.prog f (lagg n :: caps.map .u) (· = .u (.bool (p n)))) (hcl : callable Tryd.prog f = true)
    (hca : ∀ o, argsW o (caps.map .u) = some (caps.map .u, [])) : Fun Tryd.prog 87 [.u (letsU l), .fnc (.func f) (caps.map .u)] (· = .u (.int .i64 (idxP p l 0))) := by
  (refine Fun.of_body Tryd.func87 rfl (by simp) fun Γ hn => ?_); simp only [entry, List.zipIdx_cons, List.zipIdx_nil, List.map_cons, List.map_nil, Nat.zero_add, Tryd.ntmps87]
  simp only [letsU]
  refine V_len (x := 0) rfl fun hl => ?_
  simp at hl
  repeat' (first
    | (refine H_cons ?_; simp)
    | (refine H_nil ?_; simp)
    | (refine V_sseq ?_; simp)
    | (refine V_sblock ?_; simp)
    | fail)
  refine V_loopF (α := { i : Nat // i ≤ l.length ∧ ∀ c ∈ l.take i, p c = false }) [0, 1, 7] (fun i => [(8, .u (.int .i64 i.1))]) (fun i => l.length - i.1) ⟨0, by omega, by simp⟩ ?_ ?_
  · exact (Wk.env rfl rfl rfl (by simp [wkE, St.lp, keepE, getK_cons, getK] <;> (try (intros; simp_all; done)) <;> (try (intros; omega)) <;> (try grind)))
  rintro ⟨i, hi, hb⟩
  simp [St.lp, St.only, keepE, getK_cons, getK]
  rcases hx : l[i]? with _ | n
  · have hge : l.length ≤ i := by simpa using hx
    repeat' (first
    | (refine H_cons ?_; simp [hx])
    | (refine H_nil ?_; simp [hx])
    | (refine ⟨by omega, ?_⟩)
    | (refine V_sseq ?_; simp [hx])
    | (refine V_ret ?_; simp only [RunK])
    | (refine V_exit ?_; simp [RunK])
    | (intro hc <;> (try (exfalso; omega)))
    | fail)
    (refine EndOK.val (.inr rfl) ?_; simp [resD, oneOrTup, pureD, Tryd.results87])
    rw [List.take_of_length_le hge] at hb
    exact (idxP_none hb).symm
  · have hlt : i < l.length := (List.getElem?_eq_some_iff.1 hx).1
    have h1 := hf n (List.mem_of_getElem? hx)
    simp only [lagg] at h1
    cases hp : p n
    · rw [hp] at h1
      repeat' (first
    | (refine H_cons ?_; simp [hx, hca])
    | (refine H_nil ?_; simp [hx, hca])
    | (refine ⟨by omega, ?_⟩)
    | (refine V_sseq ?_; simp [hx, hca])
    | (refine V_scond ?_; simp [hx, hca])
    | (refine V_sregion ?_; simp [hx, hca])
    | (refine V_skip ?_; simp only [RunK])
    | (refine ⟨?_, by omega⟩)
    | (intro hc <;> (try (exfalso; omega)))
    | (refine CallP.fun_ (h1) (by first | rfl | fail) (by first | assumption | (simp; done) | fail) (by first | (simp [hx, hca]; done) | (simp [hx, hca]; rfl) | fail) (by first | (simp; done) | fail) (fun d hd => ?_); subst hd; (try simp [hx, hca]))
    | fail)
      refine LoopW.next ⟨i + 1, by omega, take_succ_all hx hb hp⟩ (by simp; omega) ?_
      exact (Wk.env rfl rfl rfl (by simp [wkE, St.lp, keepE, getK_cons, getK] <;> (try (intros; simp_all; done)) <;> (try (intros; omega)) <;> (try grind)))
    · rw [hp] at h1
      repeat' (first
    | (refine H_cons ?_; simp [hx, hca])
    | (refine H_nil ?_; simp [hx, hca])
    | (refine V_sseq ?_; simp [hx, hca])
    | (refine V_scond ?_; simp [hx, hca])
    | (refine V_ret ?_; simp only [RunK])
    | (refine V_skip ?_; simp only [RunK])
    | (refine ⟨?_, by omega⟩)
    | (intro hc <;> (try (exfalso; omega)))
    | (refine CallP.fun_ (h1) (by first | rfl | fail) (by first | assumption | (simp; done) | fail) (by first | (simp [hx, hca]; done) | (simp [hx, hca]; rfl) | fail) (by first | (simp; done) | fail) (fun d hd => ?_); subst hd; (try simp [hx, hca]))
    | fail)
      (refine EndOK.val (.inr rfl) ?_; simp [resD, oneOrTup, pureD, Tryd.results87])
      rw [idxP_at hb hx hp]
      omega
theorem containsL_fun (l : List (Let)) (f : FuncId) (caps : List U) (p : Let → Bool) (hf : ∀ n ∈ l, Fun Tryd.prog f (lagg n :: caps.map .u) (· = .u (.bool (p n)))) (hcl : callable Tryd.prog f = true)
    (hca : ∀ o, argsW o (caps.map .u) = some (caps.map .u, [])) (hcb : ∀ o, argsU1 o (caps.map .u) = some (caps, [])) : Fun Tryd.prog 60 [.u (letsU l), .fnc (.func f) (caps.map .u)] (· = .u (.bool (l.any p))) := by
  have h1 := indexL_fun l f caps p hf hcl hca
  (refine Fun.of_body Tryd.func60 rfl (by simp) fun Γ hn => ?_); simp only [entry, List.zipIdx_cons, List.zipIdx_nil, List.map_cons, List.map_nil, Nat.zero_add, Tryd.ntmps60]
  simp only [letsU] at h1 ⊢
  repeat' (first
    | (refine H_cons ?_; simp [hcb])
    | (refine H_nil ?_; simp [hcb])
    | (refine V_sseq ?_; simp [hcb])
    | (refine V_ret ?_; simp only [RunK])
    | (refine CallP.fun_ (h1) (by first | rfl | fail) (by first | assumption | (simp; done) | fail) (by first | (simp [hcb]; done) | (simp [hcb]; rfl) | fail) (by first | (simp; done) | fail) (fun d hd => ?_); subst hd; (try simp [hcb]))
    | fail)
  (refine EndOK.val (.inr rfl) ?_; simp [resD, oneOrTup, pureD, Tryd.results60])
  have h2 := idxP_any p l 0 (by omega)
  rw [Bool.eq_iff_iff]
  simpa using h2
structure By where
  kind : Int
  period : Int
  grace : Int
  wait : Int
  last : Int
  order : Int
  sld : Bool
  backs : Int
  voices : Int
  jury : Int
  fund : Int
  lets : List Let
  due : Exp
  fine : Exp
  pay : Exp
  cover : Exp
  hold : Exp
  deriving Inhabited
end Go.Proofs.YtfcopibncpkdoaaDoor
namespace Go.Proofs.YtfcopibncpkdoaaDoor
open Go Go.VL Go.ChangeShapes Go.WideShapes Go.ChangeAt Go.RowKit
theorem Tryd.own : ownKnob Tryd.prog.godebug = none := by kernel_rfl
theorem Tryd.laidOut : laidOutB Tryd.prog = true := by kernel_rfl
theorem Tryd.seqs : seqAll Tryd.prog = true := by kernel_rfl
theorem exp_of : ∀ (m : Nat) (r : List U), SizeOf.sizeOf r ≤ m → HasRow Tryd.prog 24 r → ∃ e : Exp, r = e.row
  | 0, r, hm, _ => by cases r <;> simp at hm
  | m + 1, r, hm, h => by
    obtain ⟨rs, hr, h⟩ := h.of_struct sf24
    match rs, h with
    | [a, b, c, d, f], h =>
      obtain ⟨h1, h2, h3, h4, h5, _⟩ := h
      obtain ⟨x, rfl, _⟩ := h1.of_int io3
      obtain ⟨y, rfl, _⟩ := h2.of_int io3
      obtain ⟨z, rfl, _⟩ := h3.of_int io3
      obtain ⟨s, rfl, _⟩ := h4.of_str (by simp)
      obtain ⟨rows, rfl, _, h6⟩ := h5.of_slice es22
      have hsz : ∀ q ∈ rows, SizeOf.sizeOf q ≤ m := fun q hq => by
        have := List.sizeOf_lt_of_mem hq
        rw [hr] at hm
        simp at hm
        omega
      obtain ⟨l, rfl, _⟩ := rows_list Exp.row (fun _ => True) (rows := rows) fun q hq => by
        obtain ⟨e, he⟩ := exp_of m q (hsz q hq) (h6 q hq)
        exact ⟨e, he, trivial⟩
      exact ⟨.mk x y z s l, by rw [hr, Exp.row_eq]; rfl⟩
theorem expU_of {r : List U} (h : HasRow Tryd.prog 24 r) : ∃ e : Exp, r = [.int .i64 e.op, .int .i64 e.n, .int .i64 e.unit, .str e.s, .sl (e.args.map Exp.row)] := by
  obtain ⟨e, rfl⟩ := exp_of _ r (Nat.le_refl _) h
  exact ⟨e, e.row_eq⟩
theorem let_of {r : List U} (h : HasRow Tryd.prog 27 r) : ∃ l : Let, r = [.str l.name, .int .i64 l.body.op, .int .i64 l.body.n, .int .i64 l.body.unit, .str l.body.s, .sl (l.body.args.map Exp.row)] ∧ True := by
  obtain ⟨rs, hr, h⟩ := h.of_struct sf27
  match rs, h with
  | [a, b], h =>
    obtain ⟨h1, h2, _⟩ := h
    obtain ⟨x, rfl, _⟩ := h1.of_str (by simp)
    obtain ⟨e, rfl⟩ := expU_of h2
    exact ⟨⟨x, e⟩, by rw [hr]; rfl, trivial⟩
theorem var_of {r : List U} (h : HasRow Tryd.prog 33 r) : ∃ c : Var, r = [.str c.name, .int .i64 c.unit, .int .i64 c.n] ∧ True := by
  obtain ⟨rs, hr, h⟩ := h.of_struct sf33
  match rs, h with
  | [a, b, c], h =>
    obtain ⟨h1, h2, h3, _⟩ := h
    obtain ⟨x, rfl, _⟩ := h1.of_str (by simp)
    obtain ⟨y, rfl, _⟩ := h2.of_int io3
    obtain ⟨z, rfl, _⟩ := h3.of_int io3
    exact ⟨⟨x, y, z⟩, hr, trivial⟩
theorem vars_of {u : U} (h : ArgU Tryd.prog 25 u) : ∃ l : List Var, u = .sl (l.map fun v => [.str v.name, .int .i64 v.unit, .int .i64 v.n]) := by
  obtain ⟨rows, h1, _, h2⟩ := (h.one (by simp) (by simp)).of_slice es25
  obtain ⟨l, rfl, _⟩ := rows_list (fun v : Var => [.str v.name, .int .i64 v.unit, .int .i64 v.n]) (fun _ => True) fun r hr => var_of (h2 r hr)
  exact ⟨l, by simp at h1; exact h1⟩
theorem str_of {u : U} (h : ArgU Tryd.prog 9 u) : ∃ n, u = .str n := by
  obtain ⟨n, h1, _⟩ := (h.one (by simp) (by simp)).of_str (by simp)
  exact ⟨n, by simpa using h1⟩
end Go.Proofs.YtfcopibncpkdoaaDoor
namespace Go.VL
open Go
/-- An entry put into a map. -/
abbrev InsE := Nat × Key × List D
def putE (o : List (Nat × Ob)) (e : InsE) : List (Nat × Ob) := match getK o e.1 with | some (.map kk ag es) => setOb o e.1 (.map kk ag (updK es e.2.1 e.2.2)) | _ => o
def insL : List InsE → List (Nat × Ob) → List (Nat × Ob)
  | [], o => o
  | e :: L, o => insL L (putE o e)
def obE (e : InsE) (x : Option Ob) : Option Ob := match x with | some (.map kk ag es) => some (.map kk ag (updK es e.2.1 e.2.2)) | x => x
def insO : List InsE → Nat → Option Ob → Option Ob
  | [], _, x => x
  | e :: L, z, x => insO L z (if z = e.1 then obE e x else x)
theorem getK_insL : ∀ (L : List InsE) (o : List (Nat × Ob)) (z : Nat), getK (insL L o) z = insO L z (getK o z)
  | [], _, _ => rfl
  | e :: L, o, z => by
    rw [insL, getK_insL L, insO]
    congr 1
    unfold putE obE
    by_cases hz : z = e.1
    · subst hz
      rw [if_pos rfl]
      cases hg : getK o e.1 with
      | none => exact hg
      | some ob => cases ob <;> simp [hg, getK_setOb, getK_cons]
    · rw [if_neg hz]
      cases hg : getK o e.1 with
      | none => rfl
      | some ob => cases ob <;> simp [getK_setOb, getK_cons, hz]
/-- This operation puts this entry into a map that was empty. -/
def InsOK (P : Program) (st : St) (op : Op) (e : InsE) : Prop :=
  ∃ t x ki v kk ag z ku, (op = .mapUpdate t x ki v ∨ op = .insert t x ki v) ∧ mapInf P t = some (kk, ag, z) ∧ opd st x = .mp e.1 ∧ opd st ki = .u ku ∧ keyU ku = some e.2.1 ∧ e.2.1.kk = kk ∧ valM ag (opd st v) = some e.2.2 ∧ getK st.obs e.1 = some (.map kk ag [])
theorem InsOK.base {P st op e} (h : InsOK P st op e) : ∃ kk ag, getK st.obs e.1 = some (.map kk ag []) := by
  obtain ⟨t, x, ki, v, kk, ag, z, ku, _, _, _, _, _, _, _, h⟩ := h
  exact ⟨kk, ag, h⟩
end Go.VL
namespace Go.VL
open Go
abbrev Ent.no : Ent := (.un, [], none, [])
def Op3 (P : Program) (s : St) (o : O1) (e : Ent) : Option InsE → Prop
  | none => putOK o.dst s ∧ Op2 P s o e
  | some q => e = Ent.no ∧ o.guard = none ∧ o.dst = none ∧ InsOK P s o.op q
def chain3 (P : Program) : List O1 → St → Fp → List (Option InsE) → (St → Fp → List (Option InsE) → Prop) → Prop
  | [], s, fp, ins, k => k s fp ins
  | o :: rest, s, fp, ins, k => ∃ (e : Ent) (q : Option InsE), Op3 P s o e q ∧ (∀ x, e.2.2.1 = some x → x = s.next) ∧ chain3 P rest (s.app o.dst e) (fp ++ [(e.2.2.2, keys e.2.1)]) (ins ++ [q]) k
def St.ins (s : St) (ins : List (Option InsE)) : St := { s with obs := insL (ins.filterMap id) s.obs }
def HD3 (P : Program) (l : List O1) (s : St) (fp : Fp) (ins : List (Option InsE)) (C : Fp → List (Option InsE) → Prop) (k : St → Prop) : Prop :=
  ∀ s0 : St, s0.Eqo s → chain3 P l s0 fp ins fun s1 fp ins => C fp ins ∧ ∃ s', (s1.ins ins).Eqo s' ∧ k s'
theorem St.Eqo.ins {s s' : St} (h : s.Eqo s') (L : List (Option InsE)) : (s.ins L).Eqo (s'.ins L) :=
  ⟨h.1, fun x => by simp only [St.ins, getK_insL, h.2.1 x], h.2.2.1, h.2.2.2⟩
theorem InsOK.eqo {P : Program} {s s' : St} {op : Op} {q : InsE} (e : s'.Eqo s) (h : InsOK P s op q) : InsOK P s' op q := by
  obtain ⟨t, x, ki, v, kk, ag, z, ku, h1, h2, h3, h4, h5, h6, h7, h8⟩ := h
  have ho : ∀ x, opd s' x = opd s x := fun x => by cases x <;> simp [opd, St.at, e.2.2.2]
  exact ⟨t, x, ki, v, kk, ag, z, ku, h1, h2, by rw [ho]; exact h3, by rw [ho]; exact h4, h5, h6, by rw [ho]; exact h7, by rw [e.2.1]; exact h8⟩
theorem cg_HD3 {P l s s' fp fp' ins ins' C k} (h : s = s') (h' : fp = fp') (h'' : ins = ins') : HD3 P l s fp ins C k = HD3 P l s' fp' ins' C k := by rw [h, h', h'']
attribute [congr] cg_HD3
end Go.VL
namespace Go.VL
open Go
def idOf : D → Option Nat
  | .ptr i _ => some i
  | .vec i _ => some i
  | .elt i _ _ _ => some i
  | .mp i => some i
  | _ => none
/-- Which object of the one state is which object of the other. -/
def rhoL (e : List (Nat × D)) : List (Nat × D) → List (Nat × Nat)
  | [] => []
  | p :: l => match idOf p.2, (getK e p.1).bind idOf with
    | some i, some m => (i, m) :: rhoL e l
    | _, _ => rhoL e l
def rhoF : List (Nat × Nat) → Nat → Nat
  | [], i => i
  | p :: l, i => if i = p.1 then p.2 else rhoF l i
theorem Wk.auto {Γ : Ctx} {s s' : St} (l : List (Nat × Nat)) (_ : rhoL s.env s'.env = l) (hn : s'.n = s.n) (hx : ∀ i, i < Γ.n0 → rhoF l i = i ∧ i < s'.next) (he : wkER s (rhoF l) s'.next s'.env) (ho : wkR s (rhoF l) s'.next s'.obs)
    (hi : ∀ i ∈ s'.obs.map (·.1), ∀ j ∈ s'.obs.map (·.1), rhoF l i = rhoF l j → i = j) : Wk Γ s s' := Wk.ren (rhoF l) hn hx he ho hi
end Go.VL
namespace Go.VL
open Go Go.Sort Go.Proofs
end Go.VL
namespace Go.VL
open Go
def fam (b : Nat) : List Ob → List (Nat × Ob)
  | [] => []
  | o :: l => (b, o) :: fam (b + 1) l
theorem getK_fam : ∀ (b : Nat) (l : List Ob) (j : Nat), getK (fam b l) j = if b ≤ j then l[j - b]? else none
  | b, [], j => by simp [fam, getK]
  | b, o :: l, j => by
    rw [fam, getK_cons, getK_fam (b + 1) l j]
    by_cases h : j = b
    · subst h; simp
    · rw [if_neg h]
      by_cases h2 : b ≤ j
      · rw [if_pos (show b + 1 ≤ j by omega), if_pos h2, show j - b = (j - (b + 1)) + 1 by omega, List.getElem?_cons_succ]
      · rw [if_neg (by omega), if_neg h2]
theorem getK_fam_add (b : Nat) (l : List Ob) (i : Nat) : getK (fam b l) (i + b) = l[i]? := by rw [getK_fam, if_pos (by omega), Nat.add_sub_cancel]
theorem Wk.eqo {Γ : Ctx} {s s' : St} (h : s.Eqo s') : Wk Γ s s' := fun K _ _ h1 h2 => ⟨K, h1, h2.eqo h⟩
/-- The objects end in T; those ahead of it lie outside of its numbers. -/
def EndsIn (T : List (Nat × Ob)) (b k : Nat) : List (Nat × Ob) → Prop
  | [] => T = []
  | p :: l => (p :: l = T) ∨ ((p.1 < b ∨ k + b ≤ p.1) ∧ EndsIn T b k l)
theorem EndsIn.out {T b k} : ∀ {obs}, EndsIn T b k obs → ∃ A, obs = A ++ T ∧ ∀ p ∈ A, p.1 < b ∨ k + b ≤ p.1
  | [], h => ⟨[], by rw [show T = [] from h]; rfl, by simp⟩
  | p :: l, h => by
    rcases h with h | ⟨h1, h2⟩
    · exact ⟨[], by rw [h]; rfl, by simp⟩
    · obtain ⟨A, e, h3⟩ := EndsIn.out h2
      exact ⟨p :: A, by rw [e]; rfl, fun q hq => (List.mem_cons.1 hq).elim (fun e => by rw [e]; exact h1) (h3 q)⟩
theorem EndsIn.get {L : List Ob} {b obs} (h : EndsIn (fam b L) b L.length obs) {i : Nat} (hi : i < L.length) : getK obs (i + b) = L[i]? := by
  obtain ⟨A, rfl, h2⟩ := h.out
  rw [getK_append]
  have : getK A (i + b) = none := by
    cases hq : getK A (i + b) with
    | none => rfl
    | some o =>
      obtain ⟨p, hp, e⟩ := List.mem_map.1 (getK_mem hq)
      have := h2 p hp
      omega
  rw [this, getK_fam_add]
def famPure (L : List Ob) : Prop := ∀ o ∈ L, ∃ e sz B, o = .vec e sz B ∧ pureRows B
theorem famPure.under {L : List Ob} (h : famPure L) {o : Ob} (ho : o ∈ L) (nx : Nat) : o.under nx = true := by
  obtain ⟨e, sz, B, rfl, hB⟩ := h o ho
  exact Ob.under_vec (pureRows_out hB)
theorem Ret.re {P : Program} {f : FuncId} {ds : List D} {obs : List (Nat × Ob)} {nx : Nat} {p q : D → List (Nat × Ob) → Nat → Prop} (h : Ret P f ds obs nx p) (hq : ∀ d o n, p d o n → ∃ o', (∀ j, getK o' j = getK o j) ∧ q d o' n) : Ret P f ds obs nx q :=
  fun k own w vs h1 h2 h3 h4 => (h k own w vs h1 h2 h3 h4).mono fun e w' ⟨v, d, o, nx', k', a1, a2, a3, a4, a5, a6, a7⟩ =>
    let ⟨o', b1, b2⟩ := hq d o nx' a7
    ⟨v, d, o', nx', k', a1, a2, a3.congr b1, a4, a5, a6, b2⟩
end Go.VL
namespace Go.VL
open Go
theorem CallP_wk {P : Program} {Γ : Ctx} {s s' : St} {k : St → Prop} {dst : Option Tmp} {fop : Operand} {args : List Operand} (hw : Wk Γ s s') (h : CallP P Γ fop args dst s' k) : CallP P Γ fop args dst s k := fun ts ty pos after K a w hin hs =>
  let ⟨K', h1, h2⟩ := hw K a w hin hs
  h ts ty pos after K' a w h1 h2
end Go.VL
namespace Go.VL
open Go
/-- How a call ends: a value, or a panic. -/
inductive Out where
  | val (d : D)
  | pan (ch : List PanicEntry)
def OutRep (k : Kr) (e : Ending) : Out → Prop
  | .val d => ∃ v, e = .returned v ∧ Rep k d v
  | .pan ch => e = .panicked ch
/-- What a call gives back, or how it panics. -/
def RetX (P : Program) (f : FuncId) (ds : List D) (obs : List (Nat × Ob)) (nx : Nat) (post : Out → List (Nat × Ob) → Nat → Prop) : Prop :=
  ∀ (k : Kr) (own : Nat → Prop) (w : World) (vs : Array Value), Sat k own obs w → (∀ i, nx ≤ i → k.hdr i = none) → (∀ b, w.heap.size ≤ b → own b) → RepL k ds vs →
    Calls P f vs w fun e w' => ∃ r obs' nx' k', OutRep k' e r ∧ In (.of own k nx w) k' w' ∧ Sat k' own obs' w' ∧ (∀ i, nx' ≤ i → k'.hdr i = none) ∧ nx ≤ nx' ∧ post r obs' nx'
theorem Ret.x {P f ds obs nx post} (h : Ret P f ds obs nx post) : RetX P f ds obs nx fun r o n => match r with | .val d => post d o n | .pan _ => False :=
  fun k own w vs h1 h2 h3 h4 => (h k own w vs h1 h2 h3 h4).mono fun _ _ ⟨v, d, o, n, k', e, a, b, c, g, r, hp⟩ => ⟨.val d, o, n, k', ⟨v, e, r⟩, a, b, c, g, hp⟩
theorem RetX.mono {P f ds obs nx} {p q : Out → List (Nat × Ob) → Nat → Prop} (h : RetX P f ds obs nx p) (hq : ∀ r o n, p r o n → q r o n) : RetX P f ds obs nx q :=
  fun k own w vs h1 h2 h3 h4 => (h k own w vs h1 h2 h3 h4).mono fun _ _ ⟨r, o, n, k', e, a, b, c, g, hp⟩ => ⟨r, o, n, k', e, a, b, c, g, hq _ _ _ hp⟩
theorem RetX.ret {P f ds obs nx} {p : Out → List (Nat × Ob) → Nat → Prop} {q : D → List (Nat × Ob) → Nat → Prop} (h : RetX P f ds obs nx p) (hv : ∀ d o n, p (.val d) o n → q d o n) (hx : ∀ ch o n, ¬ p (.pan ch) o n) : Ret P f ds obs nx q :=
  fun k own w vs h1 h2 h3 h4 => (h k own w vs h1 h2 h3 h4).mono fun _ _ ⟨r, o, n, k', e, a, b, c, g, hp⟩ => by
    cases r with
    | val d =>
      obtain ⟨v, e, hr⟩ := e
      exact ⟨v, d, o, n, k', e, a, b, c, g, hr, hv d o n hp⟩
    | pan ch => exact absurd hp (hx ch o n)
theorem RetX.congr {P f ds obs obs' nx post} (h : RetX P f ds obs nx post) (e : ∀ i, getK obs' i = getK obs i) : RetX P f ds obs' nx post :=
  fun k own w vs hsat hhdr hfresh hrep => h k own w vs (Sat.congr hsat fun i => (e i).symm) hhdr hfresh hrep
/-- What a call does not know of stays az it is: the memory behind it. -/
theorem frame_sat {k k' : Kr} {own : Nat → Prop} {obs F o1 : List (Nat × Ob)} {nx : Nat} {w w' : World} (hsat : Sat k own (F ++ obs) w)
    (hin : In (.of (fun b => own b ∧ ¬ Blk k F b) k nx w) k' w') (hs1 : Sat k' (fun b => own b ∧ ¬ Blk k F b) o1 w') : Sat k' own (F ++ o1) w' := by
  have hfo : ∀ i ob, getK F i = some ob → getK (F ++ obs) i = some ob := fun i ob hi => by rw [getK_append, hi]
  have hFat : ∀ i ob, getK F i = some ob → ∃ g, k.hdr i = some g ∧ k'.hdr i = some g ∧ (∀ b, g.1 = some b → own b ∧ (∀ o, k'.mem b o = none) ∧ Blk k F b) ∧ ObAt k' w' g ob := fun i ob hi => by
    obtain ⟨g, h1, h2, h3⟩ := hsat.ob i ob (hfo i ob hi)
    have hB : ∀ b, g.1 = some b → Blk k F b := fun b hb => ⟨i, ob, g, hi, h1, hb⟩
    refine ⟨g, h1, hin.le.hdr i g h1, fun b hb => ⟨(h2 b hb).1, fun o => ?_, hB b hb⟩, h3.keep hin.le fun b hb => hin.block b fun hb' => hb'.2 (hB b hb)⟩
    cases hm : k'.mem b o with
    | none => rfl
    | some x =>
      rcases hin.memNew b o x hm with h4 | h4
      · have h4' : k.mem b o = some x := h4
        rw [(h2 b hb).2 o] at h4'; cases h4'
      · exact absurd (hB b hb) h4.2
  refine ⟨hs1.mem, fun i ob hi => ?_, fun i j x y g g' b hx hy hij hg hg' hb => ?_⟩
  · rw [getK_append] at hi
    cases hf : getK F i with
    | some x =>
      rw [hf] at hi
      cases hi
      obtain ⟨g, _, h2, h3, h4⟩ := hFat i _ hf
      exact ⟨g, h2, fun b hb => ⟨(h3 b hb).1, (h3 b hb).2.1⟩, h4⟩
    | none =>
      rw [hf] at hi
      obtain ⟨g, h1, h2, h3⟩ := hs1.ob i ob hi
      exact ⟨g, h1, fun b hb => ⟨(h2 b hb).1.1, (h2 b hb).2⟩, h3⟩
  · rw [getK_append] at hx hy
    cases hfx : getK F i with
    | some x' =>
      obtain ⟨g1, k1, k2, k3, _⟩ := hFat i _ hfx
      rw [hg] at k2
      cases k2
      cases hfy : getK F j with
      | some y' =>
        obtain ⟨g2, l1, l2, l3, _⟩ := hFat j _ hfy
        rw [hg'] at l2
        cases l2
        exact hsat.apart i j x' y' g g' b (hfo i _ hfx) (hfo j _ hfy) hij k1 l1 hb
      | none =>
        rw [hfy] at hy
        obtain ⟨g2, l1, l2, _⟩ := hs1.ob j y hy
        rw [hg'] at l1
        cases l1
        exact fun e => (l2 b e).1.2 (k3 b hb).2.2
    | none =>
      rw [hfx] at hx
      cases hfy : getK F j with
      | some y' =>
        obtain ⟨g2, l1, l2, l3, _⟩ := hFat j _ hfy
        rw [hg'] at l2
        cases l2
        obtain ⟨g1, k1, k2, _⟩ := hs1.ob i x hx
        rw [hg] at k1
        cases k1
        exact fun e => (k2 b hb).1.2 (l3 b e).2.2
      | none =>
        rw [hfy] at hy
        exact hs1.apart i j x y g g' b hx hy hij hg hg' hb
theorem frame_sat0 {k : Kr} {own : Nat → Prop} {obs F : List (Nat × Ob)} {w : World} (hF : ∀ i ob, getK F i = some ob → getK obs i = none) (hsat : Sat k own (F ++ obs) w) : Sat k (fun b => own b ∧ ¬ Blk k F b) obs w := by
  have hob : ∀ i ob, getK obs i = some ob → getK F i = none ∧ getK (F ++ obs) i = some ob := fun i ob hi => by
    have hn : getK F i = none := by
      cases hf : getK F i with
      | none => rfl
      | some x => rw [hF i x hf] at hi; cases hi
    exact ⟨hn, by rw [getK_append, hn]; exact hi⟩
  have hfo : ∀ i ob, getK F i = some ob → getK (F ++ obs) i = some ob := fun i ob hi => by rw [getK_append, hi]
  refine ⟨hsat.mem, fun i ob hi => ?_, fun i j x y g g' b hx hy hij => ?_⟩
  · obtain ⟨hn, hi'⟩ := hob i ob hi
    obtain ⟨g, h1, h2, h3⟩ := hsat.ob i ob hi'
    refine ⟨g, h1, fun b hb => ⟨⟨(h2 b hb).1, ?_⟩, (h2 b hb).2⟩, h3⟩
    rintro ⟨j, oj, g', h4, h5, h6⟩
    exact hsat.apart i j ob oj g g' b hi' (hfo j oj h4) (fun e => by subst e; rw [hn] at h4; cases h4) h1 h5 hb h6
  · exact hsat.apart i j x y g g' b (hob i x hx).2 (hob j y hy).2 hij
theorem frame_fresh {k : Kr} {own : Nat → Prop} {obs F : List (Nat × Ob)} {w : World} (hsat : Sat k own (F ++ obs) w) (hfresh : ∀ b, w.heap.size ≤ b → own b) : ∀ b, w.heap.size ≤ b → own b ∧ ¬ Blk k F b := fun b hb => by
  refine ⟨hfresh b hb, fun hB => ?_⟩
  obtain ⟨i, ob, g, h1, h2, h3⟩ := hB
  exact absurd (hsat.lt ⟨i, ob, g, by rw [getK_append, h1], h2, h3⟩) (by omega)
theorem frame_in {k k' : Kr} {own : Nat → Prop} {F : List (Nat × Ob)} {nx : Nat} {w w' : World} (hfresh : ∀ b, w.heap.size ≤ b → own b) (hin : In (.of (fun b => own b ∧ ¬ Blk k F b) k nx w) k' w') : In (.of own k nx w) k' w' :=
  ⟨hin.le, hin.none0, fun b o x hx => (hin.memNew b o x hx).imp id (·.1), hfresh, hin.os, hin.tape, hin.output, hin.size, fun b hb => hin.block b fun hb' => hb hb'.1⟩
theorem RetX.frame {P f ds obs nx post} (F : List (Nat × Ob)) (hF : ∀ i ob, getK F i = some ob → getK obs i = none) (h : RetX P f ds obs nx post) :
    RetX P f ds (F ++ obs) nx (fun r o n => ∃ o1, o = F ++ o1 ∧ post r o1 n) := by
  intro k own w vs hsat hhdr hfresh hrep
  refine (h k _ w vs (frame_sat0 hF hsat) hhdr (frame_fresh hsat hfresh) hrep).mono ?_
  rintro e w' ⟨r, o1, n', k', he, hin, hs1, hh1, hle, hp⟩
  exact ⟨r, F ++ o1, n', k', he, frame_in hfresh hin, frame_sat hsat hin hs1, hh1, hle, o1, rfl, hp⟩
/-- A call that may panic, by what it does to the objects. -/
theorem EffP.callX {P Γ s k} {fop : Operand} {args : Array Operand} {ts : Array TypeId} {ty : TypeId} {f caps dst pos after} {ds : List D} {post : Out → List (Nat × Ob) → Nat → Prop}
    (hf : calleeOf (opd s fop) = some (f, caps)) (hc : callable P f = true) (hds : args.toList.map (opd s) ++ caps = ds) (hret : RetX P f ds s.obs s.next post) (hp : putOK dst s)
    (hk : ∀ d obs' nx', s.next ≤ nx' → post (.val d) obs' nx' → k (({ s with obs := obs', next := nx' } : St).put dst d))
    (hx : ∀ ch obs' nx', s.next ≤ nx' → post (.pan ch) obs' nx' → ∃ s2, Wk Γ { s with obs := obs', next := nx' } s2 ∧ Γ.pan ch s2) :
    EffP P Γ { dst, op := .call { callee := .value fop, args, argTypes := ts }, type := ty, pos, after, guard := none } s k := by
  intro K a w hin hs Kont Q hK hP
  obtain ⟨vs, hrep, hrun⟩ := call_run hs (args := args) (ts := ts) (ty := ty) hf hc dst pos after none
  rw [hds] at hrep
  unfold Oper.wp
  rw [hrun]
  refine Calls.mono (hret K Γ.own w vs hs.sat hs.hdr (fun b hb => hin.own_of_ge hb) hrep) ?_
  rintro e w' ⟨r, obs', nx', k', hr, hin', hsat', hhdr', hnx, hpost⟩
  have hle : K.le k' := hin'.le
  have hin2 : In Γ k' w' := hin.step hle (fun b o v e => hin'.memNew b o v e) hin'.os hin'.tape hin'.output hin'.size hin'.block
  have hsim : Sim k' Γ.own ({ s with obs := obs', next := nx' } : St) a w' := ⟨hsat', hs.defers, hs.size, fun x d hx => ⟨(hs.env x d hx).1, (hs.env x d hx).2.mono hle⟩, hhdr'⟩
  cases r with
  | val d =>
    obtain ⟨v, rfl, hr⟩ := hr
    exact hK k' _ w' _ hin2 (hsim.put (by cases dst <;> simp_all [putOK]) hr) (hk d obs' nx' hnx hpost)
  | pan ch =>
    obtain rfl := hr
    obtain ⟨s2, hw, hpn⟩ := hx ch obs' nx' hnx hpost
    obtain ⟨k2, g1, g2⟩ := hw k' a w' hin2 hsim
    exact hP ch k2 a w' s2 g1 g2 hpn
theorem CallP.x_ {P : Program} {Γ : Ctx} {s : St} {k : St → Prop} {dst : Option Tmp} {fop : Operand} {args : List Operand} {f caps} {ds : List D} {post : Out → List (Nat × Ob) → Nat → Prop} (hret : RetX P f ds s.obs s.next post)
    (hf : calleeOf (opd s fop) = some (f, caps)) (hc : callable P f = true) (hds : args.map (opd s) ++ caps = ds) (hp : putOK dst s)
    (hk : ∀ d obs' nx', s.next ≤ nx' → post (.val d) obs' nx' → k (({ s with obs := obs', next := nx' } : St).put dst d))
    (hx : ∀ ch obs' nx', s.next ≤ nx' → post (.pan ch) obs' nx' → ∃ s2, Wk Γ { s with obs := obs', next := nx' } s2 ∧ Γ.pan ch s2) : CallP P Γ fop args dst s k :=
  fun _ _ _ _ => EffP.callX hf hc hds hret hp hk hx
theorem CallP.xF {P : Program} {Γ : Ctx} {s : St} {k : St → Prop} {dst : Option Tmp} {fop : Operand} {args : List Operand} {f caps} {ds : List D} {post : Out → List (Nat × Ob) → Nat → Prop} (F obs : List (Nat × Ob)) (hret : RetX P f ds obs s.next post)
    (heq : ∀ i, getK s.obs i = getK (F ++ obs) i) (hF : ∀ i ob, getK F i = some ob → getK obs i = none)
    (hf : calleeOf (opd s fop) = some (f, caps)) (hc : callable P f = true) (hds : args.map (opd s) ++ caps = ds) (hp : putOK dst s)
    (hk : ∀ d o1 nx', s.next ≤ nx' → post (.val d) o1 nx' → k (({ s with obs := F ++ o1, next := nx' } : St).put dst d))
    (hx : ∀ ch o1 nx', s.next ≤ nx' → post (.pan ch) o1 nx' → ∃ s2, Wk Γ { s with obs := F ++ o1, next := nx' } s2 ∧ Γ.pan ch s2) : CallP P Γ fop args dst s k :=
  CallP.x_ ((hret.frame F hF).congr heq) hf hc hds hp (fun d o n hn ⟨o1, ho, hpo⟩ => by subst ho; exact hk d o1 n hn hpo) (fun ch o n hn ⟨o1, ho, hpo⟩ => by subst ho; exact hx ch o1 n hn hpo)
theorem CallP.x0 {P : Program} {Γ : Ctx} {s : St} {k : St → Prop} {dst : Option Tmp} {fop : Operand} {args : List Operand} {f caps} {ds : List D} {post : Out → List (Nat × Ob) → Nat → Prop} (hret : RetX P f ds [] s.next post)
    (hf : calleeOf (opd s fop) = some (f, caps)) (hc : callable P f = true) (hds : args.map (opd s) ++ caps = ds) (hp : putOK dst s)
    (hk : ∀ d o1 nx', s.next ≤ nx' → post (.val d) o1 nx' → k (({ s with obs := s.obs ++ o1, next := nx' } : St).put dst d))
    (hx : ∀ ch o1 nx', s.next ≤ nx' → post (.pan ch) o1 nx' → ∃ s2, Wk Γ { s with obs := s.obs ++ o1, next := nx' } s2 ∧ Γ.pan ch s2) : CallP P Γ fop args dst s k :=
  CallP.xF s.obs [] hret (fun i => by simp) (fun i ob _ => rfl) hf hc hds hp hk hx
theorem CallP.x1 {P : Program} {Γ : Ctx} {s : St} {k : St → Prop} {dst : Option Tmp} {fop : Operand} {args : List Operand} {f caps} {ds : List D} {post : Out → List (Nat × Ob) → Nat → Prop} {j : Nat} {ob : Ob} (hret : RetX P f ds [(j, ob)] s.next post)
    (hj : getK s.obs j = some ob) (hf : calleeOf (opd s fop) = some (f, caps)) (hc : callable P f = true) (hds : args.map (opd s) ++ caps = ds) (hp : putOK dst s)
    (hk : ∀ d o1 nx', s.next ≤ nx' → post (.val d) o1 nx' → k (({ s with obs := del s.obs j ++ o1, next := nx' } : St).put dst d))
    (hx : ∀ ch o1 nx', s.next ≤ nx' → post (.pan ch) o1 nx' → ∃ s2, Wk Γ { s with obs := del s.obs j ++ o1, next := nx' } s2 ∧ Γ.pan ch s2) : CallP P Γ fop args dst s k :=
  CallP.xF (del s.obs j) [(j, ob)] hret (fun i => by
    rw [getK_append, getK_del]
    by_cases h : i = j
    · subst h; simp [hj, getK]
    · simp only [if_neg h, getK]
      cases getK s.obs i <;> rfl) (fun i o hi => by
    rw [getK_del] at hi
    by_cases h : i = j
    · rw [if_pos h] at hi; cases hi
    · simp [getK, h]) hf hc hds hp hk hx
/-- A call that is handed one object, and goes through, or panics. -/
theorem CallP.ok1 {P : Program} {Γ : Ctx} {s : St} {k : St → Prop} {dst : Option Tmp} {fop : Operand} {args : List Operand} {f caps} {ds : List D} {j : Nat} {ob ob' : Ob} {d : D}
    (hret : RetX P f ds [(j, ob)] s.next fun r o n => r = .val d ∧ o = [(j, ob')] ∧ n = s.next)
    (hj : getK s.obs j = some ob) (hf : calleeOf (opd s fop) = some (f, caps)) (hc : callable P f = true) (hds : args.map (opd s) ++ caps = ds) (hp : putOK dst s)
    (hk : k (({ s with obs := del s.obs j ++ [(j, ob')], next := s.next } : St).put dst d)) : CallP P Γ fop args dst s k :=
  CallP.x1 hret hj hf hc hds hp (fun d' o1 nx' _ ⟨h1, h2, h3⟩ => by cases h1; subst h2; subst h3; exact hk) (fun ch o1 nx' _ ⟨h1, _⟩ => by cases h1)
theorem CallP.pan1 {P : Program} {Γ : Ctx} {s : St} {k : St → Prop} {dst : Option Tmp} {fop : Operand} {args : List Operand} {f caps} {ds : List D} {j : Nat} {ob : Ob} {ch : List PanicEntry} {p : Ob → Prop}
    (hret : RetX P f ds [(j, ob)] s.next fun r o n => r = .pan ch ∧ (∃ ob', p ob' ∧ o = [(j, ob')]) ∧ n = s.next)
    (hj : getK s.obs j = some ob) (hf : calleeOf (opd s fop) = some (f, caps)) (hc : callable P f = true) (hds : args.map (opd s) ++ caps = ds) (hp : putOK dst s)
    (hx : ∀ ob', p ob' → ∃ s2, Wk Γ { s with obs := del s.obs j ++ [(j, ob')], next := s.next } s2 ∧ Γ.pan ch s2) : CallP P Γ fop args dst s k :=
  CallP.x1 hret hj hf hc hds hp (fun d' o1 nx' _ ⟨h1, _⟩ => by cases h1) (fun ch' o1 nx' _ ⟨h1, ⟨ob', h2, h3⟩, h4⟩ => by cases h1; subst h3; subst h4; exact hx ob' h2)
/-- The same, and a second object that is gone behind it. -/
theorem CallP.x2 {P : Program} {Γ : Ctx} {s : St} {k : St → Prop} {dst : Option Tmp} {fop : Operand} {args : List Operand} {f caps} {ds : List D} {post : Out → List (Nat × Ob) → Nat → Prop} {j q : Nat} {ob oq : Ob} (hret : RetX P f ds [(j, ob), (q, oq)] s.next post)
    (hj : getK s.obs j = some ob) (hq : getK s.obs q = some oq) (hne : j ≠ q) (hf : calleeOf (opd s fop) = some (f, caps)) (hc : callable P f = true) (hds : args.map (opd s) ++ caps = ds) (hp : putOK dst s)
    (hk : ∀ d o1 nx', s.next ≤ nx' → post (.val d) o1 nx' → k (({ s with obs := del (del s.obs j) q ++ o1, next := nx' } : St).put dst d))
    (hx : ∀ ch o1 nx', s.next ≤ nx' → post (.pan ch) o1 nx' → ∃ s2, Wk Γ { s with obs := del (del s.obs j) q ++ o1, next := nx' } s2 ∧ Γ.pan ch s2) : CallP P Γ fop args dst s k :=
  CallP.xF (del (del s.obs j) q) [(j, ob), (q, oq)] hret (fun i => by
    rw [getK_append, getK_del, getK_del]
    by_cases h : i = q
    · subst h; rw [if_pos rfl]; simp [getK, Ne.symm hne, hq]
    · rw [if_neg h]
      by_cases h2 : i = j
      · subst h2; simp [hj, getK]
      · simp only [if_neg h2, getK, if_neg h]
        cases getK s.obs i <;> rfl) (fun i o hi => by
    rw [getK_del, getK_del] at hi
    by_cases h : i = q
    · rw [if_pos h] at hi; cases hi
    · rw [if_neg h] at hi
      by_cases h2 : i = j
      · rw [if_pos h2] at hi; cases hi
      · simp [getK, h, h2]) hf hc hds hp hk hx
/-- The same call, nothing put off. -/
def Ctx.base (Γ : Ctx) : Ctx := .of Γ.own.own Γ.k0 Γ.n0 Γ.w0
/-- A panic, up to what the state may be told az. -/
def PanG (Γ : Ctx) (post : Out → List (Nat × Ob) → Nat → Prop) (ch : List PanicEntry) (s : St) : Prop := ∃ s', Wk Γ s s' ∧ Γ.n0 ≤ s'.next ∧ post (.pan ch) s'.obs s'.next
/-- What a call leaves behind. -/
def RX (Γ : Ctx) (post : Out → List (Nat × Ob) → Nat → Prop) (e : Ending) (w' : World) : Prop :=
  ∃ r obs' nx' k', OutRep k' e r ∧ In Γ k' w' ∧ Sat k' Γ.own obs' w' ∧ (∀ i, nx' ≤ i → k'.hdr i = none) ∧ Γ.n0 ≤ nx' ∧ post r obs' nx'
theorem endW_results {P Γ fn e s K a w} {post : Out → List (Nat × Ob) → Nat → Prop} (hend : EndW P Γ fn Γ.n0 (fun d o n => post (.val d) o n) e s) (hin : In Γ K w) (hs : Sim K Γ.own s a w) :
    ∃ v, (results fn a.tmps).run P w = .ok v w ∧ RX Γ post (.returned v) w := by
  obtain ⟨s', hw, _, hres⟩ := hend
  obtain ⟨K', hin, hs⟩ := hw K a w hin hs
  obtain ⟨rs, rv, hfin, hrun, hlen, hr⟩ := resD_run hs _ _ hres
  have hres' : (results fn a.tmps).run P w = .ok (if h : rv.toArray.size = 1 then rv.toArray[0] else .tuple rv.toArray) w := by
    unfold results
    rw [Array.mapM_eq_mapM_toList]
    have e : (fn.results.toList.mapM fun (x : ResultVar) => match x with | .tmp t => (pure (a.tmps.getD t undef) : Sem Value) | .cell x t => do loadVar t (← asAddr (a.tmps.getD x undef))).run P w = .ok rv w := hrun
    simp only [Sem.run_bind, Sem.run_map, Result.andThen_ok]
    erw [e]
    simp
  have hrepv : Rep K' (oneOrTup rs) (if h : rv.toArray.size = 1 then rv.toArray[0] else .tuple rv.toArray) := by
    match rs, rv, hlen, hr with
    | [], [], _, hr => exact .tup [] [] rfl (by simp)
    | [d], [v], _, hr => simpa [oneOrTup] using hr 0 d rfl
    | d :: d1 :: ds, v :: v1 :: vs, hlen, hr =>
      simp only [oneOrTup]
      rw [dif_neg (by simp)]
      exact .tup _ _ hlen hr
  refine ⟨_, hres', ?_⟩
  rcases hfin with ⟨s2, ρ, d', hle, hd, hu, hnx, hpost⟩ | ⟨hnx, hpost⟩
  · obtain ⟨h1, h2⟩ := Sim.weak hin hs hle
    exact ⟨.val d', s2.obs, s2.next, _, ⟨_, rfl, hrepv.weak hd hu⟩, h1, h2.sat, h2.hdr, hnx, hpost⟩
  · exact ⟨.val _, s'.obs, s'.next, K', ⟨_, rfl, hrepv⟩, hin, hs.sat, hs.hdr, hnx, hpost⟩
theorem RX.conv {Γ Γ' : Ctx} {post e w'} (h : RX Γ post e w') (h1 : Γ'.own.own = Γ.own.own) (h2 : Γ'.k0 = Γ.k0) (h3 : Γ'.n0 = Γ.n0) (h4 : Γ'.w0 = Γ.w0) : RX Γ' post e w' := by
  obtain ⟨r, o, n, k', a, b, c, d, e, f⟩ := h
  exact ⟨r, o, n, k', a, b.conv h1 h2 h3 h4, by rw [h1]; exact c, d, by rw [h3]; exact e, f⟩
theorem Wk.conv {Γ Γ' : Ctx} {s s'} (h : Wk Γ s s') (h1 : Γ'.own = Γ.own) (h2 : Γ'.k0 = Γ.k0) (h3 : Γ'.n0 = Γ.n0) (h4 : Γ'.w0 = Γ.w0) : Wk Γ' s s' := fun K a w hin hs => by
  obtain ⟨K', g1, g2⟩ := h K a w (hin.conv (by rw [h1]) h2.symm h3.symm h4.symm) (by rw [← h1]; exact hs)
  exact ⟨K', g1.conv (by rw [h1]) h2 h3 h4, by rw [h1]; exact g2⟩
/-- A function's body, with all the ways in which it may end. -/
theorem RetX.of_bodyD {P f fn c ds obs nx post} (hf : P.funcs[f]? = some fn) (hb : fn.body = some c) (hn : ds.length ≤ fn.ntmps)
    (h : ∀ Γ : Ctx, Γ.n0 = nx → Γ.own.dfr = [] → (∀ ch s, PanG Γ post ch s → Γ.pan ch s) → (∀ e a w', bodyPostD P fn (RX Γ.base post) e a w' → Γ.esc e a w') → V P Γ c (entry ds fn.ntmps obs nx) (RunK P Γ (EndW P Γ fn nx fun d o n => post (.val d) o n) .done)) : RetX P f ds obs nx post := by
  intro k own w vs hsat hhdr hfresh hrep
  have hsz : vs.size = ds.length := hrep.1
  let Γ0 : Ctx := .of own k nx w
  let Γ : Ctx := ⟨⟨own, []⟩, k, nx, w, PanG Γ0 post, bodyPostD P fn (RX Γ0 post)⟩
  have hpan : ∀ ch s, PanG Γ post ch s → Γ.pan ch s := fun ch s ⟨s', h1, h2, h3⟩ => ⟨s', h1.conv rfl rfl rfl rfl, h2, h3⟩
  have hR : ∀ e w', RX Γ post e w' → RX Γ0 post e w' := fun e w' h => h.conv rfl rfl rfl rfl
  have hesc : ∀ e a w', bodyPostD P fn (RX Γ.base post) e a w' → Γ.esc e a w' := fun e a w' h => h
  refine calls_of_wp_defers (R := RX Γ0 post) hf hb (wp_mono (h Γ rfl rfl hpan hesc k _ w ⟨.refl _, hhdr, fun b o v e => .inl e, hfresh, rfl, rfl, rfl, Nat.le_refl _, fun _ _ => rfl⟩
    ⟨hsat, rfl, ?_, fun x d hx => ?_, hhdr⟩) ?_)
  · simp [entry, hsz]; omega
  · simp only [entry, getK_zipIdx, Nat.zero_le, if_true, Nat.sub_zero] at hx
    have hlt := (List.getElem?_eq_some_iff.1 hx).1
    refine ⟨by simp [entry]; omega, ?_⟩
    have := hrep.2 x d hx
    have e : (vs ++ Array.replicate (fn.ntmps - vs.size) undef).getD x undef = vs.getD x undef := by
      simp [Array.getElem?_append, show x < vs.size by omega]
    rw [e]
    exact this
  · rintro e a' w' (⟨K', s', hin, hs, hend⟩ | hx)
    · have hd : a'.defers = [] := hs.defers
      cases e with
      | panic ch =>
        obtain ⟨s2, hw, hn2, hp⟩ := (hend : PanG Γ0 post ch s')
        obtain ⟨K2, h1, h2⟩ := hw K' a' w' (hin.conv rfl rfl rfl rfl) hs
        show Leaves P fn a'.tmps (RX Γ0 post) a'.defers (.panicking ch) w'
        rw [hd]
        exact ⟨.pan ch, s2.obs, s2.next, K2, rfl, h1, h2.sat, h2.hdr, hn2, hp⟩
      | normal =>
        obtain ⟨v, h1, h2⟩ := endW_results (Γ := Γ) (post := post) hend hin hs
        show Leaves P fn a'.tmps (RX Γ0 post) a'.defers .returning w'
        rw [hd]
        exact ⟨v, h1, hR _ _ h2⟩
      | ret =>
        obtain ⟨v, h1, h2⟩ := endW_results (Γ := Γ) (post := post) hend hin hs
        show Leaves P fn a'.tmps (RX Γ0 post) a'.defers .returning w'
        rw [hd]
        exact ⟨v, h1, hR _ _ h2⟩
      | exit i => obtain ⟨_, _, h1, _⟩ := hend; rcases h1 with h1 | h1 <;> cases h1
      | goto i => obtain ⟨_, _, h1, _⟩ := hend; rcases h1 with h1 | h1 <;> cases h1
      | outgrown => obtain ⟨_, _, h1, _⟩ := hend; rcases h1 with h1 | h1 <;> cases h1
    · exact hx.2
theorem RetX.of_bodyW {P f fn c ds obs nx post} (hf : P.funcs[f]? = some fn) (hb : fn.body = some c) (hn : ds.length ≤ fn.ntmps)
    (h : ∀ Γ : Ctx, Γ.n0 = nx → (∀ ch s, PanG Γ post ch s → Γ.pan ch s) → V P Γ c (entry ds fn.ntmps obs nx) (RunK P Γ (EndW P Γ fn nx fun d o n => post (.val d) o n) .done)) : RetX P f ds obs nx post :=
  RetX.of_bodyD hf hb hn fun Γ h1 _ h2 _ => h Γ h1 h2
end Go.VL
namespace Go.VL
open Go
/-- Code at which a walk stops. -/
@[irreducible] def Hold (c : Code) : Code := c
theorem hold_eq (c : Code) : Hold c = c := by unfold Hold; rfl
theorem hold_defer {id : Nat} {o1 : Oper} {dst : Option Tmp} {cl : Call} {type : TypeId} {pos : String} {after : Array Edge} {guard : Option (Nat × Bool)} {rest : Code} :
    Code.seq (.region id #[o1, { dst, op := .defer cl, type, pos, after, guard }] false) rest = Hold (.seq (.region id #[o1, { dst, op := .defer cl, type, pos, after, guard }] false) rest) := (hold_eq _).symm
/-- What a deferred function does to the objects, and to the frame below. -/
def RetDf (P : Program) (g : FuncId) (caps : List D) (obs : List (Nat × Ob)) (nx : Nat) (u : FrameMode) (post : FrameMode → List (Nat × Ob) → Nat → Prop) : Prop :=
  ∀ (k : Kr) (own : Nat → Prop) (w : World) (vs : Array Value), Sat k own obs w → (∀ i, nx ≤ i → k.hdr i = none) → (∀ b, w.heap.size ≤ b → own b) → RepL k caps vs →
    CallsD P g vs u w fun e u' w' => ∃ v obs' nx' k', e = .returned v ∧ In (.of own k nx w) k' w' ∧ Sat k' own obs' w' ∧ (∀ i, nx' ≤ i → k'.hdr i = none) ∧ nx ≤ nx' ∧ post u' obs' nx'
theorem RetDf.mono {P g caps obs nx u} {p q : FrameMode → List (Nat × Ob) → Nat → Prop} (h : RetDf P g caps obs nx u p) (hq : ∀ u o n, p u o n → q u o n) : RetDf P g caps obs nx u q :=
  fun k own w vs h1 h2 h3 h4 => (h k own w vs h1 h2 h3 h4).mono fun _ _ _ ⟨v, o, n, k', e, a, b, c, d, hp⟩ => ⟨v, o, n, k', e, a, b, c, d, hq _ _ _ hp⟩
theorem RetDf.congr {P g caps obs obs' nx u post} (h : RetDf P g caps obs nx u post) (e : ∀ i, getK obs' i = getK obs i) : RetDf P g caps obs' nx u post :=
  fun k own w vs hsat hhdr hfresh hrep => h k own w vs (Sat.congr hsat fun i => (e i).symm) hhdr hfresh hrep
theorem RetDf.frame {P g caps obs nx u post} (F : List (Nat × Ob)) (hF : ∀ i ob, getK F i = some ob → getK obs i = none) (h : RetDf P g caps obs nx u post) :
    RetDf P g caps (F ++ obs) nx u (fun u o n => ∃ o1, o = F ++ o1 ∧ post u o1 n) := by
  intro k own w vs hsat hhdr hfresh hrep
  refine (h k _ w vs (frame_sat0 hF hsat) hhdr (frame_fresh hsat hfresh) hrep).mono ?_
  rintro e u' w' ⟨v, o1, n', k', he, hin, hs1, hh1, hle, hp⟩
  exact ⟨v, F ++ o1, n', k', he, frame_in hfresh hin, frame_sat hsat hin hs1, hh1, hle, o1, rfl, hp⟩
/-- Where a function leaves that has put off g: the deferred call makes its end good. -/
def LeaveD (P : Program) (Γb : Ctx) (fn : Func) (post : Out → List (Nat × Ob) → Nat → Prop) (g : FuncId) (caps : List D) (u : FrameMode) (s : St) : Prop :=
  RetDf P g caps s.obs s.next u fun u' o n => settle u' = .returning ∧ EndW P Γb fn Γb.n0 (fun d o n => post (.val d) o n) .ret { s with obs := o, next := n }
def EndD (P : Program) (Γb : Ctx) (fn : Func) (post : Out → List (Nat × Ob) → Nat → Prop) (g : FuncId) (caps : List D) (e : Exit) (s : St) : Prop := e = .ret ∧ LeaveD P Γb fn post g caps .returning s
theorem leaveD_run {P Γ Γ' fn post g caps u s K K1 a w w1} (hmode : u ≠ .run) (h : LeaveD P Γ.base fn post g caps u s) (hin1 : In Γ K1 w1) (hin : In Γ' K w) (hs : Sim K Γ'.own s a w) (ho : Γ'.own.own = Γ.own.own) (hk : Γ'.k0 = K1) (hn : ∀ i, Γ'.n0 ≤ i → K1.hdr i = none) (hw : Γ'.w0 = w1)
    (hc : callable P g = true) (vs : Array Value) (hrep : RepL K1 caps vs) :
    Leaves P fn a.tmps (RX Γ.base post) [{ target := .fn (.func g) vs, args := #[] }] u w := by
  have hle1 : K1.le K := by rw [← hk]; exact hin.le
  have hin0 : In Γ K w := hin1.step hle1 (fun b o v e => by have := hin.memNew b o v e; rw [hk, ho] at this; exact this) (by rw [hin.os, hw]) (by rw [hin.tape, hw]) (by rw [hin.output, hw]) (by have := hin.size; rw [hw] at this; exact this)
    (fun b hb => by have := hin.block b (by rw [ho]; exact hb); rw [hw] at this; exact this)
  refine leaves_cons (f := g) (args := vs) hmode ?_ ?_
  · unfold callable at hc
    split at hc
    · rename_i fn' hfn
      simp at hc
      obtain ⟨hb, hname⟩ := hc
      have hb' : fn'.body.isNone = false := by cases hbb : fn'.body <;> simp_all
      simp [invoke, callFunc, hfn, hb', hname]
      intro h0
      rw [h0] at hb
      simp at hb
    · cases hc
  · refine (h K Γ'.own.own w vs hs.sat hs.hdr (fun b hb => by rw [ho]; exact hin0.own_of_ge hb) ⟨hrep.1, fun j d hj => (hrep.2 j d hj).mono hle1⟩).mono ?_
    rintro e u' w' ⟨v, o, n, k', rfl, hin2, hsat, hhdr, hnx, hset, hend⟩
    rw [ho] at hin2 hsat
    have hin3 : In Γ k' w' := hin0.step hin2.le (fun b o v e => hin2.memNew b o v e) hin2.os hin2.tape hin2.output hin2.size hin2.block
    have hsim : Sim k' Γ.base.own ({ s with obs := o, next := n } : St) { a with defers := [] } w' := ⟨hsat, rfl, hs.size, fun x d hx => ⟨(hs.env x d hx).1, (hs.env x d hx).2.mono hin2.le⟩, hhdr⟩
    obtain ⟨v', h1, h2⟩ := endW_results (Γ := Γ.base) (post := post) hend (hin3.conv rfl rfl rfl rfl) hsim
    show Leaves P fn a.tmps (RX Γ.base post) [] (settle u') w'
    rw [hset]
    exact ⟨v', h1, h2⟩
/-- A function value is made and put off: what follows is walked in a context of its own. -/
theorem V_defer {P Γ fn post s Q kt id g t type pos after type2 pos2 after2 rest} {ts : Array TypeId} {caps : List Operand}
    (hesc : ∀ e a w', bodyPostD P fn (RX Γ.base post) e a w' → Γ.esc e a w') (hd : Γ.own.dfr = []) (hc : callable P g = true) (ht : t < s.n)
    (h : ∀ Γ' : Ctx, Γ'.n0 = s.next → (∀ ch s2, LeaveD P Γ.base fn post g (caps.map (opd s)) (.panicking ch) s2 → Γ'.pan ch s2) →
      V P Γ' rest (s.put (some t) (.fnc (.func g) (caps.map (opd s)))) (RunK P Γ' (EndD P Γ.base fn post g (caps.map (opd s))) .done)) :
    V P Γ (Hold (.seq (.region id #[{ dst := some t, op := .makeFunc (.func g) #[] caps.toArray, type := type, pos := pos, after := after, guard := none },
      { dst := none, op := .defer { callee := .value (.tmp t), args := #[], argTypes := ts }, type := type2, pos := pos2, after := after2, guard := none }] false) rest)) s (RunK P Γ Q kt) := by
  rw [hold_eq]
  intro K a w hin hs
  refine wp_seq (wp_region_lit ?_)
  have hrep : RepL K (caps.map (opd s)) (caps.map a.eval).toArray := ⟨by simp, fun j d hj => by have := listRep hs caps j d hj; simpa using this⟩
  have hfv : Rep K (.fnc (.func g) (caps.map (opd s))) (.func (.func g) #[] (caps.map a.eval).toArray) := .fnc _ _ _ (by simp) (listRep hs caps)
  have hts : t < a.tmps.size := by rw [hs.size]; exact ht
  refine wpList_plain rfl fun K1 hK1 => ?_
  have hrun1 : (execOp a.eval { dst := some t, op := .makeFunc (.func g) #[] caps.toArray, type := type, pos := pos, after := after, guard := none }).run P w = .ok (.value (.func (.func g) #[] (caps.map a.eval).toArray)) w := by
    simp [execOp, Instr.makeFunc]
  unfold Oper.wp
  rw [hrun1]
  refine hK1 _ _ (wpList_plain rfl fun K2 hK2 => ?_)
  generalize ha1 : (a.put (some t) (.func (.func g) #[] (caps.map a.eval).toArray)) = a1
  have hev : a1.eval (.tmp t) = .func (.func g) #[] (caps.map a.eval).toArray := by
    subst ha1
    simp [Act.eval, Act.put, hts]
  have hrun2 : (execOp a1.eval { dst := none, op := .defer { callee := .value (.tmp t), args := #[], argTypes := ts }, type := type2, pos := pos2, after := after2, guard := none }).run P w = .ok (.defer { target := .fn (.func g) (caps.map a.eval).toArray, args := #[] }) w := by
    simp [execOp, resolve, hev, Deferred.ofValue]
  unfold Oper.wp
  rw [hrun2]
  refine hK2 _ _ ?_
  let Γ' : Ctx := ⟨⟨Γ.own.own, [{ target := .fn (.func g) (caps.map a.eval).toArray, args := #[] }]⟩, K, s.next, w, fun ch s2 => LeaveD P Γ.base fn post g (caps.map (opd s)) (.panicking ch) s2, fun _ _ _ => False⟩
  have hin' : In Γ' K w := ⟨.refl _, hs.hdr, fun b o v e => .inl e, fun b hb => hin.own_of_ge hb, rfl, rfl, rfl, Nat.le_refl _, fun _ _ => rfl⟩
  have hs1 : Sim K Γ.own (s.put (some t) (.fnc (.func g) (caps.map (opd s)))) a1 w := by
    subst ha1
    exact hs.put (by simpa [putOK] using ht) hfv
  have hs' : Sim K Γ'.own (s.put (some t) (.fnc (.func g) (caps.map (opd s)))) (({ a1 with defers := { target := .fn (.func g) (caps.map a.eval).toArray, args := #[] } :: a1.defers } : Act).put none undef) w :=
    ⟨hs1.sat, by have := hs1.defers; rw [hd] at this; show _ :: a1.defers = _; rw [this], hs1.size, hs1.env, hs1.hdr⟩
  refine wp_mono (h Γ' rfl (fun ch s2 h => h) K _ w hin' hs') ?_
  rintro e a' w' (⟨K', s', h1, h2, h3⟩ | h3)
  · have hdf : a'.defers = [{ target := .fn (.func g) (caps.map a.eval).toArray, args := #[] }] := h2.defers
    have go : ∀ u, u ≠ .run → LeaveD P Γ.base fn post g (caps.map (opd s)) u s' → Leaves P fn a'.tmps (RX Γ.base post) a'.defers u w' := fun u hu hl => by
      rw [hdf]
      exact leaveD_run hu hl hin h1 h2 rfl rfl hs.hdr rfl hc _ hrep
    cases e with
    | panic ch => exact .inr ⟨trivial, hesc _ _ _ (go (.panicking ch) (by simp) h3)⟩
    | ret => exact .inr ⟨trivial, hesc _ _ _ (go .returning (by simp) h3.2)⟩
    | normal => exact absurd h3.1 (by simp)
    | exit i => exact absurd h3.1 (by simp)
    | goto i => exact absurd h3.1 (by simp)
    | outgrown => exact absurd h3.1 (by simp)
  · exact h3.2.elim
def HS (P : Program) (Γ : Ctx) : List Oper → St → (St → Prop) → Prop
  | [], s, k => k s
  | o :: l, s, k => o.guard = none ∧ hstep P Γ o.dst o.op s fun s' => HS P Γ l s' k
theorem hs_ops {P Γ cs} {Q : Exit → Act → List Frame → World → Prop} {k : St → Prop} (ops : Array Oper) : ∀ (l : List Oper) (i : Nat) (s : St) (K : Kr) (a : Act) (w : World), (∀ j, ops[i + j]? = l[j]?) → HS P Γ l s k → In Γ K w → Sim K Γ.own s a w →
    (∀ K' a' w' s', In Γ K' w' → Sim K' Γ.own s' a' w' → k s' → Q .normal a' cs w') → (∀ ch K' a' w' s', In Γ K' w' → Sim K' Γ.own s' a' w' → Γ.pan ch s' → Q (.panic ch) a' cs w') →
    wpOpsS P ops Q (List.range' i l.length) a cs w
  | [], i, s, K, a, w, _, h, hin, hs, hQ, _ => by simpa [wpOpsS] using hQ K a w s hin hs h
  | o :: l, i, s, K, a, w, ho, h, hin, hs, hQ, hP => by
    have h0 : ops[i]? = some o := by simpa using ho 0
    obtain ⟨hg, hst⟩ := h
    rw [List.length_cons, List.range'_succ]
    unfold wpOpsS
    rw [h0]
    simp only [Region.wanted, hg, if_true]
    have hw := hstep_effG hst K a w hin hs (fun a' w' => wpOpsS P ops Q (List.range' (i + 1) l.length) a' cs w') (fun e a' w' => Q e a' cs w')
      (fun K' a' w' s' h1 h2 h3 => hs_ops ops l (i + 1) s' K' a' w' (fun j => by have := ho (j + 1); simpa [Nat.add_assoc, Nat.add_comm 1 j] using this) h3 h1 h2 hQ hP) hP
    unfold Oper.wp at hw
    split
    · rename_i w' hr
      rw [hr] at hw
      exact hw.elim
    · exact hw
/-- What recover hands out, and how the frame below goes on. -/
def recU : FrameMode → Value × FrameMode
  | .panicking ({ v, recovered := false, goexit := false } :: older) => (v, .panicking ({ v, recovered := true } :: older))
  | u => (.nilIface, u)
def EndR (Γ : Ctx) (post : FrameMode → List (Nat × Ob) → Nat → Prop) (u' : FrameMode) (e : Exit) (s : St) : Prop := (e = .normal ∨ e = .ret) ∧ ∃ s', Wk Γ s s' ∧ Γ.n0 ≤ s'.next ∧ post u' s'.obs s'.next
theorem RetDf.of_body {P g fn caps obs nx u post id x type pos after l rest} (hf : P.funcs[g]? = some fn)
    (hb : fn.body = some (.seq (.region id ({ dst := some x, op := .call { callee := .builtin .recover, args := #[], argTypes := #[] }, type := type, pos := pos, after := after, guard := none } :: l : List Oper).toArray false) rest))
    (hn : caps.length ≤ fn.ntmps) (hx : x < fn.ntmps) (hres : fn.results = #[])
    (h : ∀ Γ : Ctx, Γ.n0 = nx → HS P Γ l ((entry caps fn.ntmps obs nx).put (some x) (.u (.oth (recU u).1))) fun s' => V P Γ rest s' (RunK P Γ (EndR Γ post (recU u).2) .done)) : RetDf P g caps obs nx u post := by
  intro k own w vs hsat hhdr hfresh hrep
  have hsz : vs.size = caps.length := hrep.1
  let Γ : Ctx := .of own k nx w
  have hin : In Γ k w := ⟨.refl _, hhdr, fun b o v e => .inl e, hfresh, rfl, rfl, rfl, Nat.le_refl _, fun _ _ => rfl⟩
  have hs : Sim k Γ.own (entry caps fn.ntmps obs nx) { tmps := vs ++ Array.replicate (fn.ntmps - vs.size) undef, defers := [] } w := by
    refine ⟨hsat, rfl, ?_, fun y d hy => ?_, hhdr⟩
    · simp [entry, hsz]; omega
    · simp only [entry, getK_zipIdx, Nat.zero_le, if_true, Nat.sub_zero] at hy
      have hlt := (List.getElem?_eq_some_iff.1 hy).1
      refine ⟨by simp [entry]; omega, ?_⟩
      have := hrep.2 y d hy
      have e : (vs ++ Array.replicate (fn.ntmps - vs.size) undef).getD y undef = vs.getD y undef := by
        simp [Array.getElem?_append, show y < vs.size by omega]
      rw [e]
      exact this
  refine callsD_of_wpS hf hb fun c0 cs hm => wpS_seq (wpS_region ?_)
  have hsize : ({ dst := some x, op := .call { callee := .builtin .recover, args := #[], argTypes := #[] }, type := type, pos := pos, after := after, guard := none } :: l : List Oper).toArray.size = l.length + 1 := by simp
  rw [hsize, List.range_eq_range', List.range'_succ]
  generalize hops : ({ dst := some x, op := .call { callee := .builtin .recover, args := #[], argTypes := #[] }, type := type, pos := pos, after := after, guard := none } :: l : List Oper).toArray = ops
  have h0 : ops[0]? = some { dst := some x, op := .call { callee := .builtin .recover, args := #[], argTypes := #[] }, type := type, pos := pos, after := after, guard := none } := by rw [← hops]; simp
  unfold wpOpsS
  rw [h0]
  have hrun : ∀ ρ : Operand → Value, (execOp ρ { dst := some x, op := .call { callee := .builtin .recover, args := #[], argTypes := #[] }, type := type, pos := pos, after := after, guard := none }).run P w = .ok .recover w := fun ρ => by
    simp [execOp, resolve, invoke, builtin]
  simp only [Region.wanted, if_true, hrun]
  have hrec : recoverD (c0 :: cs) = some ((recU u).1, { c0 with mode := (recU u).2 } :: cs) ∨ (recoverD (c0 :: cs) = none ∧ (recU u).1 = .nilIface ∧ { c0 with mode := (recU u).2 } = c0) := by
    subst hm
    have same : ∀ m, c0.mode = m → ({ c0 with mode := m } : Frame) = c0 := fun m h => by rw [← h]
    cases hmo : c0.mode with
    | run => exact .inr ⟨by simp [recoverD, hmo], rfl, same _ hmo⟩
    | returning => exact .inr ⟨by simp [recoverD, hmo], rfl, same _ hmo⟩
    | panicking ch =>
      cases ch with
      | nil => exact .inr ⟨by simp [recoverD, hmo], rfl, same _ hmo⟩
      | cons e older =>
        obtain ⟨v, r, g⟩ := e
        cases r <;> cases g
        · exact .inl (by simp [recoverD, hmo, recU])
        · exact .inr ⟨by simp [recoverD, hmo], rfl, same _ hmo⟩
        · exact .inr ⟨by simp [recoverD, hmo], rfl, same _ hmo⟩
        · exact .inr ⟨by simp [recoverD, hmo], rfl, same _ hmo⟩
  have main : wpOpsS P ops (Exit.thenS (rest.wpS P (bodyPostS P fn c0 cs fun e u' w' => ∃ v obs' nx' k', e = .returned v ∧ In (.of own k nx w) k' w' ∧ Sat k' own obs' w' ∧ (∀ i, nx' ≤ i → k'.hdr i = none) ∧ nx ≤ nx' ∧ post u' obs' nx'))
      (bodyPostS P fn c0 cs fun e u' w' => ∃ v obs' nx' k', e = .returned v ∧ In (.of own k nx w) k' w' ∧ Sat k' own obs' w' ∧ (∀ i, nx' ≤ i → k'.hdr i = none) ∧ nx ≤ nx' ∧ post u' obs' nx')) (List.range' (0 + 1) l.length)
      (Act.put { tmps := vs ++ Array.replicate (fn.ntmps - vs.size) undef, defers := [] } (some x) (recU u).1) ({ c0 with mode := (recU u).2 } :: cs) w := by
    refine hs_ops ops l (0 + 1) _ k _ w (fun j => by rw [← hops]; simp [Nat.add_comm 1 j]) (h Γ rfl) hin (hs.put (by simpa [putOK, entry] using hx) (.u _ _ (.oth _))) (fun K' a' w' s' h1 h2 h3 => ?_) (fun ch K' a' w' s' _ _ h3 => h3.elim)
    refine wpS_of_wp (wp_mono (h3 K' a' w' h1 h2) ?_)
    rintro e a2 w2 (⟨K2, s2, g1, g2, g3⟩ | g3)
    · have hd2 : a2.defers = [] := g2.defers
      have fin : EndR Γ post (recU u).2 e s2 → a2.defers = [] ∧ ∃ u', ({ c0 with mode := (recU u).2 } :: cs : List Frame) = { c0 with mode := u' } :: cs ∧ ∃ v, (results fn a2.tmps).run P w2 = .ok v w2 ∧
          ∃ v' obs' nx' k', Ending.returned v = .returned v' ∧ In (.of own k nx w) k' w2 ∧ Sat k' own obs' w2 ∧ (∀ i, nx' ≤ i → k'.hdr i = none) ∧ nx ≤ nx' ∧ post u' obs' nx' := fun ⟨_, s3, hw, hnx, hp⟩ => by
        obtain ⟨K3, q1, q2⟩ := hw K2 a2 w2 g1 g2
        exact ⟨hd2, _, rfl, .tuple #[], by simp [results, hres], _, s3.obs, s3.next, K3, rfl, q1, q2.sat, q2.hdr, hnx, hp⟩
      cases e with
      | normal => exact fin g3
      | ret => exact fin g3
      | panic ch => exact g3.elim
      | exit i => rcases g3.1 with h | h <;> cases h
      | goto i => rcases g3.1 with h | h <;> cases h
      | outgrown => rcases g3.1 with h | h <;> cases h
    · exact g3.2.elim
  rcases hrec with hr | ⟨hr, h1, h2⟩
  · rw [hr]
    exact main
  · rw [hr]
    rw [h1, h2] at main
    exact main
end Go.VL
namespace Go.VL
open Go
/-- A call that is sure to panic, wherever its operands and objects are az here. -/
def StopE (P : Program) (Γ : Ctx) (s : St) (op : Op) : Prop :=
  ∀ s' : St, s'.n = s.n → (∀ y, getK s'.obs y = getK s.obs y) → (∀ x ∈ op.operands, opd s' x = opd s x) → s.next ≤ s'.next → ∀ o : Oper, o.op = op → o.guard = none → putOK o.dst s' → EffP P Γ o s' fun _ => False
/-- A call that changes the objects it is handed, and makes none. -/
def CallE (P : Program) (N : Nat) (s : St) (op : Op) (d : D) (W : Wr) (R : List Nat) : Prop :=
  ∃ fop args f caps, ∃ (O O' : List (Nat × Ob)) (L : List Nat), callOf op = some (fop, args) ∧ calleeOf (opd s fop) = some (f, caps) ∧ callable P f = true ∧ R = O.map (·.1) ∧ W = (O'.filter fun p => L.contains p.1).map (fun p => (p.1, some p.2)) ∧ O'.map (·.1) = O.map (·.1) ∧
    (∀ y, L.contains y = false → getK O' y = getK O y) ∧ (∀ p ∈ O, getK s.obs p.1 = some p.2) ∧ (O.map (·.1)).Nodup ∧ (d.under N = true ∧ ∀ p ∈ O', p.2.under N = true) ∧
    ∀ nx, s.next ≤ nx → RetX P f (args.map (opd s) ++ caps) O nx fun r o n => r = .val d ∧ (∀ y, getK o y = getK O' y) ∧ n = nx
def Op1X (P : Program) (N : Nat) (s : St) (op : Op) (dst : Option Tmp) (d : D) (W : Wr) (cr : Option Nat) (R : List Nat) : Prop :=
  Op1 P s op dst d W cr R ∨ (CallE P N s op d W R ∧ cr = none)
def OpGX (P : Program) (N : Nat) (all : Array Oper) (s : St) (o : Oper) (d : D) (W : Wr) (cr : Option Nat) (R : List Nat) : Prop :=
  match o.guard with
  | none => Op1X P N s o.op o.dst d W cr R
  | some (j, want) => ∃ t, guardTmp all j = some t ∧ ((∃ b, getK s.env t = some (.u (.bool b)) ∧
    if b = want then Op1X P N s o.op o.dst d W cr R else d = .un ∧ W = [] ∧ cr = none) ∨ (getK s.env t = some .un ∧ d = .un ∧ W = [] ∧ cr = none))
theorem getK_filterN {α : Type} (l : List (Nat × α)) (c : List Nat) (y : Nat) : getK (l.filter fun p => !c.contains p.1) y = if c.contains y = true then none else getK l y := by
  induction l with
  | nil => simp [getK]
  | cons p l ih =>
    obtain ⟨k, x⟩ := p
    rw [List.filter_cons]
    by_cases hk : c.contains k = true
    · rw [if_neg (by simpa using hk), ih, getK_cons]
      by_cases hy : y = k
      · subst hy; rw [if_pos hk, if_pos hk]
      · rw [if_neg hy]
    · rw [if_pos (by simpa using hk), getK_cons, getK_cons, ih]
      by_cases hy : y = k
      · subst hy; rw [if_pos rfl, if_pos rfl, if_neg hk]
      · rw [if_neg hy, if_neg hy]
theorem getK_filterK {α : Type} (l : List (Nat × α)) (c : List Nat) (y : Nat) : getK (l.filter fun p => c.contains p.1) y = if c.contains y = true then getK l y else none := by
  induction l with
  | nil => simp [getK]
  | cons p l ih =>
    obtain ⟨k, x⟩ := p
    rw [List.filter_cons]
    by_cases hk : c.contains k = true
    · rw [if_pos (by exact hk), getK_cons, getK_cons, ih]
      by_cases hy : y = k
      · subst hy; rw [if_pos rfl, if_pos rfl, if_pos hk]
      · rw [if_neg hy, if_neg hy]
    · rw [if_neg (by exact hk), ih, getK_cons]
      by_cases hy : y = k
      · subst hy; rw [if_neg hk, if_neg hk]
      · rw [if_neg hy]
theorem getK_memK {α : Type} {l : List (Nat × α)} {y : Nat} {x : α} (h : getK l y = some x) : (y, x) ∈ l := by
  induction l with
  | nil => cases h
  | cons p l ih =>
    obtain ⟨k, d⟩ := p
    rw [getK_cons] at h
    by_cases hyk : y = k
    · rw [if_pos hyk] at h; cases h; subst hyk; simp
    · rw [if_neg hyk] at h; exact List.mem_cons_of_mem _ (ih h)
theorem getK_isSome {α : Type} {l : List (Nat × α)} {y : Nat} (h : y ∈ l.map (·.1)) : ∃ x, getK l y = some x := by
  induction l with
  | nil => cases h
  | cons p l ih =>
    obtain ⟨k, d⟩ := p
    rw [getK_cons]
    by_cases hyk : y = k
    · exact ⟨d, by rw [if_pos hyk]⟩
    · rw [if_neg hyk]
      simp only [List.map_cons, List.mem_cons] at h
      exact ih (h.resolve_left hyk)
theorem getK_some_map (O : List (Nat × Ob)) (y : Nat) : getK (O.map fun p => (p.1, some p.2) : Wr) y = (getK O y).map some := by
  induction O with
  | nil => rfl
  | cons p l ih =>
    obtain ⟨k, d⟩ := p
    rw [List.map_cons, getK_cons, getK_cons, ih]
    split <;> rfl
theorem good_under {ρ : Nat → Nat} {N M : Nat} (hρ : ∀ y, y < N → ρ y = y) (hNM : N ≤ M) : ∀ {d : D}, d.under N = true → Good ρ M d
  | .u x, _ => ⟨by simp [D.ren], by simp [D.under]⟩
  | .any, _ => ⟨by simp [D.ren], by simp [D.under]⟩
  | .ptr i off, h => by simp [D.under] at h; exact ⟨by simp [D.ren, hρ i h], by simp [D.under]; omega⟩
  | .vec i len, h => by simp [D.under] at h; exact ⟨by simp [D.ren, hρ i h], by simp [D.under]; omega⟩
  | .mp i, h => by simp [D.under] at h; exact ⟨by simp [D.ren, hρ i h], by simp [D.under]; omega⟩
  | .elt i sz idx off, h => by simp [D.under] at h; exact ⟨by simp [D.ren, hρ i h], by simp [D.under]; omega⟩
  | .fnc f caps, h => by
    have hc : ∀ c ∈ caps, Good ρ M c := fun c hc => good_under hρ hNM (by rw [D.under] at h; simp only [List.all_map, List.all_eq_true] at h; exact h c hc)
    refine ⟨by rw [D.ren]; congr 1; exact (List.map_congr_left fun c hc' => (hc c hc').1).trans (List.map_id _), ?_⟩
    rw [D.under]
    simp only [List.all_map, List.all_eq_true]
    exact fun c hc' => (hc c hc').2
  | .agg caps, h => by
    have hc : ∀ c ∈ caps, Good ρ M c := fun c hc => good_under hρ hNM (by rw [D.under] at h; simp only [List.all_map, List.all_eq_true] at h; exact h c hc)
    refine ⟨by rw [D.ren]; congr 1; exact (List.map_congr_left fun c hc' => (hc c hc').1).trans (List.map_id _), ?_⟩
    rw [D.under]
    simp only [List.all_map, List.all_eq_true]
    exact fun c hc' => (hc c hc').2
  | .tup caps, h => by
    have hc : ∀ c ∈ caps, Good ρ M c := fun c hc => good_under hρ hNM (by rw [D.under] at h; simp only [List.all_map, List.all_eq_true] at h; exact h c hc)
    refine ⟨by rw [D.ren]; congr 1; exact (List.map_congr_left fun c hc' => (hc c hc').1).trans (List.map_id _), ?_⟩
    rw [D.under]
    simp only [List.all_map, List.all_eq_true]
    exact fun c hc' => (hc c hc').2
theorem ob_good_under {ρ : Nat → Nat} {N M : Nat} (hρ : ∀ y, y < N → ρ y = y) (hNM : N ≤ M) {ob : Ob} (h : ob.under N = true) : ob.all (Good ρ M) := by
  cases ob with
  | it => trivial
  | box cs => exact fun c hc => good_under hρ hNM ((List.all_eq_true.1 h) c hc)
  | vec e sz rows => exact fun r hr c hc => good_under hρ hNM ((List.all_eq_true.1 ((List.all_eq_true.1 h) r hr)) c hc)
  | map kk ag es => exact fun p hp c hc => good_under hρ hNM ((List.all_eq_true.1 ((List.all_eq_true.1 h) p hp)) c hc)
/-- What comes before stands before. -/
theorem befB_lt {ops : List Oper} (hord : ordOK ops = true) : ∀ {i j : Nat} {y : Oper}, ops[j]? = some y → befB ops ops.length i j = true → i < j := by
  have key : ∀ (n i j : Nat) (y : Oper), ops[j]? = some y → befB ops n i j = true → i < j := by
    intro n
    induction n with
    | zero => intro i j y hj h; simp [befB] at h
    | succ n ih =>
      intro i j y hj h
      simp only [befB, hj] at h
      rw [List.any_eq_true] at h
      obtain ⟨p, hp, h⟩ := h
      have hlt := (ord_pred hord hj).1 p hp
      simp only [Bool.or_eq_true, beq_iff_eq] at h
      rcases h with rfl | h
      · exact hlt
      · have hpl : p < ops.length := by have := (List.getElem?_eq_some_iff.1 hj).1; omega
        have := ih i p _ (List.getElem?_eq_getElem hpl) h
        omega
  exact fun {i j y} hj h => key _ i j y hj h
theorem EffP.guard {P Γ s k} {dst op type pos after guard} (h : EffP P Γ { dst, op, type, pos, after, guard := none } s k) : EffP P Γ { dst, op, type, pos, after, guard } s k := h
set_option maxHeartbeats 4000000 in
theorem V_draw4 {P Γ} {Q : Exit → St → Prop} {kt : Kt} {id : Nat} {ops : List Oper} {T : Nat → D} {W : Nat → Wr} {cr : Nat → Option Nat} {R : Nat → List Nat} {kd : Nat → Nat} {s : St} {M : Nat}
    (hm : P.follows .mixedOrders = true) (hord : ordOK ops = true) (hn0 : Γ.n0 ≤ s.next) (hM : s.next ≤ M)
    (hcr : ∀ i x, cr i = some x → s.next ≤ x ∧ x < M) (hcr1 : ∀ i j x, cr i = some x → cr j = some x → i = j)
    (hpair : ∀ i j, i < j → j < ops.length → befB ops ops.length i j = false → (∀ y ∈ keys (W i), y ∉ R j ∧ y ∉ keys (W j)) ∧ ∀ y ∈ keys (W j), y ∉ R i)
    (hkd : ∀ i, kd i ≠ 0 → W i = [] ∧ cr i = none) (hstop : ∀ p i, kd p = 1 → i < ops.length → W i ≠ [] → befB ops ops.length i p = true ∨ befB ops ops.length p i = true)
    (hval : ∀ i o, ops[i]? = some o → putOK o.dst s ∧ if kd i = 2 then ∃ p, kd p = 1 ∧ p < ops.length ∧ befB ops ops.length p i = true else if kd i = 1 then o.guard = none ∧ StopE P Γ (stW ops T W s M fun j => decide (j < i)) o.op else
      OpGX P s.next ops.toArray (stW ops T W s M fun j => decide (j < i)) o (T i) (W i) (cr i) (R i))
    (hfin : (∀ i, i < ops.length → kd i ≠ 1) → ∃ s', (stW ops T W s M fun _ => true).Eqo s' ∧ RunK P Γ Q kt .normal s') : V P Γ (.region id ops.toArray true) s (RunK P Γ Q kt) := by
  intro K a w hin hs
  refine wp_region_any hm ?_
  have hin0 : In Γ K { w with drawn := w.drawn + 1 } := ⟨hin.le, hin.none0, hin.memNew, hin.fresh, hin.os, hin.tape, hin.output, hin.size, hin.block⟩
  have hs0 : Sim K Γ.own s a { w with drawn := w.drawn + 1 } := ⟨⟨hs.sat.mem, fun i ob hi => by
      obtain ⟨h, h1, h2, h3⟩ := hs.sat.ob i ob hi
      exact ⟨h, h1, h2, h3.keep (.refl _) fun b e => rfl⟩, hs.sat.apart⟩, hs.defers, hs.size, hs.env, hs.hdr⟩
  generalize ({ w with drawn := w.drawn + 1 } : World) = w0 at hin0 hs0
  have key : ∀ (fuel : Nat) (listed : Array Bool) (K : Kr) (a : Act) (w : World), listed.size = ops.length → (listed.toList.filter (! ·)).length ≤ fuel →
      (∀ j y, ops[j]? = some y → listed.getD j false = true → ∀ p ∈ dirPred y, listed.getD p false = true) → In Γ K w → Sim K Γ.own (stW ops T W s M fun j => listed.getD j false) a w →
      (∀ j x, j < ops.length → listed.getD j false = false → cr j = some x → K.hdr x = none) → (∀ p, kd p = 1 → p < ops.length → listed.getD p false = false) →
      wpAny P .any ops.toArray (VPost Γ (RunK P Γ Q kt)) fuel listed a w := by
    have allDone : ∀ (listed : Array Bool) (K : Kr) (a : Act) (w : World), (∀ p, kd p = 1 → p < ops.length → listed.getD p false = false) → (∀ j, j < ops.length → listed.getD j false = true) → In Γ K w → Sim K Γ.own (stW ops T W s M fun j => listed.getD j false) a w →
        ∃ K' s', In Γ K' w ∧ Sim K' Γ.own s' a w ∧ RunK P Γ Q kt .normal s' := fun listed K a w hsp hall hin hs => by
      obtain ⟨s', he, hfin⟩ := hfin fun i hi hk => by have h1 := hsp i hk hi; rw [hall i hi] at h1; cases h1
      refine ⟨K, _, hin, Sim.eqo (hs.eqo ?_) he, hfin⟩
      refine ⟨rfl, fun x => ?_, rfl, fun x => ?_⟩
      · simp only [stW, getK_applyW]
        rw [wlog_congr W _ (fun _ => true) x ops.length fun j hj _ => hall j hj]
      · exact envF_congr T _ _ x ops 0 s.env s.env rfl fun j o hj _ => by
          have hl := (List.getElem?_eq_some_iff.1 hj).1
          simp only [Nat.zero_add]
          exact hall j hl
    have least : ∀ (listed : Array Bool), listed.size = ops.length → ∀ i, i < ops.length → listed.getD i false = false → ∃ i0, i0 ∈ Region.ready .any ops.toArray listed := fun listed hsz i hi hu => by
      induction i using Nat.strongRecOn with
      | _ i ih =>
        have ho : ops[i]? = some ops[i] := List.getElem?_eq_getElem hi
        by_cases hp : ∀ p ∈ dirPred ops[i], listed.getD p false = true
        · refine ⟨i, mem_ready.2 ⟨?_, ops[i], by simp, fun e he hb => hp e.on ?_⟩⟩
          · have hi' : i < listed.size := by omega
            simp [hi'] at hu ⊢
            exact hu
          · simp only [dirPred, List.mem_map, List.mem_filter]
            exact ⟨e, ⟨by simpa using he, hb⟩, rfl⟩
        · simp only [Classical.not_forall] at hp
          obtain ⟨p, hpm, hpu⟩ := hp
          have hlt := (ord_pred hord ho).1 p hpm
          exact ih p hlt (by omega) (by simpa using hpu)
    intro fuel
    induction fuel with
    | zero =>
      intro listed K a w hsz hcnt hcl hin hs _ hsp
      have hall : ∀ j, j < ops.length → listed.getD j false = true := fun j hj => by
        have hj' : j < listed.size := by omega
        have h0 : (listed.toList.filter (! ·)) = [] := List.eq_nil_of_length_eq_zero (by omega)
        have := (List.filter_eq_nil_iff.1 h0) listed[j] (by simp)
        simp only [Bool.not_eq_true', Bool.not_eq_false] at this
        simp [hj', this]
      refine ⟨?_, .inl (allDone listed K a w hsp hall hin hs)⟩
      refine List.eq_nil_iff_forall_not_mem.2 fun i hi => ?_
      obtain ⟨h1, o, ho, _⟩ := mem_ready.1 hi
      have hl : i < ops.length := by
        have := (Array.getElem?_eq_some_iff.1 ho).1
        simpa using this
      have := hall i hl
      have hi' : i < listed.size := by omega
      simp [hi'] at h1 this
      rw [h1] at this
      cases this
    | succ fuel ih =>
      intro listed K a w hsz hcnt hcl hin hs hfr hsp
      refine ⟨fun hnil => .inl (allDone listed K a w hsp (fun j hj => ?_) hin hs), fun i hi => ?_⟩
      · cases hu : listed.getD j false with
        | true => rfl
        | false =>
          obtain ⟨i0, h0⟩ := least listed hsz j hj hu
          rw [hnil] at h0
          cases h0
      · obtain ⟨hun, o, ho, hall⟩ := mem_ready.1 hi
        have ho' : ops[i]? = some o := by simpa using ho
        have hil := (List.getElem?_eq_some_iff.1 ho').1
        have hil' : i < listed.size := by omega
        have hunf : listed.getD i false = false := by simp [hil'] at hun ⊢; exact hun
        have hpred : ∀ p ∈ dirPred o, listed.getD p false = true := fun p hp => by
          simp only [dirPred, List.mem_map, List.mem_filter] at hp
          obtain ⟨e, ⟨he, hb⟩, rfl⟩ := hp
          exact hall e (by simpa using he) hb
        obtain ⟨hpo, hv⟩ := hval i o ho'
        have bef1 : ∀ j, befB ops ops.length j i = true → listed.getD j false = true := fun j hb => bef_closed hcl _ j i o ho' hpred hb
        have bef2 : ∀ j x, ops[j]? = some x → befB ops ops.length i j = true → listed.getD j false = false := fun j x hj hb => by
          cases hu : listed.getD j false with
          | false => rfl
          | true =>
            have := bef_closed hcl _ i j x hj (hcl j x hj hu) hb
            rw [hunf] at this
            cases this
        -- who writes a slot that this operation looks at, or writes
        have before : ∀ j x, ops[j]? = some x → j < i → meets ops.toArray x o = true ∨ meets ops.toArray o x = true → listed.getD j false = true := fun j x hj hlt hmm =>
          bef1 j ((ord_pred hord ho').2.2 j x hlt hj hmm)
        have behind : ∀ j x, ops[j]? = some x → i < j → meets ops.toArray x o = true ∨ meets ops.toArray o x = true → listed.getD j false = false := fun j x hj hlt hmm =>
          bef2 j x hj ((ord_pred hord hj).2.2 i o hlt ho' hmm.symm)
        have agree : ∀ t, t ∈ o.looksAt ops.toArray → getK (envF T (fun j => listed.getD j false) ops 0 s.env) t = getK (envF T (fun j => decide (j < i)) ops 0 s.env) t := fun t ht => by
          refine envF_congr T _ _ t ops 0 s.env s.env rfl fun j x hj hx => ?_
          simp only [Nat.zero_add]
          have hmm : meets ops.toArray x o = true := by simp [meets, hx, ht]
          rcases Nat.lt_trichotomy j i with h | h | h
          · rw [before j x hj h (.inl hmm)]; simp [h]
          · subst h; rw [hunf]; simp
          · rw [behind j x hj h (.inl hmm)]; simp; omega
        have hopd : ∀ x ∈ o.op.operands, opd (stW ops T W s M fun j => decide (j < i)) x = opd (stW ops T W s M fun j => listed.getD j false) x := fun x hx => by
          cases x with
          | tmp t =>
            simp only [opd, St.at, stW]
            rw [agree t (List.mem_append_left _ (List.mem_filterMap.2 ⟨.tmp t, by simpa using hx, rfl⟩))]
          | _ => rfl
        -- who changes an object that this operation looks at
        have hloc : ∀ y ∈ R i, getK (stW ops T W s M fun j => decide (j < i)).obs y = getK (stW ops T W s M fun j => listed.getD j false).obs y := fun y hy => by
          simp only [stW, getK_applyW]
          rw [wlog_congr W (fun j => decide (j < i)) (fun j => listed.getD j false) y ops.length fun j hj hk => ?_]
          rcases Nat.lt_trichotomy j i with h | h | h
          · have hb : befB ops ops.length j i = true := by
              cases hb : befB ops ops.length j i with
              | true => rfl
              | false => exact absurd hy (((hpair j i h hil hb).1 y hk).1)
            rw [bef1 j hb]
            simp [h]
          · subst h; rw [hunf]; simp
          · have hb : befB ops ops.length i j = true := by
              cases hb : befB ops ops.length i j with
              | true => rfl
              | false => exact absurd hy ((hpair i j h hj hb).2 y hk)
            rw [bef2 j _ (List.getElem?_eq_getElem hj) hb]
            simp; omega
        have hlast : ∀ y ∈ keys (W i), ∀ j, j < ops.length → i < j → y ∈ keys (W j) → listed.getD j false = false := fun y hy j hj hlt hk => by
          have hb : befB ops ops.length i j = true := by
            cases hb : befB ops ops.length i j with
            | true => rfl
            | false => exact absurd hk ((hpair i j hlt hj hb).1 y hy).2
          exact bef2 j _ (List.getElem?_eq_getElem hj) hb
        have hS : (fun j => (listed.setIfInBounds i true).getD j false) = fun j => listed.getD j false || j == i := funext fun j => by
          by_cases hji : j = i
          · subst hji; simp [hil']
          · simp [Array.getElem?_setIfInBounds_ne (Ne.symm hji), hji]
        -- the slots behind this operation
        have henv : ∀ (x : Nat), o.dst = some x → getK (envF T (fun j => listed.getD j false || j == i) ops 0 s.env) x = some (T i) := fun x hdx =>
          envF_put T _ i x ops 0 s.env i o ho' (by omega) hdx fun j o' hj hlt hd' => by
            rw [Nat.zero_add]
            exact behind j o' hj hlt (.inl (by simp [meets, hd', hdx]))
        have henv' : ∀ (x : Nat), o.dst ≠ some x → getK (envF T (fun j => listed.getD j false || j == i) ops 0 s.env) x = getK (envF T (fun j => listed.getD j false) ops 0 s.env) x := fun x hdx =>
          envF_congr T _ (fun j => listed.getD j false) x ops 0 s.env s.env rfl fun j o' hj hd' => by
            simp only [Nat.zero_add]
            have : j ≠ i := fun e => by subst e; rw [ho'] at hj; cases hj; exact hdx hd'
            simp [this]
        -- an operation after one that panics is never ready
        by_cases hk2 : kd i = 2
        · rw [if_pos hk2] at hv
          obtain ⟨p, hp1, hp2, hp3⟩ := hv
          have := bef1 p hp3
          rw [hsp p hp1 hp2] at this
          cases this
        rw [if_neg hk2] at hv
        by_cases hk1 : kd i = 1
        · rw [if_pos hk1] at hv
          obtain ⟨hg, hst⟩ := hv
          unfold wpOp
          rw [ho]
          simp only [Region.wanted, hg, if_true]
          refine .inl (hst (stW ops T W s M fun j => listed.getD j false) rfl (fun y => ?_) (fun x hx => (hopd x hx).symm) (Nat.le_refl _) o rfl hg hpo K a w hin hs _ _ (fun _ _ _ _ _ _ h => h.elim) fun ch K' a' w' s' h1 h2 h3 => .inl ⟨K', s', h1, h2, h3⟩)
          simp only [stW, getK_applyW]
          rw [wlog_congr W (fun j => listed.getD j false) (fun j => decide (j < i)) y ops.length fun j hj hk => ?_]
          have hne : W j ≠ [] := fun e => by rw [e] at hk; cases hk
          rcases hstop i j hk1 hj hne with hb | hb
          · have h1 := bef1 j hb
            have hji : j < i := by
              rcases Nat.lt_trichotomy j i with h | h | h
              · exact h
              · subst h; rw [hunf] at h1; cases h1
              · have := befB_lt hord ho' hb; omega
            rw [h1]; simp [hji]
          · have h1 := bef2 j _ (List.getElem?_eq_getElem hj) hb
            have hji : ¬ j < i := by have := befB_lt hord (List.getElem?_eq_getElem hj) hb; omega
            rw [h1]; simp [hji]
        rw [if_neg hk1] at hv
        have go : ∀ K' a' w', In Γ K' w' → Sim K' Γ.own (stW ops T W s M fun j => listed.getD j false || j == i) a' w' →
            (∀ j x, j < ops.length → (listed.getD j false || j == i) = false → cr j = some x → K'.hdr x = none) →
            wpAny P .any ops.toArray (VPost Γ (RunK P Γ Q kt)) fuel (listed.setIfInBounds i true) a' w' := fun K' a' w' h1 h2 h3 => by
          have hS' : ∀ j, (listed.setIfInBounds i true).getD j false = (listed.getD j false || j == i) := fun j => congrFun hS j
          refine ih (listed.setIfInBounds i true) K' a' w' (by simp [hsz]) ?_ (fun j y hj hSj p hp => ?_) h1 (by rw [hS]; exact h2) (fun j x hj hu => h3 j x hj (by rw [← hS']; exact hu)) (fun p hp1 hp2 => by
            rw [hS', hsp p hp1 hp2]
            have : p ≠ i := fun e => hk1 (e ▸ hp1)
            simp [this])
          · have cnt : ∀ (l : List Bool) (n : Nat), l[n]? = some false → ((l.set n true).filter (! ·)).length + 1 = (l.filter (! ·)).length := by
              intro l
              induction l with
              | nil => intro n h; simp at h
              | cons b l ih =>
                intro n h
                cases n with
                | zero => simp at h; subst h; simp
                | succ n =>
                  have := ih n (by simpa using h)
                  cases b <;> simp at this ⊢ <;> omega
            have := cnt listed.toList i (by
              rw [Array.getElem?_toList, Array.getElem?_eq_getElem hil']
              simp [hil'] at hunf
              rw [hunf])
            rw [Array.toList_setIfInBounds]
            omega
          · rw [hS'] at hSj ⊢
            simp only [Bool.or_eq_true, beq_iff_eq] at hSj ⊢
            rcases hSj with hSj | rfl
            · exact .inl (hcl j y hj hSj p hp)
            · rw [ho'] at hj
              cases hj
              exact .inl (hpred p hp)
        -- an operation that changes nothing
        have next : W i = [] → ∀ K' v w', In Γ K' w' → K.le K' → K'.hdr = K.hdr → Sat K' Γ.own (stW ops T W s M fun j => listed.getD j false).obs w' → Rep K' (T i) v →
            wpAny P .any ops.toArray (VPost Γ (RunK P Γ Q kt)) fuel (listed.setIfInBounds i true) (a.put o.dst v) w' := fun hW K' v w' h1 h2 h3 h4 h5 => by
          refine go K' _ w' h1 ?_ fun j x hj hu hc => by
            rw [h3]
            simp only [Bool.or_eq_false_iff] at hu
            exact hfr j x hj hu.1 hc
          have hdef : (a.put o.dst v).defers = Γ.own.dfr := by cases o.dst <;> exact hs.defers
          have hsize : (a.put o.dst v).tmps.size = s.n := by
            have hsz2 : a.tmps.size = s.n := hs.size
            cases o.dst <;> simp [Act.put, hsz2]
          refine ⟨h4.eqo fun y => ?_, hdef, hsize, fun x d hx => ?_, fun j hj => by rw [h3]; exact hs.hdr j hj⟩
          · simp only [stW, getK_applyW]
            rw [wlog_congr W (fun j => listed.getD j false) (fun j => listed.getD j false || j == i) y ops.length fun j hj hk => ?_]
            by_cases hji : j = i
            · subst hji; rw [hW] at hk; cases hk
            · simp [hji]
          · simp only [stW] at hx
            by_cases hdx : o.dst = some x
            · rw [henv x hdx] at hx
              cases hx
              have hlt : x < s.n := by rw [hdx] at hpo; exact hpo
              refine ⟨hlt, ?_⟩
              have hsz' : a.tmps.size = s.n := hs.size
              rw [hdx]
              simpa [Act.put, hsz', hlt] using h5
            · rw [henv' x hdx] at hx
              obtain ⟨g1, g2⟩ := hs.env x d hx
              refine ⟨g1, ?_⟩
              have e : (a.put o.dst v).tmps.getD x undef = a.tmps.getD x undef := by
                cases hd : o.dst with
                | none => rfl
                | some y =>
                  have hne : y ≠ x := fun e => hdx (by rw [hd, e])
                  simp [Act.put, Array.getElem?_setIfInBounds_ne hne]
              rw [e]
              exact g2.mono h2
        unfold wpOp
        rw [ho]
        simp only
        have two : (Region.wanted o (yielded ops.toArray a.tmps) = true ∧ Op1X P s.next (stW ops T W s M fun j => decide (j < i)) o.op o.dst (T i) (W i) (cr i) (R i)) ∨ (Region.wanted o (yielded ops.toArray a.tmps) = false ∧ T i = .un ∧ W i = []) := by
          unfold OpGX at hv
          split at hv
          · rename_i hg
            exact .inl ⟨by simp [Region.wanted, hg], hv⟩
          · rename_i j want hg
            obtain ⟨t, ht, hv⟩ := hv
            have lift : ∀ dd, getK (stW ops T W s M fun j => decide (j < i)).env t = some dd → getK (stW ops T W s M fun j => listed.getD j false).env t = some dd := fun dd hb => by
              simp only [stW] at hb ⊢
              rw [agree t (by
                refine List.mem_append_right _ ?_
                unfold guardTmp at ht
                simp only [hg]
                rw [ht]
                simp)]
              exact hb
            rcases hv with ⟨b, hb, hv⟩ | ⟨hb, hv⟩
            · have hb' := lift _ hb
              obtain ⟨hlt, hr⟩ := hs.getK hb'
              have hbv := rep_bool hr
              have hyd : yielded ops.toArray a.tmps j = some b := by
                unfold yielded
                unfold guardTmp at ht
                rw [ht]
                simp only [Option.bind_some]
                have : a.tmps[t]? = some (.bool b) := by
                  rw [Array.getElem?_eq_getElem hlt]
                  simp [hlt] at hbv
                  rw [hbv]
                rw [this]
              by_cases hbw : b = want
              · rw [if_pos hbw] at hv
                exact .inl ⟨by simp [Region.wanted, hg, hyd, hbw], hv⟩
              · rw [if_neg hbw] at hv
                exact .inr ⟨by simp [Region.wanted, hg, hyd, hbw], hv.1, hv.2.1⟩
            · have hb' := lift _ hb
              obtain ⟨hlt, hr⟩ := hs.getK hb'
              have hbv := rep_oth hr
              have hyd : yielded ops.toArray a.tmps j = none := by
                unfold yielded
                unfold guardTmp at ht
                rw [ht]
                simp only [Option.bind_some]
                have : a.tmps[t]? = some undef := by
                  rw [Array.getElem?_eq_getElem hlt]
                  simp [hlt] at hbv
                  rw [hbv]
                rw [this]
                try rfl
              exact .inr ⟨by simp [Region.wanted, hg, hyd], hv.1, hv.2.1⟩
        rcases two with ⟨hw, hv⟩ | ⟨hw, hv⟩
        · rw [if_pos hw]
          rcases hv with (⟨hv, hW, hcn, hR⟩ | ⟨e, he, hR, hcase⟩) | ⟨⟨fop, args, f, caps, O, O', L, hco, hcf, hcb, hR, hW, hkeys, hsm, hO, hnd, ⟨hdu, hOu⟩, hret⟩, hcn⟩
          · replace hv := valD_loc (s := stW ops T W s M fun j => decide (j < i)) (s' := stW ops T W s M fun j => listed.getD j false) (by rw [← hR]; exact hloc) hopd hv
            exact .inl (valD_run hv hin hs fun K' v w' h1 h2 h3 h4 h5 => next hW K' v w' h1 h2 h3 h4 h5)
          · -- an operation that changes or makes an object
            replace he := effD_loc (s := stW ops T W s M fun j => decide (j < i)) (s' := stW ops T W s M fun j => listed.getD j false) (by rw [← hR]; exact hloc) hopd he
            let un : Nat → Prop := fun y => ∃ j, j < ops.length ∧ (listed.getD j false || j == i) = false ∧ cr j = some y
            let ρ : Nat → Nat := fun y => open Classical in if cr i = some y then M else if un y then M + 1 + y else y
            have hknown : ∀ y h, K.hdr y = some h → ρ y = y ∧ y < M := fun y h hy => by
              have h1 : cr i ≠ some y := fun e => by rw [hfr i y hil hunf e] at hy; cases hy
              have h2 : ¬ un y := fun ⟨j, hj, hu, hc⟩ => by
                simp only [Bool.or_eq_false_iff] at hu
                rw [hfr j y hj hu.1 hc] at hy
                cases hy
              refine ⟨by simp only [ρ]; rw [if_neg h1, if_neg h2], ?_⟩
              rcases Nat.lt_or_ge y M with h | h
              · exact h
              · rw [hs.hdr y h] at hy; cases hy
            have hobs : ∀ y ob, getK (stW ops T W s M fun j => listed.getD j false).obs y = some ob → (ρ y = y ∧ y < M) ∧ ob.all (Good ρ M) := fun y ob hy => by
              have hok := hs.sat.ob y ob hy
              obtain ⟨h, h1, _⟩ := hok
              exact ⟨hknown y h h1, (hs.sat.ob y ob hy).good hknown⟩
            have hgood := effD_all (g := Good ρ M) (fun _ => ⟨by simp [D.ren], by simp [D.under]⟩) (fun cs h => h.agg) he (fun x hx => (opd_rep hs x).good hknown) (fun y ob hy => (hobs y ob hy).2)
            obtain ⟨e', he', ⟨rfl, hgU, hgN⟩⟩ := Lin.effD.2 _ hgood
            have he2 : effD P (stW ops T W s M fun j => listed.getD j false) o.op fun e => putOK o.dst (stW ops T W s M fun j => listed.getD j false) ∧ (e.nw = none → o.dst = none) ∧
                ((stW ops T W s M fun j => listed.getD j false).effS e o.dst) = (stW ops T W s M fun j => listed.getD j false).effS e' o.dst :=
              Lin.effD.1 _ _ (fun e hee => by
                subst hee
                refine ⟨hpo, fun hn => ?_, rfl⟩
                rw [hn] at hcase
                exact hcase.1) he
            refine .inl (hstep_effG (k := fun s' => s' = (stW ops T W s M fun j => listed.getD j false).effS e' o.dst) (effD_hstep he2) K a w hin hs _ _ (fun K' a' w' s' h1 h2 h3 => ?_) fun ch K' a' w' s' h1 h2 h3 => .inl ⟨K', s', h1, h2, h3⟩)
            subst h3
            have hle : St.Le Γ.n0 ρ ((stW ops T W s M fun j => listed.getD j false).effS e' o.dst) (stW ops T W s M fun j => listed.getD j false || j == i) := by
              have hWi : ∀ y, y ∈ keys (W i) → getK (wlog W (fun j => listed.getD j false || j == i) ops.length) y = getK (W i) y := fun y hy =>
                wlog_put W _ i y hy ops.length hil fun j hj hlt hk => hlast y hy j hj hlt hk
              have hWn : ∀ y, y ∉ keys (W i) → getK (wlog W (fun j => listed.getD j false || j == i) ops.length) y = getK (wlog W (fun j => listed.getD j false) ops.length) y := fun y hy =>
                wlog_congr W _ _ y ops.length fun j hj hk => by
                  by_cases hji : j = i
                  · subst hji; exact absurd hk hy
                  · simp [hji]
              have hinj : ∀ y1 y2, y1 < M → y2 < M → ρ y1 = ρ y2 → y1 = y2 := fun y1 y2 g1 g2 hr => by
                simp only [ρ] at hr
                by_cases c1 : cr i = some y1 <;> by_cases c2 : cr i = some y2
                · rw [c1] at c2; cases c2; rfl
                · rw [if_pos c1, if_neg c2] at hr
                  split at hr <;> omega
                · rw [if_neg c1, if_pos c2] at hr
                  split at hr <;> omega
                · rw [if_neg c1, if_neg c2] at hr
                  split at hr <;> split at hr <;> omega
              have hobs2 : ∀ y ob', getK (stW ops T W s M fun j => listed.getD j false || j == i).obs y = some ob' → y < M ∧
                  ∃ ob, getK ((stW ops T W s M fun j => listed.getD j false).effS e' o.dst).obs (ρ y) = some ob ∧ Ob.le ρ ob ob' ∧ ob'.under M = true := fun y ob' hy => by
                simp only [stW, getK_applyW] at hy
                cases hn : e'.nw with
                | none =>
                  rw [hn] at hcase
                  obtain ⟨hd0, hWU, hcn⟩ := hcase
                  have hob : ∀ z, getK ((stW ops T W s M fun j => listed.getD j false).effS e' o.dst).obs z = match getK (W i) z with | some x => x | none => getK (stW ops T W s M fun j => listed.getD j false).obs z := fun z => by
                    simp only [St.effS, hn, getK_applyW, hWU]
                    try rfl
                  by_cases hk : y ∈ keys (W i)
                  · rw [hWi y hk] at hy
                    obtain ⟨x, hx⟩ := getK_isKey (W i) y hk
                    rw [hx] at hy
                    simp only at hy
                    subst hy
                    have hmem : (y, some ob') ∈ e'.U := by
                      rw [← hWU]
                      have : ∀ (l : Wr), getK l y = some (some ob') → (y, some ob') ∈ l := by
                        intro l
                        induction l with
                        | nil => intro h; cases h
                        | cons p l ih =>
                          obtain ⟨k', d'⟩ := p
                          intro h
                          rw [getK_cons] at h
                          by_cases hyk : y = k'
                          · rw [if_pos hyk] at h; cases h; subst hyk; simp
                          · rw [if_neg hyk] at h; exact List.mem_cons_of_mem _ (ih h)
                      exact this _ hx
                    obtain ⟨hga, o0, ho0⟩ := hgU _ hmem ob' rfl
                    obtain ⟨⟨hr, hlt⟩, _⟩ := hobs y o0 ho0
                    refine ⟨hlt, ob', ?_, (Ob.all_le hga).1, (Ob.all_le hga).2⟩
                    rw [hr, hob, hx]
                  · rw [hWn y hk] at hy
                    obtain ⟨⟨hr, hlt⟩, hga⟩ := hobs y ob' (by simp only [stW, getK_applyW]; exact hy)
                    refine ⟨hlt, ob', ?_, (Ob.all_le hga).1, (Ob.all_le hga).2⟩
                    rw [hr, hob, getK_keys (W i) y hk]
                    simp only [stW, getK_applyW]
                    exact hy
                | some nb =>
                  rw [hn] at hcase
                  obtain ⟨x0, hcx, hWU, hTi⟩ := hcase
                  have hx0 := hcr i x0 hcx
                  have hob : ∀ z, z ≠ M → getK ((stW ops T W s M fun j => listed.getD j false).effS e' o.dst).obs z = match getK e'.U z with | some x => x | none => getK (stW ops T W s M fun j => listed.getD j false).obs z := fun z hz => by
                    have : ∀ (q : St) (d : D), (q.put o.dst d).obs = q.obs := fun q d => by cases o.dst <;> rfl
                    simp only [St.effS, hn, this, getK_cons]
                    rw [if_neg (by simpa [stW] using hz), getK_applyW]
                    try rfl
                  have hobM : getK ((stW ops T W s M fun j => listed.getD j false).effS e' o.dst).obs M = some nb := by
                    have : ∀ (q : St) (d : D), (q.put o.dst d).obs = q.obs := fun q d => by cases o.dst <;> rfl
                    simp only [St.effS, hn, this, getK_cons]
                    rw [if_pos (by simp [stW])]
                  by_cases hyx : y = x0
                  · subst hyx
                    have hk : y ∈ keys (W i) := by rw [hWU]; simp [keys]
                    rw [hWi y hk, hWU, getK_cons, if_pos rfl] at hy
                    simp only at hy
                    cases hy
                    have hga := hgN ob' hn
                    refine ⟨hx0.2, ob', ?_, (Ob.all_le hga).1, (Ob.all_le hga).2⟩
                    simp only [ρ]
                    rw [if_pos hcx]
                    exact hobM
                  · by_cases hk : y ∈ keys (W i)
                    · rw [hWi y hk, hWU, getK_cons, if_neg hyx] at hy
                      have hk' : y ∈ e'.U.map (·.1) := by
                        rw [hWU] at hk
                        simp only [keys, List.map_cons, List.mem_cons] at hk
                        exact hk.resolve_left hyx
                      obtain ⟨x, hx⟩ := getK_isKey e'.U y hk'
                      rw [hx] at hy
                      simp only at hy
                      subst hy
                      have hmem : (y, some ob') ∈ e'.U := by
                        have : ∀ (l : Wr), getK l y = some (some ob') → (y, some ob') ∈ l := by
                          intro l
                          induction l with
                          | nil => intro h; cases h
                          | cons p l ih =>
                            obtain ⟨k', d'⟩ := p
                            intro h
                            rw [getK_cons] at h
                            by_cases hyk : y = k'
                            · rw [if_pos hyk] at h; cases h; subst hyk; simp
                            · rw [if_neg hyk] at h; exact List.mem_cons_of_mem _ (ih h)
                        exact this _ hx
                      obtain ⟨hga, o0, ho0⟩ := hgU _ hmem ob' rfl
                      obtain ⟨⟨hr, hlt⟩, _⟩ := hobs y o0 ho0
                      refine ⟨hlt, ob', ?_, (Ob.all_le hga).1, (Ob.all_le hga).2⟩
                      rw [hr, hob y (by omega), hx]
                    · rw [hWn y hk] at hy
                      obtain ⟨⟨hr, hlt⟩, hga⟩ := hobs y ob' (by simp only [stW, getK_applyW]; exact hy)
                      refine ⟨hlt, ob', ?_, (Ob.all_le hga).1, (Ob.all_le hga).2⟩
                      have hk' : y ∉ e'.U.map (·.1) := by
                        rw [hWU] at hk
                        simp only [keys, List.map_cons, List.mem_cons, not_or] at hk
                        exact hk.2
                      rw [hr, hob y (by omega), getK_keys e'.U y hk']
                      simp only [stW, getK_applyW]
                      exact hy
              have henv2 : ∀ x d', getK (stW ops T W s M fun j => listed.getD j false || j == i).env x = some d' →
                  (D.le ρ (((stW ops T W s M fun j => listed.getD j false).effS e' o.dst).at x) d' ∧ d'.under M = true) ∧ x < s.n := fun x d' hx => by
                simp only [stW] at hx
                by_cases hdx : o.dst = some x
                · rw [henv x hdx] at hx
                  cases hx
                  have hlt : x < s.n := by rw [hdx] at hpo; exact hpo
                  cases hn : e'.nw with
                  | none =>
                    rw [hn] at hcase
                    rw [hcase.1] at hdx
                    cases hdx
                  | some nb =>
                    rw [hn] at hcase
                    obtain ⟨x0, hcx, hWU, hTi⟩ := hcase
                    have hx0 := hcr i x0 hcx
                    have hρ : ρ x0 = M := by simp only [ρ]; rw [if_pos hcx]
                    refine ⟨⟨.inr (.inl ?_), ?_⟩, hlt⟩
                    · rw [hTi]
                      simp only [St.effS, hn, hdx, St.put, St.at, getK_cons, if_true, Option.getD_some]
                      cases e'.how <;> simp [mkD, D.ren, hρ, stW]
                    · rw [hTi]
                      cases e'.how <;> simp [mkD, D.under, hx0.2]
                · rw [henv' x hdx] at hx
                  obtain ⟨g1, g2⟩ := hs.env x d' hx
                  have hgd := g2.good hknown
                  have hat : ((stW ops T W s M fun j => listed.getD j false).effS e' o.dst).at x = d' := by
                    have : ∀ (q : St) (d : D), getK (q.put o.dst d).env x = getK q.env x := fun q d => by
                      cases hd : o.dst with
                      | none => rfl
                      | some y =>
                        have hne : ¬ x = y := fun e => hdx (by rw [hd, e])
                        simp only [St.put, getK_cons, if_neg hne]
                    simp only [St.at, St.effS]
                    cases hn : e'.nw with
                    | none => simp only [stW, hx]; rfl
                    | some nb => simp only [this, stW, hx]; rfl
                  rw [hat]
                  exact ⟨⟨.inr (.inl hgd.1.symm), hgd.2⟩, g1⟩
              refine ⟨?_, fun x d' hx => (henv2 x d' hx).1, fun x d' hx => ?_, hobs2, fun y1 y2 o1 o2 g1 g2 hr => hinj y1 y2 (hobs2 y1 o1 g1).1 (hobs2 y2 o2 g2).1 hr, fun j hj => ?_⟩
              · have : ∀ (q : St) (d : D), (q.put o.dst d).n = q.n := fun q d => by cases o.dst <;> rfl
                simp only [St.effS]
                cases e'.nw <;> simp only [this] <;> rfl
              · have : ∀ (q : St) (d : D), (q.put o.dst d).n = q.n := fun q d => by cases o.dst <;> rfl
                have e2 : ((stW ops T W s M fun j => listed.getD j false).effS e' o.dst).n = s.n := by
                  simp only [St.effS]
                  cases e'.nw <;> simp only [this] <;> rfl
                rw [e2]
                exact (henv2 x d' hx).2
              · have c1 : cr i ≠ some j := fun e => by have := (hcr i j e).1; omega
                have c2 : ¬ un j := fun ⟨q, _, _, hc⟩ => by have := (hcr q j hc).1; omega
                refine ⟨by simp only [ρ]; rw [if_neg c1, if_neg c2], ?_⟩
                show j < M
                omega
            obtain ⟨g1, g2⟩ := Sim.weak h1 h2 hle
            refine go _ a' w' g1 g2 fun j x hj hu hc => ?_
            simp only [Kr.ren]
            split
            · have c1 : cr i ≠ some x := fun e => by
                have := hcr1 i j x e hc
                subst this
                simp at hu
              have c2 : un x := ⟨j, hj, hu, hc⟩
              simp only [ρ]
              rw [if_neg c1, if_pos c2]
              refine h2.hdr _ ?_
              have : ∀ (q : St) (d : D), (q.put o.dst d).next = q.next := fun q d => by cases o.dst <;> rfl
              simp only [St.effS]
              cases e'.nw <;> simp only [this, stW] <;> omega
            · rfl
          · -- a call that changes what it is handed
            let un : Nat → Prop := fun y => ∃ j, j < ops.length ∧ (listed.getD j false || j == i) = false ∧ cr j = some y
            let ρ : Nat → Nat := fun y => open Classical in if un y then M + 1 + y else y
            have hρs : ∀ y, y < s.next → ρ y = y := fun y hy => by
              have : ¬ un y := fun ⟨j, _, _, hc⟩ => by have := (hcr j y hc).1; omega
              simp only [ρ]; rw [if_neg this]
            have hknown : ∀ y h, K.hdr y = some h → ρ y = y ∧ y < M := fun y h hy => by
              have h2 : ¬ un y := fun ⟨j, hj, hu, hc⟩ => by
                simp only [Bool.or_eq_false_iff] at hu
                rw [hfr j y hj hu.1 hc] at hy
                cases hy
              refine ⟨by simp only [ρ]; rw [if_neg h2], ?_⟩
              rcases Nat.lt_or_ge y M with h | h
              · exact h
              · rw [hs.hdr y h] at hy; cases hy
            have hobs : ∀ y ob, getK (stW ops T W s M fun j => listed.getD j false).obs y = some ob → (ρ y = y ∧ y < M) ∧ ob.all (Good ρ M) := fun y ob hy => by
              have hok := hs.sat.ob y ob hy
              obtain ⟨h, h1, _⟩ := hok
              exact ⟨hknown y h h1, (hs.sat.ob y ob hy).good hknown⟩
            have hOact : ∀ p ∈ O, getK (stW ops T W s M fun j => listed.getD j false).obs p.1 = some p.2 := fun p hp => by
              rw [← hloc p.1 (by rw [hR]; exact List.mem_map.2 ⟨p, hp, rfl⟩)]
              exact hO p hp
            have hOget : ∀ y ob, getK O y = some ob → getK (stW ops T W s M fun j => listed.getD j false).obs y = some ob := fun y ob h => hOact _ (getK_memK h)
            let F := (stW ops T W s M fun j => listed.getD j false).obs.filter fun p => !(O.map (·.1)).contains p.1
            have hFg : ∀ y, getK F y = if (O.map (·.1)).contains y = true then none else getK (stW ops T W s M fun j => listed.getD j false).obs y := fun y => getK_filterN _ _ y
            have hOn : ∀ y, ¬ (O.map (·.1)).contains y = true → getK O y = none := fun y h => getK_keys O y (by simpa using h)
            have heq : ∀ y, getK (stW ops T W s M fun j => listed.getD j false).obs y = getK (F ++ O) y := fun y => by
              rw [getK_append, hFg]
              by_cases hy : (O.map (·.1)).contains y = true
              · rw [if_pos hy]
                obtain ⟨x, hx⟩ := getK_isSome (l := O) (y := y) (by simpa using hy)
                rw [hx, hOget y x hx]
              · rw [if_neg hy, hOn y hy]
                cases getK (stW ops T W s M fun j => listed.getD j false).obs y <;> rfl
            have hF : ∀ y ob, getK F y = some ob → getK O y = none := fun y ob h => by
              rw [hFg] at h
              by_cases hy : (O.map (·.1)).contains y = true
              · rw [if_pos hy] at h; cases h
              · exact hOn y hy
            have hopdS : ∀ x, x ∈ fop :: args → opd (stW ops T W s M fun j => listed.getD j false) x = opd (stW ops T W s M fun j => decide (j < i)) x := fun x hx => (hopd x (by
              rcases o with ⟨odst, oop, ot, opos, oaf, og⟩
              unfold callOf at hco
              split at hco
              · rename_i c hop
                simp only at hop
                subst hop
                split at hco
                · cases hco
                  rename_i f' hcal
                  simp only [Op.operands, Call.operands, hcal]
                  simp only [List.mem_cons] at hx
                  simp
                  rcases hx with rfl | hx
                  · exact .inl rfl
                  · exact .inr (by simpa using hx)
                · cases hco
              · cases hco)).symm
            have hcall : CallP P Γ fop args o.dst (stW ops T W s M fun j => listed.getD j false) fun s' => ∃ o1, (∀ y, getK o1 y = getK O' y) ∧ s' = (({ (stW ops T W s M fun j => listed.getD j false) with obs := F ++ o1, next := M } : St).put o.dst (T i)) :=
              CallP.xF F O (hret M (Nat.le_refl _)) heq hF (by rw [hopdS fop (by simp)]; exact hcf) hcb (by rw [List.map_congr_left fun x hx => hopdS x (by simp [hx])]) hpo
                (fun d o1 nx' _ ⟨h1, h2, h3⟩ => ⟨o1, h2, by cases h1; rw [h3]⟩) (fun ch o1 nx' _ ⟨h1, _⟩ => by cases h1)
            have heff : EffP P Γ o (stW ops T W s M fun j => listed.getD j false) fun s' => ∃ o1, (∀ y, getK o1 y = getK O' y) ∧ s' = (({ (stW ops T W s M fun j => listed.getD j false) with obs := F ++ o1, next := M } : St).put o.dst (T i)) := by
              have e := hcall
              rcases o with ⟨odst, oop, ot, opos, oaf, og⟩
              unfold callOf at hco
              split at hco
              · rename_i c hop
                simp only at hop
                subst hop
                split at hco
                · cases hco
                  rename_i f' hcal
                  obtain ⟨cal, cargs, cts⟩ := c
                  simp only at hcal
                  subst hcal
                  exact EffP.guard (e cts ot opos oaf)
                · cases hco
              · cases hco
            refine .inl (heff K a w hin hs _ _ (fun K' a' w' s' h1 h2 h3 => ?_) fun ch K' a' w' s' h1 h2 h3 => .inl ⟨K', s', h1, h2, h3⟩)
            obtain ⟨o1, ho1, rfl⟩ := h3
            have hWi : ∀ y, y ∈ keys (W i) → getK (wlog W (fun j => listed.getD j false || j == i) ops.length) y = getK (W i) y := fun y hy =>
              wlog_put W _ i y hy ops.length hil fun j hj hlt hk => hlast y hy j hj hlt hk
            have hWn : ∀ y, y ∉ keys (W i) → getK (wlog W (fun j => listed.getD j false || j == i) ops.length) y = getK (wlog W (fun j => listed.getD j false) ops.length) y := fun y hy =>
              wlog_congr W _ _ y ops.length fun j hj hk => by
                by_cases hji : j = i
                · subst hji; exact absurd hk hy
                · simp [hji]
            have hWg : ∀ y, getK (W i) y = if L.contains y = true then (getK O' y).map some else none := fun y => by
              rw [hW, getK_some_map, getK_filterK]
              split <;> rfl
            have hkW : ∀ y, y ∈ keys (W i) ↔ L.contains y = true ∧ y ∈ O.map (·.1) := fun y => by
              rw [hW, ← hkeys]
              simp only [keys, List.map_map, List.mem_map, List.mem_filter, Function.comp]
              exact ⟨fun ⟨p, ⟨h1, h2⟩, h3⟩ => ⟨h3 ▸ h2, p, h1, h3⟩, fun ⟨h1, p, h2, h3⟩ => ⟨p, ⟨h2, by rw [h3]; exact h1⟩, h3⟩⟩
            have pobs : ∀ (q : St) (d : D), (q.put o.dst d).obs = q.obs := fun q d => by cases o.dst <;> rfl
            have pn : ∀ (q : St) (d : D), (q.put o.dst d).n = q.n := fun q d => by cases o.dst <;> rfl
            have pnext : ∀ (q : St) (d : D), (q.put o.dst d).next = q.next := fun q d => by cases o.dst <;> rfl
            have hobs2 : ∀ y ob', getK (stW ops T W s M fun j => listed.getD j false || j == i).obs y = some ob' → y < M ∧
                ∃ ob, getK (({ (stW ops T W s M fun j => listed.getD j false) with obs := F ++ o1, next := M } : St).put o.dst (T i)).obs (ρ y) = some ob ∧ Ob.le ρ ob ob' ∧ ob'.under M = true := fun y ob' hy => by
              rw [pobs]
              simp only [stW, getK_applyW] at hy
              by_cases hk : y ∈ keys (W i)
              · rw [hWi y hk, hWg, if_pos ((hkW y).1 hk).1] at hy
                have hyO : y ∈ O.map (·.1) := ((hkW y).1 hk).2
                obtain ⟨x0, hx0⟩ := getK_isSome (l := O) (y := y) hyO
                obtain ⟨⟨hr, hlt⟩, _⟩ := hobs y x0 (hOget y x0 hx0)
                cases hq : getK O' y with
                | none =>
                  obtain ⟨x1, hx1⟩ := getK_isSome (l := O') (y := y) (by rw [hkeys]; exact hyO)
                  rw [hx1] at hq
                  cases hq
                | some ob =>
                  rw [hq] at hy
                  have hy : ob = ob' := by simpa using hy
                  subst hy
                  have hga := ob_good_under (M := M) hρs hM (hOu _ (getK_memK hq))
                  refine ⟨hlt, ob, ?_, (Ob.all_le hga).1, (Ob.all_le hga).2⟩
                  rw [hr, getK_append, hFg, if_pos (by simpa using hyO), ho1 y, hq]
              · rw [hWn y hk] at hy
                obtain ⟨⟨hr, hlt⟩, hga⟩ := hobs y ob' (by simp only [stW, getK_applyW]; exact hy)
                refine ⟨hlt, ob', ?_, (Ob.all_le hga).1, (Ob.all_le hga).2⟩
                by_cases hyO : (O.map (·.1)).contains y = true
                · have hL : L.contains y = false := by
                    cases hL : L.contains y with
                    | false => rfl
                    | true => exact absurd ((hkW y).2 ⟨hL, by simpa using hyO⟩) hk
                  obtain ⟨x0, hx0⟩ := getK_isSome (l := O) (y := y) (by simpa using hyO)
                  have hx1 := hOget y x0 hx0
                  simp only [stW, getK_applyW] at hx1
                  rw [hy] at hx1
                  rw [hr, getK_append, hFg, if_pos hyO, ho1 y, hsm y hL, hx0]
                  exact hx1.symm
                · rw [hr, getK_append, hFg, if_neg hyO]
                  simp only [stW, getK_applyW]
                  rw [hy]
            have henv2 : ∀ x d', getK (stW ops T W s M fun j => listed.getD j false || j == i).env x = some d' →
                (D.le ρ ((({ (stW ops T W s M fun j => listed.getD j false) with obs := F ++ o1, next := M } : St).put o.dst (T i)).at x) d' ∧ d'.under M = true) ∧ x < s.n := fun x d' hx => by
              simp only [stW] at hx
              by_cases hdx : o.dst = some x
              · rw [henv x hdx] at hx
                cases hx
                have hlt : x < s.n := by rw [hdx] at hpo; exact hpo
                have hg := good_under (M := M) hρs hM hdu
                refine ⟨⟨.inr (.inl ?_), hg.2⟩, hlt⟩
                simp only [hdx, St.put, St.at, getK_cons, if_true, Option.getD_some]
                exact hg.1.symm
              · rw [henv' x hdx] at hx
                obtain ⟨g1, g2⟩ := hs.env x d' hx
                have hgd := g2.good hknown
                have hat : (({ (stW ops T W s M fun j => listed.getD j false) with obs := F ++ o1, next := M } : St).put o.dst (T i)).at x = d' := by
                  have : ∀ (q : St) (d : D), getK (q.put o.dst d).env x = getK q.env x := fun q d => by
                    cases hd : o.dst with
                    | none => rfl
                    | some y =>
                      have hne : ¬ x = y := fun e => hdx (by rw [hd, e])
                      simp only [St.put, getK_cons, if_neg hne]
                  simp only [St.at, this, stW, hx]
                  try rfl
                rw [hat]
                exact ⟨⟨.inr (.inl hgd.1.symm), hgd.2⟩, g1⟩
            have hinj : ∀ y1 y2, y1 < M → y2 < M → ρ y1 = ρ y2 → y1 = y2 := fun y1 y2 g1 g2 hr => by
              simp only [ρ] at hr
              split at hr <;> split at hr <;> omega
            have hle : St.Le Γ.n0 ρ (({ (stW ops T W s M fun j => listed.getD j false) with obs := F ++ o1, next := M } : St).put o.dst (T i)) (stW ops T W s M fun j => listed.getD j false || j == i) := by
              refine ⟨by rw [pn]; rfl, fun x d' hx => (henv2 x d' hx).1, fun x d' hx => by rw [pn]; exact (henv2 x d' hx).2, hobs2, fun y1 y2 o1 o2 g1 g2 hr => hinj y1 y2 (hobs2 y1 o1 g1).1 (hobs2 y2 o2 g2).1 hr, fun j hj => ⟨hρs j (by omega), ?_⟩⟩
              show j < M
              omega
            obtain ⟨g1, g2⟩ := Sim.weak h1 h2 hle
            refine go _ a' w' g1 g2 fun j x hj hu hc => ?_
            simp only [Kr.ren]
            split
            · have c2 : un x := ⟨j, hj, hu, hc⟩
              simp only [ρ]
              rw [if_pos c2]
              refine h2.hdr _ ?_
              rw [pnext]
              show M ≤ M + 1 + x
              omega
            · rfl
        · rw [if_neg (by rw [hw]; simp)]
          exact next hv.2 K undef w hin (.refl _) rfl hs.sat (by rw [hv.1]; exact .u _ _ (.oth _))
  have h0 : (fun j => (Array.replicate ops.toArray.size false).getD j false) = fun _ => false := funext fun j => by
    by_cases hj : j < ops.length <;> simp [hj]
  refine key _ _ K a w0 (by simp) (by simp) (fun j y hj hS => ?_) hin0 ?_ (fun j x _ _ hc => hs.hdr x (hcr j x hc).1) (fun p _ _ => congrFun h0 p)
  · have : (Array.replicate ops.toArray.size false).getD j false = false := congrFun h0 j
    rw [this] at hS
    cases hS
  · rw [h0]
    have none : ∀ (l : List Oper) (i : Nat) (e : List (Nat × D)), envF T (fun _ => false) l i e = e := by
      intro l
      induction l with
      | nil => intro i e; rfl
      | cons o l ih => intro i e; simp [envF, ih]
    have wn : ∀ m, wlog W (fun _ => false) m = [] := by
      intro m
      induction m with
      | zero => rfl
      | succ m ih => simp [wlog, ih]
    refine ⟨hs0.sat.eqo fun y => ?_, hs0.defers, hs0.size, fun x d hx => hs0.env x d ?_, fun y hy => hs0.hdr y (Nat.le_trans hM hy)⟩
    · simp only [stW, wn]; rfl
    · simp only [stW, none] at hx; exact hx
abbrev Ent4 := Ent × Nat
abbrev Fp4 := List (List Nat × List Nat × Nat)
def eE (E : Nat → Ent4) (j : Nat) : Ent := (E j).1
def tF4 (E : Nat → Ent4) (n : Nat) : Fp4 := (List.range n).map fun j => (tR (eE E) j, keys (tW (eE E) j), (E j).2)
def Op2X (P : Program) (N : Nat) (s : St) (o : O1) (e : Ent) : Prop :=
  match o.guard with
  | none => Op1X P N s o.op o.dst e.1 e.2.1 e.2.2.1 e.2.2.2
  | some (t, want) => (∃ b, getK s.env t = some (.u (.bool b)) ∧ if b = want then Op1X P N s o.op o.dst e.1 e.2.1 e.2.2.1 e.2.2.2 else e.1 = .un ∧ e.2.1 = [] ∧ e.2.2.1 = none) ∨
    (getK s.env t = some .un ∧ e.1 = .un ∧ e.2.1 = [] ∧ e.2.2.1 = none)
def Op4 (P : Program) (Γ : Ctx) (N : Nat) (s : St) (o : O1) (e : Ent4) : Prop :=
  if e.2 = 2 then e.1.2.1 = [] ∧ e.1.2.2.1 = none else if e.2 = 1 then o.guard = none ∧ StopE P Γ s o.op ∧ e.1.2.1 = [] ∧ e.1.2.2.1 = none else e.2 = 0 ∧ Op2X P N s o e.1
def chain4 (P : Program) (Γ : Ctx) (N : Nat) : List O1 → St → Fp4 → (St → Fp4 → Prop) → Prop
  | [], s, fp, k => k s fp
  | o :: rest, s, fp, k => ∃ e : Ent4, putOK o.dst s ∧ Op4 P Γ N s o e ∧ (∀ x, e.1.2.2.1 = some x → x = s.next) ∧ chain4 P Γ N rest (s.app o.dst e.1) (fp ++ [(e.1.2.2.2, keys e.1.2.1, e.2)]) k
def HD4 (P : Program) (Γ : Ctx) (N : Nat) (l : List O1) (s : St) (fp : Fp4) (C : Fp4 → Prop) (k : St → Prop) : Prop :=
  ∀ s0 : St, s0.Eqo s → chain4 P Γ N l s0 fp fun s1 fp => C fp ∧ ((∀ p ∈ fp, p.2.2 ≠ 1) → ∃ s', s1.Eqo s' ∧ k s')
/-- The head of a list of operations goes through. -/
def HD4h (P : Program) (Γ : Ctx) (N : Nat) (o : O1) (rest : List O1) (s : St) (fp : Fp4) (C : Fp4 → Prop) (k : St → Prop) : Prop :=
  ∀ s0 : St, s0.Eqo s → ∃ e : Ent4, putOK o.dst s0 ∧ Op4 P Γ N s0 o e ∧ e.2 ≠ 1 ∧ (∀ x, e.1.2.2.1 = some x → x = s0.next) ∧ chain4 P Γ N rest (s0.app o.dst e.1) (fp ++ [(e.1.2.2.2, keys e.1.2.1, e.2)]) fun s1 fp => C fp ∧ ((∀ p ∈ fp, p.2.2 ≠ 1) → ∃ s', s1.Eqo s' ∧ k s')
theorem HD4.of_h {P Γ N o rest s fp C k} (h : HD4h P Γ N o rest s fp C k) : HD4 P Γ N (o :: rest) s fp C k := fun s0 e => by
  obtain ⟨en, h1, h2, _, h3, h4⟩ := h s0 e
  exact ⟨en, h1, h2, h3, h4⟩
theorem HD4_nil {P Γ N s fp C k} (hC : C fp) (h : k s) : HD4 P Γ N [] s fp C k := fun s0 e => ⟨hC, fun _ => ⟨s, e, h⟩⟩
theorem HD4_nilS {P Γ N s fp C k} (hC : C fp) (h : (fp.any fun p => p.2.2 == 1) = true) : HD4 P Γ N [] s fp C k := fun s0 e => ⟨hC, fun h1 => by
  obtain ⟨p, hp, hk⟩ := List.any_eq_true.1 h
  exact absurd (by simpa using hk) (h1 p hp)⟩
theorem HD4h_val {P Γ N s dst op rest fp C k} (_ : isEffOp op = false) (h : valD P s op fun d => putOK dst s ∧ HD4 P Γ N rest (s.put dst d) (fp ++ [(rdIds s op, [], 0)]) C k) : HD4h P Γ N ⟨dst, op, none⟩ rest s fp C k := fun s0 e => by
  obtain ⟨d, hv, hp, hr⟩ := Lin.valD.2 _ h
  refine ⟨((d, [], none, rdIds s op), 0), by cases dst <;> simp_all [putOK, e.1], ?_, by simp, fun x hx => (by cases hx), hr _ (e.put dst d)⟩
  unfold Op4
  rw [if_neg (by simp), if_neg (by simp)]
  exact ⟨rfl, .inl (.inl ⟨by rw [valD_eqo e]; exact hv, rfl, rfl, (rdIds_eqo e op).symm⟩)⟩
theorem HD4h_chg {P Γ N s dst op rest fp C k} (_ : isEffOp op = true) (h : effD P s op fun e => putOK dst s ∧ (e.nw = none → dst = none) ∧
    HD4 P Γ N rest (s.effS e dst) (fp ++ [(rdIds s op, match e.nw with | none => (e.U.map (·.1), 0) | some _ => (s.next :: e.U.map (·.1), 0))]) C k) : HD4h P Γ N ⟨dst, op, none⟩ rest s fp C k := fun s0 e0 => by
  obtain ⟨e, hv, hp, hd, hr⟩ := Lin.effD.2 _ h
  have hp0 : putOK dst s0 := by cases dst <;> simp_all [putOK, e0.1]
  have hv0 : effD P s0 op (· = e) := by rw [effD_eqo e0]; exact hv
  cases hn : e.nw with
  | none =>
    obtain rfl := hd hn
    refine ⟨((.any, e.U, none, rdIds s op), 0), hp0, ?_, by simp, fun x hx => (by cases hx), ?_⟩
    · unfold Op4
      rw [if_neg (by simp), if_neg (by simp)]
      exact ⟨rfl, .inl (.inr ⟨e, hv0, (rdIds_eqo e0 op).symm, by rw [hn]; exact ⟨rfl, rfl, rfl⟩⟩)⟩
    rw [hn] at hr
    refine hr _ ?_
    simp only [St.app, St.effS, hn, St.put]
    exact ⟨e0.1, fun x => by simp only [getK_applyW, e0.2.1 x], e0.2.2.1, e0.2.2.2⟩
  | some ob =>
    refine ⟨((mkD e.how s0.next, (s0.next, some ob) :: e.U, some s0.next, rdIds s op), 0), hp0, ?_, by simp, fun x hx => (by cases hx; rfl), ?_⟩
    · unfold Op4
      rw [if_neg (by simp), if_neg (by simp)]
      exact ⟨rfl, .inl (.inr ⟨e, hv0, (rdIds_eqo e0 op).symm, by rw [hn]; exact ⟨s0.next, rfl, rfl, rfl⟩⟩)⟩
    rw [hn] at hr
    have h1 := hr (s0.app dst (mkD e.how s0.next, (s0.next, some ob) :: e.U, some s0.next, rdIds s op)) (by
      simp only [St.app, St.effS, hn, e0.2.2.1]
      apply St.Eqo.put
      refine ⟨e0.1, fun x => ?_, by simp, e0.2.2.2⟩
      simp only [applyW, getK_setOb, getK_cons, getK_applyW, e0.2.1 x])
    simp only [keys, List.map_cons]
    rw [e0.2.2.1] at h1 ⊢
    exact h1
theorem HD4_val {P Γ N s dst op rest fp C k} (h0 : isEffOp op = false) (h : valD P s op fun d => putOK dst s ∧ HD4 P Γ N rest (s.put dst d) (fp ++ [(rdIds s op, [], 0)]) C k) : HD4 P Γ N (⟨dst, op, none⟩ :: rest) s fp C k := .of_h (HD4h_val h0 h)
theorem HD4_chg {P Γ N s dst op rest fp C k} (h0 : isEffOp op = true) (h : effD P s op fun e => putOK dst s ∧ (e.nw = none → dst = none) ∧
    HD4 P Γ N rest (s.effS e dst) (fp ++ [(rdIds s op, match e.nw with | none => (e.U.map (·.1), 0) | some _ => (s.next :: e.U.map (·.1), 0))]) C k) : HD4 P Γ N (⟨dst, op, none⟩ :: rest) s fp C k := .of_h (HD4h_chg h0 h)
theorem HD4_guard {P Γ N s dst op rest fp C k t want b} (hb : getK s.env t = some (.u (.bool b))) (hp : putOK dst s)
    (hy : b = want → HD4h P Γ N ⟨dst, op, none⟩ rest (s.put (some t) (.u (.bool want))) fp C k)
    (hn : b = !want → HD4 P Γ N rest ((s.put (some t) (.u (.bool (!want)))).put dst .un) (fp ++ [([], [], 0)]) C k) : HD4 P Γ N (⟨dst, op, some (t, want)⟩ :: rest) s fp C k := fun s0 e => by
  have lit : ∀ b', b = b' → s.Eqo (s.put (some t) (.u (.bool b'))) := fun b' e' => ⟨rfl, fun _ => rfl, rfl, fun x => by
    subst e'
    simp only [St.put, getK_cons]
    split
    · rename_i hx; rw [hx, hb]
    · rfl⟩
  have hp0 : putOK dst s0 := by cases dst <;> simp_all [putOK, e.1]
  by_cases hw : b = want
  · have e1 := e.trans (lit want hw)
    obtain ⟨en, h1, h2, h5, h3, h4⟩ := hy hw s0 e1
    refine ⟨en, h1, ?_, h3, h4⟩
    unfold Op4 at h2 ⊢
    by_cases h6 : en.2 = 2
    · rw [if_pos h6] at h2 ⊢
      exact h2
    · rw [if_neg h6, if_neg h5] at h2 ⊢
      exact ⟨h2.1, .inl ⟨b, by rw [e.2.2.2 t]; exact hb, by rw [if_pos hw]; exact h2.2⟩⟩
  · have hw' : b = !want := by cases b <;> cases want <;> simp_all
    have e1 := e.trans (lit _ hw')
    refine ⟨((.un, [], none, []), 0), hp0, ?_, fun x hx => (by cases hx), hn hw' _ (e1.put dst .un)⟩
    unfold Op4
    rw [if_neg (by simp), if_neg (by simp)]
    exact ⟨rfl, .inl ⟨b, by rw [e.2.2.2 t]; exact hb, by rw [if_neg hw]; exact ⟨rfl, rfl, rfl⟩⟩⟩
/-- An operation that is never reached, for one ahead of it panics. -/
theorem HD4_skip {P Γ N s dst op g rest fp C k} (hp : putOK dst s) (h : HD4 P Γ N rest (s.put dst .any) (fp ++ [([], [], 2)]) C k) : HD4 P Γ N (⟨dst, op, g⟩ :: rest) s fp C k := fun s0 e => by
  refine ⟨((.any, [], none, []), 2), by cases dst <;> simp_all [putOK, e.1], ?_, fun x hx => (by cases hx), h _ (e.put dst .any)⟩
  unfold Op4
  rw [if_pos rfl]
  exact ⟨rfl, rfl⟩
theorem applyW_getK (W : Wr) {o o' : List (Nat × Ob)} (h : ∀ y, getK o y = getK o' y) : ∀ y, getK (applyW W o) y = getK (applyW W o') y := fun y => by rw [getK_applyW, getK_applyW, h y]
/-- A call that changes some of the objects it is handed, and makes none. -/
theorem HD4_callL {P : Program} {Γ : Ctx} {N : Nat} {s : St} {dst : Option Tmp} {rest fp C k} {fop : Operand} {args : Array Operand} {ts : Array TypeId} {f caps} {ds : List D} {d : D} (O O' : List (Nat × Ob)) (L : List Nat)
    (hret : ∀ nx, s.next ≤ nx → RetX P f ds O nx fun r o n => r = .val d ∧ (∀ y, getK o y = getK O' y) ∧ n = nx)
    (hf : calleeOf (opd s fop) = some (f, caps)) (hc : callable P f = true) (hds : args.toList.map (opd s) ++ caps = ds) (hkeys : O'.map (·.1) = O.map (·.1)) (hsm : ∀ y, L.contains y = false → getK O' y = getK O y) (hO : ∀ p ∈ O, getK s.obs p.1 = some p.2) (hnd : (O.map (·.1)).Nodup)
    (hu : d.under N = true ∧ ∀ p ∈ O', p.2.under N = true) (hp : putOK dst s)
    (h : HD4 P Γ N rest (({ s with obs := applyW ((O'.filter fun p => L.contains p.1).map fun p => (p.1, some p.2)) s.obs } : St).put dst d) (fp ++ [(O.map (·.1), (O'.filter fun p => L.contains p.1).map (·.1), 0)]) C k) :
    HD4 P Γ N (⟨dst, .call { callee := .value fop, args, argTypes := ts }, none⟩ :: rest) s fp C k := fun s0 e => by
  refine ⟨((d, (O'.filter fun p => L.contains p.1).map (fun p => (p.1, some p.2)), none, O.map (·.1)), 0), by cases dst <;> simp_all [putOK, e.1], ?_, fun x hx => (by cases hx), ?_⟩
  · unfold Op4
    rw [if_neg (by simp), if_neg (by simp)]
    refine ⟨rfl, .inr ⟨⟨fop, args.toList, f, caps, O, O', L, rfl, by rw [opd_eqo e]; exact hf, hc, rfl, rfl, hkeys, hsm, fun p hp => by rw [e.2.1]; exact hO p hp, hnd, hu, fun nx hnx => ?_⟩, rfl⟩⟩
    have e1 : args.toList.map (opd s0) = args.toList.map (opd s) := List.map_congr_left fun x _ => opd_eqo e x
    rw [e1, hds]
    exact hret nx (by rw [e.2.2.1] at hnx; exact hnx)
  · have := h (s0.app dst (d, (O'.filter fun p => L.contains p.1).map (fun p => (p.1, some p.2)), none, O.map (·.1))) (by
      simp only [St.app]
      apply St.Eqo.put
      exact ⟨e.1, applyW_getK _ e.2.1, by simpa using e.2.2.1, e.2.2.2⟩)
    simpa [keys, List.map_map, Function.comp_def] using this
theorem filter_all {O O' : List (Nat × Ob)} (hkeys : O'.map (·.1) = O.map (·.1)) : (O'.filter fun p => (O.map (·.1)).contains p.1) = O' := by
  refine List.filter_eq_self.2 fun p hp => ?_
  rw [← hkeys]
  simp only [List.contains_eq_mem, decide_eq_true_eq]
  exact List.mem_map.2 ⟨p, hp, rfl⟩
/-- A call that changes the objects it is handed, and makes none. -/
theorem HD4_call {P : Program} {Γ : Ctx} {N : Nat} {s : St} {dst : Option Tmp} {rest fp C k} {fop : Operand} {args : Array Operand} {ts : Array TypeId} {f caps} {ds : List D} {d : D} (O O' : List (Nat × Ob))
    (hret : ∀ nx, s.next ≤ nx → RetX P f ds O nx fun r o n => r = .val d ∧ (∀ y, getK o y = getK O' y) ∧ n = nx)
    (hf : calleeOf (opd s fop) = some (f, caps)) (hc : callable P f = true) (hds : args.toList.map (opd s) ++ caps = ds) (hkeys : O'.map (·.1) = O.map (·.1)) (hO : ∀ p ∈ O, getK s.obs p.1 = some p.2) (hnd : (O.map (·.1)).Nodup)
    (hu : d.under N = true ∧ ∀ p ∈ O', p.2.under N = true) (hp : putOK dst s)
    (h : HD4 P Γ N rest (({ s with obs := applyW (O'.map fun p => (p.1, some p.2)) s.obs } : St).put dst d) (fp ++ [(O.map (·.1), O'.map (·.1), 0)]) C k) :
    HD4 P Γ N (⟨dst, .call { callee := .value fop, args, argTypes := ts }, none⟩ :: rest) s fp C k :=
  HD4_callL O O' (O.map (·.1)) hret hf hc hds hkeys (fun y hy => by
    rw [getK_keys O y (by simpa using hy), getK_keys O' y (by rw [hkeys]; simpa using hy)]) hO hnd hu hp (by rw [filter_all hkeys]; exact h)
/-- A call that panics: nothing behind it is reached. -/
theorem HD4_stop {P : Program} {Γ : Ctx} {N : Nat} {s : St} {dst : Option Tmp} {rest fp C k} {fop : Operand} {args : Array Operand} {ts : Array TypeId} {f caps} {ds : List D} {post : Out → List (Nat × Ob) → Nat → Prop} (O : List (Nat × Ob))
    (hret : ∀ nx, s.next ≤ nx → RetX P f ds O nx post) (hno : ∀ d o n, ¬ post (.val d) o n)
    (hf : calleeOf (opd s fop) = some (f, caps)) (hc : callable P f = true) (hds : args.toList.map (opd s) ++ caps = ds) (hO : ∀ p ∈ O, getK s.obs p.1 = some p.2) (hp : putOK dst s)
    (hx : ∀ env ch o n, s.next ≤ n → post (.pan ch) o n → ∃ s2, Wk Γ { n := s.n, env := env, obs := (s.obs.filter fun p => !(O.map (·.1)).contains p.1) ++ o, next := n } s2 ∧ Γ.pan ch s2)
    (h : HD4 P Γ N rest (s.put dst .any) (fp ++ [([], [], 1)]) C k) :
    HD4 P Γ N (⟨dst, .call { callee := .value fop, args, argTypes := ts }, none⟩ :: rest) s fp C k := fun s0 e => by
  refine ⟨((.any, [], none, []), 1), by cases dst <;> simp_all [putOK, e.1], ?_, fun x hx => (by cases hx), h _ (e.put dst .any)⟩
  unfold Op4
  rw [if_neg (by simp), if_pos rfl]
  refine ⟨rfl, fun s' hn ho hopd hnx o hop hg hpo => ?_, rfl, rfl⟩
  obtain ⟨odst, oop, ot, opos, oaf, og⟩ := o
  simp only at hop hg hpo
  subst hop
  subst hg
  have hopS : ∀ x ∈ fop :: args.toList, opd s' x = opd s x := fun x hx => by
    rw [hopd x (by
      simp only [Op.operands, Call.operands]
      simp only [List.mem_cons] at hx
      simp
      rcases hx with rfl | hx
      · exact .inl rfl
      · exact .inr (by simpa using hx)), opd_eqo e]
  have hOget : ∀ y, getK s'.obs y = getK s.obs y := fun y => by rw [ho, e.2.1]
  have hcall : CallP P Γ fop args.toList odst s' fun _ => False :=
    CallP.xF (s'.obs.filter fun p => !(O.map (·.1)).contains p.1) O (hret s'.next (by rw [← e.2.2.1]; exact hnx)) (fun y => by
      rw [getK_append, getK_filterN]
      by_cases hy : (O.map (·.1)).contains y = true
      · rw [if_pos hy]
        obtain ⟨x, hx⟩ := getK_isSome (l := O) (y := y) (by simpa using hy)
        rw [hx, hOget y, hO _ (getK_memK hx)]
      · rw [if_neg hy, getK_keys O y (by simpa using hy)]
        cases getK s'.obs y <;> rfl) (fun y ob hy => by
      rw [getK_filterN] at hy
      by_cases hc : (O.map (·.1)).contains y = true
      · rw [if_pos hc] at hy; cases hy
      · exact getK_keys O y (by simpa using hc)) (by rw [hopS fop (by simp)]; exact hf) hc (by rw [List.map_congr_left fun x hx => hopS x (by simp [hx])]; exact hds) hpo
      (fun d o1 nx' _ hp => absurd hp (hno d o1 nx')) (fun ch o1 nx' hn' hp => by
        obtain ⟨s2, h1, h2⟩ := hx s'.env ch o1 nx' (by have := e.2.2.1; omega) hp
        refine ⟨s2, fun K a w hin hs => h1 K a w hin (hs.eqo ⟨by simp [hn, e.1], fun y => ?_, rfl, fun _ => rfl⟩), h2⟩
        simp only [getK_append, getK_filterN, hOget])
  exact hcall ts ot opos oaf
theorem chain4_T {P : Program} {Γ : Ctx} {N : Nat} {all : Array Oper} {s0 : St} {ops : List Oper} {k : St → Fp4 → Prop} : ∀ (l : List O1) (tail : List Oper) (i : Nat) (E : Nat → Ent4), stripL all tail = some l → (∀ j, tail[j]? = ops[i + j]?) →
    chain4 P Γ N l (stE ops s0 (eE E) i) (tF4 E i) k → ∃ E' : Nat → Ent4, (∀ j, j < i → E' j = E j) ∧
      (∀ j o, i ≤ j → ops[j]? = some o → putOK o.dst s0 ∧ (if (E' j).2 = 2 then tW (eE E') j = [] ∧ tC (eE E') j = none else if (E' j).2 = 1 then o.guard = none ∧ StopE P Γ (stE ops s0 (eE E') j) o.op ∧ tW (eE E') j = [] ∧ tC (eE E') j = none else
        (E' j).2 = 0 ∧ OpGX P N all (stE ops s0 (eE E') j) o (tT (eE E') j) (tW (eE E') j) (tC (eE E') j) (tR (eE E') j)) ∧ ∀ x, tC (eE E') j = some x → x = s0.next + cnt (eE E') j) ∧
      k (stE ops s0 (eE E') (i + tail.length)) (tF4 E' (i + tail.length))
  | [], tail, i, E, hs, ht, h => by
    cases tail with
    | nil => exact ⟨E, fun _ _ => rfl, fun j o hj ho => by have := ht (j - i); rw [show i + (j - i) = j by omega, ho] at this; simp at this, by simpa [chain4] using h⟩
    | cons x l => simp only [stripL] at hs; split at hs <;> simp at hs
  | o1 :: l, tail, i, E, hs, ht, h => by
    obtain ⟨x, tl, rfl, hx, hr⟩ := stripL_cons hs
    obtain ⟨e, hp, hv, hnx, hc⟩ := h
    have hxi : ops[i]? = some x := by have := ht 0; simpa using this.symm
    have hdst : o1.dst = x.dst ∧ o1.op = x.op := by
      unfold strip at hx
      split at hx
      · simp at hx; subst hx; exact ⟨rfl, rfl⟩
      · split at hx
        · simp at hx; subst hx; exact ⟨rfl, rfl⟩
        · cases hx
    let E1 : Nat → Ent4 := fun j => if j = i then e else E j
    have h1 : ∀ j, j < i → E j = E1 j := fun j hj => by simp only [E1]; rw [if_neg (by omega)]
    have h1' : ∀ j, j < i → eE E j = eE E1 j := fun j hj => by simp only [eE, h1 j hj]
    have hi : E1 i = e := by simp [E1]
    have hi' : eE E1 i = e.1 := by simp only [eE, hi]
    have hstep : (stE ops s0 (eE E) i).app o1.dst e.1 = stE ops s0 (eE E1) (i + 1) := by
      rw [stE_congr h1', hdst.1]
      simp only [stE, St.app]
      rw [envF_step (tT (eE E1)) i ops 0 s0.env x (Nat.zero_le _) (by simpa using hxi)]
      have hw : wlog (tW (eE E1)) (fun _ => true) (i + 1) = e.1.2.1 ++ wlog (tW (eE E1)) (fun _ => true) i := by
        rw [wlog, if_pos rfl, show tW (eE E1) i = e.1.2.1 by simp only [tW, hi']]
      have hcn : cnt (eE E1) (i + 1) = cnt (eE E1) i + if e.1.2.2.1.isSome then 1 else 0 := by
        rw [cnt, show tC (eE E1) i = e.1.2.2.1 by simp only [tC, hi']]
      rw [hw, applyW_append, hcn]
      have hT : tT (eE E1) i = e.1.1 := by simp only [tT, hi']
      cases x.dst with
      | none => simp only [St.put, Nat.add_assoc]
      | some y => simp only [St.put, hT, Nat.add_assoc]
    have hfp : tF4 E i ++ [(e.1.2.2.2, keys e.1.2.1, e.2)] = tF4 E1 (i + 1) := by
      have hc1 : tF4 E i = tF4 E1 i := List.map_congr_left fun j hj => by
        have := h1 j (List.mem_range.1 hj)
        simp only [eE, tR, tW, this]
      rw [hc1]
      simp only [tF4, List.range_succ, List.map_append, List.map_cons, List.map_nil]
      rw [show tR (eE E1) i = e.1.2.2.2 by simp only [tR, hi'], show tW (eE E1) i = e.1.2.1 by simp only [tW, hi'], hi]
    rw [hstep, hfp] at hc
    obtain ⟨E', g1, g2, g3⟩ := chain4_T l tl (i + 1) E1 hr (fun j => by have := ht (j + 1); rw [show i + 1 + j = i + (j + 1) by omega, ← this]; simp) hc
    refine ⟨E', fun j hj => by rw [g1 j (by omega), h1 j hj], fun j o hj ho => ?_, ?_⟩
    · rcases Nat.lt_or_ge i j with h' | h'
      · exact g2 j o h' ho
      · obtain rfl : i = j := by omega
        rw [hxi] at ho
        cases ho
        have hEi : E' i = e := by rw [g1 i (by omega), hi]
        have hEi' : eE E' i = e.1 := by simp only [eE, hEi]
        have hst : stE ops s0 (eE E') i = stE ops s0 (eE E) i := stE_congr fun j hj => by simp only [eE]; rw [g1 j (by omega), ← h1 j hj]
        refine ⟨by rw [hdst.1] at hp; exact hp, ?_, fun y hy => ?_⟩
        · rw [hst]
          simp only [tT, tW, tC, tR, hEi, hEi']
          unfold Op4 at hv
          by_cases c2 : e.2 = 2
          · rw [if_pos c2] at hv ⊢
            exact hv
          · rw [if_neg c2] at hv ⊢
            by_cases c1 : e.2 = 1
            · rw [if_pos c1] at hv ⊢
              obtain ⟨v1, v2, v3⟩ := hv
              refine ⟨?_, by rw [← hdst.2]; exact v2, v3⟩
              unfold strip at hx
              split at hx
              · rename_i hg; exact hg
              · split at hx
                · simp at hx; subst hx; cases v1
                · cases hx
            · rw [if_neg c1] at hv ⊢
              obtain ⟨v0, hv⟩ := hv
              refine ⟨v0, ?_⟩
              unfold strip at hx
              unfold OpGX
              unfold Op2X at hv
              split at hx
              · rename_i hg
                simp at hx
                subst hx
                try rw [hg]
                exact hv
              · rename_i q want hg
                split at hx
                · rename_i t ht'
                  simp at hx
                  subst hx
                  try rw [hg]
                  exact ⟨t, ht', hv⟩
                · cases hx
        · have : tC (eE E') i = e.1.2.2.1 := by simp only [tC, hEi']
          rw [this] at hy
          have := hnx y hy
          rw [this, cnt_congr (eE E') (eE E) i fun j hj => by simp only [eE]; rw [g1 j (by omega), ← h1 j hj]]
          try rfl
    · rw [show i + (x :: tl).length = i + 1 + tl.length by simp; omega]
      exact g3
def okP4 (ops : List Oper) (fp : Fp4) : Bool :=
  okP ops (fp.map fun p => (p.1, p.2.1)) &&
  (List.range ops.length).all fun j => ((fp.getD j ([], [], 0)).2.2 != 2 || (List.range ops.length).any fun p => (fp.getD p ([], [], 0)).2.2 == 1 && befB ops ops.length p j) &&
    ((fp.getD j ([], [], 0)).2.2 != 1 || (List.range ops.length).all fun i => (fp.getD i ([], [], 0)).2.1.isEmpty || befB ops ops.length i j || befB ops ops.length j i)
theorem V_drawX {P Γ s} {Q : Exit → St → Prop} {kt : Kt} {id : Nat} {l : List Oper} (hm : P.follows .mixedOrders = true) (hord : ordOK l = true) (hn0 : Γ.n0 ≤ s.next)
    (h : ∀ (C : Fp4 → Prop) (k : St → Prop), (∀ fp, okP4 l fp = true → C fp) → (∀ s', RunK P Γ Q kt .normal s' → k s') → match stripL l.toArray l with | some l' => HD4 P Γ s.next l' s [] C k | none => False) :
    V P Γ (.region id l.toArray true) s (RunK P Γ Q kt) := by
  have := h (fun fp => okP4 l fp = true) _ (fun _ h => h) fun _ h => h
  split at this
  · rename_i l' hl
    have h0 : stE l s (eE fun _ => default) 0 = s := by
      have hnone : ∀ (l : List Oper) (i : Nat) (e : List (Nat × D)), envF (tT (eE fun _ => default)) (fun j => decide (j < 0)) l i e = e := by
        intro l
        induction l with
        | nil => intro i e; rfl
        | cons o l ih => intro i e; exact ih (i + 1) e
      simp only [stE, hnone]
      try rfl
    have hc := this s (.refl s)
    rw [← h0] at hc
    obtain ⟨E, _, h2, hok, hfin⟩ := chain4_T l' l 0 (fun _ => default) hl (fun j => by rw [Nat.zero_add]) hc
    rw [Nat.zero_add] at hok hfin
    simp only [okP4, Bool.and_eq_true] at hok
    obtain ⟨hok1, hok2⟩ := hok
    have hlen4 : ∀ i, i < l.length → (tF4 E l.length).getD i ([], [], 0) = (tR (eE E) i, keys (tW (eE E) i), (E i).2) := fun i hi => by
      simp [tF4, hi]
    have hlen : ∀ i, i < l.length → ((tF4 E l.length).map fun p => (p.1, p.2.1)).getD i ([], []) = (tR (eE E) i, keys (tW (eE E) i)) := fun i hi => by
      simp [tF4, hi]
    have mono : ∀ i j, i ≤ j → cnt (eE E) i ≤ cnt (eE E) j := fun i j hij => by
      induction hij with
      | refl => exact Nat.le_refl _
      | step _ ih => simp only [cnt]; omega
    have hcr : ∀ i x, i < l.length → tC (eE E) i = some x → x = s.next + cnt (eE E) i ∧ cnt (eE E) (i + 1) = cnt (eE E) i + 1 := fun i x hi hx => by
      have := (h2 i _ (Nat.zero_le _) (List.getElem?_eq_getElem hi)).2.2 x hx
      exact ⟨this, by simp only [cnt, hx]; rfl⟩
    let cr : Nat → Option Nat := fun i => if i < l.length then tC (eE E) i else none
    let kd : Nat → Nat := fun i => if i < l.length then (E i).2 else 0
    let W : Nat → Wr := fun i => if i < l.length then tW (eE E) i else []
    have hWe : ∀ i, i < l.length → W i = tW (eE E) i := fun i hi => by simp only [W]; rw [if_pos hi]
    refine V_draw4 (T := tT (eE E)) (W := W) (cr := cr) (R := tR (eE E)) (kd := kd) (M := s.next + cnt (eE E) l.length) hm hord hn0 (by omega) (fun i x hx => ?_) (fun i j x hi hj => ?_) (fun i j hij hj hb => ?_) (fun i hk => ?_) (fun p i hp hi hw => ?_) (fun i o ho => ?_) (fun hnk => ?_)
    · simp only [cr] at hx
      split at hx
      · rename_i hi
        obtain ⟨e1, e2⟩ := hcr i x hi hx
        have := mono (i + 1) l.length hi
        omega
      · cases hx
    · simp only [cr] at hi hj
      split at hi
      · rename_i hil
        split at hj
        · rename_i hjl
          obtain ⟨e1, e2⟩ := hcr i x hil hi
          obtain ⟨e3, e4⟩ := hcr j x hjl hj
          rcases Nat.lt_trichotomy i j with hlt | hlt | hlt
          · have := mono (i + 1) j hlt
            omega
          · exact hlt
          · have := mono (j + 1) i hlt
            omega
        · cases hj
      · cases hi
    · have := (List.all_eq_true.1 ((List.all_eq_true.1 hok1) j (List.mem_range.2 hj))) i (List.mem_range.2 hij)
      rw [hb, hlen i (by omega), hlen j hj] at this
      simp only [Bool.false_or, Bool.and_eq_true] at this
      rw [hWe i (by omega), hWe j hj]
      refine ⟨fun y hy => ?_, fun y hy => disjB_out this.2 y hy⟩
      have := disjB_out this.1 y hy
      rw [List.mem_append, not_or] at this
      exact this
    · simp only [kd] at hk
      split at hk
      · rename_i hi
        obtain ⟨_, g2, _⟩ := h2 i _ (Nat.zero_le _) (List.getElem?_eq_getElem hi)
        have hci : cr i = tC (eE E) i := by simp only [cr]; rw [if_pos hi]
        rw [hWe i hi, hci]
        by_cases c2 : (E i).2 = 2
        · rw [if_pos c2] at g2; exact g2
        · rw [if_neg c2] at g2
          by_cases c1 : (E i).2 = 1
          · rw [if_pos c1] at g2; exact g2.2.2
          · rw [if_neg c1] at g2; exact absurd g2.1 hk
      · exact absurd rfl hk
    · simp only [kd] at hp
      split at hp
      · rename_i hpl
        have := (List.all_eq_true.1 hok2) p (List.mem_range.2 hpl)
        rw [Bool.and_eq_true, hlen4 p hpl] at this
        have h3 := this.2
        simp only [hp] at h3
        have h4 : ((List.range l.length).all fun i => ((tF4 E l.length).getD i ([], [], 0)).2.1.isEmpty || befB l l.length i p || befB l l.length p i) = true := by simpa using h3
        have h5 := (List.all_eq_true.1 h4) i (List.mem_range.2 hi)
        rw [hlen4 i hi] at h5
        simp only [Bool.or_eq_true] at h5
        rcases h5 with (h5 | h5) | h5
        · exfalso
          apply hw
          rw [hWe i hi]
          have : keys (tW (eE E) i) = [] := by simpa using h5
          simpa [keys] using this
        · exact .inl h5
        · exact .inr h5
      · cases hp
    · have hi := (List.getElem?_eq_some_iff.1 ho).1
      obtain ⟨g1, g2, g3⟩ := h2 i o (Nat.zero_le _) ho
      refine ⟨g1, ?_⟩
      have hwl : ∀ S m, m ≤ l.length → wlog W S m = wlog (tW (eE E)) S m := fun S m hm => wlog_congrW W (tW (eE E)) S m fun j hj => hWe j (by omega)
      have hst : stW l (tT (eE E)) W s (s.next + cnt (eE E) l.length) (fun j => decide (j < i)) = { stE l s (eE E) i with next := s.next + cnt (eE E) l.length } := by
        simp only [stW, stE]
        rw [hwl _ _ (Nat.le_refl _), wlog_take (tW (eE E)) i l.length (by omega)]
      have hcri : cr i = tC (eE E) i := by simp only [cr]; rw [if_pos hi]
      have hkdi : kd i = (E i).2 := by simp only [kd]; rw [if_pos hi]
      rw [hst, hcri, hkdi, hWe i hi]
      have opo : ∀ x, opd { stE l s (eE E) i with next := s.next + cnt (eE E) l.length } x = opd (stE l s (eE E) i) x := fun x => by cases x <;> rfl
      have eqo : ∀ (op : Op) (r : D → Prop), valD P { stE l s (eE E) i with next := s.next + cnt (eE E) l.length } op r = valD P (stE l s (eE E) i) op r := fun op r => valD_congr rfl fun x _ => by cases x <;> rfl
      have ero : ∀ (op : Op), rdIds { stE l s (eE E) i with next := s.next + cnt (eE E) l.length } op = rdIds (stE l s (eE E) i) op := fun op => by
        have e : opd { stE l s (eE E) i with next := s.next + cnt (eE E) l.length } = opd (stE l s (eE E) i) := funext fun x => by cases x <;> rfl
        unfold rdIds lentIds argsV
        rw [e]
      have efo : ∀ (op : Op) (r : ERes → Prop), effD P { stE l s (eE E) i with next := s.next + cnt (eE E) l.length } op r = effD P (stE l s (eE E) i) op r := fun op r =>
        propext ⟨effD_loc (fun _ _ => rfl) fun x _ => by cases x <;> rfl, effD_loc (fun _ _ => rfl) fun x _ => by cases x <;> rfl⟩
      have hle : (stE l s (eE E) i).next ≤ s.next + cnt (eE E) l.length := by
        have := mono i l.length (by omega)
        simp only [stE]; omega
      have cao : ∀ (op : Op) (d : D) (W : Wr) (R : List Nat), CallE P s.next (stE l s (eE E) i) op d W R → CallE P s.next { stE l s (eE E) i with next := s.next + cnt (eE E) l.length } op d W R :=
        fun op d W R ⟨fop, args, f, caps, O, O', L, q1, q2, q3, q4, q5, q6, q6b, q7, q8, q9, q10⟩ => ⟨fop, args, f, caps, O, O', L, q1, by rw [opo]; exact q2, q3, q4, q5, q6, q6b, q7, q8, q9, fun nx hnx => by
          rw [List.map_congr_left fun x _ => opo x]
          exact q10 nx (Nat.le_trans hle hnx)⟩
      have c1x : ∀ (op : Op) (dst : Option Tmp) (d : D) (W : Wr) (cr : Option Nat) (R : List Nat), Op1X P s.next (stE l s (eE E) i) op dst d W cr R → Op1X P s.next { stE l s (eE E) i with next := s.next + cnt (eE E) l.length } op dst d W cr R :=
        fun op dst d W cr R h => by
          rcases h with h | ⟨h, hc⟩
          · left
            unfold Op1 at h ⊢
            simp only [eqo, ero, efo]
            exact h
          · exact .inr ⟨cao _ _ _ _ h, hc⟩
      by_cases k2 : (E i).2 = 2
      · rw [if_pos k2]
        have := (List.all_eq_true.1 hok2) i (List.mem_range.2 hi)
        rw [Bool.and_eq_true, hlen4 i hi] at this
        have h3 := this.1
        simp only [k2] at h3
        have h4 : ((List.range l.length).any fun p => ((tF4 E l.length).getD p ([], [], 0)).2.2 == 1 && befB l l.length p i) = true := by simpa using h3
        obtain ⟨p, hp, h5⟩ := List.any_eq_true.1 h4
        have hpl := List.mem_range.1 hp
        rw [hlen4 p hpl, Bool.and_eq_true] at h5
        exact ⟨p, by simp only [kd]; rw [if_pos hpl]; simpa using h5.1, hpl, h5.2⟩
      · rw [if_neg k2] at g2 ⊢
        by_cases k1 : (E i).2 = 1
        · rw [if_pos k1] at g2 ⊢
          refine ⟨g2.1, fun s' a1 a2 a3 a4 => g2.2.1 s' a1 a2 (fun x hx => by rw [a3 x hx, opo]) (Nat.le_trans hle a4)⟩
        · rw [if_neg k1] at g2 ⊢
          obtain ⟨_, g2⟩ := g2
          unfold OpGX at g2 ⊢
          split
          · rename_i hg; rw [hg] at g2; exact c1x _ _ _ _ _ _ g2
          · rename_i j want hg
            rw [hg] at g2
            obtain ⟨t, ht, g2⟩ := g2
            refine ⟨t, ht, ?_⟩
            rcases g2 with ⟨b, hb, g2⟩ | g2
            · refine .inl ⟨b, hb, ?_⟩
              split
              · rename_i hbw; rw [if_pos hbw] at g2; exact c1x _ _ _ _ _ _ g2
              · rename_i hbw; rw [if_neg hbw] at g2; exact g2
            · exact .inr g2
    · obtain ⟨s', h3, h4⟩ := hfin fun p hp => by
        obtain ⟨i, hi, rfl⟩ := List.mem_map.1 hp
        have hil := List.mem_range.1 hi
        have := hnk i hil
        simp only [kd] at this
        rw [if_pos hil] at this
        exact this
      refine ⟨s', St.Eqo.trans (b := stE l s (eE E) l.length) ⟨rfl, fun x => ?_, rfl, fun x => ?_⟩ h3, h4⟩
      · simp only [stW, stE]
        rw [wlog_congrW W (tW (eE E)) (fun _ => true) l.length fun j hj => hWe j hj]
      · simp only [stW, stE]
        exact envF_congr (tT (eE E)) _ _ x l 0 s.env s.env rfl fun j o hj _ => by
          have := (List.getElem?_eq_some_iff.1 hj).1
          simp [this]
  · exact this.elim
end Go.VL
namespace Go.VL
open Go
/-- Numbers of objects by their places: the first ones are those that were handed over. -/
def rhoI (ids : List Nat) (nx k : Nat) : Nat := match ids[k]? with | some x => x | none => nx + (k - ids.length)
theorem rhoI_inj {ids : List Nat} {nx : Nat} (hd : ids.Nodup) (hlt : ∀ x ∈ ids, x < nx) {a b : Nat} (h : rhoI ids nx a = rhoI ids nx b) : a = b := by
  unfold rhoI at h
  rcases ha : ids[a]? with _ | x <;> rcases hb : ids[b]? with _ | y <;> rw [ha, hb] at h <;> simp only at h
  · have := List.getElem?_eq_none_iff.1 ha
    have := List.getElem?_eq_none_iff.1 hb
    omega
  · have := hlt y (List.mem_of_getElem? hb)
    omega
  · have := hlt x (List.mem_of_getElem? ha)
    omega
  · obtain ⟨h1, h2⟩ := List.getElem?_eq_some_iff.1 ha
    obtain ⟨h3, h4⟩ := List.getElem?_eq_some_iff.1 hb
    rw [List.nodup_iff_pairwise_ne, List.pairwise_iff_getElem] at hd
    rcases Nat.lt_trichotomy a b with hlt' | hlt' | hlt'
    · exact absurd (h2.trans (h.trans h4.symm)) (hd a b h1 h3 hlt')
    · exact hlt'
    · exact absurd (h2.trans (h.trans h4.symm)).symm (hd b a h3 h1 hlt')
inductive KL (ids : List Nat) (nx : Nat) : List Nat → List Nat → Prop
  | nil : KL ids nx [] []
  | cons (k : Nat) {x l l0} (h : rhoI ids nx k = x) (t : KL ids nx l l0) : KL ids nx (x :: l) (k :: l0)
theorem KL.map {ids nx l l0} (h : KL ids nx l l0) : l = l0.map (rhoI ids nx) := by
  induction h with
  | nil => rfl
  | cons k h t ih => rw [List.map_cons, h, ← ih]
inductive KF (ids : List Nat) (nx : Nat) : Fp4 → Fp4 → Prop
  | nil : KF ids nx [] []
  | cons {a a0 b b0 k fp fp0} (h1 : KL ids nx a a0) (h2 : KL ids nx b b0) (h3 : KF ids nx fp fp0) : KF ids nx ((a, b, k) :: fp) ((a0, b0, k) :: fp0)
theorem KF.map {ids nx l l0} (h : KF ids nx l l0) : l = l0.map fun p => (p.1.map (rhoI ids nx), p.2.1.map (rhoI ids nx), p.2.2) := by
  induction h with
  | nil => rfl
  | cons h1 h2 _ ih => rw [List.map_cons, ← h1.map, ← h2.map, ← ih]
theorem disjB_map {ρ : Nat → Nat} (hρ : ∀ a b, ρ a = ρ b → a = b) (a b : List Nat) : disjB (a.map ρ) (b.map ρ) = disjB a b := by
  unfold disjB
  rw [List.all_map]
  congr 1
  funext y
  simp only [Function.comp]
  congr 1
  rw [Bool.eq_iff_iff]
  simp only [List.contains_eq_mem, decide_eq_true_eq, List.mem_map]
  exact ⟨fun ⟨z, h1, h2⟩ => hρ _ _ h2 ▸ h1, fun h => ⟨y, h, rfl⟩⟩
theorem okP4_ren {ops : List Oper} {fp : Fp4} (ids : List Nat) (nx : Nat) (hd : ids.Nodup) (hlt : ∀ x ∈ ids, x < nx) (h : ∃ fp0, KF ids nx fp fp0 ∧ okP4 ops fp0 = true) : okP4 ops fp = true := by
  obtain ⟨fp0, hk, h⟩ := h
  have hr := hk.map
  subst hr
  have hρ : ∀ a b, rhoI ids nx a = rhoI ids nx b → a = b := fun a b => rhoI_inj hd hlt
  have g4 : ∀ i, (fp0.map fun p => (p.1.map (rhoI ids nx), p.2.1.map (rhoI ids nx), p.2.2)).getD i ([], [], 0) = (((fp0.getD i ([], [], 0)).1.map (rhoI ids nx), (fp0.getD i ([], [], 0)).2.1.map (rhoI ids nx), (fp0.getD i ([], [], 0)).2.2)) := fun i => by
    simp only [List.getD_eq_getElem?_getD, List.getElem?_map]
    cases fp0[i]? <;> rfl
  have g2 : ∀ i, ((fp0.map fun p => (p.1.map (rhoI ids nx), p.2.1.map (rhoI ids nx), p.2.2)).map fun p => (p.1, p.2.1)).getD i ([], []) =
      ((((fp0.map fun p => (p.1, p.2.1)).getD i ([], [])).1.map (rhoI ids nx), ((fp0.map fun p => (p.1, p.2.1)).getD i ([], [])).2.map (rhoI ids nx))) := fun i => by
    simp only [List.getD_eq_getElem?_getD, List.getElem?_map]
    cases fp0[i]? <;> rfl
  unfold okP4 okP at h ⊢
  simp only [g4, g2, ← List.map_append, disjB_map hρ, List.isEmpty_map] at h ⊢
  exact h
/-- A call that changes the one object it is handed. -/
theorem HD4_ok1 {P : Program} {Γ : Ctx} {N : Nat} {s : St} {dst : Option Tmp} {rest fp C k} {fop : Operand} {args : Array Operand} {ts : Array TypeId} {f caps} {ds : List D} {d : D} {j : Nat} {ob ob' : Ob}
    (hret : ∀ nx, s.next ≤ nx → RetX P f ds [(j, ob)] nx fun r o n => r = .val d ∧ o = [(j, ob')] ∧ n = nx)
    (hj : getK s.obs j = some ob) (hf : calleeOf (opd s fop) = some (f, caps)) (hc : callable P f = true) (hds : args.toList.map (opd s) ++ caps = ds)
    (hu : d.under N = true ∧ ob'.under N = true) (hp : putOK dst s)
    (h : HD4 P Γ N rest (({ s with obs := applyW [(j, some ob')] s.obs } : St).put dst d) (fp ++ [([j], [j], 0)]) C k) :
    HD4 P Γ N (⟨dst, .call { callee := .value fop, args, argTypes := ts }, none⟩ :: rest) s fp C k :=
  HD4_call [(j, ob)] [(j, ob')] (fun nx hnx => (hret nx hnx).mono fun r o n ⟨h1, h2, h3⟩ => ⟨h1, fun y => by rw [h2], h3⟩) hf hc hds rfl (by simpa using hj) (by simp) ⟨hu.1, by simpa using hu.2⟩ hp h
/-- The same, and it panics. -/
theorem HD4_pan1 {P : Program} {Γ : Ctx} {N : Nat} {s : St} {dst : Option Tmp} {rest fp C k} {fop : Operand} {args : Array Operand} {ts : Array TypeId} {f caps} {ds : List D} {j : Nat} {ob : Ob} {ch : List PanicEntry} {p : Ob → Prop}
    (hret : ∀ nx, s.next ≤ nx → RetX P f ds [(j, ob)] nx fun r o n => r = .pan ch ∧ (∃ ob', p ob' ∧ o = [(j, ob')]) ∧ n = nx)
    (hj : getK s.obs j = some ob) (hf : calleeOf (opd s fop) = some (f, caps)) (hc : callable P f = true) (hds : args.toList.map (opd s) ++ caps = ds) (hp : putOK dst s)
    (hx : ∀ env ob' n, s.next ≤ n → p ob' → ∃ s2, Wk Γ { n := s.n, env := env, obs := del s.obs j ++ [(j, ob')], next := n } s2 ∧ Γ.pan ch s2)
    (h : HD4 P Γ N rest (s.put dst .any) (fp ++ [([], [], 1)]) C k) :
    HD4 P Γ N (⟨dst, .call { callee := .value fop, args, argTypes := ts }, none⟩ :: rest) s fp C k := by
  have hfil : (s.obs.filter fun p => !(([(j, ob)] : List (Nat × Ob)).map (·.1)).contains p.1) = del s.obs j := by
    unfold del
    congr 1
    funext p
    simp only [List.map_cons, List.map_nil, List.contains_cons, List.contains_nil, Bool.or_false]
  refine HD4_stop (post := fun r o _ => r = .pan ch ∧ ∃ ob', p ob' ∧ o = [(j, ob')]) [(j, ob)] (fun nx hnx => (hret nx hnx).mono fun r o n ⟨h1, h2, _⟩ => ⟨h1, h2⟩) (fun d o n h => by cases h.1) hf hc hds (by simpa using hj) hp (fun env ch' o n hn h => ?_) h
  obtain ⟨h1, ob', h2, rfl⟩ := h
  cases h1
  rw [hfil]
  exact hx env ob' n hn h2
/-- Behind a call that panics. -/
theorem HD4_skipS {P Γ N s dst op g rest fp C k} (_ : (fp.any fun p => p.2.2 == 1) = true) (hp : putOK dst s) (h : HD4 P Γ N rest (s.put dst .any) (fp ++ [([], [], 2)]) C k) : HD4 P Γ N (⟨dst, op, g⟩ :: rest) s fp C k := HD4_skip hp h
/-- The end of a call: without its slots and its own objects. -/
theorem FinOK.cut {n0 : Nat} {post : D → List (Nat × Ob) → Nat → Prop} {s : St} {d : D} (obs : List (Nat × Ob)) (N : Nat) (ho : ∀ p ∈ obs, getK s.obs p.1 = some p.2 ∧ p.1 < N ∧ p.2.under N = true) (hd : d.under N = true) (hn : n0 ≤ N)
    (h : post d obs N) : FinOK n0 post s d :=
  .inl ⟨{ s with env := [], obs := obs, next := N }, fun i => i, d, ⟨rfl, fun x d' hx => by simp [getK] at hx, fun x d' hx => by simp [getK] at hx,
    fun i ob hi => ⟨(ho _ (getK_in hi)).2.1, ob, (ho _ (getK_in hi)).1, Ob.le_id ob, (ho _ (getK_in hi)).2.2⟩, fun _ _ _ _ _ _ h => h, fun i hi => ⟨rfl, Nat.lt_of_lt_of_le hi hn⟩⟩, D.le_id d, hd, hn, h⟩
def isVec : D → Bool
  | .vec .. => true
  | _ => false
/-- A slice that is handed over and not needed any more is frozen ahead of the call. -/
theorem CallP_frzV {P : Program} {Γ : Ctx} {s : St} {k : St → Prop} {dst : Option Tmp} {fop : Operand} {args : List Operand} (_ : (args.map (opd s)).any isVec = true) (h : CallP P Γ fop args dst (frzN 1 s) k) : CallP P Γ fop args dst s k :=
  CallP_wk (Wk.frzN 1 _) h
end Go.VL
namespace Go.VL
open Go
def delL {α : Type} (obs : List (Nat × α)) : List Nat → List (Nat × α)
  | [] => obs
  | i :: l => delL (del obs i) l
theorem delL_filter {α : Type} : ∀ (l : List Nat) (obs : List (Nat × α)), delL obs l = obs.filter fun p => !l.contains p.1
  | [], obs => by rw [delL]; exact (List.filter_eq_self.2 (by simp)).symm
  | i :: l, obs => by
    rw [delL, delL_filter l, del, List.filter_filter]
    congr 1
    funext p
    simp only [List.contains_cons]
    cases p.1 == i <;> cases l.contains p.1 <;> rfl
theorem delL_heq {obs O : List (Nat × Ob)} (hO : ∀ p ∈ O, getK obs p.1 = some p.2) (i : Nat) : getK obs i = getK (delL obs (O.map (·.1)) ++ O) i := by
  rw [delL_filter, getK_append, getK_filterN]
  by_cases hy : (O.map (·.1)).contains i = true
  · rw [if_pos hy]
    obtain ⟨x, hx⟩ := getK_isSome (l := O) (y := i) (by simpa using hy)
    rw [hx, hO _ (getK_memK hx)]
  · rw [if_neg hy, getK_keys O i (by simpa using hy)]
    cases getK obs i <;> rfl
theorem delL_none {obs O : List (Nat × Ob)} (i : Nat) (ob : Ob) (h : getK (delL obs (O.map (·.1))) i = some ob) : getK O i = none := by
  rw [delL_filter, getK_filterN] at h
  by_cases hc : (O.map (·.1)).contains i = true
  · rw [if_pos hc] at h; cases h
  · exact getK_keys O i (by simpa using hc)
/-- A call that is handed objects, and goes through. -/
theorem CallP.okL {P : Program} {Γ : Ctx} {s : St} {k : St → Prop} {dst : Option Tmp} {fop : Operand} {args : List Operand} {f caps} {ds : List D} {O O' : List (Nat × Ob)} {d : D} {N : Nat}
    (hret : RetX P f ds O s.next fun r o n => r = .val d ∧ o = O' ∧ n = N) (hO : ∀ p ∈ O, getK s.obs p.1 = some p.2)
    (hf : calleeOf (opd s fop) = some (f, caps)) (hc : callable P f = true) (hds : args.map (opd s) ++ caps = ds) (hp : putOK dst s)
    (hk : k (({ s with obs := delL s.obs (O.map (·.1)) ++ O', next := N } : St).put dst d)) : CallP P Γ fop args dst s k :=
  CallP.xF (delL s.obs (O.map (·.1))) O hret (delL_heq hO) delL_none hf hc hds hp (fun d' o1 nx' _ ⟨h1, h2, h3⟩ => by cases h1; subst h2; subst h3; exact hk) (fun ch o1 nx' _ ⟨h1, _⟩ => by cases h1)
/-- A call that is handed objects, and panics. -/
theorem CallP.panL {P : Program} {Γ : Ctx} {s : St} {k : St → Prop} {dst : Option Tmp} {fop : Operand} {args : List Operand} {f caps} {ds : List D} {O O' : List (Nat × Ob)} {ch : List PanicEntry}
    (hret : RetX P f ds O s.next fun r o n => r = .pan ch ∧ o = O' ∧ n = s.next) (hO : ∀ p ∈ O, getK s.obs p.1 = some p.2)
    (hf : calleeOf (opd s fop) = some (f, caps)) (hc : callable P f = true) (hds : args.map (opd s) ++ caps = ds) (hp : putOK dst s)
    (hx : ∃ s2, Wk Γ { s with obs := delL s.obs (O.map (·.1)) ++ O', next := s.next } s2 ∧ Γ.pan ch s2) : CallP P Γ fop args dst s k :=
  CallP.xF (delL s.obs (O.map (·.1))) O hret (delL_heq hO) delL_none hf hc hds hp (fun d' o1 nx' _ ⟨h1, _⟩ => by cases h1) (fun ch' o1 nx' _ ⟨h1, h2, h3⟩ => by cases h1; subst h2; subst h3; exact hx)
theorem HD4_okL {P : Program} {Γ : Ctx} {N : Nat} {s : St} {dst : Option Tmp} {rest fp C k} {fop : Operand} {args : Array Operand} {ts : Array TypeId} {f caps} {ds : List D} {d : D} {O O' : List (Nat × Ob)}
    (hret : ∀ nx, s.next ≤ nx → RetX P f ds O nx fun r o n => r = .val d ∧ o = O' ∧ n = nx)
    (hO : ∀ p ∈ O, getK s.obs p.1 = some p.2) (hkeys : O'.map (·.1) = O.map (·.1)) (hnd : (O.map (·.1)).Nodup)
    (hf : calleeOf (opd s fop) = some (f, caps)) (hc : callable P f = true) (hds : args.toList.map (opd s) ++ caps = ds)
    (hu : d.under N = true ∧ ∀ p ∈ O', p.2.under N = true) (hp : putOK dst s)
    (h : HD4 P Γ N rest (({ s with obs := applyW (O'.map fun p => (p.1, some p.2)) s.obs } : St).put dst d) (fp ++ [(O.map (·.1), O'.map (·.1), 0)]) C k) :
    HD4 P Γ N (⟨dst, .call { callee := .value fop, args, argTypes := ts }, none⟩ :: rest) s fp C k :=
  HD4_call O O' (fun nx hnx => (hret nx hnx).mono fun r o n ⟨h1, h2, h3⟩ => ⟨h1, fun y => by rw [h2], h3⟩) hf hc hds hkeys hO hnd hu hp h
/-- A call that changes the first one of the objects it is handed. -/
theorem HD4_okF {P : Program} {Γ : Ctx} {N : Nat} {s : St} {dst : Option Tmp} {rest fp C k} {fop : Operand} {args : Array Operand} {ts : Array TypeId} {f caps} {ds : List D} {d : D} {j : Nat} {ob ob' : Ob} {F : List (Nat × Ob)}
    (hret : ∀ nx, s.next ≤ nx → RetX P f ds ((j, ob) :: F) nx fun r o n => r = .val d ∧ (∀ y, getK o y = getK ((j, ob') :: F) y) ∧ n = nx)
    (hO : ∀ p ∈ (j, ob) :: F, getK s.obs p.1 = some p.2) (hnd : (((j, ob) :: F).map (·.1)).Nodup)
    (hf : calleeOf (opd s fop) = some (f, caps)) (hc : callable P f = true) (hds : args.toList.map (opd s) ++ caps = ds)
    (hu : d.under N = true ∧ ∀ p ∈ (j, ob') :: F, p.2.under N = true) (hp : putOK dst s)
    (h : HD4 P Γ N rest (({ s with obs := applyW [(j, some ob')] s.obs } : St).put dst d) (fp ++ [(j :: F.map (·.1), [j], 0)]) C k) :
    HD4 P Γ N (⟨dst, .call { callee := .value fop, args, argTypes := ts }, none⟩ :: rest) s fp C k := by
  have hj : ∀ p ∈ F, ¬ p.1 = j := fun p hp e => by
    rw [List.map_cons, List.nodup_cons] at hnd
    exact hnd.1 (List.mem_map.2 ⟨p, hp, e⟩)
  have hfl : (((j, ob') :: F).filter fun p => [j].contains p.1) = [(j, ob')] := by
    rw [List.filter_cons, if_pos (by simp)]
    congr 1
    refine List.filter_eq_nil_iff.2 fun p hp => ?_
    have := hj p hp
    simp only [List.contains_cons, List.contains_nil, Bool.or_false, beq_iff_eq]
    exact this
  refine HD4_callL ((j, ob) :: F) ((j, ob') :: F) [j] hret hf hc hds rfl (fun y hy => ?_) hO hnd hu hp ?_
  · have : ¬ y = j := fun e => by subst e; simp at hy
    rw [getK_cons, getK_cons, if_neg this, if_neg this]
  · rw [hfl]
    exact h
theorem HD4_panL {P : Program} {Γ : Ctx} {N : Nat} {s : St} {dst : Option Tmp} {rest fp C k} {fop : Operand} {args : Array Operand} {ts : Array TypeId} {f caps} {ds : List D} {O O' : List (Nat × Ob)} {ch : List PanicEntry}
    (hret : ∀ nx, s.next ≤ nx → RetX P f ds O nx fun r o n => r = .pan ch ∧ o = O' ∧ n = nx)
    (hO : ∀ p ∈ O, getK s.obs p.1 = some p.2)
    (hf : calleeOf (opd s fop) = some (f, caps)) (hc : callable P f = true) (hds : args.toList.map (opd s) ++ caps = ds) (hp : putOK dst s)
    (hx : ∀ env n, s.next ≤ n → ∃ s2, Wk Γ { n := s.n, env := env, obs := delL s.obs (O.map (·.1)) ++ O', next := n } s2 ∧ Γ.pan ch s2)
    (h : HD4 P Γ N rest (s.put dst .any) (fp ++ [([], [], 1)]) C k) :
    HD4 P Γ N (⟨dst, .call { callee := .value fop, args, argTypes := ts }, none⟩ :: rest) s fp C k := by
  refine HD4_stop (post := fun r o _ => r = .pan ch ∧ o = O') O (fun nx hnx => (hret nx hnx).mono fun r o n ⟨h1, h2, _⟩ => ⟨h1, h2⟩) (fun d o n h => by cases h.1) hf hc hds hO hp (fun env ch' o n hn h => ?_) h
  obtain ⟨h1, rfl⟩ := h
  cases h1
  rw [← delL_filter]
  exact hx env n hn
/-- A call behind one that panics. -/
theorem HD4_skipC {P Γ N s dst c g rest fp C k} (_ : (fp.any fun p => p.2.2 == 1) = true) (hp : putOK dst s) (h : HD4 P Γ N rest (s.put dst .any) (fp ++ [([], [], 2)]) C k) : HD4 P Γ N (⟨dst, .call c, g⟩ :: rest) s fp C k := HD4_skip hp h
/-- A function is left behind which a deferred one is called that is handed objects. -/
theorem LeaveD.of {P : Program} {Γb : Ctx} {fn : Func} {post : Out → List (Nat × Ob) → Nat → Prop} {g : FuncId} {caps : List D} {u : FrameMode} {s : St} (O : List (Nat × Ob)) {O' : List (Nat × Ob)} (hO : ∀ p ∈ O, getK s.obs p.1 = some p.2)
    (h : RetDf P g caps O s.next u fun u' o n => settle u' = .returning ∧ n = s.next ∧ o = O') (hk : EndW P Γb fn Γb.n0 (fun d o n => post (.val d) o n) .ret { s with obs := delL s.obs (O.map (·.1)) ++ O', next := s.next }) :
    LeaveD P Γb fn post g caps u s :=
  ((h.frame (delL s.obs (O.map (·.1))) delL_none).congr (delL_heq hO)).mono fun u' o n ⟨o1, ho, hs, hn, ho1⟩ => ⟨hs, by subst ho; subst ho1; subst hn; exact hk⟩
theorem nef {i nx : Nat} (h : i < nx) : ¬ i = nx ∧ ¬ nx = i ∧ (∀ k, ¬ i = nx + k) ∧ ∀ k, ¬ nx + k = i := ⟨by omega, by omega, fun k => by omega, fun k => by omega⟩
end Go.VL
namespace Go.VL
open Go
open Go.ChangeShapes Go.WideShapes Go.ChangeAt Go.WideMaps Go.WideElems Go.RowKit
theorem law_laid {H : Type} {enc : TypeId × Value → H} {C : Checked} {os : Os} {f : FuncId} {fn : Func} {s : ChangeSpec} {conds : List PathCond} {apart fresh handsOn again : Bool} {tb : TypeId} {laid : List (String × DataW Unit)}
    (own : ownKnob C.prog.godebug = none) (started : os.Started) (noInit : C.prog.inits.idxOf? f = none) (hfn : C.prog.funcs[f]? = some fn)
    (witness : ∃ (w : World) (tape : Tape) (i : Input), w.os = os ∧ (w.forCall tape i).Shaped C.prog ∧ i.vars = [] ∧ Input.okWide C.prog (w.forCall tape i) .any w.heap.size f i ∧
      ((s.pre enc C.prog fn conds apart (w.forCall tape i).memory i.args ∧ laidMetH C.prog laid (w.forCall tape i).memory) ∧ sizedMet enc C.prog fn (OpenSpec.ofChange s) apart (w.forCall tape i).memory i.args) ∧ (({} : Assume)).holds C.prog (lone (Frame.enter C.prog f i.args .normal) [] (w.forCall tape i)))
    (hl : laidOutB C.prog = true) (hseq : seqAll C.prog = true) (hpar : (fn.params.toList.all fun t => C.prog.readableRec t && decide (t < C.prog.types.size)) = true)
    (hvars : s.vars = []) (hspec : ∀ ds : List (DataW H), ds.length = fn.params.size → s.fn H ds = { results := [.lit (.bool true)], args := ds })
    (hres : fn.resultTypes = #[tb]) (htb : C.prog.underlying tb = some .bool)
    (hfun : ∀ us : List U, ArgsU C.prog fn.params.toList us → Fun C.prog f (us.map .u) (· = .u (.bool true))) (hglob : ∀ W : World, laidMetH C.prog laid W → GlobIn (wmem W)) :
    ReturnsInHanded {} C os f .any (fun w args => (s.pre enc C.prog fn conds apart w args ∧ laidMetH C.prog laid w) ∧ sizedMet enc C.prog fn (OpenSpec.ofChange s) apart w args) (s.post enc C.prog fn apart fresh handsOn again) := by
  refine returnsInHanded_of_change_and (X := fun w _ => laidMetH C.prog laid w) (fun _ _ _ hh h => h.of_heap hh) own started noInit hfn witness ?_
  intro W base args ds gs before hval hW _ _ hL _
  have hpar' : ∀ t ∈ fn.params.toList, C.prog.readableRec t = true ∧ t < C.prog.types.size := by
    intro t ht
    have := List.all_eq_true.1 hpar t ht
    simpa using this
  have hW' := hW
  obtain ⟨p, q, hA, hV, rfl, hfz, hnd⟩ := hW
  rw [hvars] at hV
  obtain ⟨rfl, rfl⟩ := trodVars_none hV
  have hlt : ∀ x ∈ p, x.block < W.heap.size := fun x hx => hW'.lt x (by simp [hx])
  obtain ⟨us, h1, h2⟩ := args_rep hseq hA (fun t ht => (hpar' t ht).2) (fun j t v ht hv => hval j t v (by simpa using ht) (by simpa using hv))
  refine (calls_of_fun (hfun us h1) (hglob W hL) h2).mono ?_
  rintro e W' ⟨rfl, hb⟩
  have hdl : ds.length = fn.params.size := by
    have : ∀ {ts : List TypeId} {vs : List Value} {ds : List (DataW H)} {p : List MemPlace}, DataW.TrodAll enc C.prog W 0 (fun _ => true) true ts vs ds p → ds.length = ts.length := by
      intro ts
      induction ts with
      | nil => intro vs ds p h; cases vs <;> cases ds <;> simp_all [DataW.TrodAll]
      | cons t ts ih =>
        intro vs ds p h
        cases vs <;> cases ds <;> simp only [DataW.TrodAll] at h
        obtain ⟨p, q, _, h2, _⟩ := h
        simp [ih h2]
    simpa using this hA
  have hs := hspec ds hdl
  refine ⟨_, rfl, post_below (pa := p) (pv := []) hW' (fun b sp hd => ?_) (fun sp hsp => ?_) (fun sp _ => ?_) rfl hb (fun j t r ht hr => ?_)⟩
  · rw [List.append_nil, hs, hres]
    exact trodAll_mk1 ⟨1, by simp [DataW.trod, Value.cells, htb]⟩
  · rw [List.append_nil, hs]
    exact trodAll_below hl hb hpar' hA hlt fun x hx => hsp x (by simp [hx])
  · rw [List.append_nil, hs, hvars]
    try rfl
  · rw [hres] at ht hr
    cases j with
    | zero =>
      simp at ht
      subst ht
      simp [Value.resultList] at hr
      subst hr
      simp [Value.okWide, htb, Cell.okWide, Cell.ok]
    | succ j => simp at ht
/-- The cells of a listed array of strings. -/
theorem cells_strings {P : Program} {w : World} {n : String} {g : Nat} {t e : TypeId} {cs : Array Value} {L : List (List UInt8)} {fuel : Nat} {H : Type} {enc : TypeId × Value → H} {base : Nat} {spare : Nat → Bool} {held : Bool} {q : List MemPlace}
    (hg : P.globalNamed n = some g) (hv : w.var? P n = some cs) (ht : P.underlying t = some (.array L.length e)) (he : P.underlying e = some .string) (hc : P.cellsOf e = 1)
    (hd : DataW.trod enc P w base spare held fuel t cs.toList = some (.agg (L.map fun b => .lit (.string b)), q)) : ∀ (j : Nat) (b : List UInt8), L[j]? = some b → w.cell? ⟨g, j, none⟩ = some (.string ⟨b.toArray⟩) := by
  intro j b hj
  obtain ⟨xs, m1, rfl, hx1, hlen, hn3, hel⟩ := DataW.trod_array ht hd
  have hjl := (List.getElem?_eq_some_iff.1 hj).1
  have h := hel j hjl
  rw [hc, Nat.mul_one] at h
  simp only [Prod.mk.injEq, DataW.agg.injEq] at hx1
  obtain ⟨x, hx⟩ : ∃ x, xs[j]? = some x := ⟨_, List.getElem?_eq_getElem (by omega)⟩
  rw [hx] at h
  obtain ⟨s, h1, h2, _⟩ := DataW.trod_string he h
  have h3 : (L.map fun b => (DataW.lit (.string b) : DataW H))[j]? = (xs.map (·.1))[j]? := by rw [hx1.1]
  rw [List.getElem?_map, List.getElem?_map, hj, hx, h2] at h3
  simp only [Option.map_some, Option.some.injEq, DataW.lit.injEq, Lit.string.injEq] at h3
  have h4 : (cs.toList.drop j)[0]? = some (.string s) := by
    have : ((cs.toList.drop j).take 1)[0]? = some (.string s) := by rw [h1]; rfl
    simpa [List.getElem?_take] using this
  rw [List.getElem?_drop, Nat.add_zero] at h4
  rw [World.var?_cell hg hv j]
  rw [Array.getElem?_toList] at h4
  rw [h4, h3]
end Go.VL
namespace Go.Proofs.YtfcopibncpkdoaaDoor
open Go Go.VL
abbrev laidL : List (String × DataW Unit) := [("stokvel/lex.signs", Rows.laid_stokvel_lex_signs)]
theorem door_met (os : Os) (args : Array Value) : laidMetH Tryd.prog laidL ((World.doorLaid Tryd.prog 400 os).forCall (fun _ _ => 0) ⟨#[], args, []⟩).memory :=
  laidMetH_of_parts3 (fuel := 8) (laidMet_of_run' 8 (by kernel_rfl) (by kernel_rfl)) (by kernel_rfl) (by kernel_rfl)
def signsA : List (List UInt8) := [[61, 61], [59], [44], [61], [60], [43], [45], [42], [47], [40], [41]]
theorem glob_laid (W : World) (h : laidMetH Tryd.prog laidL W) : GlobIn (wmem W) := by
  rw [MakeChecks.laidMetH_plain _ _ _ (by kernel_rfl)] at h
  obtain ⟨ps, ⟨g0, t0, cs0, f0, p0, q0, hg0, ht0, hv0, hd0, _⟩, _⟩ := h
  obtain rfl : g0 = 0 := Option.some.inj (hg0.symm.trans (by kernel_rfl))
  have hu : Tryd.prog.underlying 159 = some (.array signsA.length 9) := by kernel_rfl
  obtain rfl : t0 = 159 := Option.some.inj (ht0.symm.trans (by kernel_rfl))
  have hc := cells_strings (L := signsA) hg0 hv0 hu (by kernel_rfl) (by kernel_rfl) hd0
  intro p hp j hj
  simp only [globs, List.mem_cons, List.not_mem_nil, or_false] at hp
  subst hp
  have hj' : j < 11 := hj
  have hlen : signsA.length = 11 := rfl
  have hs : signsA[j]? = some (signsA.getD j []) := by
    rw [List.getElem?_eq_getElem (by omega)]
    simp [show j < signsA.length by omega]
  have h2 := look_cell (hc j _ hs)
  have h3 : (Value.string ⟨(signsA.getD j []).toArray⟩) = (globs.head!.2.getD j undef) := by
    have : ∀ i, i < 11 → (Value.string ⟨(signsA.getD i []).toArray⟩) = (globs.head!.2.getD i undef) := by
      intro i hi
      match i, hi with
      | 0, _ | 1, _ | 2, _ | 3, _ | 4, _ | 5, _ | 6, _ | 7, _ | 8, _ | 9, _ | 10, _ => rfl
      | i + 11, h => omega
    exact this j hj'
  show VL.look W 0 j = some (.val (globs.head!.2.getD j undef))
  rw [← h3]
  exact h2
end Go.Proofs.YtfcopibncpkdoaaDoor
namespace Go.Proofs.YtfcopibncpkdoaaDoor
open Go Go.VL
attribute [local simp] hcons hstep evPure opd uOf putOK St.put St.at getK binD binI binS binB nilD aggD eqUs cmpK lookD lookR rangeD nextD entryD keyD valU keyU lookK mkV entD_nil lookK_entD updK_entD1 updK_entD3 allUE allUE_entD makeMapD mapUpdD mapEff updK valM Key.kk shiftI arith unD convD pickD loadD cellsAt fieldAddrD fieldD indexAddrD indexD sliceD cutD lenD minmaxD nilCheckD buildD fillD cellsD isOne ones setAll mkAgg allU allocD boxD storeD St.add buildSliceD appendD rowsOf makeD setOb getK_setOb getK_del getK_cons stripL strip guardTmp entry chunks zcells valD argsV argsW argW argU1 argU0 argsU0 argsU1 calleeOf scalarD scalarU delAll effD St.effS RK_seq RK_seq_ret RK_seq_exit RK_blk RK_blk_ret RK_blk_exit RK_loop RK_loop_ret RK_loop_exit RK_done vs_seq vs_block vs_cond vs_region vs_loop vs_draw applyW mkD rdIds lentIds callOf calleeOf freeOp D.ids Op.operands Call.operands isEffOp makeIfD typeAssertD conc concs conc1 uOfV panicD IntKind.bits allU2 allU2_append List.take_of_length_le List.range_succ
attribute [local irreducible] V G H HD HD2 RunK Eff CallP CallV EndOK Fun Ret FinOK LoopI LoopW EndW
theorem comb11_fun (u n : Int) : Fun Tryd.prog 110 (iarg u :: [U.row [.int .i64 n] 0].map .u) (· = .u (.bool (decide (u ≠ n)))) := by
  simp only [iarg, List.map_cons, List.map_nil]
  (refine Fun.of_body Tryd.func110 rfl (by simp) fun Γ hn => ?_); simp only [entry, List.zipIdx_cons, List.zipIdx_nil, List.map_cons, List.map_nil, Nat.zero_add, Tryd.ntmps110]
  repeat' (first
    | (refine H_cons ?_; simp)
    | (refine H_nil ?_; simp)
    | (refine V_sseq ?_; simp)
    | (refine V_ret ?_; simp only [RunK])
    | fail)
  (refine EndOK.val (.inr rfl) ?_; simp [resD, oneOrTup, pureD, Tryd.results110])
def onlyB (u : Int) (l : List Int) : Bool := !l.any fun n => decide (n ≠ u)
theorem comb1_fun (u : Int) (l : List Int) : Fun Tryd.prog 109 [.u (.int .i64 u), .u (.row [ints l] 0)] (· = .u (.bool (onlyB u l))) := by
  have h1 := containsI_fun l 110 [U.row [.int .i64 u] 0] _ (fun n _ => comb11_fun n u) (by simp) (fun _ => rfl) (fun _ => rfl)
  simp only [List.map_cons, List.map_nil] at h1
  unfold onlyB
  (refine Fun.of_body Tryd.func109 rfl (by simp) fun Γ hn => ?_); simp only [entry, List.zipIdx_cons, List.zipIdx_nil, List.map_cons, List.map_nil, Nat.zero_add, Tryd.ntmps109]
  simp only [ints] at h1 ⊢
  repeat' (first
    | (refine H_cons ?_; simp)
    | (refine H_nil ?_; simp)
    | (refine V_sseq ?_; simp)
    | (refine V_ret ?_; simp only [RunK])
    | (refine CallP.fun_ (h1) (by first | rfl | fail) (by first | assumption | (simp; done) | fail) (by first | (simp; done) | (simp; rfl) | fail) (by first | (simp; done) | fail) (fun d hd => ?_); subst hd; (try simp))
    | fail)
  (refine EndOK.val (.inr rfl) ?_; simp [resD, oneOrTup, pureD, Tryd.results109])
def prodS (a b : Int) : Int × Bool := if a = 0 ∨ b = 0 then (0, false) else if a = 4 then (b, true) else if b = 4 then (a, true) else if a = 1 then (b, true) else if b = 1 then (a, true) else (0, false)
theorem prod_fun (a b : Int) : Fun Tryd.prog 111 [.u (.int .i64 a), .u (.int .i64 b)] (· = .tup [.u (.int .i64 (prodS a b).1), .u (.bool (prodS a b).2)]) := by
  (refine Fun.of_body Tryd.func111 rfl (by simp) fun Γ hn => ?_); simp only [entry, List.zipIdx_cons, List.zipIdx_nil, List.map_cons, List.map_nil, Nat.zero_add, Tryd.ntmps111]
  unfold prodS
  repeat' (first
    | (refine H_cons ?_; simp [zcells, chunks])
    | (refine H_nil ?_; simp [zcells, chunks])
    | (refine V_sseq ?_; simp [zcells, chunks])
    | (refine V_scond ?_; simp [zcells, chunks])
    | (refine V_sblock ?_; simp [zcells, chunks])
    | (refine V_ret ?_; simp only [RunK])
    | (refine V_skip ?_; simp only [RunK])
    | (refine ⟨fun hc => ?_, fun hc => ?_⟩ <;> (try (exfalso; omega)))
    | fail)
  all_goals try ((refine EndOK.val (.inr rfl) ?_; simp [resD, oneOrTup, pureD, Tryd.results111]); simp_all; done)
  all_goals
    refine V_loopF (α := { i : Nat // i ≤ 2 ∧ (1 ≤ i → a ≠ 4 ∧ b ≠ 4) ∧ (2 ≤ i → a ≠ 1 ∧ b ≠ 1) }) [0, 1, 14, 15] (fun i => [(16, .u (.int .i64 i.1))]) (fun i => 2 - i.1) ⟨0, by omega, by omega, by omega⟩ ?_ ?_
    · exact (Wk.cut rfl (by simp [hn, St.lp]) (by simp [wkO, St.lp, getK_cons, getK, Ob.under, D.under, under_rowsD, under_entD]) (by simp [wkU, St.lp, keepE, getK_cons, getK, D.under]) (by simp [wkE, St.lp, keepE, getK_cons, getK] <;> (try (intros; simp_all; done)) <;> (try (intros; omega)) <;> (try grind)))
    rintro ⟨i, hi, h1, h2⟩
    simp [St.lp, St.only, keepE, getK_cons, getK]
    have : i = 0 ∨ i = 1 ∨ i = 2 := by omega
    rcases this with rfl | rfl | rfl
    · repeat' (first
    | (refine H_cons ?_; simp)
    | (refine H_nil ?_; simp)
    | (refine V_sseq ?_; simp)
    | (refine V_scond ?_; simp)
    | (refine V_sregion ?_; simp)
    | (refine V_ret ?_; simp only [RunK])
    | (refine V_skip ?_; simp only [RunK])
    | (refine ⟨fun hc => ?_, fun hc => ?_⟩ <;> (try (exfalso; omega)))
    | fail)
      · (refine EndOK.val (.inr rfl) ?_; simp [resD, oneOrTup, pureD, Tryd.results111])
        simp_all
      · (refine EndOK.val (.inr rfl) ?_; simp [resD, oneOrTup, pureD, Tryd.results111])
        simp_all
      · refine LoopW.next ⟨1, by omega, by omega, by omega⟩ (by simp) ?_
        exact (Wk.cut rfl (by simp [hn, St.lp]) (by simp [wkO, St.lp, getK_cons, getK, Ob.under, D.under, under_rowsD, under_entD]) (by simp [wkU, St.lp, keepE, getK_cons, getK, D.under]) (by simp [wkE, St.lp, keepE, getK_cons, getK] <;> (try (intros; simp_all; done)) <;> (try (intros; omega)) <;> (try grind)))
    · repeat' (first
    | (refine H_cons ?_; simp)
    | (refine H_nil ?_; simp)
    | (refine V_sseq ?_; simp)
    | (refine V_scond ?_; simp)
    | (refine V_sregion ?_; simp)
    | (refine V_ret ?_; simp only [RunK])
    | (refine V_skip ?_; simp only [RunK])
    | (refine ⟨fun hc => ?_, fun hc => ?_⟩ <;> (try (exfalso; omega)))
    | fail)
      · (refine EndOK.val (.inr rfl) ?_; simp [resD, oneOrTup, pureD, Tryd.results111])
        simp_all
      · (refine EndOK.val (.inr rfl) ?_; simp [resD, oneOrTup, pureD, Tryd.results111])
        simp_all
      · refine LoopW.next ⟨2, by omega, by omega, by omega⟩ (by simp) ?_
        exact (Wk.cut rfl (by simp [hn, St.lp]) (by simp [wkO, St.lp, getK_cons, getK, Ob.under, D.under, under_rowsD, under_entD]) (by simp [wkU, St.lp, keepE, getK_cons, getK, D.under]) (by simp [wkE, St.lp, keepE, getK_cons, getK] <;> (try (intros; simp_all; done)) <;> (try (intros; omega)) <;> (try grind)))
    · repeat' (first
    | (refine H_cons ?_; simp)
    | (refine H_nil ?_; simp)
    | (refine V_sseq ?_; simp)
    | (refine V_ret ?_; simp only [RunK])
    | (refine V_exit ?_; simp [RunK])
    | fail)
      (refine EndOK.val (.inr rfl) ?_; simp [resD, oneOrTup, pureD, Tryd.results111])
      simp_all
def l0 (l : List Int) (i : Nat) : Int := l.getD i 0
def combS (op : Int) (l : List Int) : Int × Bool :=
  if op = 2 ∨ op = 3 ∨ op = 6 ∨ op = 7 then (l0 l 0, onlyB (l0 l 0) l && decide (l0 l 0 ≠ 0))
  else if op = 4 then prodS (l0 l 0) (l0 l 1)
  else if op = 5 then (if l0 l 1 = 1 then (l0 l 0, decide (l0 l 0 ≠ 0) && decide (l0 l 0 ≠ 4)) else (1, onlyB (l0 l 0) l && (decide (l0 l 0 = 3) || decide (l0 l 0 = 2))))
  else if op = 8 then (0, onlyB (l0 l 0) l && decide (l0 l 0 ≠ 0))
  else if op = 9 then (0, onlyB (l0 l 0) l)
  else if op = 13 then (l0 l 1, decide (l0 l 0 = 0) && decide (l0 l 1 = l0 l 2))
  else (0, onlyB 0 l)
theorem len1 {l : List Int} (h : (l.length : Int) = 1) : ∃ a, l = [a] := List.length_eq_one_iff.1 (by omega)
theorem len2 {l : List Int} (h : (l.length : Int) = 2) : ∃ a b, l = [a, b] := by
  match l, h with
  | [], h => simp at h
  | [a], h => simp at h
  | [a, b], _ => exact ⟨a, b, rfl⟩
  | a :: b :: c :: l, h => simp at h; omega
theorem len3 {l : List Int} (h : (l.length : Int) = 3) : ∃ a b c, l = [a, b, c] := by
  match l, h with
  | [], h => simp at h
  | [a], h => simp at h
  | [a, b], h => simp at h
  | [a, b, c], _ => exact ⟨a, b, c, rfl⟩
  | a :: b :: c :: d :: l, h => simp at h; omega
theorem comb_fun (op : Int) (l : List Int) (hop : 2 ≤ op ∧ op < 14) (hl : (l.length : Int) = operandsI op) : Fun Tryd.prog 92 [.u (.int .i64 op), .u (ints l)] (· = .tup [.u (.int .i64 (combS op l).1), .u (.bool (combS op l).2)]) := by
  have h12 : op = 12 ∨ op = 13 ∨ op = 2 ∨ op = 3 ∨ op = 4 ∨ op = 5 ∨ op = 6 ∨ op = 7 ∨ op = 8 ∨ op = 9 ∨ op = 10 ∨ op = 11 := by omega
  rcases h12 with rfl | rfl | h12
  · obtain ⟨a, rfl⟩ := len1 (hl.trans rfl)
    have h1 := comb1_fun 0 [a]
    simp only [combS, l0]
    generalize onlyB 0 [a] = o1 at h1 ⊢
    (refine Fun.of_body Tryd.func92 rfl (by simp) fun Γ hn => ?_); simp only [entry, List.zipIdx_cons, List.zipIdx_nil, List.map_cons, List.map_nil, Nat.zero_add, Tryd.ntmps92]
    simp only [ints, List.map_cons, List.map_nil] at h1 ⊢
    repeat' (first
    | (refine H_cons ?_; simp)
    | (refine H_nil ?_; simp)
    | (refine V_sseq ?_; simp)
    | (refine V_scond ?_; simp)
    | (refine V_sblock ?_; simp)
    | (refine V_sregion ?_; simp)
    | (refine V_ret ?_; simp only [RunK])
    | (refine V_skip ?_; simp only [RunK])
    | (refine CallP.fun_ (h1) (by first | rfl | fail) (by first | assumption | (simp; done) | fail) (by first | (simp; done) | (simp; rfl) | fail) (by first | (simp; done) | fail) (fun d hd => ?_); subst hd; (try simp))
    | fail)
    all_goals
      (refine EndOK.val (.inr rfl) ?_; simp [resD, oneOrTup, pureD, Tryd.results92])
  · obtain ⟨a, b, c, rfl⟩ := len3 (hl.trans rfl)
    simp only [combS, l0]
    (refine Fun.of_body Tryd.func92 rfl (by simp) fun Γ hn => ?_); simp only [entry, List.zipIdx_cons, List.zipIdx_nil, List.map_cons, List.map_nil, Nat.zero_add, Tryd.ntmps92]
    simp only [ints, List.map_cons, List.map_nil]
    repeat' (first
    | (refine H_cons ?_; simp)
    | (refine HD_cons ?_; simp)
    | (refine H_nil ?_; simp)
    | (refine V_sseq ?_; simp)
    | (refine V_scond ?_; simp)
    | (refine HD_nil ?_)
    | (refine hk _ ?_; clear hk k; simp only [RunK])
    | (refine V_drawV rfl (by kernel_rfl) (by kernel_rfl) fun k hk => ?_; simp)
    | (refine HD_guard rfl (by simp) (fun hc => ?_) (fun hc => ?_) <;> (try simp at hc) <;> (try (exfalso; omega)) <;> (try simp))
    | (refine V_sblock ?_; simp)
    | (refine V_sregion ?_; simp)
    | (refine V_ret ?_; simp only [RunK])
    | fail)
    all_goals
      (refine EndOK.val (.inr rfl) ?_; simp [resD, oneOrTup, pureD, Tryd.results92])
    all_goals (simp_all; done)
  · obtain ⟨a, b, rfl⟩ := len2 (l := l) (by rw [hl]; rcases h12 with rfl | rfl | rfl | rfl | rfl | rfl | rfl | rfl | rfl | rfl <;> rfl)
    clear hl hop
    have h1 := comb1_fun a [a, b]
    have h2 := comb1_fun 0 [a, b]
    have h3 := prod_fun a b
    have e0 : l0 [a, b] 0 = a := rfl
    have e1 : l0 [a, b] 1 = b := rfl
    unfold combS
    rw [e0, e1]
    clear e0 e1
    generalize onlyB a [a, b] = o1 at h1 ⊢
    generalize onlyB 0 [a, b] = o2 at h2 ⊢
    generalize prodS a b = p at h3 ⊢
    simp only [ints, List.map_cons, List.map_nil] at h1 h2 ⊢
    rcases h12 with rfl | rfl | rfl | rfl | rfl | rfl | rfl | rfl | rfl | rfl
    all_goals
      (refine Fun.of_body Tryd.func92 rfl (by simp) fun Γ hn => ?_); simp only [entry, List.zipIdx_cons, List.zipIdx_nil, List.map_cons, List.map_nil, Nat.zero_add, Tryd.ntmps92]
      repeat' (first
    | (refine H_cons ?_; simp)
    | (refine HD_cons ?_; simp)
    | (refine H_nil ?_; simp)
    | (refine V_sseq ?_; simp)
    | (refine V_scond ?_; simp)
    | (refine HD_nil ?_)
    | (refine hk _ ?_; clear hk k; simp only [RunK])
    | (refine V_drawV rfl (by kernel_rfl) (by kernel_rfl) fun k hk => ?_; simp)
    | (refine HD_guardU rfl (by simp) ?_; simp)
    | (refine HD_guard rfl (by simp) (fun hc => ?_) (fun hc => ?_) <;> (try simp at hc) <;> (try (exfalso; omega)) <;> (try simp))
    | (refine V_sblock ?_; simp)
    | (refine V_sregion ?_; simp)
    | (refine V_ret ?_; simp only [RunK])
    | (refine V_skip ?_; simp only [RunK])
    | (refine ⟨fun hc => ?_, fun hc => ?_⟩ <;> (try (exfalso; omega)))
    | (refine CallV.fun_ (h1) (by first | rfl | fail) (by first | assumption | (simp; done) | fail) (by first | (simp; done) | (simp; rfl) | fail) (by first | (simp; done) | fail) ?_ <;> (try simp))
    | (refine CallP.fun_ (h1) (by first | rfl | fail) (by first | assumption | (simp; done) | fail) (by first | (simp; done) | (simp; rfl) | fail) (by first | (simp; done) | fail) (fun d hd => ?_); subst hd; (try simp))
    | (refine CallP.fun_ (h2) (by first | rfl | fail) (by first | assumption | (simp; done) | fail) (by first | (simp; done) | (simp; rfl) | fail) (by first | (simp; done) | fail) (fun d hd => ?_); subst hd; (try simp))
    | (refine CallV.fun_ (h3) (by first | rfl | fail) (by first | assumption | (simp; done) | fail) (by first | (simp; done) | (simp; rfl) | fail) (by first | (simp; done) | fail) ?_ <;> (try simp))
    | fail)
      all_goals
        (refine EndOK.val (.inr rfl) ?_; simp [resD, oneOrTup, pureD, Tryd.results92])
      all_goals (clear h1 h2 h3; first | (simp_all; done) | (grind) | skip)
end Go.Proofs.YtfcopibncpkdoaaDoor
