/- The calculus of values (VLL, VLM, VLN, VLO, VLP). -/
import Derived.Test.YtdkadmchdocjbaaVLz
import Derived.Test.YtdkadmchdocjbaaRows
import Derived.ProofKit
import Derived.Below
import Derived.ChangeSame
import Derived.Deep.Slices
set_option linter.all false
set_option maxRecDepth 100000
set_option maxHeartbeats 8000000
/- From a function told by value to the given statement: what the arguments read as, and what is left behind. -/
namespace Go.VL
open Go Go.ChangeShapes Go.WideShapes Go.ChangeAt Go.RowKit Go.Deep
open Go.Proofs.Ytdkadmchdocjbaa.Rows (uptoBulk uptoBulkAll)

/-- The memory of a world. -/
def wmem (w : World) : Mem := fun b o => look w b o

inductive HasRow (P : Program) : TypeId → List U → Prop
  | bool {t b} (h : P.underlying t = some .bool) : HasRow P t [.bool b]
  | int {t k n} (h : P.underlying t = some (.int k)) (h1 : k.min ≤ n) (h2 : n ≤ k.max) : HasRow P t [.int k n]
  | str {t l} (h : P.underlying t = some .string) (h1 : l.length ≤ maxLen) : HasRow P t [.str l]
  | slice {t e rows} (h : P.underlying t = some (.slice e)) (h1 : rows.length ≤ maxLen) (h2 : ∀ r ∈ rows, HasRow P e r) : HasRow P t [.sl rows]
  | struct {t fs} (rs : List (List U)) (h : P.underlying t = some (.struct fs)) (h1 : rs.length = fs.size) (h2 : ∀ (i : Nat) (f : Field) (r : List U), fs[i]? = some f → rs[i]? = some r → HasRow P f.type r) : HasRow P t rs.flatten
  | other {t r} (h : match P.underlying t with | some .bool | some (.int _) | some .string | some (.struct _) => False | some (.slice e) => P.cellsOf e = 0 | _ => True) : HasRow P t r

/-- The fields lie one behind the other. -/
def seqB (P : Program) : Nat → List Field → Nat → Bool
  | o, [], n => o == n
  | o, f :: l, n => f.offset == o && seqB P (o + P.cellsOf f.type) l n
def seqAll (P : Program) : Bool := (List.range P.types.size).all fun t => match P.underlying t with
  | some (.struct fs) => seqB P 0 fs.toList (P.cellsOf t) && fs.toList.all fun f => decide (f.type < P.types.size)
  | some (.slice e) => decide (e < P.types.size)
  | _ => true
theorem seqAll_struct {P : Program} (h : seqAll P = true) {t fs} (hlt : t < P.types.size) (ht : P.underlying t = some (.struct fs)) : seqB P 0 fs.toList (P.cellsOf t) = true ∧ ∀ f ∈ fs.toList, f.type < P.types.size := by
  have := List.all_eq_true.1 h t (List.mem_range.2 hlt)
  simp only [ht, Bool.and_eq_true, List.all_eq_true, decide_eq_true_eq] at this
  exact this
theorem seqAll_slice {P : Program} (h : seqAll P = true) {t e} (hlt : t < P.types.size) (ht : P.underlying t = some (.slice e)) : e < P.types.size := by
  have := List.all_eq_true.1 h t (List.mem_range.2 hlt)
  simp only [ht, decide_eq_true_eq] at this
  exact this

/-- Cells as plain values. -/
def RepRow (m : Mem) (r : List U) (cs : List Value) : Prop := r.length = cs.length ∧ ∀ (j : Nat) (u : U), r[j]? = some u → RepU m u (cs.getD j undef)
theorem RepRow.one {m : Mem} {u : U} {v : Value} (h : RepU m u v) : RepRow m [u] [v] := ⟨rfl, fun j w hj => by
  cases j with
  | zero => simp at hj; subst hj; exact h
  | succ j => simp at hj⟩
theorem RepRow.append {m : Mem} {a b : List U} {x y : List Value} (h : RepRow m a x) (g : RepRow m b y) : RepRow m (a ++ b) (x ++ y) := by
  refine ⟨by simp [h.1, g.1], fun j u hj => ?_⟩
  rw [List.getElem?_append] at hj
  rw [List.getD_eq_getElem?_getD, List.getElem?_append, ← h.1]
  by_cases hl : j < a.length
  · rw [if_pos hl] at hj ⊢
    rw [← List.getD_eq_getElem?_getD]
    exact h.2 j u hj
  · rw [if_neg hl] at hj ⊢
    rw [← List.getD_eq_getElem?_getD]
    exact g.2 _ u hj
theorem RepRow.flatten {m : Mem} : ∀ {rs : List (List U)} {xs : List (List Value)}, rs.length = xs.length → (∀ (i : Nat) r x, rs[i]? = some r → xs[i]? = some x → RepRow m r x) → RepRow m rs.flatten xs.flatten
  | [], [], _, _ => ⟨rfl, by simp⟩
  | r :: rs, x :: xs, hl, h => by
    rw [List.flatten_cons, List.flatten_cons]
    exact (h 0 r x rfl rfl).append (RepRow.flatten (by simpa using hl) fun i r x h1 h2 => h (i + 1) r x (by simpa using h1) (by simpa using h2))
  | [], _ :: _, hl, _ => by simp at hl
  | _ :: _, [], hl, _ => by simp at hl

theorem seq_pieces {P : Program} {cs : List Value} : ∀ (l : List Field) (o : Nat), seqB P o l cs.length = true → cs.drop o = (l.map fun f => (cs.drop f.offset).take (P.cellsOf f.type)).flatten
  | [], o, h => by
    simp [seqB] at h
    subst h
    simp
  | f :: l, o, h => by
    simp only [seqB, Bool.and_eq_true, beq_iff_eq] at h
    obtain ⟨h1, h2⟩ := h
    rw [List.map_cons, List.flatten_cons, ← seq_pieces l _ h2, h1]
    conv => lhs; rw [← List.take_append_drop (P.cellsOf f.type) (cs.drop o)]
    rw [List.drop_drop]

theorem exists_list {α : Type} {p : Nat → α → Prop} : ∀ (n : Nat), (∀ i, i < n → ∃ x, p i x) → ∃ l : List α, l.length = n ∧ ∀ i x, l[i]? = some x → p i x
  | 0, _ => ⟨[], rfl, by simp⟩
  | n + 1, h => by
    obtain ⟨l, hl, hp⟩ := exists_list n fun i hi => h i (by omega)
    obtain ⟨x, hx⟩ := h n (by omega)
    refine ⟨l ++ [x], by simp [hl], fun i y hy => ?_⟩
    rw [List.getElem?_append] at hy
    by_cases hi : i < l.length
    · rw [if_pos hi] at hy; exact hp i y hy
    · rw [if_neg hi] at hy
      have hi2 := (List.getElem?_eq_some_iff.1 hy).1
      simp at hi2
      have : i = n := by omega
      subst this
      rw [hl] at hy
      simp at hy
      subst hy
      exact hx

theorem cells_none {w : World} {base : Nat} {a : Addr} {n : Nat} {cs : List Value} (h : w.cells? base a n = some cs) (hn : 0 < n) : a.spot = none := by
  obtain ⟨_, hl, hc⟩ := World.cells?_some h
  have h0 := hc 0 hn
  have hlt : 0 < cs.length := by omega
  rw [List.getElem?_eq_getElem hlt] at h0
  simp only [Addr.add, if_true] at h0
  unfold World.cell? at h0
  cases hs : a.spot with
  | none => rfl
  | some x =>
    exfalso
    split at h0
    · simp [hs] at h0
    · simp at h0

/-- How many elements and letters a value holds, each counted each time it is reached. -/
def szU : U → Nat
  | .str l => l.length
  | .sl rows => (rows.map fun r => 1 + (r.map fun u => szU u).sum).sum
  | .agg cs => (cs.map fun u => szU u).sum
  | _ => 0
termination_by u => SizeOf.sizeOf u
decreasing_by
  · rename_i h1 h2
    have h1 := List.sizeOf_lt_of_mem h1
    have h2 := List.sizeOf_lt_of_mem h2
    simp_wf
    omega
  · rename_i h2
    have h2 := List.sizeOf_lt_of_mem h2
    simp_wf
    omega
theorem szU_sl (rows : List (List U)) : szU (.sl rows) = (rows.map fun r => 1 + (r.map szU).sum).sum := by rw [szU]
theorem szU_agg (cs : List U) : szU (.agg cs) = (cs.map szU).sum := by rw [szU]
theorem szU_o (v : Value) : szU (.oth v) = 0 := by simp [szU]
open Go.Proofs.Ytdkadmchdocjbaa.Rows (uptoBulk uptoBulkAll)
theorem bulk_pos {H : Type} (d : DataW H) : 1 ≤ uptoBulk d := by
  cases d with
  | lit l => cases l <;> simp [uptoBulk]
  | _ => simp [uptoBulk]
theorem bulkAll_ge {H : Type} : ∀ {l : List (DataW H)} {ns : List Nat}, ns.length = l.length → (∀ (i n : Nat) (d : DataW H), ns[i]? = some n → l[i]? = some d → n ≤ uptoBulk d) → ns.sum ≤ uptoBulkAll l
  | [], [], _, _ => by simp
  | d :: l, n :: ns, hl, h => by
    have h1 := h 0 n d rfl rfl
    have h2 := bulkAll_ge (l := l) (ns := ns) (by simpa using hl) fun i n d hn hd => h (i + 1) n d (by simpa using hn) (by simpa using hd)
    simp only [uptoBulkAll, List.sum_cons]
    omega
  | [], _ :: _, hl, _ => by simp at hl
  | _ :: _, [], hl, _ => by simp at hl
theorem szU_oth (cs : List Value) : ((cs.map U.oth).map szU).sum = 0 := by
  induction cs with
  | nil => rfl
  | cons c cs ih => simp only [List.map_cons, List.sum_cons, ih, szU_o]
theorem sum_flatten (f : U → Nat) : ∀ (rs : List (List U)), (rs.flatten.map f).sum = (rs.map fun r => (r.map f).sum).sum
  | [] => rfl
  | r :: rs => by rw [List.flatten_cons, List.map_append, List.sum_append, List.map_cons, List.sum_cons, sum_flatten f rs]
theorem trod_rep {H : Type} {enc : TypeId × Value → H} {P : Program} (hseq : seqAll P = true) {w : World} {base : Nat} {spare : Nat → Bool} {held : Bool} : ∀ (fuel : Nat) {t : TypeId} {cs : List Value} {x : DataW H × List MemPlace}, t < P.types.size →
    DataW.trod enc P w base spare held fuel t cs = some x → ∃ r, HasRow P t r ∧ RepRow (wmem w) r cs ∧ 1 + (r.map szU).sum ≤ uptoBulk x.1
  | 0, t, cs, x, _, h => by simp [DataW.trod] at h
  | fuel + 1, t, cs, x, hts, h => by
    have h0 := h
    have hb1 := bulk_pos x.1
    have oth : ∀ cs : List Value, RepRow (wmem w) (cs.map .oth) cs := fun cs => ⟨by simp, fun j u hj => by
      rw [List.getElem?_map] at hj
      cases hc : cs[j]? with
      | none => rw [hc] at hj; cases hj
      | some v => rw [hc] at hj; cases hj; rw [List.getD_eq_getElem?_getD, hc]; exact .oth v⟩
    cases hu : P.underlying t with
    | none => exact ⟨_, .other (by rw [hu]; trivial), oth cs, by rw [szU_oth]; exact hb1⟩
    | some td =>
      cases td with
      | bool =>
        unfold DataW.trod at h
        rw [hu] at h
        split at h <;> simp_all
        exact ⟨_, .bool hu, .one (.bool _), by simp [szU]; omega⟩
      | int k =>
        unfold DataW.trod at h
        rw [hu] at h
        split at h <;> simp_all [Lit.wf]
        rename_i hk
        obtain ⟨⟨hk1, h1, h2⟩, _⟩ := h
        subst hk1
        exact ⟨_, .int hu h1 h2, .one (.int _ _), by simp [szU]; omega⟩
      | string =>
        unfold DataW.trod at h
        rw [hu] at h
        split at h <;> simp_all
        rename_i s
        refine ⟨[.str s.data.toList], .str hu (by simpa using h.1), .one ?_, ?_⟩
        · have h := RepU.str (m := wmem w) s.data.toList
          simpa using h
        · rw [← h.2]
          simp [szU, uptoBulk, uptoBulk, ByteArray.toList_eq]
          omega
      | slice e =>
        rcases DataW.trod_slice hu h with ⟨rfl, rfl⟩ | ⟨a, len, cap, elems, rest, n, hn, rfl, rfl, hb, hl, hm, hlen, hel, _, _⟩
        · exact ⟨[.sl []], .slice hu (by simp) (by simp), .one (.slE none 0 fun _ => rfl), by simp [szU]; exact bulk_pos _⟩
        · have hnf : n = fuel := by omega
          subst hnf
          by_cases h0 : len = 0
          · subst h0
            exact ⟨[.sl []], .slice hu (by simp) (by simp), .one (.slE (some a) cap fun e => by cases e), by simp [szU]; exact bulk_pos _⟩
          · have hrow : ∀ i, i < len → ∃ q, ∃ cs', w.cells? base (a.add (i * P.cellsOf e)) (P.cellsOf e) = some cs' ∧ HasRow P e q ∧ RepRow (wmem w) q cs' ∧ ∀ d, elems[i]? = some d → 1 + (q.map szU).sum ≤ uptoBulk d.1 := fun i hi => by
              have h1 := hel i hi
              rw [List.getElem?_eq_getElem (by omega)] at h1
              cases hc : w.cells? base (a.add (i * P.cellsOf e)) (P.cellsOf e) with
              | none => rw [hc] at h1; cases h1
              | some cs' =>
                rw [hc] at h1
                obtain ⟨q, h2, h3, h4⟩ := trod_rep hseq n (seqAll_slice hseq hts hu) (by simpa using h1)
                exact ⟨q, cs', rfl, h2, h3, fun d hd => by rw [List.getElem?_eq_getElem (by omega)] at hd; cases hd; exact h4⟩
            obtain ⟨rows, hrl, hrows⟩ := exists_list len hrow
            by_cases hz : P.cellsOf e = 0
            · exact ⟨_, .other (by rw [hu]; exact hz), oth _, by rw [szU_oth]; exact hb1⟩
            · have hsp : a.spot = none := by
                obtain ⟨cs', h1, _⟩ := hrows 0 rows[0] (List.getElem?_eq_getElem (by omega))
                have := cells_none h1 (by omega)
                simpa [Addr.add] using this
              obtain ⟨b, o, sp⟩ := a
              simp only at hsp
              subst hsp
              refine ⟨[.sl rows], .slice hu (by omega) fun r hr => ?_, .one ?_, ?_⟩
              · obtain ⟨i, hi⟩ := List.getElem?_of_mem hr
                obtain ⟨_, _, h2, _⟩ := hrows i r hi
                exact h2
              · have hat : ∀ i r, rows[i]? = some r → r.length = P.cellsOf e ∧ ∀ j, j < P.cellsOf e → ∃ v, w.cell? ⟨b, o + i * P.cellsOf e + j, none⟩ = some v ∧ ∀ u, r[j]? = some u → RepU (wmem w) u v := fun i r hi => by
                  obtain ⟨cs', h1, _, h3, _⟩ := hrows i r hi
                  obtain ⟨_, h4, h5⟩ := World.cells?_some h1
                  refine ⟨by rw [h3.1, h4], fun j hj => ?_⟩
                  have h6 := h5 j hj
                  rw [addr_add, addr_add, List.getElem?_eq_getElem (by omega)] at h6
                  refine ⟨_, h6, fun u hu => ?_⟩
                  have := h3.2 j u hu
                  rw [List.getD_eq_getElem?_getD, List.getElem?_eq_getElem (by omega)] at this
                  exact this
                have := RepU.sl (m := wmem w) rows b o (P.cellsOf e) cap (fun i j => (w.cell? ⟨b, o + i * P.cellsOf e + j, none⟩).getD undef) (by omega) hm (fun r hr => by
                    obtain ⟨i, hi⟩ := List.getElem?_of_mem hr
                    exact (hat i r hi).1)
                  (fun i hi j hj => by
                    obtain ⟨v, hv, _⟩ := (hat i rows[i] (List.getElem?_eq_getElem hi)).2 j hj
                    exact look_cell (by simp [hv]))
                  (fun i r hi j u hj => by
                    have hl := (hat i r hi).1
                    obtain ⟨v, hv, hr⟩ := (hat i r hi).2 j (by have := (List.getElem?_eq_some_iff.1 hj).1; omega)
                    rw [hv]
                    exact hr u hj)
                rw [hrl] at this
                exact this
              · have := bulkAll_ge (l := elems.map (·.1)) (ns := rows.map fun r => 1 + (r.map szU).sum) (by simp [hrl, hlen]) fun i n' d hn' hd => by
                  rw [List.getElem?_map] at hn' hd
                  cases hr : rows[i]? with
                  | none => rw [hr] at hn'; cases hn'
                  | some r =>
                    cases he : elems[i]? with
                    | none => rw [he] at hd; cases hd
                    | some y =>
                      rw [hr] at hn'
                      rw [he] at hd
                      cases hn'
                      cases hd
                      obtain ⟨_, _, _, _, h7⟩ := hrows i r hr
                      exact h7 y he
                simp only [List.map_cons, List.map_nil, List.sum_cons, List.sum_nil, szU_sl, uptoBulk]
                omega
      | struct fs =>
        obtain ⟨xs, n, hn, rfl, hcl, hxl, hf⟩ := DataW.trod_struct hu h
        have hnf : n = fuel := by omega
        subst hnf
        obtain ⟨hs, hfl⟩ := seqAll_struct hseq hts hu
        rw [← hcl] at hs
        have hp := seq_pieces fs.toList 0 hs
        rw [List.drop_zero] at hp
        have hrow : ∀ i, i < fs.size → ∃ q, ∃ f, fs[i]? = some f ∧ HasRow P f.type q ∧ RepRow (wmem w) q ((cs.drop f.offset).take (P.cellsOf f.type)) ∧ ∀ d, xs[i]? = some d → (q.map szU).sum ≤ uptoBulk d.1 := fun i hi => by
          have h1 := hf i fs[i] (Array.getElem?_eq_getElem hi)
          rw [List.getElem?_eq_getElem (by omega)] at h1
          obtain ⟨q, h2, h3, h4⟩ := trod_rep hseq n (hfl _ (by rw [← Array.getElem_toList]; exact List.getElem_mem _)) h1
          exact ⟨q, fs[i], Array.getElem?_eq_getElem hi, h2, h3, fun d hd => by rw [List.getElem?_eq_getElem (by omega)] at hd; cases hd; omega⟩
        obtain ⟨rs, hrl, hrs⟩ := exists_list fs.size hrow
        refine ⟨rs.flatten, .struct rs hu hrl fun i f r hi hr => ?_, ?_, ?_⟩
        · obtain ⟨f', h1, h2, _⟩ := hrs i r hr
          rw [hi] at h1
          cases h1
          exact h2
        · rw [hp]
          refine RepRow.flatten (by simp [hrl]) fun i r x hr hx => ?_
          obtain ⟨f', h1, _, h3, _⟩ := hrs i r hr
          rw [List.getElem?_map, Array.getElem?_toList, h1] at hx
          cases hx
          exact h3
        · have := bulkAll_ge (l := xs.map (·.1)) (ns := rs.map fun r => (r.map szU).sum) (by simp [hrl, hxl]) fun i n' d hn' hd => by
            rw [List.getElem?_map] at hn' hd
            cases hr : rs[i]? with
            | none => rw [hr] at hn'; cases hn'
            | some r =>
              cases he : xs[i]? with
              | none => rw [he] at hd; cases hd
              | some y =>
                rw [hr] at hn'
                rw [he] at hd
                cases hn'
                cases hd
                obtain ⟨_, _, _, _, h7⟩ := hrs i r hr
                exact h7 y he
          rw [sum_flatten]
          simp only [uptoBulk]
          omega
      | _ => exact ⟨_, .other (by rw [hu]; trivial), oth cs, by rw [szU_oth]; exact hb1⟩
end Go.VL

/- From a function told by value to the given statement: the arguments, the call, the row. -/
namespace Go.VL
open Go Go.ChangeShapes Go.WideShapes Go.ChangeAt Go.RowKit Go.Deep
open Go.Proofs.Ytdkadmchdocjbaa.Rows (uptoBulk uptoBulkAll)

def HasRows (P : Program) : List TypeId → List (List U) → Prop
  | [], [] => True
  | t :: ts, r :: rs => HasRow P t r ∧ HasRows P ts rs
  | _, _ => False
section
variable {P : Program} {t : TypeId} {r : List U}
theorem HasRow.of_int {k : IntKind} (h : HasRow P t r) (ht : intOfT P t = some k) : ∃ n, r = [.int k n] ∧ k.min ≤ n ∧ n ≤ k.max := by
  have hu := intOfT_some ht
  cases h with
  | int h h1 h2 => rw [hu] at h; cases h; exact ⟨_, rfl, h1, h2⟩
  | other h => rw [hu] at h; exact h.elim
  | struct rs h => rw [hu] at h; cases h
  | _ h => rw [hu] at h; cases h
theorem HasRow.of_bool (h : HasRow P t r) (hu : P.underlying t = some .bool) : ∃ b, r = [.bool b] := by
  cases h with
  | bool h => exact ⟨_, rfl⟩
  | other h => rw [hu] at h; exact h.elim
  | struct rs h => rw [hu] at h; cases h
  | _ h => rw [hu] at h; cases h
theorem HasRow.of_str (h : HasRow P t r) (ht : isStr P t = true) : ∃ l, r = [.str l] ∧ l.length ≤ maxLen := by
  have hu := isStr_some ht
  cases h with
  | str h h1 => exact ⟨_, rfl, h1⟩
  | other h => rw [hu] at h; exact h.elim
  | struct rs h => rw [hu] at h; cases h
  | _ h => rw [hu] at h; cases h
theorem HasRow.of_slice {e sz : Nat} (h : HasRow P t r) (ht : elSz P t = some (e, sz + 1)) : ∃ rows, r = [.sl rows] ∧ rows.length ≤ maxLen ∧ ∀ q ∈ rows, HasRow P e q := by
  obtain ⟨hu, hs⟩ := elSz_some ht
  cases h with
  | slice h h1 h2 => rw [hu] at h; cases h; exact ⟨_, rfl, h1, h2⟩
  | other h =>
    rw [hu] at h
    unfold tsz at hs
    unfold Program.cellsOf at h
    simp only at h
    rw [hs] at h
    simp at h
  | struct rs h => rw [hu] at h; cases h
  | _ h => rw [hu] at h; cases h
theorem HasRow.of_struct {ts : List TypeId} (h : HasRow P t r) (ht : stT P t = some ts) : ∃ rs, r = rs.flatten ∧ HasRows P ts rs := by
  unfold stT at ht
  split at ht
  · rename_i fs hu
    cases ht
    cases h with
    | struct rs h h1 h2 =>
      rw [hu] at h
      cases h
      refine ⟨rs, rfl, ?_⟩
      have key : ∀ (l : List Field) (rs : List (List U)), rs.length = l.length → (∀ (i : Nat) (f : Field) (r : List U), l[i]? = some f → rs[i]? = some r → HasRow P f.type r) → HasRows P (l.map (·.type)) rs := by
        intro l
        induction l with
        | nil => intro rs hl _; simp at hl; subst hl; trivial
        | cons f l ih =>
          intro rs hl h
          cases rs with
          | nil => simp at hl
          | cons r rs => exact ⟨h 0 f r rfl rfl, ih rs (by simpa using hl) fun i f r h1 h2 => h (i + 1) f r (by simpa using h1) (by simpa using h2)⟩
      exact key fs.toList rs (by simpa using h1) fun i f r hf hr => h2 i f r (by simpa using hf) hr
    | other h => rw [hu] at h; exact h.elim
    | _ h => rw [hu] at h; cases h
  · cases ht
end
/-- Rows that all come of a typed thing are those of a list of such things. -/
theorem rows_list {α : Type} (f : α → List U) (Q : α → Prop) : ∀ {rows : List (List U)}, (∀ r ∈ rows, ∃ x, r = f x ∧ Q x) → ∃ l : List α, rows = l.map f ∧ ∀ x ∈ l, Q x
  | [], _ => ⟨[], rfl, by simp⟩
  | r :: rows, h => by
    obtain ⟨x, rfl, hx⟩ := h r (by simp)
    obtain ⟨l, rfl, hl⟩ := rows_list f Q (rows := rows) fun r hr => h r (by simp [hr])
    exact ⟨x :: l, rfl, by simpa using ⟨hx, hl⟩⟩

def ArgU (P : Program) (t : TypeId) (u : U) : Prop := match P.underlying t with
  | some (.struct _) => ∃ r, u = .agg r ∧ HasRow P t r
  | some (.array _ _) => True
  | _ => HasRow P t [u]
theorem ArgU.one {P : Program} {t u} (h : ArgU P t u) (hn : stT P t = none) (ha : notArr P t = true) : HasRow P t [u] := by
  unfold ArgU at h
  unfold stT at hn
  unfold notArr at ha
  split at h <;> simp_all
theorem ArgU.agg {P : Program} {t u ts} (h : ArgU P t u) (hn : stT P t = some ts) : ∃ r, u = .agg r ∧ HasRow P t r := by
  unfold ArgU at h
  unfold stT at hn
  split at h <;> simp_all
def ArgsU (P : Program) : List TypeId → List U → Prop
  | [], [] => True
  | t :: ts, u :: us => ArgU P t u ∧ ArgsU P ts us
  | _, _ => False
theorem okWide_one {P : Program} {w r b t v} (h : Value.okWide P w r b t v) (h1 : ∀ fs, P.underlying t ≠ some (.struct fs)) (h2 : ∀ n e, P.underlying t ≠ some (.array n e)) : v.cells = #[v] := by
  unfold Value.okWide at h
  split at h
  · rename_i fs hu; exact absurd hu (h1 fs)
  · rename_i n e hu; exact absurd hu (h2 n e)
  · cases v <;> first | rfl | (exfalso; unfold Cell.okWide at h; split at h <;> simp_all [Cell.ok])
theorem args_rep {H : Type} {enc : TypeId × Value → H} {P : Program} (hseq : seqAll P = true) {w : World} {spare : Nat → Bool} {held : Bool} {r : Reach} {b : Nat} : ∀ {ts : List TypeId} {vs : List Value} {ds : List (DataW H)} {p : List MemPlace},
    DataW.TrodAll enc P w 0 spare held ts vs ds p → (∀ t ∈ ts, t < P.types.size) → (∀ (j : Nat) t v, ts[j]? = some t → vs[j]? = some v → Value.okWide P w r b t v) → ∃ us, ArgsU P ts us ∧ RepRow (wmem w) us vs ∧ (us.map szU).sum ≤ uptoBulkAll ds
  | [], [], [], _, _, _, _ => ⟨[], trivial, ⟨rfl, by simp⟩, by simp⟩
  | t :: ts, v :: vs, d :: ds, p, h, hlt, hok => by
    obtain ⟨p1, q1, ⟨fuel, h1⟩, h2, _⟩ := h
    obtain ⟨us, h3, h4, hsz⟩ := args_rep hseq h2 (fun t ht => hlt t (by simp [ht])) fun j t v ht hv => hok (j + 1) t v (by simpa using ht) (by simpa using hv)
    have hv := hok 0 t v rfl rfl
    obtain ⟨row, h5, h6, h6s⟩ := trod_rep hseq fuel (hlt t (by simp)) h1
    simp only at h6s
    have hone : ∀ (_ : ∀ fs, P.underlying t ≠ some (.struct fs)) (_ : ∀ n e, P.underlying t ≠ some (.array n e)), ∃ u, HasRow P t [u] ∧ RepU (wmem w) u v ∧ szU u ≤ uptoBulk d := fun n1 n2 => by
      have hc := okWide_one hv n1 n2
      rw [hc] at h6
      have hl := h6.1
      match row, hl with
      | [u], _ => exact ⟨u, h5, by simpa using h6.2 0 u rfl, by simp at h6s; omega⟩
    have hcons : ∀ u, ArgU P t u → RepU (wmem w) u v → szU u ≤ uptoBulk d → ∃ us, ArgsU P (t :: ts) us ∧ RepRow (wmem w) us (v :: vs) ∧ (us.map szU).sum ≤ uptoBulkAll (d :: ds) := fun u hu hr hz => ⟨u :: us, ⟨hu, h3⟩, (RepRow.one hr).append h4, by
      simp only [List.map_cons, List.sum_cons, uptoBulkAll]
      omega⟩
    cases hu : P.underlying t with
    | none =>
      obtain ⟨u, h7, h8, h9⟩ := hone (fun fs e => by rw [hu] at e; cases e) (fun n x e => by rw [hu] at e; cases e)
      exact hcons u (by unfold ArgU; rw [hu]; exact h7) h8 h9
    | some td =>
      cases td with
      | struct fs =>
        unfold Value.okWide at hv
        rw [hu] at hv
        obtain ⟨cs, rfl, _⟩ := hv
        refine hcons (.agg row) (by unfold ArgU; rw [hu]; exact ⟨row, rfl, h5⟩) ?_ (by rw [szU_agg]; omega)
        have := RepU.agg (m := wmem w) row cs.toList (by simpa [Value.cells] using h6.1) (by simpa [Value.cells] using h6.2)
        simpa using this
      | array n e => exact hcons (.oth v) (by unfold ArgU; rw [hu]; trivial) (.oth v) (by rw [szU_o]; exact Nat.zero_le _)
      | _ =>
        obtain ⟨u, h7, h8, h9⟩ := hone (fun fs e => by rw [hu] at e; cases e) (fun n x e => by rw [hu] at e; cases e)
        exact hcons u (by unfold ArgU; rw [hu]; exact h7) h8 h9

/-- The call out of a contract by value. -/
theorem calls_of_fun {P : Program} {f : FuncId} {us : List U} {b : Bool} (h : Fun P f (us.map .u) (· = .u (.bool b))) {W : World} {args : Array Value} (hg : GlobIn (wmem W)) (ha : RepRow (wmem W) us args.toList) :
    Calls P f args W fun e W' => e = .returned (.bool b) ∧ Below W.heap.size W W' := by
  have := h ⟨wmem W, fun _ => none, hg⟩ (W.heap.size ≤ ·) W args ⟨fun _ _ _ h => h, by simp [getK], by simp [getK]⟩ (fun _ _ => rfl) (fun _ h => h)
    ⟨by simpa using ha.1.symm, fun j d hj => by
      rw [List.getElem?_map] at hj
      cases hu : us[j]? with
      | none => rw [hu] at hj; cases hj
      | some u =>
        rw [hu] at hj
        cases hj
        have := ha.2 j u hu
        have e : args.getD j undef = args.toList.getD j undef := by simp
        rw [e]
        exact Rep.u _ _ this⟩
  refine this.mono ?_
  rintro e W' ⟨v, d, o, n, k', rfl, hin, _, _, _, hr, _, rfl⟩
  exact ⟨by rw [rep_bool hr], ⟨hin.os, hin.tape, hin.output, hin.size, fun k hk => hin.block k (by omega)⟩⟩

theorem trodAll_below {H : Type} {enc : TypeId × Value → H} {P : Program} (hl : laidOutB P = true) {W W' : World} (hb : Below W.heap.size W W') {sp : Nat → Bool} : ∀ {ts : List TypeId} {vs : List Value} {ds : List (DataW H)} {ps : List MemPlace},
    (∀ t ∈ ts, P.readableRec t = true ∧ t < P.types.size) → DataW.TrodAll enc P W 0 (fun _ => true) true ts vs ds ps → (∀ x ∈ ps, x.block < W.heap.size) → (∀ x ∈ ps, sp x.block = true) → DataW.TrodAll enc P W' 0 sp true ts vs ds ps
  | [], [], [], _, _, h, _, _ => h
  | t :: ts, v :: vs, d :: ds, ps, hr, h, hlt, hsp => by
    obtain ⟨p, q, h1, h2, rfl⟩ := h
    obtain ⟨h3, h4⟩ := hr t (by simp)
    refine ⟨p, q, WideElems.Trod_stays hl h3 h4 h1 (fun x hx => hb.same (hlt x (by simp [hx]))) (fun x hx => hsp x (by simp [hx])), trodAll_below hl hb (fun t ht => hr t (by simp [ht])) h2 (fun x hx => hlt x (by simp [hx])) (fun x hx => hsp x (by simp [hx])), rfl⟩

theorem post_below {H : Type} {enc : TypeId × Value → H} {P : Program} {f : Func} {s : ChangeSpec} {apart fresh handsOn again : Bool} {W W' : World} {args : Array Value} {v : Value} {ds gs : List (DataW H)} {before pa pv : List MemPlace}
    (hW : DataW.Whole enc P f.params.toList s.vars apart W args.toList ds gs before)
    (hres : ∀ (b : Nat) (sp : Nat → Bool) (hd : Bool), DataW.TrodAll enc P W' b sp hd f.resultTypes.toList (v.resultList f.resultTypes.size) (s.fn H (ds ++ gs)).results [])
    (hargs : ∀ sp : Nat → Bool, (∀ p ∈ before, sp p.block = true) → DataW.TrodAll enc P W' 0 sp true f.params.toList args.toList (s.fn H (ds ++ gs)).args pa)
    (hvars : ∀ sp : Nat → Bool, (∀ p ∈ before, sp p.block = true) → DataW.TrodVars enc P W' sp s.vars (s.fn H (ds ++ gs)).vars pv)
    (hps : before = pa ++ pv) (hb : Below W.heap.size W W')
    (hok : ∀ (j : Nat) (t : TypeId) (r : Value), f.resultTypes[j]? = some t → (v.resultList f.resultTypes.size)[j]? = some r → Value.okWide P W' .any 0 t r) :
    s.post enc P f apart fresh handsOn again W args v W' := by
  have hlt : ∀ p ∈ before, p.block < W.heap.size := fun p hp => hW.lt p hp
  have hold : ∀ p ∈ before, (fun b => decide (b < W.heap.size)) p.block = true := fun p hp => by simpa using hlt p hp
  refine ⟨ds, gs, before, [], pa, pv, hW, hres _ _ _, hargs _ hold, hvars _ hold, World.keptBut_mono (fun p hp => ⟨hp, ?_⟩) (hb.frame (· ∈ before)), fun _ => ?_⟩
  · rw [hps, List.mem_append] at hp
    exact Or.inr hp
  · obtain ⟨_, _, _, _, _, hz, hn⟩ := hW
    refine ⟨hok, _, _, ([] ++ pa) ++ pv, ⟨[] ++ pa, pv, trodAll_append (hargs _ (fun _ _ => rfl)) (hres _ _ _), hvars _ (fun _ _ => rfl), rfl, ?_, ?_⟩, ?_⟩
    · intro b off hp
      have hin : MemPlace.cell b off ∈ before := by rw [hps]; simpa using hp
      rw [hb.frozen (hlt _ hin)]
      exact hz b off hin
    · intro ha
      have := hn ha
      rw [hps] at this
      simpa using this
    · intro p hp _
      rw [hps]
      simpa using hp

/-- What a contract by value gives for the row's own form. -/
theorem law_contract {H : Type} {enc : TypeId × Value → H} {C : Checked} {f : FuncId} {fn : Func} {s : ChangeSpec} {apart fresh handsOn again : Bool} {tb : TypeId}
    (hl : laidOutB C.prog = true) (hseq : seqAll C.prog = true) (hpar : (fn.params.toList.all fun t => C.prog.readableRec t && decide (t < C.prog.types.size)) = true)
    (hvars : s.vars = []) (hspec : ∀ ds : List (DataW H), ds.length = fn.params.size → s.fn H ds = { results := [.lit (.bool true)], args := ds })
    (hres : fn.resultTypes = #[tb]) (htb : C.prog.underlying tb = some .bool) (hglob : globs = [])
    (W : World) (base : Nat) (args : Array Value) (ds gs : List (DataW H)) (before : List MemPlace) (hval : ∀ (j : Nat) t v, fn.params[j]? = some t → args[j]? = some v → Value.okWide C.prog W .any base t v)
    (hW : DataW.Whole enc C.prog fn.params.toList s.vars apart W args.toList ds gs before)
    (hfun : ∀ us : List U, ArgsU C.prog fn.params.toList us → (us.map szU).sum ≤ uptoBulkAll (ds ++ gs) → Fun C.prog f (us.map .u) (· = .u (.bool true))) :
    Calls C.prog f args W fun e W' => ∃ v, e = .returned v ∧ s.post enc C.prog fn apart fresh handsOn again W args v W' := by
  have hpar' : ∀ t ∈ fn.params.toList, C.prog.readableRec t = true ∧ t < C.prog.types.size := by
    intro t ht
    have := List.all_eq_true.1 hpar t ht
    simpa using this
  have hW' := hW
  obtain ⟨p, q, hA, hV, rfl, hfz, hnd⟩ := hW
  rw [hvars] at hV
  obtain ⟨rfl, rfl⟩ := trodVars_none hV
  have hlt : ∀ x ∈ p, x.block < W.heap.size := fun x hx => hW'.lt x (by simp [hx])
  obtain ⟨us, h1, h2, hbulk⟩ := args_rep hseq hA (fun t ht => (hpar' t ht).2) (fun j t v ht hv => hval j t v (by simpa using ht) (by simpa using hv))
  refine (calls_of_fun (hfun us h1 (by rw [List.append_nil]; exact hbulk)) (fun p hp => by rw [hglob] at hp; cases hp) h2).mono ?_
  rintro e W' ⟨rfl, hb⟩
  have hdl : ds.length = fn.params.size := by
    have : ∀ {ts : List TypeId} {vs : List Value} {ds : List (DataW H)} {p : List MemPlace}, DataW.TrodAll enc C.prog W 0 (fun _ => true) true ts vs ds p → ds.length = ts.length := by
      intro ts
      induction ts with
      | nil => intro vs ds p h; cases vs <;> cases ds <;> simp_all [DataW.TrodAll]
      | cons t ts ih =>
        intro vs ds p h
        cases vs <;> cases ds <;> simp only [DataW.TrodAll] at h
        obtain ⟨p, q, _, h2, _⟩ := h
        simp [ih h2]
    simpa using this hA
  have hs := hspec ds hdl
  refine ⟨_, rfl, post_below (pa := p) (pv := []) hW' (fun b sp hd => ?_) (fun sp hsp => ?_) (fun sp _ => ?_) rfl hb (fun j t r ht hr => ?_)⟩
  · rw [List.append_nil, hs, hres]
    exact trodAll_mk1 ⟨1, by simp [DataW.trod, Value.cells, htb]⟩
  · rw [List.append_nil, hs]
    exact trodAll_below hl hb hpar' hA hlt fun x hx => hsp x (by simp [hx])
  · rw [List.append_nil, hs, hvars]
    rfl
  · rw [hres] at ht hr
    cases j with
    | zero =>
      simp at ht
      subst ht
      simp [Value.resultList] at hr
      subst hr
      simp [Value.okWide, htb, Cell.okWide, Cell.ok]
    | succ j => simp at ht
/-- A law of plain data, told by value for every input, as the row's own statement. -/
theorem law_lifted {H : Type} {enc : TypeId × Value → H} {C : Checked} {os : Os} {f : FuncId} {fn : Func} {s : ChangeSpec} {conds : List PathCond} {apart fresh handsOn again : Bool} {tb : TypeId}
    (own : ownKnob C.prog.godebug = none) (started : os.Started) (noInit : C.prog.inits.idxOf? f = none) (hfn : C.prog.funcs[f]? = some fn)
    (witness : ∃ (w : World) (tape : Tape) (i : Input), w.os = os ∧ (w.forCall tape i).Shaped C.prog ∧ i.vars = [] ∧ Input.okWide C.prog (w.forCall tape i) .any w.heap.size f i ∧
      s.pre6 enc C.prog fn conds apart (w.forCall tape i).memory i.args ∧ (({} : Assume)).holds C.prog (lone (Frame.enter C.prog f i.args .normal) [] (w.forCall tape i)))
    (hl : laidOutB C.prog = true) (hseq : seqAll C.prog = true) (hpar : (fn.params.toList.all fun t => C.prog.readableRec t && decide (t < C.prog.types.size)) = true)
    (hvars : s.vars = []) (hspec : ∀ ds : List (DataW H), ds.length = fn.params.size → s.fn H ds = { results := [.lit (.bool true)], args := ds })
    (hres : fn.resultTypes = #[tb]) (htb : C.prog.underlying tb = some .bool)
    (hfun : ∀ us : List U, ArgsU C.prog fn.params.toList us → Fun C.prog f (us.map .u) (· = .u (.bool true))) (hglob : globs = []) :
    ReturnsInHanded {} C os f .any (s.pre6 enc C.prog fn conds apart) (s.post enc C.prog fn apart fresh handsOn again) := by
  refine returnsInHanded_of_change own started noInit hfn witness ?_
  intro W base args ds gs before hval hW _ _
  exact law_contract hl hseq hpar hvars hspec hres htb hglob W base args ds gs before hval hW fun us h _ => hfun us h
end Go.VL

/- The calculus of values: what a call does not know of stays as it is, and bears its own numbers. -/
namespace Go.VL
open Go
theorem Ret.frame2 {P f ds obs nx post} (F : List (Nat × Ob)) (hF : ∀ i ob, getK F i = some ob → getK obs i = none) (h : Ret P f ds obs nx post) :
    Ret P f ds (F ++ obs) nx (fun d o n => ∃ o1, o = F ++ o1 ∧ (∀ i cs, getK F i = some (.box cs) → getK o1 i = none) ∧ post d o1 n) := by
  have h2 := h.frame F hF
  intro k own w vs hsat hhdr hfresh hrep
  -- once more, with what the call owns
  have hob : ∀ i ob, getK obs i = some ob → getK F i = none ∧ getK (F ++ obs) i = some ob := fun i ob hi => by
    have hn : getK F i = none := by
      cases hf : getK F i with
      | none => rfl
      | some x => rw [hF i x hf] at hi; cases hi
    exact ⟨hn, by rw [getK_append, hn]; exact hi⟩
  have hfo : ∀ i ob, getK F i = some ob → getK (F ++ obs) i = some ob := fun i ob hi => by rw [getK_append, hi]
  have hbf : ∀ b, Blk k F b → Blk k (F ++ obs) b := fun b ⟨i, ob, g, h1, h2, h3⟩ => ⟨i, ob, g, hfo i ob h1, h2, h3⟩
  have hsat' : Sat k (fun b => own b ∧ ¬ Blk k F b) obs w := by
    refine ⟨hsat.mem, fun i ob hi => ?_, fun i j x y g g' b hx hy hij => ?_⟩
    · obtain ⟨hn, hi'⟩ := hob i ob hi
      obtain ⟨g, h1, h2, h3⟩ := hsat.ob i ob hi'
      refine ⟨g, h1, fun b hb => ⟨⟨(h2 b hb).1, ?_⟩, (h2 b hb).2⟩, h3⟩
      rintro ⟨j, oj, g', h4, h5, h6⟩
      exact hsat.apart i j ob oj g g' b hi' (hfo j oj h4) (fun e => by subst e; rw [hn] at h4; cases h4) h1 h5 hb h6
    · exact hsat.apart i j x y g g' b (hob i x hx).2 (hob j y hy).2 hij
  have hh : Ret P f ds obs nx (fun d o n => post d o n ∧ True) := fun k own w vs a b c e => (h k own w vs a b c e).mono fun _ _ ⟨v, d, o, n, k', h1, h2, h3, h4, h5, h6, h7⟩ => ⟨v, d, o, n, k', h1, h2, h3, h4, h5, h6, h7, trivial⟩
  refine (h k _ w vs hsat' hhdr (fun b hb => ⟨hfresh b hb, fun hB => absurd (hsat.lt (hbf b hB)) (by omega)⟩) hrep).mono ?_
  rintro e w' ⟨v, d, o1, n', k', he, hin, hs1, hh1, hle, hr1, hp⟩
  have hFat : ∀ i ob, getK F i = some ob → ∃ g, k.hdr i = some g ∧ k'.hdr i = some g ∧ (∀ b, g.1 = some b → own b ∧ (∀ o, k'.mem b o = none) ∧ Blk k F b) ∧ ObAt k' w' g ob := fun i ob hi => by
    obtain ⟨g, h1, h2, h3⟩ := hsat.ob i ob (hfo i ob hi)
    have hB : ∀ b, g.1 = some b → Blk k F b := fun b hb => ⟨i, ob, g, hi, h1, hb⟩
    refine ⟨g, h1, hin.le.hdr i g h1, fun b hb => ⟨(h2 b hb).1, fun o => ?_, hB b hb⟩, h3.keep hin.le fun b hb => hin.block b fun hb' => hb'.2 (hB b hb)⟩
    cases hm : k'.mem b o with
    | none => rfl
    | some x =>
      rcases hin.memNew b o x hm with h4 | h4
      · have h4' : k.mem b o = some x := h4
        rw [(h2 b hb).2 o] at h4'; cases h4'
      · exact absurd (hB b hb) h4.2
  refine ⟨v, d, F ++ o1, n', k', he, ⟨hin.le, hin.none0, fun b o x hx => (hin.memNew b o x hx).imp id (·.1), hfresh, hin.os, hin.tape, hin.output, hin.size, fun b hb => hin.block b fun hb' => hb hb'.1⟩, ?_, hh1, hle, hr1, o1, rfl, fun i cs hi => ?_, hp⟩
  · refine ⟨hs1.mem, fun i ob hi => ?_, fun i j x y g g' b hx hy hij hg hg' hb => ?_⟩
    · rw [getK_append] at hi
      cases hf : getK F i with
      | some x =>
        rw [hf] at hi
        cases hi
        obtain ⟨g, _, h2, h3, h4⟩ := hFat i _ hf
        exact ⟨g, h2, fun b hb => ⟨(h3 b hb).1, (h3 b hb).2.1⟩, h4⟩
      | none =>
        rw [hf] at hi
        obtain ⟨g, h1, h2, h3⟩ := hs1.ob i ob hi
        exact ⟨g, h1, fun b hb => ⟨(h2 b hb).1.1, (h2 b hb).2⟩, h3⟩
    · rw [getK_append] at hx hy
      cases hfx : getK F i with
      | some x' =>
        obtain ⟨g1, k1, k2, k3, _⟩ := hFat i _ hfx
        rw [hg] at k2
        cases k2
        cases hfy : getK F j with
        | some y' =>
          obtain ⟨g2, l1, l2, l3, _⟩ := hFat j _ hfy
          rw [hg'] at l2
          cases l2
          exact hsat.apart i j x' y' g g' b (hfo i _ hfx) (hfo j _ hfy) hij k1 l1 hb
        | none =>
          rw [hfy] at hy
          obtain ⟨g2, l1, l2, _⟩ := hs1.ob j y hy
          rw [hg'] at l1
          cases l1
          exact fun e => (l2 b e).1.2 (k3 b hb).2.2
      | none =>
        rw [hfx] at hx
        cases hfy : getK F j with
        | some y' =>
          obtain ⟨g2, l1, l2, l3, _⟩ := hFat j _ hfy
          rw [hg'] at l2
          cases l2
          obtain ⟨g1, k1, k2, _⟩ := hs1.ob i x hx
          rw [hg] at k1
          cases k1
          exact fun e => (k2 b hb).1.2 (l3 b e).2.2
        | none =>
          rw [hfy] at hy
          exact hs1.apart i j x y g g' b hx hy hij hg hg' hb
  · cases ho : getK o1 i with
    | none => rfl
    | some ob =>
      exfalso
      obtain ⟨g, _, h2, h3, h4⟩ := hFat i _ hi
      obtain ⟨g', h5, h6, _⟩ := hs1.ob i ob ho
      rw [h2] at h5
      cases h5
      obtain ⟨b, _, _, hb, _⟩ := h4
      exact (h6 b hb).1.2 (h3 b hb).2.2
theorem CallP.retF2 {P : Program} {Γ : Ctx} {s : St} {k : St → Prop} {dst : Option Tmp} {fop : Operand} {args : List Operand} {f caps} {ds : List D} {post : D → List (Nat × Ob) → Nat → Prop} (F obs : List (Nat × Ob)) (hret : Ret P f ds obs s.next post)
    (heq : ∀ i, getK s.obs i = getK (F ++ obs) i) (hF : ∀ i ob, getK F i = some ob → getK obs i = none)
    (hf : calleeOf (opd s fop) = some (f, caps)) (hc : callable P f = true) (hds : args.map (opd s) ++ caps = ds) (hp : putOK dst s)
    (hk : ∀ d o1 nx', s.next ≤ nx' → (∀ i cs, getK F i = some (.box cs) → getK o1 i = none) → post d o1 nx' → k (({ s with obs := F ++ o1, next := nx' } : St).put dst d)) : CallP P Γ fop args dst s k :=
  CallP.ret_ ((hret.frame2 F hF).congr heq) hf hc hds hp fun d o n hn ⟨o1, ho, h1, hpo⟩ => by subst ho; exact hk d o1 n hn h1 hpo
theorem getK_frzO (obs : List (Nat × Ob)) (i : Nat) (σ : D → Option U) (js : List Nat) (x : Nat) : getK ((del obs i).map fun p => if js.contains p.1 then (p.1, frzObS σ p.2) else p) x =
    if x = i then none else (getK obs x).map fun ob => if js.contains x then frzObS σ ob else ob := by
  have e : ((del obs i).map fun p => if js.contains p.1 then (p.1, frzObS σ p.2) else p) = (del obs i).map fun p => (p.1, if js.contains p.1 then frzObS σ p.2 else p.2) := by
    apply List.map_congr_left
    intro p _
    split <;> rfl
  rw [e, getK_map (fun x (o : Ob) => if js.contains x then frzObS σ o else o), getK_del]
  by_cases h : x = i <;> simp [h]
theorem frz_obs (s : St) (i : Nat) (σ : D → Option U) (js : List Nat) (x : Nat) : getK (s.frzS i σ js).obs x = if x = i then none else (getK s.obs x).map fun ob => if js.contains x then frzObS σ ob else ob := getK_frzO s.obs i σ js x
theorem frz_env (s : St) (i : Nat) (σ : D → Option U) (js : List Nat) (x : Nat) : getK (s.frzS i σ js).env x = (getK s.env x).map (VL.frzS σ) := getK_map (fun _ d => VL.frzS σ d) s.env x

-- nil slices told as empty ones, in slots and in variables
def norm1 : U → U
  | .nil => .sl []
  | x => x
def normU : U → U
  | .nil => .sl []
  | .agg cs => .agg (cs.map norm1)
  | x => x
def normD : D → D
  | .u x => .u (normU x)
  | d => d
def normOb : Ob → Ob
  | .box cs => .box (cs.map normD)
  | ob => ob
def St.norm (s : St) : St := { s with env := s.env.map fun p => (p.1, normD p.2), obs := s.obs.map fun p => (p.1, normOb p.2) }
theorem getK_normO (obs : List (Nat × Ob)) (x : Nat) : getK (obs.map fun p => (p.1, normOb p.2)) x = (getK obs x).map normOb := getK_map (fun _ o => normOb o) obs x
theorem norm_obs (s : St) (x : Nat) : getK s.norm.obs x = (getK s.obs x).map normOb := getK_normO s.obs x
theorem norm_env (s : St) (x : Nat) : getK s.norm.env x = (getK s.env x).map normD := getK_map (fun _ d => normD d) s.env x
theorem norm1_rep {m : Mem} {x : U} {v : Value} (h : RepU m x v) : RepU m (norm1 x) v := by
  cases h with
  | nil => exact .slE none 0 fun _ => rfl
  | int k n => exact .int k n
  | bool b => exact .bool b
  | str l => exact .str l
  | oth v => exact .oth v
  | slE a c h => exact .slE a c h
  | sl rows b o sz c f h1 h2 h3 h4 h5 => exact .sl rows b o sz c f h1 h2 h3 h4 h5
  | row cells off b o f h1 h2 => exact .row cells off b o f h1 h2
  | agg cells vs h1 h2 => exact .agg cells vs h1 h2
  | map kk ag es0 es hp b ents clock f h1 h2 h3 h4 => exact .map kk ag es0 es hp b ents clock f h1 h2 h3 h4
theorem normU_rep {m : Mem} {x : U} {v : Value} (h : RepU m x v) : RepU m (normU x) v := by
  cases h with
  | map kk ag es0 es hp b ents clock f h1 h2 h3 h4 => exact .map kk ag es0 es hp b ents clock f h1 h2 h3 h4
  | nil => exact .slE none 0 fun _ => rfl
  | int k n => exact .int k n
  | bool b => exact .bool b
  | str l => exact .str l
  | oth v => exact .oth v
  | slE a c h => exact .slE a c h
  | sl rows b o sz c f h1 h2 h3 h4 h5 => exact .sl rows b o sz c f h1 h2 h3 h4 h5
  | row cells off b o f h1 h2 => exact .row cells off b o f h1 h2
  | agg cells vs h1 h2 =>
    refine .agg _ vs (by simpa using h1) fun j u hj => ?_
    rw [List.getElem?_map] at hj
    cases hc : cells[j]? with
    | none => rw [hc] at hj; cases hj
    | some e => rw [hc] at hj; cases hj; exact norm1_rep (h2 j e hc)
theorem normD_rep {k : Kr} {d : D} {v : Value} (h : Rep k d v) : Rep k (normD d) v := by
  cases h with
  | u x v h => exact .u _ _ (normU_rep h)
  | any v => exact .any v
  | ptr i off b c h => exact .ptr i off b c h
  | vec i len h hh => exact .vec i len h hh
  | mp i b c h => exact .mp i b c h
  | elt i sz idx off b c h => exact .elt i sz idx off b c h
  | fnc f caps vs hl hr => exact .fnc f caps vs hl hr
  | agg cells vs hl hr => exact .agg cells vs hl hr
  | tup cells vs hl hr => exact .tup cells vs hl hr
theorem Wk.norm {Γ : Ctx} (s : St) : Wk Γ s s.norm := by
  intro k a w hin hs
  have ho : ∀ i ob, getK s.norm.obs i = some ob → ∃ ob0, getK s.obs i = some ob0 ∧ ob = normOb ob0 := fun i ob hi => by
    have : getK (s.obs.map fun p => (p.1, normOb p.2)) i = some ob := hi
    rw [getK_map (fun _ o => normOb o)] at this
    cases hc : getK s.obs i with
    | none => rw [hc] at this; cases this
    | some o => rw [hc] at this; cases this; exact ⟨o, rfl, rfl⟩
  refine ⟨k, hin, ⟨⟨hs.sat.mem, fun i ob hi => ?_, fun i j x y g g' b hx hy hij => ?_⟩, hs.defers, hs.size, fun x d hx => ?_, hs.hdr⟩⟩
  · obtain ⟨ob0, h1, rfl⟩ := ho i ob hi
    obtain ⟨g, h2, h3, h4⟩ := hs.sat.ob i ob0 h1
    refine ⟨g, h2, h3, ?_⟩
    cases ob0 with
    | box cs =>
      obtain ⟨b, vs, t, e, h5, h6, h7⟩ := h4
      refine ⟨b, vs, t, e, h5, by simpa using h6, fun j d hj => ?_⟩
      rw [List.getElem?_map] at hj
      cases hc : cs[j]? with
      | none => rw [hc] at hj; cases hj
      | some e => rw [hc] at hj; cases hj; exact ⟨(h7 j e hc).1, normD_rep (h7 j e hc).2⟩
    | vec e sz rows => exact h4
    | map kk ag es => exact h4
    | it => exact h4
  · obtain ⟨o1, h1, _⟩ := ho i x hx
    obtain ⟨o2, h2, _⟩ := ho j y hy
    exact hs.sat.apart i j o1 o2 g g' b h1 h2 hij
  · have hx' : getK (s.env.map fun p => (p.1, normD p.2)) x = some d := hx
    rw [getK_map (fun _ d => normD d)] at hx'
    cases hc : getK s.env x with
    | none => rw [hc] at hx'; cases hx'
    | some e => rw [hc] at hx'; cases hx'; exact ⟨(hs.env x e hc).1, normD_rep (hs.env x e hc).2⟩
end Go.VL

/- The calculus of values: all owned slices of plain values are frozen at once. -/
namespace Go.VL
open Go
def frz1 (s : St) : List Nat → Option St
  | [] => none
  | i :: l => match getK s.obs i with
    | some (.vec _ _ rows) => match allU2 rows with
      | some us => some (s.frz i us (s.obs.map (·.1)))
      | none => frz1 s l
    | some (.map kk ag es) => match allUE es with
      | some us => some (s.frzS i (fzMap i kk ag us) (s.obs.map (·.1)))
      | none => frz1 s l
    | _ => frz1 s l
def frzN : Nat → St → St
  | 0, s => s
  | n + 1, s => match frz1 s (s.obs.map (·.1)) with
    | some s' => frzN n s'
    | none => s
theorem Wk.frz1 {Γ : Ctx} {s s' : St} : ∀ {l : List Nat}, frz1 s l = some s' → Wk Γ s s'
  | [], h => by cases h
  | i :: l, h => by
    rw [VL.frz1] at h
    split at h
    · rename_i e sz rows hg
      split at h
      · rename_i us hu
        cases h
        exact Wk.frz i _ hg hu
      · exact Wk.frz1 h
    · rename_i kk ag es hg
      split at h
      · rename_i us hu
        cases h
        exact Wk.frzM i _ hg hu
      · exact Wk.frz1 h
    · exact Wk.frz1 h
theorem Wk.frzN {Γ : Ctx} : ∀ (n : Nat) (s : St), Wk Γ s (frzN n s)
  | 0, s => .refl s
  | n + 1, s => by
    rw [VL.frzN]
    split
    · rename_i s' h
      exact (Wk.frz1 h).trans (Wk.frzN n s')
    · exact .refl s
theorem EndW.frzN {P Γ fn n0 post e s} (n : Nat) (h : EndW P Γ fn n0 post e (frzN n s)) : EndW P Γ fn n0 post e s := .wk _ (Wk.frzN n s) h
theorem EndW.norm {P Γ fn n0 post e s} (h : EndW P Γ fn n0 post e s.norm) : EndW P Γ fn n0 post e s := .wk _ (Wk.norm s) h
theorem V_frzN {P Γ c s Q} (n : Nat) (h : V P Γ c (frzN n s) Q) : V P Γ c s Q := V_wk _ (Wk.frzN n s) h
/-- A variable told as a value. -/
def frzB (i : Nat) (s : St) : St := match getK s.obs i with
  | some (.box cs) => match allU cs with
    | some us => s.frzS i (fzBox i us) (s.obs.map (·.1))
    | none => s
  | _ => s
theorem Wk.frzBx {Γ : Ctx} (i : Nat) (s : St) : Wk Γ s (VL.frzB i s) := by
  unfold VL.frzB
  split
  · rename_i cs hg
    split
    · rename_i us hu
      exact Wk.frzB i _ hg hu
    · exact .refl s
  · exact .refl s
theorem EndW.frzB {P Γ fn n0 post e s} (i : Nat) (h : EndW P Γ fn n0 post e (VL.frzB i s)) : EndW P Γ fn n0 post e s := .wk _ (Wk.frzBx i s) h
theorem V_frzB {P Γ c s Q} (i : Nat) (h : V P Γ c (VL.frzB i s) Q) : V P Γ c s Q := V_wk _ (Wk.frzBx i s) h
end Go.VL

/- The calculus of values: where simp need not look (the code that is still to come), and control as one step. -/
namespace Go.VL
open Go
theorem cg_H {P Γ l s s' k} (h : s = s') : H P Γ l s k = H P Γ l s' k := by rw [h]
theorem cg_hcons {P Γ o r s s' k} (h : s = s') : hcons P Γ o r s k = hcons P Γ o r s' k := by rw [h]
theorem cg_HD {P l s s' k} (h : s = s') : HD P l s k = HD P l s' k := by rw [h]
theorem cg_HD2 {P l s s' fp fp' C k} (h : s = s') (h' : fp = fp') : HD2 P l s fp C k = HD2 P l s' fp' C k := by rw [h, h']
theorem cg_V {P Γ c s s' Q} (h : s = s') : V P Γ c s Q = V P Γ c s' Q := by rw [h]
theorem cg_RunK {P Γ Q k e s s'} (h : s = s') : RunK P Γ Q k e s = RunK P Γ Q k e s' := by rw [h]
theorem cg_LoopW {α : Type} {Γ : Ctx} {S : α → St} {μ : α → Nat} {x : α} {s s' : St} (h : s = s') : LoopW Γ S μ x s = LoopW Γ S μ x s' := by rw [h]
theorem cg_LoopI {α : Type} {n0 : Nat} {S : α → St} {μ : α → Nat} {x : α} {s s' : St} (h : s = s') : LoopI n0 S μ x s = LoopI n0 S μ x s' := by rw [h]
attribute [congr] cg_H cg_hcons cg_HD cg_HD2 cg_V cg_RunK cg_LoopW cg_LoopI

theorem RK_seq {P Γ Q b k s} : RunK P Γ Q (.seq b k) .normal s = V P Γ b s (RunK P Γ Q k) := rfl
theorem RK_seq_ret {P Γ Q b k s} : RunK P Γ Q (.seq b k) .ret s = RunK P Γ Q k .ret s := rfl
theorem RK_seq_exit {P Γ Q b k s i} : RunK P Γ Q (.seq b k) (.exit i) s = RunK P Γ Q k (.exit i) s := rfl
theorem RK_blk {P Γ Q i k s} : RunK P Γ Q (.blk i k) .normal s = RunK P Γ Q k .normal s := rfl
theorem RK_blk_ret {P Γ Q i k s} : RunK P Γ Q (.blk i k) .ret s = RunK P Γ Q k .ret s := rfl
theorem RK_blk_exit {P Γ Q i j k s} : RunK P Γ Q (.blk i k) (.exit j) s = if j = i then RunK P Γ Q k .normal s else RunK P Γ Q k (.exit j) s := rfl
theorem RK_loop {P Γ Q I k s} : RunK P Γ Q (.loop I k) .normal s = I s := rfl
theorem RK_loop_ret {P Γ Q I k s} : RunK P Γ Q (.loop I k) .ret s = RunK P Γ Q k .ret s := rfl
theorem RK_loop_exit {P Γ Q I k s i} : RunK P Γ Q (.loop I k) (.exit i) s = RunK P Γ Q k (.exit i) s := rfl
theorem RK_done {P Γ Q e s} : RunK P Γ Q .done e s = Q e s := rfl

/-- Control, told as a step. -/
def vstep (P : Program) (Γ : Ctx) (Q : Exit → St → Prop) : Code → Kt → St → Prop
  | .seq a b, k, s => vstep P Γ Q a (.seq b k) s
  | .block id c, k, s => vstep P Γ Q c (.blk id k) s
  | .skip, k, s => RunK P Γ Q k .normal s
  | .label _, k, s => RunK P Γ Q k .normal s
  | .exit id, k, s => RunK P Γ Q k (.exit id) s
  | .ret, k, s => RunK P Γ Q k .ret s
  | .cond c x y, k, s => match opd s c with
    | .u (.bool t) => (t = true → V P Γ x s (RunK P Γ Q k)) ∧ (t = false → V P Γ y s (RunK P Γ Q k))
    | _ => False
  | .region _ l false, k, s => match stripL l l.toList with | some l' => H P Γ l' s (RunK P Γ Q k .normal) | none => False
  | c, k, s => V P Γ c s (RunK P Γ Q k)
theorem V_step {P Γ Q} : ∀ {c : Code} {k : Kt} {s : St}, vstep P Γ Q c k s → V P Γ c s (RunK P Γ Q k)
  | .seq a b, k, s, h => V_seq (V_step (c := a) (by rw [vstep] at h; exact h))
  | .block id c, k, s, h => V_block (V_step (c := c) (by rw [vstep] at h; exact h))
  | .skip, k, s, h => V_skip (by rw [vstep] at h; exact h)
  | .label _, k, s, h => V_label (by rw [vstep] at h; exact h)
  | .exit id, k, s, h => V_exit (by rw [vstep] at h; exact h)
  | .ret, k, s, h => V_ret (by rw [vstep] at h; exact h)
  | .cond c x y, k, s, h => by
    rw [vstep] at h
    split at h
    · rename_i t ht
      exact V_cond ht h.1 h.2
    · exact h.elim
  | .region id l false, k, s, h => by
    rw [vstep] at h
    have := V_region1 (P := P) (Γ := Γ) (s := s) (Q := Q) (kt := k) (id := id) (l := l.toList) fun K hK => by
      split at h
      · rename_i l' hl
        simp only [Array.toArray_toList]
        rw [hl]
        exact fun all ops e K' a w h1 h2 Q' hQ => h all ops e K' a w h1 h2 Q' fun K2 a2 w2 s2 h3 h4 h5 => hQ K2 a2 w2 s2 h3 h4 (hK _ h5)
      · exact h.elim
    simpa using this
  | .region _ _ true, k, s, h => by rw [vstep] at h; exact h; all_goals simp
  | .loop c, k, s, h => by rw [vstep] at h; exact h; all_goals simp
  | .rangeFunc .., k, s, h => by rw [vstep] at h; exact h; all_goals simp
  | .scope .., k, s, h => by rw [vstep] at h; exact h; all_goals simp
  | .goto .., k, s, h => by rw [vstep] at h; exact h; all_goals simp
  | .refuse .., k, s, h => by rw [vstep] at h; exact h; all_goals simp
theorem cg_vstep {P Γ Q c k s s'} (h : s = s') : vstep P Γ Q c k s = vstep P Γ Q c k s' := by rw [h]
attribute [congr] cg_vstep
section
variable {P : Program} {Γ : Ctx} {Q : Exit → St → Prop} {k : Kt} {s : St}
theorem vs_seq {a b : Code} : vstep P Γ Q (.seq a b) k s = vstep P Γ Q a (.seq b k) s := by rw [vstep]
theorem vs_block {i} {a : Code} : vstep P Γ Q (.block i a) k s = vstep P Γ Q a (.blk i k) s := by rw [vstep]
theorem vs_skip : vstep P Γ Q .skip k s = RunK P Γ Q k .normal s := by rw [vstep]
theorem vs_label {l} : vstep P Γ Q (.label l) k s = RunK P Γ Q k .normal s := by rw [vstep]
theorem vs_exit {l} : vstep P Γ Q (.exit l) k s = RunK P Γ Q k (.exit l) s := by rw [vstep]
theorem vs_ret : vstep P Γ Q .ret k s = RunK P Γ Q k .ret s := by rw [vstep]
theorem vs_cond {c x y} : vstep P Γ Q (.cond c x y) k s = match opd s c with
    | .u (.bool t) => (t = true → V P Γ x s (RunK P Γ Q k)) ∧ (t = false → V P Γ y s (RunK P Γ Q k))
    | _ => False := by rw [vstep]
theorem vs_region {i} {l : List Oper} : vstep P Γ Q (.region i l.toArray false) k s = match stripL l.toArray l with | some l' => H P Γ l' s (RunK P Γ Q k .normal) | none => False := by rw [vstep]
theorem vs_loop {c} : vstep P Γ Q (.loop c) k s = V P Γ (.loop c) s (RunK P Γ Q k) := by rw [vstep] <;> simp
theorem vs_draw {i l} : vstep P Γ Q (.region i l true) k s = V P Γ (.region i l true) s (RunK P Γ Q k) := by rw [vstep] <;> simp
theorem vs_range {f ps a b} : vstep P Γ Q (.rangeFunc f ps a b) k s = V P Γ (.rangeFunc f ps a b) s (RunK P Γ Q k) := by rw [vstep] <;> simp
theorem vs_scope {c} : vstep P Γ Q (.scope c) k s = V P Γ (.scope c) s (RunK P Γ Q k) := by rw [vstep] <;> simp
theorem V_sseq {a b : Code} (h : vstep P Γ Q a (.seq b k) s) : V P Γ (.seq a b) s (RunK P Γ Q k) := V_seq (V_step h)
theorem V_sblock {i} {a : Code} (h : vstep P Γ Q a (.blk i k) s) : V P Γ (.block i a) s (RunK P Γ Q k) := V_block (V_step h)
theorem V_scond {c x y} (h : vstep P Γ Q (.cond c x y) k s) : V P Γ (.cond c x y) s (RunK P Γ Q k) := V_step h
theorem V_sregion {i} {l : List Oper} (h : vstep P Γ Q (.region i l.toArray false) k s) : V P Γ (.region i l.toArray false) s (RunK P Γ Q k) := V_step h
end
-- weaker: objects that died are dropped
def wkO (s : St) (nx : Nat) : List (Nat × Ob) → Prop
  | [] => True
  | p :: l => (p.1 < nx ∧ getK s.obs p.1 = some p.2 ∧ p.2.under nx = true) ∧ wkO s nx l
def wkU (nx : Nat) : List (Nat × D) → Prop
  | [] => True
  | p :: l => p.2.under nx = true ∧ wkU nx l
theorem wkO_get {s nx} : ∀ {l : List (Nat × Ob)} {x ob}, wkO s nx l → getK l x = some ob → x < nx ∧ getK s.obs x = some ob ∧ ob.under nx = true
  | [], x, ob, _, h => by simp [getK] at h
  | (y, e) :: l, x, ob, hw, h => by
    rw [getK_cons] at h
    by_cases hx : x = y
    · rw [if_pos hx] at h; cases h; subst hx; exact hw.1
    · rw [if_neg hx] at h; exact wkO_get hw.2 h
theorem wkU_get {nx} : ∀ {l : List (Nat × D)} {x d}, wkU nx l → getK l x = some d → d.under nx = true
  | [], x, d, _, h => by simp [getK] at h
  | (y, e) :: l, x, d, hw, h => by
    rw [getK_cons] at h
    by_cases hx : x = y
    · rw [if_pos hx] at h; cases h; subst hx; exact hw.1
    · rw [if_neg hx] at h; exact wkU_get hw.2 h
theorem Wk.cut {Γ : Ctx} {s s' : St} (hn : s'.n = s.n) (hx : Γ.n0 ≤ s'.next) (ho : wkO s s'.next s'.obs) (hu : wkU s'.next s'.env) (he : wkE s s'.env) : Wk Γ s s' := by
  intro K0 a w hin0 hs0
  let s1 : St := { s with env := s'.env }
  obtain ⟨K1, hin1, hs1⟩ := (Wk.env (s := s) (s' := s1) (Γ := Γ) rfl rfl rfl he) K0 a w hin0 hs0
  refine ⟨_, Sim.weak (ρ := fun i => i) hin1 hs1 ⟨hn, fun x d' h => ⟨?_, wkU_get hu h⟩, fun x d' h => (hs1.env x d' h).1, fun i ob' h => ?_, fun i j ob ob' _ _ e => e, fun i hi => ⟨rfl, by omega⟩⟩⟩
  · have : s1.at x = d' := by show (getK s'.env x).getD .any = d'; rw [h]; rfl
    rw [this]
    exact D.le_id d'
  · obtain ⟨h1, h2, h3⟩ := wkO_get ho h
    exact ⟨h1, ob', h2, Ob.le_id ob', h3⟩
theorem under_rowsD (n : Nat) (us : List (List U)) : ((rowsD us).all fun r => r.all (·.under n)) = true := by
  simp [rowsD, List.all_eq_true, D.under]
theorem under_entD (n : Nat) (us : List (Key × List U)) : ((entD us).all fun p => p.2.all (·.under n)) = true := by
  simp [entD, List.all_eq_true, D.under]
-- weaker: objects under other numbers
def pureRow : List D → Prop
  | [] => True
  | .u _ :: l => pureRow l
  | _ => False
def pureRows : List (List D) → Prop
  | [] => True
  | r :: l => pureRow r ∧ pureRows l
theorem pureRow_out : ∀ {r : List D}, pureRow r → ∀ c ∈ r, ∃ x, c = D.u x
  | [], _, c, hc => by cases hc
  | d :: l, h, c, hc => by
    cases d <;> simp only [pureRow] at h
    rcases List.mem_cons.1 hc with rfl | hc
    · exact ⟨_, rfl⟩
    · exact pureRow_out h c hc
theorem pureRows_out : ∀ {r : List (List D)}, pureRows r → uRows r
  | [], _ => uRows_nil
  | r :: l, h => uRows_cons (pureRow_out h.1) (pureRows_out h.2)
@[simp] theorem pureRow_map (l : List U) : pureRow (l.map .u) = True := by
  induction l with
  | nil => simp [pureRow]
  | cons a l ih => simpa [pureRow] using ih
@[simp] theorem pureRows_rowsD (l : List (List U)) : pureRows (rowsD l) = True := by
  induction l with
  | nil => simp [pureRows]
  | cons a l ih => simpa [pureRows] using ih
@[simp] theorem pureRows_append (a b : List (List D)) : pureRows (a ++ b) = (pureRows a ∧ pureRows b) := by
  induction a with
  | nil => simp [pureRows]
  | cons r l ih => simp [pureRows, ih, and_assoc]
@[simp] theorem pureRows_replicate (n : Nat) (r : List D) (h : pureRow r) : pureRows (List.replicate n r) = True := by
  induction n with
  | zero => simp [pureRows]
  | succ n ih => simp [List.replicate_succ, pureRows, ih, h]
def pureEs (es : List (Key × List D)) : Prop := ∃ us, es = entD us
@[simp] theorem pureEs_entD (us : List (Key × List U)) : pureEs (entD us) = True := by simp only [eq_iff_iff, iff_true]; exact ⟨us, rfl⟩
@[simp] theorem pureEs_nil : pureEs [] = True := by simp only [eq_iff_iff, iff_true]; exact ⟨[], rfl⟩
def leU (ρ : Nat → Nat) (nx : Nat) : List D → List D → Prop
  | [], [] => True
  | a :: az, b :: bs => (D.le ρ a b ∧ b.under nx = true) ∧ leU ρ nx az bs
  | _, _ => False
def fixRows (ρ : Nat → Nat) (nx : Nat) (B : List (List D)) : Prop := ∀ r ∈ B, ∀ c ∈ r, c = c.ren ρ ∧ c.under nx = true
def obR (ρ : Nat → Nat) (nx : Nat) : Ob → Ob → Prop
  | .box cs, .box cs' => leU ρ nx cs cs'
  | .vec e sz A, .vec e' sz' B => e = e' ∧ sz = sz' ∧ A = B ∧ (pureRows B ∨ fixRows ρ nx B)
  | .map kk ag es, .map kk' ag' es' => kk = kk' ∧ ag = ag' ∧ es = es' ∧ pureEs es'
  | .it kk ag es left cur, .it kk' ag' es' left' cur' => kk = kk' ∧ ag = ag' ∧ es = es' ∧ left = left' ∧ cur = cur'
  | _, _ => False
def wkR (s : St) (ρ : Nat → Nat) (nx : Nat) : List (Nat × Ob) → Prop
  | [] => True
  | p :: l => (p.1 < nx ∧ (match getK s.obs (ρ p.1) with | some ob => obR ρ nx ob p.2 | none => False)) ∧ wkR s ρ nx l
def wkER (s : St) (ρ : Nat → Nat) (nx : Nat) : List (Nat × D) → Prop
  | [] => True
  | p :: l => ((match getK s.env p.1 with | some d => D.le ρ d p.2 | none => False) ∧ p.2.under nx = true) ∧ wkER s ρ nx l
theorem leU_out {ρ nx} : ∀ {a b : List D}, leU ρ nx a b → leL ρ a b ∧ b.all (·.under nx) = true
  | [], [], _ => ⟨trivial, rfl⟩
  | a :: az, b :: bs, h => by
    obtain ⟨h1, h2⟩ := leU_out h.2
    exact ⟨⟨h.1.1, h1⟩, by simp [h.1.2, h2]⟩
  | [], b :: bs, h => h.elim
  | a :: az, [], h => h.elim
theorem obR_out {ρ nx ob ob'} (h : obR ρ nx ob ob') : Ob.le ρ ob ob' ∧ ob'.under nx = true := by
  cases ob <;> cases ob' <;> simp only [obR] at h
  · obtain ⟨h1, h2⟩ := leU_out h
    exact ⟨Ob.le_box h1, h2⟩
  · obtain ⟨rfl, rfl, rfl, h⟩ := h
    rcases h with h | h
    · have hu := pureRows_out h
      exact ⟨Ob.le_vec_refl hu, Ob.under_vec hu⟩
    · refine ⟨⟨rfl, rfl, Nat.le_refl _, fun i r r' hi hi' => ?_⟩, ?_⟩
      · rw [hi] at hi'
        cases hi'
        refine ⟨rfl, fun j c c' hj hj' => ?_⟩
        rw [hj] at hj'
        cases hj'
        exact .inr (.inl (h r (List.mem_of_getElem? hi) c (List.mem_of_getElem? hj)).1)
      · simp only [Ob.under, List.all_eq_true]
        exact fun r hr c hc => (h r hr c hc).2
  · obtain ⟨rfl, rfl, rfl, us, rfl⟩ := h
    refine ⟨⟨rfl, rfl, rfl, fun i p p' hi hi' => ?_⟩, under_entD _ _⟩
    rw [hi] at hi'
    cases hi'
    refine ⟨rfl, fun j c c' hj hj' => ?_⟩
    rw [hj] at hj'
    cases hj'
    rw [entD, List.getElem?_map] at hi
    cases hq : us[i]? with
    | none => rw [hq] at hi; cases hi
    | some q =>
      rw [hq] at hi
      cases hi
      simp only [List.getElem?_map] at hj
      cases hx : q.2[j]? with
      | none => rw [hx] at hj; cases hj
      | some x => rw [hx] at hj; cases hj; exact .inr (.inl (by simp [D.ren]))
  · exact ⟨h, rfl⟩
theorem wkR_out {s ρ nx} : ∀ {l : List (Nat × Ob)}, wkR s ρ nx l → ∀ x ob', getK l x = some ob' → x < nx ∧ ∃ ob, getK s.obs (ρ x) = some ob ∧ Ob.le ρ ob ob' ∧ ob'.under nx = true
  | [], _, x, d', h => by simp [getK] at h
  | (y, d) :: l, h, x, d', hx => by
    rw [getK_cons] at hx
    by_cases e : x = y
    · rw [if_pos e] at hx
      cases hx
      subst e
      obtain ⟨⟨h1, h2⟩, _⟩ := h
      refine ⟨h1, ?_⟩
      split at h2
      · rename_i ob hg
        exact ⟨ob, hg, obR_out h2⟩
      · exact h2.elim
    · rw [if_neg e] at hx; exact wkR_out h.2 x d' hx
theorem wkER_out {s ρ nx} : ∀ {l : List (Nat × D)}, wkER s ρ nx l → ∀ x d', getK l x = some d' → (∃ d, getK s.env x = some d ∧ D.le ρ d d') ∧ d'.under nx = true
  | [], _, x, d', h => by simp [getK] at h
  | (y, d) :: l, h, x, d', hx => by
    rw [getK_cons] at hx
    by_cases e : x = y
    · rw [if_pos e] at hx
      cases hx
      subst e
      obtain ⟨⟨h1, h2⟩, _⟩ := h
      refine ⟨?_, h2⟩
      split at h1
      · rename_i d0 hg
        exact ⟨d0, hg, h1⟩
      · exact h1.elim
    · rw [if_neg e] at hx; exact wkER_out h.2 x d' hx
theorem Wk.ren {Γ : Ctx} {s s' : St} (ρ : Nat → Nat) (hn : s'.n = s.n) (hx : ∀ i, i < Γ.n0 → ρ i = i ∧ i < s'.next) (he : wkER s ρ s'.next s'.env) (ho : wkR s ρ s'.next s'.obs)
    (hi : ∀ i ∈ s'.obs.map (·.1), ∀ j ∈ s'.obs.map (·.1), ρ i = ρ j → i = j) : Wk Γ s s' := by
  intro K0 a w hin0 hs0
  refine ⟨_, Sim.weak (ρ := ρ) hin0 hs0 ⟨hn, fun x d' h => ?_, fun x d' h => ?_, fun i ob h => wkR_out ho i ob h, fun i j ob ob' hi' hj' e => hi i (getK_mem hi') j (getK_mem hj') e, hx⟩⟩
  · obtain ⟨⟨d, h1, h2⟩, h3⟩ := wkER_out he x d' h
    have : s.at x = d := by show (getK s.env x).getD .any = d; rw [h1]; rfl
    rw [this]
    exact ⟨h2, h3⟩
  · obtain ⟨⟨d, h1, h2⟩, h3⟩ := wkER_out he x d' h
    exact (hs0.env x d h1).1
theorem frz_entD (σ : D → Option U) (us : List (Key × List U)) : (entD us).map (fun p => (p.1, p.2.map (frzS σ))) = entD us := by
  simp only [entD, List.map_map]
  apply List.map_congr_left
  intro p _
  have : (p.2.map D.u).map (frzS σ) = p.2.map D.u := by
    rw [List.map_map]
    apply List.map_congr_left
    intro x _
    simp [frzS]
  simp [Function.comp, frzS]
theorem frz_rowsD (σ : D → Option U) (us : List (List U)) : (rowsD us).map (fun r => r.map (frzS σ)) = rowsD us := by
  simp only [rowsD, List.map_map]
  apply List.map_congr_left
  intro p _
  simp [Function.comp, frzS]
end Go.VL
