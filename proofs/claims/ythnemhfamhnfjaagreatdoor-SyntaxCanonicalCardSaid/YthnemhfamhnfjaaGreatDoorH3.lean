/- Texts joined by a program of mine: VLP VLR VLS VLT VLU VLV VLW VLX VLY VLQ VLZ VLF VLG VLH Ty VLA Zf. -/
import Derived.Test.YthnemhfamhnfjaaGreatDoorH2
import Derived.Test.YthnemhfamhnfjaaGreatDoorRows
import Derived.ProofKit
import Derived.Below
import Derived.ChangeSame
import Derived.Deep.Slices
import Derived.Sort.OwnSortedInts
import Derived.Recover
import Derived.Lib.AppendStr
import Derived.LaidMore
import Derived.LaidLaws
import Derived.LaidHandle
import Derived.MakeChecks
import Derived.Stop.Joined
import Derived.OpenShut
set_option linter.all false
set_option maxRecDepth 100000
set_option maxHeartbeats 8000000
namespace Go.VL
open Go Go.ChangeShapes Go.WideShapes Go.ChangeAt Go.RowKit Go.Deep
open Go.Proofs.YthnemhfamhnfjaaGreatDoor.Rows (uptoBulk uptoBulkAll)
/-- The memory of a world. -/
def zjk (w : World) : Mem := fun b o => look w b o
inductive HasRow (P : Program) : TypeId → List U → Prop
 | bool {t b} (h : P.underlying t = some .bool) : HasRow P t [.bool b]
 | int {t k n} (h : P.underlying t = some (.int k)) (h1 : k.min ≤ n) (h2 : n ≤ k.max) : HasRow P t [.int k n]
 | str {t l} (h : P.underlying t = some .string) (h1 : l.length ≤ maxLen) : HasRow P t [.str l]
 | slice {t e rows} (h : P.underlying t = some (.slice e)) (h1 : rows.length ≤ maxLen) (h2 : ∀ r ∈ rows, HasRow P e r) : HasRow P t [.sl rows]
 | struct {t fs} (rs : List (List U)) (h : P.underlying t = some (.struct fs)) (h1 : rs.length = fs.size) (h2 : ∀ (i : Nat) (f : Field) (r : List U), fs[i]? = some f → rs[i]? = some r → HasRow P f.type r) : HasRow P t rs.flatten
 | other {t r} (h : match P.underlying t with | some .bool | some (.int _) | some .string | some (.struct _) => False | some (.slice e) => P.cellsOf e = 0 | _ => True) : HasRow P t r
/-- The fields lie one behind the other. -/
def zrt (P : Program) : Nat → List Field → Nat → Bool
 | o, [], n => o == n
 | o, f :: l, n => f.offset == o && zrt P (o + P.cellsOf f.type) l n
def zhU (P : Program) : Bool := (List.range P.types.size).all fun t => match P.underlying t with
 | some (.struct fs) => zrt P 0 fs.toList (P.cellsOf t) && fs.toList.all fun f => decide (f.type < P.types.size)
 | some (.slice e) => decide (e < P.types.size)
 | _ => true
theorem ziy {P : Program} (h : zhU P = true) {t fs} (hlt : t < P.types.size) (ht : P.underlying t = some (.struct fs)) : zrt P 0 fs.toList (P.cellsOf t) = true ∧ ∀ f ∈ fs.toList, f.type < P.types.size := by
 have := List.all_eq_true.1 h t (List.mem_range.2 hlt)
 simp only [ht, Bool.and_eq_true, List.all_eq_true, decide_eq_true_eq] at this
 exact this
theorem zjw {P : Program} (h : zhU P = true) {t e} (hlt : t < P.types.size) (ht : P.underlying t = some (.slice e)) : e < P.types.size := by
 have := List.all_eq_true.1 h t (List.mem_range.2 hlt)
 simp only [ht, decide_eq_true_eq] at this
 exact this
/-- Cells az plain values. -/
def RepRow (m : Mem) (r : List U) (cs : List Value) : Prop := r.length = cs.length ∧ ∀ (j : Nat) (u : U), r[j]? = some u → RepU m u (cs.getD j undef)
theorem RepRow.one {m : Mem} {u : U} {v : Value} (h : RepU m u v) : RepRow m [u] [v] := ⟨rfl, fun j w hj => by
 cases j with
 | zero => simp at hj; subst hj; exact h
 | succ j => simp at hj⟩
theorem RepRow.append {m : Mem} {a b : List U} {x y : List Value} (h : RepRow m a x) (g : RepRow m b y) : RepRow m (a ++ b) (x ++ y) := by
 refine ⟨by simp [h.1, g.1], fun j u hj => ?_⟩
 rw [List.getElem?_append] at hj
 rw [List.getD_eq_getElem?_getD, List.getElem?_append, ← h.1]
 by_cases hl : j < a.length
 ·rw [if_pos hl] at hj ⊢
  rw [← List.getD_eq_getElem?_getD]
  exact h.2 j u hj
 ·rw [if_neg hl] at hj ⊢
  rw [← List.getD_eq_getElem?_getD]
  exact g.2 _ u hj
theorem RepRow.flatten {m : Mem} : ∀ {rs : List (List U)} {xs : List (List Value)}, rs.length = xs.length → (∀ (i : Nat) r x, rs[i]? = some r → xs[i]? = some x → RepRow m r x) → RepRow m rs.flatten xs.flatten
 | [], [], _, _ => ⟨rfl, by simp⟩
 | r :: rs, x :: xs, hl, h => by
  rw [List.flatten_cons, List.flatten_cons]
  exact (h 0 r x rfl rfl).append (RepRow.flatten (by simpa using hl) fun i r x h1 h2 => h (i + 1) r x (by simpa using h1) (by simpa using h2))
 | [], _ :: _, hl, _ => by simp at hl
 | _ :: _, [], hl, _ => by simp at hl
theorem zhT {P : Program} {cs : List Value} : ∀ (l : List Field) (o : Nat), zrt P o l cs.length = true → cs.drop o = (l.map fun f => (cs.drop f.offset).take (P.cellsOf f.type)).flatten
 | [], o, h => by
  simp [zrt] at h
  subst h
  simp
 | f :: l, o, h => by
  simp only [zrt, Bool.and_eq_true, beq_iff_eq] at h
  obtain ⟨h1, h2⟩ := h
  rw [List.map_cons, List.flatten_cons, ← zhT l _ h2, h1]
  conv => lhs; rw [← List.take_append_drop (P.cellsOf f.type) (cs.drop o)]
  rw [List.drop_drop]
theorem zfo {α : Type} {p : Nat → α → Prop} : ∀ (n : Nat), (∀ i, i < n → ∃ x, p i x) → ∃ l : List α, l.length = n ∧ ∀ i x, l[i]? = some x → p i x
 | 0, _ => ⟨[], rfl, by simp⟩
 | n + 1, h => by
  obtain ⟨l, hl, hp⟩ := zfo n fun i hi => h i (by omega)
  obtain ⟨x, hx⟩ := h n (by omega)
  refine ⟨l ++ [x], by simp [hl], fun i y hy => ?_⟩
  rw [List.getElem?_append] at hy
  by_cases hi : i < l.length
  ·rw [if_pos hi] at hy; exact hp i y hy
  ·rw [if_neg hi] at hy
   have hi2 := (lGE.1 hy).1
   simp at hi2
   have : i = n := by omega
   subst this
   rw [hl] at hy
   simp at hy
   subst hy
   exact hx
theorem znl {w : World} {base : Nat} {a : Addr} {n : Nat} {cs : List Value} (h : w.cells? base a n = some cs) (hn : 0 < n) : a.spot = none := by
 obtain ⟨_, hl, hc⟩ := World.cells?_some h
 have h0 := hc 0 hn
 have hlt : 0 < cs.length := by omega
 rw [List.getElem?_eq_getElem hlt] at h0
 simp only [Addr.add, if_true] at h0
 unfold World.cell? at h0
 cases hs : a.spot with
 | none => rfl
 | some x =>
  exfalso
  split at h0
  ·simp [hs] at h0
  ·simp at h0
/-- How many elements and letters a value holds, each counted each time it is reached. -/
def szU : U → Nat
 | .str l => l.length
 | .sl rows => (rows.map fun r => 1 + (r.map fun u => szU u).sum).sum
 | .agg cs => (cs.map fun u => szU u).sum
 | _ => 0
termination_by u => SizeOf.sizeOf u
decreasing_by
 ·rename_i h1 h2
  have h1 := List.sizeOf_lt_of_mem h1
  have h2 := List.sizeOf_lt_of_mem h2
  simp_wf
  omega
 ·rename_i h2
  have h2 := List.sizeOf_lt_of_mem h2
  simp_wf
  omega
theorem zrA (rows : List (List U)) : szU (.sl rows) = (rows.map fun r => 1 + (r.map szU).sum).sum := by rw [szU]
theorem zqL (cs : List U) : szU (.agg cs) = (cs.map szU).sum := by rw [szU]
theorem zrB (v : Value) : szU (.oth v) = 0 := by simp [szU]
open Go.Proofs.YthnemhfamhnfjaaGreatDoor.Rows (uptoBulk uptoBulkAll)
theorem zi9 {H : Type} (d : DataW H) : 1 ≤ uptoBulk d := by
 cases d with
 | lit l => cases l <;> simp [uptoBulk]
 | _ => simp [uptoBulk]
theorem zgl {H : Type} : ∀ {l : List (DataW H)} {ns : List Nat}, ns.length = l.length → (∀ (i n : Nat) (d : DataW H), ns[i]? = some n → l[i]? = some d → n ≤ uptoBulk d) → ns.sum ≤ uptoBulkAll l
 | [], [], _, _ => by simp
 | d :: l, n :: ns, hl, h => by
  have h1 := h 0 n d rfl rfl
  have h2 := zgl (l := l) (ns := ns) (by simpa using hl) fun i n d hn hd => h (i + 1) n d (by simpa using hn) (by simpa using hd)
  simp only [uptoBulkAll, List.sum_cons]
  omega
 | [], _ :: _, hl, _ => by simp at hl
 | _ :: _, [], hl, _ => by simp at hl
theorem zkN (cs : List Value) : ((cs.map U.oth).map szU).sum = 0 := by
 induction cs with
 | nil => rfl
 | cons c cs ih => simp only [List.map_cons, List.sum_cons, ih, zrB]
theorem zgX (f : U → Nat) : ∀ (rs : List (List U)), (rs.flatten.map f).sum = (rs.map fun r => (r.map f).sum).sum
 | [] => rfl
 | r :: rs => by rw [List.flatten_cons, List.map_append, List.sum_append, List.map_cons, List.sum_cons, zgX f rs]
theorem ziv {H : Type} {enc : TypeId × Value → H} {P : Program} (hseq : zhU P = true) {w : World} {base : Nat} {spare : Nat → Bool} {held : Bool} : ∀ (fuel : Nat) {t : TypeId} {cs : List Value} {x : DataW H × List MemPlace}, t < P.types.size →
  DataW.trod enc P w base spare held fuel t cs = some x → ∃ r, HasRow P t r ∧ RepRow (zjk w) r cs ∧ 1 + (r.map szU).sum ≤ uptoBulk x.1
 | 0, t, cs, x, _, h => by simp [DataW.trod] at h
 | fuel + 1, t, cs, x, hts, h => by
  have h0 := h
  have hb1 := zi9 x.1
  have oth : ∀ cs : List Value, RepRow (zjk w) (cs.map .oth) cs := fun cs => ⟨by simp, fun j u hj => by
   rw [List.getElem?_map] at hj
   cases hc : cs[j]? with
   | none => rw [hc] at hj; cases hj
   | some v => rw [hc] at hj; cases hj; rw [List.getD_eq_getElem?_getD, hc]; exact .oth v⟩
  cases hu : P.underlying t with
  | none => exact ⟨_, .other (by rw [hu]; trivial), oth cs, by rw [zkN]; exact hb1⟩
  | some td =>
   cases td with
   | bool =>
    unfold DataW.trod at h
    rw [hu] at h
    split at h <;> simp_all
    exact ⟨_, .bool hu, .one (.bool _), by simp [szU]; omega⟩
   | int k =>
    unfold DataW.trod at h
    rw [hu] at h
    split at h <;> simp_all [Lit.wf]
    rename_i hk
    obtain ⟨⟨hk1, h1, h2⟩, _⟩ := h
    subst hk1
    exact ⟨_, .int hu h1 h2, .one (.int _ _), by simp [szU]; omega⟩
   | string =>
    unfold DataW.trod at h
    rw [hu] at h
    split at h <;> simp_all
    rename_i s
    refine ⟨[.str s.data.toList], .str hu (by simpa using h.1), .one ?_, ?_⟩
    ·have h := RepU.str (m := zjk w) s.data.toList
     simpa using h
    ·rw [← h.2]
     simp [szU, uptoBulk, uptoBulk, ByteArray.toList_eq]
     omega
   | slice e =>
    rcases DataW.trod_slice hu h with ⟨rfl, rfl⟩ | ⟨a, len, cap, elems, rest, n, hn, rfl, rfl, hb, hl, hm, hlen, hel, _, _⟩
    ·exact ⟨[.sl []], .slice hu (by simp) (by simp), .one (.slE none 0 fun _ => rfl), by simp [szU]; exact zi9 _⟩
    ·have hnf : n = fuel := by omega
     subst hnf
     by_cases h0 : len = 0
     ·subst h0
      exact ⟨[.sl []], .slice hu (by simp) (by simp), .one (.slE (some a) cap fun e => by cases e), by simp [szU]; exact zi9 _⟩
     ·have hrow : ∀ i, i < len → ∃ q, ∃ cs', w.cells? base (a.add (i * P.cellsOf e)) (P.cellsOf e) = some cs' ∧ HasRow P e q ∧ RepRow (zjk w) q cs' ∧ ∀ d, elems[i]? = some d → 1 + (q.map szU).sum ≤ uptoBulk d.1 := fun i hi => by
       have h1 := hel i hi
       rw [List.getElem?_eq_getElem (by omega)] at h1
       cases hc : w.cells? base (a.add (i * P.cellsOf e)) (P.cellsOf e) with
       | none => rw [hc] at h1; cases h1
       | some cs' =>
        rw [hc] at h1
        obtain ⟨q, h2, h3, h4⟩ := ziv hseq n (zjw hseq hts hu) (by simpa using h1)
        exact ⟨q, cs', rfl, h2, h3, fun d hd => by rw [List.getElem?_eq_getElem (by omega)] at hd; cases hd; exact h4⟩
      obtain ⟨rows, hrl, hrows⟩ := zfo len hrow
      by_cases hz : P.cellsOf e = 0
      ·exact ⟨_, .other (by rw [hu]; exact hz), oth _, by rw [zkN]; exact hb1⟩
      ·have hsp : a.spot = none := by
        obtain ⟨cs', h1, _⟩ := hrows 0 rows[0] (List.getElem?_eq_getElem (by omega))
        have := znl h1 (by omega)
        simpa [Addr.add] using this
       obtain ⟨b, o, sp⟩ := a
       simp only at hsp
       subst hsp
       refine ⟨[.sl rows], .slice hu (by omega) fun r hr => ?_, .one ?_, ?_⟩
       ·obtain ⟨i, hi⟩ := List.getElem?_of_mem hr
        obtain ⟨_, _, h2, _⟩ := hrows i r hi
        exact h2
       ·have hat : ∀ i r, rows[i]? = some r → r.length = P.cellsOf e ∧ ∀ j, j < P.cellsOf e → ∃ v, w.cell? ⟨b, o + i * P.cellsOf e + j, none⟩ = some v ∧ ∀ u, r[j]? = some u → RepU (zjk w) u v := fun i r hi => by
         obtain ⟨cs', h1, _, h3, _⟩ := hrows i r hi
         obtain ⟨_, h4, h5⟩ := World.cells?_some h1
         refine ⟨by rw [h3.1, h4], fun j hj => ?_⟩
         have h6 := h5 j hj
         rw [zcd, zcd, List.getElem?_eq_getElem (by omega)] at h6
         refine ⟨_, h6, fun u hu => ?_⟩
         have := h3.2 j u hu
         rw [List.getD_eq_getElem?_getD, List.getElem?_eq_getElem (by omega)] at this
         exact this
        have := RepU.sl (m := zjk w) rows b o (P.cellsOf e) cap (fun i j => (w.cell? ⟨b, o + i * P.cellsOf e + j, none⟩).getD undef) (by omega) hm (fun r hr => by
          obtain ⟨i, hi⟩ := List.getElem?_of_mem hr
          exact (hat i r hi).1)
         (fun i hi j hj => by
           obtain ⟨v, hv, _⟩ := (hat i rows[i] (List.getElem?_eq_getElem hi)).2 j hj
           exact zed (by simp [hv]))
         (fun i r hi j u hj => by
           have hl := (hat i r hi).1
           obtain ⟨v, hv, hr⟩ := (hat i r hi).2 j (by have := (lGE.1 hj).1; omega)
           rw [hv]
           exact hr u hj)
        rw [hrl] at this
        exact this
       ·have := zgl (l := elems.map (·.1)) (ns := rows.map fun r => 1 + (r.map szU).sum) (by simp [hrl, hlen]) fun i n' d hn' hd => by
         rw [List.getElem?_map] at hn' hd
         cases hr : rows[i]? with
         | none => rw [hr] at hn'; cases hn'
         | some r =>
          cases he : elems[i]? with
          | none => rw [he] at hd; cases hd
          | some y =>
           rw [hr] at hn'
           rw [he] at hd
           cases hn'
           cases hd
           obtain ⟨_, _, _, _, h7⟩ := hrows i r hr
           exact h7 y he
        simp only [List.map_cons, List.map_nil, List.sum_cons, List.sum_nil, zrA, uptoBulk]
        omega
   | struct fs =>
    obtain ⟨xs, n, hn, rfl, hcl, hxl, hf⟩ := DataW.trod_struct hu h
    have hnf : n = fuel := by omega
    subst hnf
    obtain ⟨hs, hfl⟩ := ziy hseq hts hu
    rw [← hcl] at hs
    have hp := zhT fs.toList 0 hs
    rw [List.drop_zero] at hp
    have hrow : ∀ i, i < fs.size → ∃ q, ∃ f, fs[i]? = some f ∧ HasRow P f.type q ∧ RepRow (zjk w) q ((cs.drop f.offset).take (P.cellsOf f.type)) ∧ ∀ d, xs[i]? = some d → (q.map szU).sum ≤ uptoBulk d.1 := fun i hi => by
     have h1 := hf i fs[i] (Array.getElem?_eq_getElem hi)
     rw [List.getElem?_eq_getElem (by omega)] at h1
     obtain ⟨q, h2, h3, h4⟩ := ziv hseq n (hfl _ (by rw [← Array.getElem_toList]; exact List.getElem_mem _)) h1
     exact ⟨q, fs[i], Array.getElem?_eq_getElem hi, h2, h3, fun d hd => by rw [List.getElem?_eq_getElem (by omega)] at hd; cases hd; omega⟩
    obtain ⟨rs, hrl, hrs⟩ := zfo fs.size hrow
    refine ⟨rs.flatten, .struct rs hu hrl fun i f r hi hr => ?_, ?_, ?_⟩
    ·obtain ⟨f', h1, h2, _⟩ := hrs i r hr
     rw [hi] at h1
     cases h1
     exact h2
    ·rw [hp]
     refine RepRow.flatten (by simp [hrl]) fun i r x hr hx => ?_
     obtain ⟨f', h1, _, h3, _⟩ := hrs i r hr
     rw [List.getElem?_map, Array.getElem?_toList, h1] at hx
     cases hx
     exact h3
    ·have := zgl (l := xs.map (·.1)) (ns := rs.map fun r => (r.map szU).sum) (by simp [hrl, hxl]) fun i n' d hn' hd => by
      rw [List.getElem?_map] at hn' hd
      cases hr : rs[i]? with
      | none => rw [hr] at hn'; cases hn'
      | some r =>
       cases he : xs[i]? with
       | none => rw [he] at hd; cases hd
       | some y =>
        rw [hr] at hn'
        rw [he] at hd
        cases hn'
        cases hd
        obtain ⟨_, _, _, _, h7⟩ := hrs i r hr
        exact h7 y he
     rw [zgX]
     simp only [uptoBulk]
     omega
   | _ => exact ⟨_, .other (by rw [hu]; trivial), oth cs, by rw [zkN]; exact hb1⟩
end Go.VL
namespace Go.VL
open Go Go.ChangeShapes Go.WideShapes Go.ChangeAt Go.RowKit Go.Deep
open Go.Proofs.YthnemhfamhnfjaaGreatDoor.Rows (uptoBulk uptoBulkAll)
def zrm (P : Program) : List TypeId → List (List U) → Prop
 | [], [] => True
 | t :: ts, r :: rs => HasRow P t r ∧ zrm P ts rs
 | _, _ => False
section
variable {P : Program} {t : TypeId} {r : List U}
theorem HasRow.of_str (h : HasRow P t r) (ht : zkd P t = true) : ∃ l, r = [.str l] ∧ l.length ≤ maxLen := by
 have hu := zef ht
 cases h with
 | str h h1 => exact ⟨_, rfl, h1⟩
 | other h => rw [hu] at h; exact h.elim
 | struct rs h => rw [hu] at h; cases h
 | _ h => rw [hu] at h; cases h
end
def ArgU (P : Program) (t : TypeId) (u : U) : Prop := match P.underlying t with
 | some (.struct _) => ∃ r, u = .agg r ∧ HasRow P t r
 | some (.array _ _) => True
 | _ => HasRow P t [u]
theorem ArgU.one {P : Program} {t u} (h : ArgU P t u) (hn : stT P t = none) (ha : zhd P t = true) : HasRow P t [u] := by
 unfold ArgU at h
 unfold stT at hn
 unfold zhd at ha
 split at h <;> simp_all
theorem ArgU.agg {P : Program} {t u ts} (h : ArgU P t u) (hn : stT P t = some ts) : ∃ r, u = .agg r ∧ HasRow P t r := by
 unfold ArgU at h
 unfold stT at hn
 split at h <;> simp_all
def zqs (P : Program) : List TypeId → List U → Prop
 | [], [] => True
 | t :: ts, u :: us => ArgU P t u ∧ zqs P ts us
 | _, _ => False
theorem zmN {P : Program} {w r b t v} (h : Value.okWide P w r b t v) (h1 : ∀ fs, P.underlying t ≠ some (.struct fs)) (h2 : ∀ n e, P.underlying t ≠ some (.array n e)) : v.cells = #[v] := by
 unfold Value.okWide at h
 split at h
 ·rename_i fs hu; exact absurd hu (h1 fs)
 ·rename_i n e hu; exact absurd hu (h2 n e)
 ·cases v <;> first | rfl | (exfalso; unfold Cell.okWide at h; split at h <;> simp_all [Cell.ok])
theorem zmp {H : Type} {enc : TypeId × Value → H} {P : Program} (hseq : zhU P = true) {w : World} {spare : Nat → Bool} {held : Bool} {r : Reach} {b : Nat} : ∀ {ts : List TypeId} {vs : List Value} {ds : List (DataW H)} {p : List MemPlace},
  DataW.TrodAll enc P w 0 spare held ts vs ds p → (∀ t ∈ ts, t < P.types.size) → (∀ (j : Nat) t v, ts[j]? = some t → vs[j]? = some v → Value.okWide P w r b t v) → ∃ us, zqs P ts us ∧ RepRow (zjk w) us vs ∧ (us.map szU).sum ≤ uptoBulkAll ds
 | [], [], [], _, _, _, _ => ⟨[], trivial, ⟨rfl, by simp⟩, by simp⟩
 | t :: ts, v :: vs, d :: ds, p, h, hlt, hok => by
  obtain ⟨p1, q1, ⟨fuel, h1⟩, h2, _⟩ := h
  obtain ⟨us, h3, h4, hsz⟩ := zmp hseq h2 (fun t ht => hlt t (by simp [ht])) fun j t v ht hv => hok (j + 1) t v (by simpa using ht) (by simpa using hv)
  have hv := hok 0 t v rfl rfl
  obtain ⟨row, h5, h6, h6s⟩ := ziv hseq fuel (hlt t (by simp)) h1
  simp only at h6s
  have hone : ∀ (_ : ∀ fs, P.underlying t ≠ some (.struct fs)) (_ : ∀ n e, P.underlying t ≠ some (.array n e)), ∃ u, HasRow P t [u] ∧ RepU (zjk w) u v ∧ szU u ≤ uptoBulk d := fun n1 n2 => by
   have hc := zmN hv n1 n2
   rw [hc] at h6
   have hl := h6.1
   match row, hl with
   | [u], _ => exact ⟨u, h5, by simpa using h6.2 0 u rfl, by simp at h6s; omega⟩
  have zdy : ∀ u, ArgU P t u → RepU (zjk w) u v → szU u ≤ uptoBulk d → ∃ us, zqs P (t :: ts) us ∧ RepRow (zjk w) us (v :: vs) ∧ (us.map szU).sum ≤ uptoBulkAll (d :: ds) := fun u hu hr hz => ⟨u :: us, ⟨hu, h3⟩, (RepRow.one hr).append h4, by
   simp only [List.map_cons, List.sum_cons, uptoBulkAll]
   omega⟩
  cases hu : P.underlying t with
  | none =>
   obtain ⟨u, h7, h8, h9⟩ := hone (fun fs e => by rw [hu] at e; cases e) (fun n x e => by rw [hu] at e; cases e)
   exact zdy u (by unfold ArgU; rw [hu]; exact h7) h8 h9
  | some td =>
   cases td with
   | struct fs =>
    unfold Value.okWide at hv
    rw [hu] at hv
    obtain ⟨cs, rfl, _⟩ := hv
    refine zdy (.agg row) (by unfold ArgU; rw [hu]; exact ⟨row, rfl, h5⟩) ?_ (by rw [zqL]; omega)
    have := RepU.agg (m := zjk w) row cs.toList (by simpa [Value.cells] using h6.1) (by simpa [Value.cells] using h6.2)
    simpa using this
   | array n e => exact zdy (.oth v) (by unfold ArgU; rw [hu]; trivial) (.oth v) (by rw [zrB]; exact Nat.zero_le _)
   | _ =>
    obtain ⟨u, h7, h8, h9⟩ := hone (fun fs e => by rw [hu] at e; cases e) (fun n x e => by rw [hu] at e; cases e)
    exact zdy u (by unfold ArgU; rw [hu]; exact h7) h8 h9
/-- The call out of a contract by value. -/
theorem zkw {P : Program} {f : FuncId} {us : List U} {b : Bool} (h : Fun P f (us.map .u) (· = .u (.bool b))) {W : World} {args : Array Value} (hg : GlobIn (zjk W)) (ha : RepRow (zjk W) us args.toList) :
  Calls P f args W fun e W' => e = .returned (.bool b) ∧ Below W.heap.size W W' := by
 have := h ⟨zjk W, fun _ => none, hg⟩ (W.heap.size ≤ ·) W args ⟨fun _ _ _ h => h, by simp [getK], by simp [getK]⟩ (fun _ _ => rfl) (fun _ h => h)
  ⟨by simpa using ha.1.symm, fun j d hj => by
   rw [List.getElem?_map] at hj
   cases hu : us[j]? with
   | none => rw [hu] at hj; cases hj
   | some u =>
      rw [hu] at hj
      cases hj
      have := ha.2 j u hu
      have e : args.getD j undef = args.toList.getD j undef := by simp
      rw [e]
      exact Rep.u _ _ this⟩
 refine this.mono ?_
 rintro e W' ⟨v, d, o, n, k', rfl, hin, _, _, _, hr, _, rfl⟩
 exact ⟨by rw [zcw hr], ⟨hin.os, hin.tape, hin.output, hin.size, fun k hk => hin.block k (by omega)⟩⟩
theorem zfv {H : Type} {enc : TypeId × Value → H} {P : Program} (hl : laidOutB P = true) {W W' : World} (hb : Below W.heap.size W W') {sp : Nat → Bool} : ∀ {ts : List TypeId} {vs : List Value} {ds : List (DataW H)} {ps : List MemPlace},
  (∀ t ∈ ts, P.readableRec t = true ∧ t < P.types.size) → DataW.TrodAll enc P W 0 (fun _ => true) true ts vs ds ps → (∀ x ∈ ps, x.block < W.heap.size) → (∀ x ∈ ps, sp x.block = true) → DataW.TrodAll enc P W' 0 sp true ts vs ds ps
 | [], [], [], _, _, h, _, _ => h
 | t :: ts, v :: vs, d :: ds, ps, hr, h, hlt, hsp => by
  obtain ⟨p, q, h1, h2, rfl⟩ := h
  obtain ⟨h3, h4⟩ := hr t (by simp)
  refine ⟨p, q, WideElems.Trod_stays hl h3 h4 h1 (fun x hx => hb.same (hlt x (by simp [hx]))) (fun x hx => hsp x (by simp [hx])), zfv hl hb (fun t ht => hr t (by simp [ht])) h2 (fun x hx => hlt x (by simp [hx])) (fun x hx => hsp x (by simp [hx])), rfl⟩
theorem zmH {H : Type} {enc : TypeId × Value → H} {P : Program} {f : Func} {s : ChangeSpec} {apart fresh handsOn again : Bool} {W W' : World} {args : Array Value} {v : Value} {ds gs : List (DataW H)} {before pa pv : List MemPlace}
  (hW : DataW.Whole enc P f.params.toList s.vars apart W args.toList ds gs before)
  (hres : ∀ (b : Nat) (sp : Nat → Bool) (hd : Bool), DataW.TrodAll enc P W' b sp hd f.resultTypes.toList (v.resultList f.resultTypes.size) (s.fn H (ds ++ gs)).results [])
  (hargs : ∀ sp : Nat → Bool, (∀ p ∈ before, sp p.block = true) → DataW.TrodAll enc P W' 0 sp true f.params.toList args.toList (s.fn H (ds ++ gs)).args pa)
  (hvars : ∀ sp : Nat → Bool, (∀ p ∈ before, sp p.block = true) → DataW.TrodVars enc P W' sp s.vars (s.fn H (ds ++ gs)).vars pv)
  (hps : before = pa ++ pv) (hb : Below W.heap.size W W')
  (hok : ∀ (j : Nat) (t : TypeId) (r : Value), f.resultTypes[j]? = some t → (v.resultList f.resultTypes.size)[j]? = some r → Value.okWide P W' .any 0 t r) :
  s.post enc P f apart fresh handsOn again W args v W' := by
 have hlt : ∀ p ∈ before, p.block < W.heap.size := fun p hp => hW.lt p hp
 have hold : ∀ p ∈ before, (fun b => decide (b < W.heap.size)) p.block = true := fun p hp => by simpa using hlt p hp
 refine ⟨ds, gs, before, [], pa, pv, hW, hres _ _ _, hargs _ hold, hvars _ hold, World.keptBut_mono (fun p hp => ⟨hp, ?_⟩) (hb.frame (· ∈ before)), fun _ => ?_⟩
 ·rw [hps, List.mem_append] at hp
  exact Or.inr hp
 ·obtain ⟨_, _, _, _, _, hz, hn⟩ := hW
  refine ⟨hok, _, _, ([] ++ pa) ++ pv, ⟨[] ++ pa, pv, trodAll_append (hargs _ (fun _ _ => rfl)) (hres _ _ _), hvars _ (fun _ _ => rfl), rfl, ?_, ?_⟩, ?_⟩
  ·intro b off hp
   have hin : MemPlace.cell b off ∈ before := by rw [hps]; simpa using hp
   rw [hb.frozen (hlt _ hin)]
   exact hz b off hin
  ·intro ha
   have := hn ha
   rw [hps] at this
   simpa using this
  ·intro p hp _
   rw [hps]
   simpa using hp
end Go.VL
namespace Go.VL
open Go
theorem zoG (obs : List (Nat × Ob)) (i : Nat) (σ : D → Option U) (js : List Nat) (x : Nat) : getK ((del obs i).map fun p => if js.contains p.1 then (p.1, zaE σ p.2) else p) x =
  if x = i then none else (getK obs x).map fun ob => if js.contains x then zaE σ ob else ob := by
 have e : ((del obs i).map fun p => if js.contains p.1 then (p.1, zaE σ p.2) else p) = (del obs i).map fun p => (p.1, if js.contains p.1 then zaE σ p.2 else p.2) := by
  apply List.map_congr_left
  intro p _
  split <;> rfl
 rw [e, zdz (fun x (o : Ob) => if js.contains x then zaE σ o else o), zac]
 by_cases h : x = i <;> simp [h]
theorem zay (s : St) (i : Nat) (σ : D → Option U) (js : List Nat) (x : Nat) : getK (s.frzS i σ js).obs x = if x = i then none else (getK s.obs x).map fun ob => if js.contains x then zaE σ ob else ob := zoG s.obs i σ js x
theorem zaz (s : St) (i : Nat) (σ : D → Option U) (js : List Nat) (x : Nat) : getK (s.frzS i σ js).env x = (getK s.env x).map (VL.frzS σ) := zdz (fun _ d => VL.frzS σ d) s.env x
def zct : U → U
 | .nil => .sl []
 | x => x
def zcs : U → U
 | .nil => .sl []
 | .agg cs => .agg (cs.map zct)
 | x => x
def zb3 : D → D
 | .u x => .u (zcs x)
 | d => d
def zbh : Ob → Ob
 | .box cs => .box (cs.map zb3)
 | ob => ob
def St.norm (s : St) : St := { s with env := s.env.map fun p => (p.1, zb3 p.2), obs := s.obs.map fun p => (p.1, zbh p.2) }
theorem zne (obs : List (Nat × Ob)) (x : Nat) : getK (obs.map fun p => (p.1, zbh p.2)) x = (getK obs x).map zbh := zdz (fun _ o => zbh o) obs x
theorem ziK (s : St) (x : Nat) : getK s.norm.obs x = (getK s.obs x).map zbh := zne s.obs x
theorem ziL (s : St) (x : Nat) : getK s.norm.env x = (getK s.env x).map zb3 := zdz (fun _ d => zb3 d) s.env x
theorem zn7 {m : Mem} {x : U} {v : Value} (h : RepU m x v) : RepU m (zct x) v := by
 cases h with
 | nil => exact .slE none 0 fun _ => rfl
 | int k n => exact .int k n
 | bool b => exact .bool b
 | str l => exact .str l
 | oth v => exact .oth v
 | slE a c h => exact .slE a c h
 | sl rows b o sz c f h1 h2 h3 h4 h5 => exact .sl rows b o sz c f h1 h2 h3 h4 h5
 | row cells off b o f h1 h2 => exact .row cells off b o f h1 h2
 | agg cells vs h1 h2 => exact .agg cells vs h1 h2
 | map kk ag es0 es hp b ents clock f h1 h2 h3 h4 => exact .map kk ag es0 es hp b ents clock f h1 h2 h3 h4
theorem zn6 {m : Mem} {x : U} {v : Value} (h : RepU m x v) : RepU m (zcs x) v := by
 cases h with
 | map kk ag es0 es hp b ents clock f h1 h2 h3 h4 => exact .map kk ag es0 es hp b ents clock f h1 h2 h3 h4
 | nil => exact .slE none 0 fun _ => rfl
 | int k n => exact .int k n
 | bool b => exact .bool b
 | str l => exact .str l
 | oth v => exact .oth v
 | slE a c h => exact .slE a c h
 | sl rows b o sz c f h1 h2 h3 h4 h5 => exact .sl rows b o sz c f h1 h2 h3 h4 h5
 | row cells off b o f h1 h2 => exact .row cells off b o f h1 h2
 | agg cells vs h1 h2 =>
  refine .agg _ vs (by simpa using h1) fun j u hj => ?_
  rw [List.getElem?_map] at hj
  cases hc : cells[j]? with
  | none => rw [hc] at hj; cases hj
  | some e => rw [hc] at hj; cases hj; exact zn7 (h2 j e hc)
theorem zjY {k : Kr} {d : D} {v : Value} (h : Rep k d v) : Rep k (zb3 d) v := by
 cases h with
 | u x v h => exact .u _ _ (zn6 h)
 | any v => exact .any v
 | ptr i off b c h => exact .ptr i off b c h
 | vec i len h hh => exact .vec i len h hh
 | mp i b c h => exact .mp i b c h
 | elt i sz idx off b c h => exact .elt i sz idx off b c h
 | fnc f caps vs hl hr => exact .fnc f caps vs hl hr
 | bnd f caps vs hl hr => exact .bnd f caps vs hl hr
 | agg cells vs hl hr => exact .agg cells vs hl hr
 | tup cells vs hl hr => exact .tup cells vs hl hr
theorem Wk.norm {Γ : Ctx} (s : St) : Wk Γ s s.norm := by
 intro k a w hin hs
 have ho : ∀ i ob, getK s.norm.obs i = some ob → ∃ ob0, getK s.obs i = some ob0 ∧ ob = zbh ob0 := fun i ob hi => by
  have : getK (s.obs.map fun p => (p.1, zbh p.2)) i = some ob := hi
  rw [zdz (fun _ o => zbh o)] at this
  cases hc : getK s.obs i with
  | none => rw [hc] at this; cases this
  | some o => rw [hc] at this; cases this; exact ⟨o, rfl, rfl⟩
 refine ⟨k, hin, ⟨⟨hs.sat.mem, fun i ob hi => ?_, fun i j x y g g' b hx hy hij => ?_⟩, hs.defers, hs.size, fun x d hx => ?_, hs.hdr⟩⟩
 ·obtain ⟨ob0, h1, rfl⟩ := ho i ob hi
  obtain ⟨g, h2, h3, h4⟩ := hs.sat.ob i ob0 h1
  refine ⟨g, h2, h3, ?_⟩
  cases ob0 with
  | box cs =>
   obtain ⟨b, vs, t, e, h5, h6, h7⟩ := h4
   refine ⟨b, vs, t, e, h5, by simpa using h6, fun j d hj => ?_⟩
   rw [List.getElem?_map] at hj
   cases hc : cs[j]? with
   | none => rw [hc] at hj; cases hj
   | some e => rw [hc] at hj; cases hj; exact ⟨(h7 j e hc).1, zjY (h7 j e hc).2⟩
  | vec e sz rows => exact h4
  | map kk ag es => exact h4
  | it => exact h4
  | nw => exact h4
 ·obtain ⟨o1, h1, _⟩ := ho i x hx
  obtain ⟨o2, h2, _⟩ := ho j y hy
  exact hs.sat.apart i j o1 o2 g g' b h1 h2 hij
 ·have hx' : getK (s.env.map fun p => (p.1, zb3 p.2)) x = some d := hx
  rw [zdz (fun _ d => zb3 d)] at hx'
  cases hc : getK s.env x with
  | none => rw [hc] at hx'; cases hx'
  | some e => rw [hc] at hx'; cases hx'; exact ⟨(hs.env x e hc).1, zjY (hs.env x e hc).2⟩
end Go.VL
namespace Go.VL
open Go
def frz1 (s : St) : List Nat → Option St
 | [] => none
 | i :: l => match getK s.obs i with
  | some (.vec _ _ rows) => match zdq rows with
   | some us => some (s.frz i us (s.obs.map (·.1)))
   | none => frz1 s l
  | some (.map kk ag es) => match zdU es with
   | some us => some (s.frzS i (za3 i kk ag us) (s.obs.map (·.1)))
   | none => frz1 s l
  | _ => frz1 s l
def frzN : Nat → St → St
 | 0, s => s
 | n + 1, s => match frz1 s (s.obs.map (·.1)) with
  | some s' => frzN n s'
  | none => s
theorem Wk.frz1 {Γ : Ctx} {s s' : St} : ∀ {l : List Nat}, frz1 s l = some s' → Wk Γ s s'
 | [], h => by cases h
 | i :: l, h => by
  rw [VL.frz1] at h
  split at h
  ·rename_i e sz rows hg
   split at h
   ·rename_i us hu
    cases h
    exact Wk.frz i _ hg hu
   ·exact Wk.frz1 h
  ·rename_i kk ag es hg
   split at h
   ·rename_i us hu
    cases h
    exact Wk.zt1 i _ hg hu
   ·exact Wk.frz1 h
  ·exact Wk.frz1 h
theorem Wk.frzN {Γ : Ctx} : ∀ (n : Nat) (s : St), Wk Γ s (frzN n s)
 | 0, s => .refl s
 | n + 1, s => by
  rw [VL.frzN]
  split
  ·rename_i s' h
   exact (Wk.frz1 h).trans (Wk.frzN n s')
  ·exact .refl s
theorem EndW.frzN {P Γ fn n0 post e s} (n : Nat) (h : EndW P Γ fn n0 post e (frzN n s)) : EndW P Γ fn n0 post e s := .wk _ (Wk.frzN n s) h
theorem EndW.norm {P Γ fn n0 post e s} (h : EndW P Γ fn n0 post e s.norm) : EndW P Γ fn n0 post e s := .wk _ (Wk.norm s) h
end Go.VL
namespace Go.VL
open Go
theorem ztx {P Γ l s s' k} (h : s = s') : H P Γ l s k = H P Γ l s' k := by rw [h]
theorem zp1 {P Γ o r s s' k} (h : s = s') : zdy P Γ o r s k = zdy P Γ o r s' k := by rw [h]
theorem zsA {P l s s' k} (h : s = s') : HD P l s k = HD P l s' k := by rw [h]
theorem zrO {P l s s' fp fp' C k} (h : s = s') (h' : fp = fp') : HD2 P l s fp C k = HD2 P l s' fp' C k := by rw [h, h']
theorem ztw {P Γ c s s' Q} (h : s = s') : V P Γ c s Q = V P Γ c s' Q := by rw [h]
theorem zq4 {P Γ Q k e s s'} (h : s = s') : zap P Γ Q k e s = zap P Γ Q k e s' := by rw [h]
theorem zp2 {α : Type} {Γ : Ctx} {S : α → St} {μ : α → Nat} {x : α} {s s' : St} (h : s = s') : LoopW Γ S μ x s = LoopW Γ S μ x s' := by rw [h]
theorem zp3 {α : Type} {n0 : Nat} {S : α → St} {μ : α → Nat} {x : α} {s s' : St} (h : s = s') : LoopI n0 S μ x s = LoopI n0 S μ x s' := by rw [h]
attribute [congr] ztx zp1 zsA zrO ztw zq4 zp2 zp3
theorem zdP {P Γ Q b k s} : zap P Γ Q (.seq b k) .normal s = V P Γ b s (zap P Γ Q k) := rfl
theorem zbk {P Γ Q b k s} : zap P Γ Q (.seq b k) .ret s = zap P Γ Q k .ret s := rfl
theorem zbb {P Γ Q b k s i} : zap P Γ Q (.seq b k) (.exit i) s = zap P Γ Q k (.exit i) s := rfl
theorem zdQ {P Γ Q i k s} : zap P Γ Q (.blk i k) .normal s = zap P Γ Q k .normal s := rfl
theorem zbl {P Γ Q i k s} : zap P Γ Q (.blk i k) .ret s = zap P Γ Q k .ret s := rfl
theorem zbd {P Γ Q i j k s} : zap P Γ Q (.blk i k) (.exit j) s = if j = i then zap P Γ Q k .normal s else zap P Γ Q k (.exit j) s := rfl
theorem zcD {P Γ Q I k s} : zap P Γ Q (.loop I k) .normal s = I s := rfl
theorem zbc {P Γ Q I k s} : zap P Γ Q (.loop I k) .ret s = zap P Γ Q k .ret s := rfl
theorem za4 {P Γ Q I k s i} : zap P Γ Q (.loop I k) (.exit i) s = zap P Γ Q k (.exit i) s := rfl
theorem zcE {P Γ Q e s} : zap P Γ Q .done e s = Q e s := rfl
/-- Control, told az a step. -/
def zb5 (P : Program) (Γ : Ctx) (Q : Exit → St → Prop) : Code → Kt → St → Prop
 | .seq a b, k, s => zb5 P Γ Q a (.seq b k) s
 | .block id c, k, s => zb5 P Γ Q c (.blk id k) s
 | .skip, k, s => zap P Γ Q k .normal s
 | .label _, k, s => zap P Γ Q k .normal s
 | .exit id, k, s => zap P Γ Q k (.exit id) s
 | .ret, k, s => zap P Γ Q k .ret s
 | .cond c x y, k, s => match opd s c with
  | .u (.bool t) => (t = true → V P Γ x s (zap P Γ Q k)) ∧ (t = false → V P Γ y s (zap P Γ Q k))
  | _ => False
 | .region _ l false, k, s => match zbe l l.toList with | some l' => H P Γ l' s (zap P Γ Q k .normal) | none => False
 | c, k, s => V P Γ c s (zap P Γ Q k)
theorem zio {P Γ Q} : ∀ {c : Code} {k : Kt} {s : St}, zb5 P Γ Q c k s → V P Γ c s (zap P Γ Q k)
 | .seq a b, k, s, h => zrT (zio (c := a) (by rw [zb5] at h; exact h))
 | .block id c, k, s, h => zo7 (zio (c := c) (by rw [zb5] at h; exact h))
 | .skip, k, s, h => zaq (by rw [zb5] at h; exact h)
 | .label _, k, s, h => zrb (by rw [zb5] at h; exact h)
 | .exit id, k, s, h => zce (by rw [zb5] at h; exact h)
 | .ret, k, s, h => zas (by rw [zb5] at h; exact h)
 | .cond c x y, k, s, h => by
  rw [zb5] at h
  split at h
  ·rename_i t ht
   exact zrV ht h.1 h.2
  ·exact h.elim
 | .region id l false, k, s, h => by
  rw [zb5] at h
  have := zo4 (P := P) (Γ := Γ) (s := s) (Q := Q) (kt := k) (id := id) (l := l.toList) fun K hK => by
   split at h
   ·rename_i l' hl
    simp only [Array.toArray_toList]
    rw [hl]
    exact fun all ops e K' a w h1 h2 Q' hQ => h all ops e K' a w h1 h2 Q' fun K2 a2 w2 s2 h3 h4 h5 => hQ K2 a2 w2 s2 h3 h4 (hK _ h5)
   ·exact h.elim
  simpa using this
 | .region _ _ true, k, s, h => by rw [zb5] at h; exact h; all_goals simp
 | .loop c, k, s, h => by rw [zb5] at h; exact h; all_goals simp
 | .rangeFunc .., k, s, h => by rw [zb5] at h; exact h; all_goals simp
 | .scope .., k, s, h => by rw [zb5] at h; exact h; all_goals simp
 | .goto .., k, s, h => by rw [zb5] at h; exact h; all_goals simp
 | .refuse .., k, s, h => by rw [zb5] at h; exact h; all_goals simp
theorem zp0 {P Γ Q c k s s'} (h : s = s') : zb5 P Γ Q c k s = zb5 P Γ Q c k s' := by rw [h]
attribute [congr] zp0
section
variable {P : Program} {Γ : Ctx} {Q : Exit → St → Prop} {k : Kt} {s : St}
theorem zdH {a b : Code} : zb5 P Γ Q (.seq a b) k s = zb5 P Γ Q a (.seq b k) s := by rw [zb5]
theorem zbV {i} {a : Code} : zb5 P Γ Q (.block i a) k s = zb5 P Γ Q a (.blk i k) s := by rw [zb5]
theorem zcz {c x y} : zb5 P Γ Q (.cond c x y) k s = match opd s c with
  | .u (.bool t) => (t = true → V P Γ x s (zap P Γ Q k)) ∧ (t = false → V P Γ y s (zap P Γ Q k))
  | _ => False := by rw [zb5]
theorem zbw {i} {l : List Oper} : zb5 P Γ Q (.region i l.toArray false) k s = match zbe l.toArray l with | some l' => H P Γ l' s (zap P Γ Q k .normal) | none => False := by rw [zb5]
theorem zcx {c} : zb5 P Γ Q (.loop c) k s = V P Γ (.loop c) s (zap P Γ Q k) := by rw [zb5] <;> simp
theorem zcy {i l} : zb5 P Γ Q (.region i l true) k s = V P Γ (.region i l true) s (zap P Γ Q k) := by rw [zb5] <;> simp
theorem zah {a b : Code} (h : zb5 P Γ Q a (.seq b k) s) : V P Γ (.seq a b) s (zap P Γ Q k) := zrT (zio h)
theorem zaD {i} {a : Code} (h : zb5 P Γ Q a (.blk i k) s) : V P Γ (.block i a) s (zap P Γ Q k) := zo7 (zio h)
theorem zai {c x y} (h : zb5 P Γ Q (.cond c x y) k s) : V P Γ (.cond c x y) s (zap P Γ Q k) := zio h
theorem zaG {i} {l : List Oper} (h : zb5 P Γ Q (.region i l.toArray false) k s) : V P Γ (.region i l.toArray false) s (zap P Γ Q k) := zio h
end
def wkO (s : St) (nx : Nat) : List (Nat × Ob) → Prop
 | [] => True
 | p :: l => (p.1 < nx ∧ getK s.obs p.1 = some p.2 ∧ p.2.under nx = true) ∧ wkO s nx l
def wkU (nx : Nat) : List (Nat × D) → Prop
 | [] => True
 | p :: l => p.2.under nx = true ∧ wkU nx l
theorem znA {s nx} : ∀ {l : List (Nat × Ob)} {x ob}, wkO s nx l → getK l x = some ob → x < nx ∧ getK s.obs x = some ob ∧ ob.under nx = true
 | [], x, ob, _, h => by simp [getK] at h
 | (y, e) :: l, x, ob, hw, h => by
  rw [zaa] at h
  by_cases hx : x = y
  ·rw [if_pos hx] at h; cases h; subst hx; exact hw.1
  ·rw [if_neg hx] at h; exact znA hw.2 h
theorem zny {nx} : ∀ {l : List (Nat × D)} {x d}, wkU nx l → getK l x = some d → d.under nx = true
 | [], x, d, _, h => by simp [getK] at h
 | (y, e) :: l, x, d, hw, h => by
  rw [zaa] at h
  by_cases hx : x = y
  ·rw [if_pos hx] at h; cases h; subst hx; exact hw.1
  ·rw [if_neg hx] at h; exact zny hw.2 h
theorem Wk.cut {Γ : Ctx} {s s' : St} (hn : s'.n = s.n) (hx : Γ.n0 ≤ s'.next) (ho : wkO s s'.next s'.obs) (hu : wkU s'.next s'.env) (he : wkE s s'.env) : Wk Γ s s' := by
 intro K0 a w hin0 hs0
 let s1 : St := { s with env := s'.env }
 obtain ⟨K1, hin1, hs1⟩ := (Wk.env (s := s) (s' := s1) (Γ := Γ) rfl rfl rfl he) K0 a w hin0 hs0
 refine ⟨_, Sim.weak (ρ := fun i => i) hin1 hs1 ⟨hn, fun x d' h => ⟨?_, zny hu h⟩, fun x d' h => (hs1.env x d' h).1, fun i ob' h => ?_, fun i j ob ob' _ _ e => e, fun i hi => ⟨rfl, by omega⟩⟩⟩
 ·have : s1.at x = d' := by show (getK s'.env x).getD .any = d'; rw [h]; rfl
  rw [this]
  exact D.le_id d'
 ·obtain ⟨h1, h2, h3⟩ := znA ho h
  exact ⟨h1, ob', h2, Ob.le_id ob', h3⟩
theorem zad (n : Nat) (us : List (List U)) : ((rowsD us).all fun r => r.all (·.under n)) = true := by
 simp [rowsD, List.all_eq_true, D.under]
theorem zae (n : Nat) (us : List (Key × List U)) : ((zq2 us).all fun p => p.2.all (·.under n)) = true := by
 simp [zq2, List.all_eq_true, D.under]
def zbg : List D → Prop
 | [] => True
 | .u _ :: l => zbg l
 | _ => False
def zaS : List (List D) → Prop
 | [] => True
 | r :: l => zbg r ∧ zaS l
theorem zg7 : ∀ {r : List D}, zbg r → ∀ c ∈ r, ∃ x, c = D.u x
 | [], _, c, hc => by cases hc
 | d :: l, h, c, hc => by
  cases d <;> simp only [zbg] at h
  rcases List.mem_cons.1 hc with rfl | hc
  ·exact ⟨_, rfl⟩
  ·exact zg7 h c hc
theorem zeK : ∀ {r : List (List D)}, zaS r → zkM r
 | [], _ => znD
 | r :: l, h => zmx (zg7 h.1) (zeK h.2)
@[simp] theorem zqP (l : List U) : zbg (l.map .u) = True := by
 induction l with
 | nil => simp [zbg]
 | cons a l ih => simpa [zbg] using ih
@[simp] theorem zo9 (l : List (List U)) : zaS (rowsD l) = True := by
 induction l with
 | nil => simp [zaS]
 | cons a l ih => simpa [zaS] using ih
@[simp] theorem znN (a b : List (List D)) : zaS (a ++ b) = (zaS a ∧ zaS b) := by
 induction a with
 | nil => simp [zaS]
 | cons r l ih => simp [zaS, ih, and_assoc]
def zrG (es : List (Key × List D)) : Prop := ∃ us, es = zq2 us
def leU (ρ : Nat → Nat) (nx : Nat) : List D → List D → Prop
 | [], [] => True
 | a :: az, b :: bs => (D.le ρ a b ∧ b.under nx = true) ∧ leU ρ nx az bs
 | _, _ => False
def zqY (ρ : Nat → Nat) (nx : Nat) (B : List (List D)) : Prop := ∀ r ∈ B, ∀ c ∈ r, c = c.ren ρ ∧ c.under nx = true
def obR (ρ : Nat → Nat) (nx : Nat) : Ob → Ob → Prop
 | .box cs, .box cs' => leU ρ nx cs cs'
 | .vec e sz A, .vec e' sz' B => e = e' ∧ sz = sz' ∧ A = B ∧ (zaS B ∨ zqY ρ nx B)
 | .map kk ag es, .map kk' ag' es' => kk = kk' ∧ ag = ag' ∧ es = es' ∧ zrG es'
 | .it kk ag es left cur, .it kk' ag' es' left' cur' => kk = kk' ∧ ag = ag' ∧ es = es' ∧ left = left' ∧ cur = cur'
 | .nw t, .nw t' => t = t'
 | _, _ => False
def wkR (s : St) (ρ : Nat → Nat) (nx : Nat) : List (Nat × Ob) → Prop
 | [] => True
 | p :: l => (p.1 < nx ∧ (match getK s.obs (ρ p.1) with | some ob => obR ρ nx ob p.2 | none => False)) ∧ wkR s ρ nx l
def zgx (s : St) (ρ : Nat → Nat) (nx : Nat) : List (Nat × D) → Prop
 | [] => True
 | p :: l => ((match getK s.env p.1 with | some d => D.le ρ d p.2 | none => False) ∧ p.2.under nx = true) ∧ zgx s ρ nx l
theorem zop {ρ nx} : ∀ {a b : List D}, leU ρ nx a b → leL ρ a b ∧ b.all (·.under nx) = true
 | [], [], _ => ⟨trivial, rfl⟩
 | a :: az, b :: bs, h => by
  obtain ⟨h1, h2⟩ := zop h.2
  exact ⟨⟨h.1.1, h1⟩, by simp [h.1.2, h2]⟩
 | [], b :: bs, h => h.elim
 | a :: az, [], h => h.elim
theorem zqQ {ρ nx ob ob'} (h : obR ρ nx ob ob') : Ob.le ρ ob ob' ∧ ob'.under nx = true := by
 cases ob <;> cases ob' <;> simp only [obR] at h
 ·obtain ⟨h1, h2⟩ := zop h
  exact ⟨Ob.zr1 h1, h2⟩
 ·obtain ⟨rfl, rfl, rfl, h⟩ := h
  rcases h with h | h
  ·have hu := zeK h
   exact ⟨Ob.zls hu, Ob.zkG hu⟩
  ·refine ⟨⟨rfl, rfl, Nat.le_refl _, fun i r r' hi hi' => ?_⟩, ?_⟩
   ·rw [hi] at hi'
    cases hi'
    refine ⟨rfl, fun j c c' hj hj' => ?_⟩
    rw [hj] at hj'
    cases hj'
    exact .inr (.inl (h r (List.mem_of_getElem? hi) c (List.mem_of_getElem? hj)).1)
   ·simp only [Ob.under, List.all_eq_true]
    exact fun r hr c hc => (h r hr c hc).2
 ·obtain ⟨rfl, rfl, rfl, us, rfl⟩ := h
  refine ⟨⟨rfl, rfl, rfl, fun i p p' hi hi' => ?_⟩, zae _ _⟩
  rw [hi] at hi'
  cases hi'
  refine ⟨rfl, fun j c c' hj hj' => ?_⟩
  rw [hj] at hj'
  cases hj'
  rw [zq2, List.getElem?_map] at hi
  cases hq : us[i]? with
  | none => rw [hq] at hi; cases hi
  | some q =>
   rw [hq] at hi
   cases hi
   simp only [List.getElem?_map] at hj
   cases hx : q.2[j]? with
   | none => rw [hx] at hj; cases hj
   | some x => rw [hx] at hj; cases hj; exact .inr (.inl (by simp [D.ren]))
 ·exact ⟨h, rfl⟩
 ·exact ⟨h, rfl⟩
theorem znz {s ρ nx} : ∀ {l : List (Nat × Ob)}, wkR s ρ nx l → ∀ x ob', getK l x = some ob' → x < nx ∧ ∃ ob, getK s.obs (ρ x) = some ob ∧ Ob.le ρ ob ob' ∧ ob'.under nx = true
 | [], _, x, d', h => by simp [getK] at h
 | (y, d) :: l, h, x, d', hx => by
  rw [zaa] at hx
  by_cases e : x = y
  ·rw [if_pos e] at hx
   cases hx
   subst e
   obtain ⟨⟨h1, h2⟩, _⟩ := h
   refine ⟨h1, ?_⟩
   split at h2
   ·rename_i ob hg
    exact ⟨ob, hg, zqQ h2⟩
   ·exact h2.elim
  ·rw [if_neg e] at hx; exact znz h.2 x d' hx
theorem ziq {s ρ nx} : ∀ {l : List (Nat × D)}, zgx s ρ nx l → ∀ x d', getK l x = some d' → (∃ d, getK s.env x = some d ∧ D.le ρ d d') ∧ d'.under nx = true
 | [], _, x, d', h => by simp [getK] at h
 | (y, d) :: l, h, x, d', hx => by
  rw [zaa] at hx
  by_cases e : x = y
  ·rw [if_pos e] at hx
   cases hx
   subst e
   obtain ⟨⟨h1, h2⟩, _⟩ := h
   refine ⟨?_, h2⟩
   split at h1
   ·rename_i d0 hg
    exact ⟨d0, hg, h1⟩
   ·exact h1.elim
  ·rw [if_neg e] at hx; exact ziq h.2 x d' hx
theorem Wk.ren {Γ : Ctx} {s s' : St} (ρ : Nat → Nat) (hn : s'.n = s.n) (hx : ∀ i, i < Γ.n0 → ρ i = i ∧ i < s'.next) (he : zgx s ρ s'.next s'.env) (ho : wkR s ρ s'.next s'.obs)
  (hi : ∀ i ∈ s'.obs.map (·.1), ∀ j ∈ s'.obs.map (·.1), ρ i = ρ j → i = j) : Wk Γ s s' := by
 intro K0 a w hin0 hs0
 refine ⟨_, Sim.weak (ρ := ρ) hin0 hs0 ⟨hn, fun x d' h => ?_, fun x d' h => ?_, fun i ob h => znz ho i ob h, fun i j ob ob' hi' hj' e => hi i (zgM hi') j (zgM hj') e, hx⟩⟩
 ·obtain ⟨⟨d, h1, h2⟩, h3⟩ := ziq he x d' h
  have : s.at x = d := by show (getK s.env x).getD .any = d; rw [h1]; rfl
  rw [this]
  exact ⟨h2, h3⟩
 ·obtain ⟨⟨d, h1, h2⟩, h3⟩ := ziq he x d' h
  exact (hs0.env x d h1).1
theorem zat (σ : D → Option U) (us : List (Key × List U)) : (zq2 us).map (fun p => (p.1, p.2.map (frzS σ))) = zq2 us := by
 simp only [zq2, List.map_map]
 apply List.map_congr_left
 intro p _
 have : (p.2.map D.u).map (frzS σ) = p.2.map D.u := by
  rw [List.map_map]
  apply List.map_congr_left
  intro x _
  simp [frzS]
 simp [Function.comp, frzS]
theorem zal (σ : D → Option U) (us : List (List U)) : (rowsD us).map (fun r => r.map (frzS σ)) = rowsD us := by
 simp only [rowsD, List.map_map]
 apply List.map_congr_left
 intro p _
 simp [Function.comp, frzS]
end Go.VL
namespace Go.VL
open Go
/-- An entry put into a map. -/
abbrev zlt := Nat × Key × List D
def zsN (o : List (Nat × Ob)) (e : zlt) : List (Nat × Ob) := match getK o e.1 with | some (.map kk ag es) => zc6 o e.1 (.map kk ag (zeJ es e.2.1 e.2.2)) | _ => o
def zr8 : List zlt → List (Nat × Ob) → List (Nat × Ob)
 | [], o => o
 | e :: L, o => zr8 L (zsN o e)
def obE (e : zlt) (x : Option Ob) : Option Ob := match x with | some (.map kk ag es) => some (.map kk ag (zeJ es e.2.1 e.2.2)) | x => x
def zsj : List zlt → Nat → Option Ob → Option Ob
 | [], _, x => x
 | e :: L, z, x => zsj L z (if z = e.1 then obE e x else x)
theorem zkg : ∀ (L : List zlt) (o : List (Nat × Ob)) (z : Nat), getK (zr8 L o) z = zsj L z (getK o z)
 | [], _, _ => rfl
 | e :: L, o, z => by
  rw [zr8, zkg L, zsj]
  congr 1
  unfold zsN obE
  by_cases hz : z = e.1
  ·subst hz
   rw [if_pos rfl]
   cases hg : getK o e.1 with
   | none => exact hg
   | some ob => cases ob <;> simp [hg, zak, zaa]
  ·rw [if_neg hz]
   cases hg : getK o e.1 with
   | none => rfl
   | some ob => cases ob <;> simp [zak, zaa, hz]
/-- This operation puts this entry into a map that was empty. -/
def InsOK (P : Program) (st : St) (op : Op) (e : zlt) : Prop :=
 ∃ t x ki v kk ag z ku, (op = .mapUpdate t x ki v ∨ op = .insert t x ki v) ∧ zeM P t = some (kk, ag, z) ∧ opd st x = .mp e.1 ∧ opd st ki = .u ku ∧ zhD ku = some e.2.1 ∧ e.2.1.kk = kk ∧ zgV ag (opd st v) = some e.2.2 ∧ getK st.obs e.1 = some (.map kk ag [])
theorem InsOK.base {P st op e} (h : InsOK P st op e) : ∃ kk ag, getK st.obs e.1 = some (.map kk ag []) := by
 obtain ⟨t, x, ki, v, kk, ag, z, ku, _, _, _, _, _, _, _, h⟩ := h
 exact ⟨kk, ag, h⟩
end Go.VL
namespace Go.VL
open Go
abbrev Ent.no : Ent := (.un, [], none, [])
def Op3 (P : Program) (s : St) (o : O1) (e : Ent) : Option zlt → Prop
 | none => zaI o.dst s ∧ Op2 P s o e
 | some q => e = Ent.no ∧ o.guard = none ∧ o.dst = none ∧ InsOK P s o.op q
def zqC (P : Program) : List O1 → St → Fp → List (Option zlt) → (St → Fp → List (Option zlt) → Prop) → Prop
 | [], s, fp, ins, k => k s fp ins
 | o :: rest, s, fp, ins, k => ∃ (e : Ent) (q : Option zlt), Op3 P s o e q ∧ (∀ x, e.2.2.1 = some x → x = s.next) ∧ zqC P rest (s.app o.dst e) (fp ++ [(e.2.2.2, zdr e.2.1)]) (ins ++ [q]) k
def St.ins (s : St) (ins : List (Option zlt)) : St := { s with obs := zr8 (ins.filterMap id) s.obs }
def HD3 (P : Program) (l : List O1) (s : St) (fp : Fp) (ins : List (Option zlt)) (C : Fp → List (Option zlt) → Prop) (k : St → Prop) : Prop :=
 ∀ s0 : St, s0.Eqo s → zqC P l s0 fp ins fun s1 fp ins => C fp ins ∧ ∃ s', (s1.ins ins).Eqo s' ∧ k s'
theorem St.Eqo.ins {s s' : St} (h : s.Eqo s') (L : List (Option zlt)) : (s.ins L).Eqo (s'.ins L) :=
 ⟨h.1, fun x => by simp only [St.ins, zkg, h.2.1 x], h.2.2.1, h.2.2.2⟩
theorem InsOK.eqo {P : Program} {s s' : St} {op : Op} {q : zlt} (e : s'.Eqo s) (h : InsOK P s op q) : InsOK P s' op q := by
 obtain ⟨t, x, ki, v, kk, ag, z, ku, h1, h2, h3, h4, h5, h6, h7, h8⟩ := h
 have ho : ∀ x, opd s' x = opd s x := fun x => by cases x <;> simp [opd, St.at, e.2.2.2]
 exact ⟨t, x, ki, v, kk, ag, z, ku, h1, h2, by rw [ho]; exact h3, by rw [ho]; exact h4, h5, h6, by rw [ho]; exact h7, by rw [e.2.1]; exact h8⟩
theorem zrN {P l s s' fp fp' ins ins' C k} (h : s = s') (h' : fp = fp') (h'' : ins = ins') : HD3 P l s fp ins C k = HD3 P l s' fp' ins' C k := by rw [h, h', h'']
attribute [congr] zrN
end Go.VL
namespace Go.VL
open Go
/-- What is left to do is shown once, for one state, and used on every way that leads there: by 'apply', so that code and end are found on the first way. -/
theorem zo3 {P : Program} {Γ : Ctx} {S : St} {R : Prop} (c : Code) (Q : Exit → St → Prop) (main : V P Γ c S Q → R) (key : V P Γ c S Q) : R := main key
end Go.VL
namespace Go.VL
open Go Go.Sort Go.Proofs
end Go.VL
namespace Go.VL
open Go
def fam (b : Nat) : List Ob → List (Nat × Ob)
 | [] => []
 | o :: l => (b, o) :: fam (b + 1) l
theorem zl6 : ∀ (b : Nat) (l : List Ob) (j : Nat), getK (fam b l) j = if b ≤ j then l[j - b]? else none
 | b, [], j => by simp [fam, getK]
 | b, o :: l, j => by
  rw [fam, zaa, zl6 (b + 1) l j]
  by_cases h : j = b
  ·subst h; simp
  ·rw [if_neg h]
   by_cases h2 : b ≤ j
   ·rw [if_pos (show b + 1 ≤ j by omega), if_pos h2, show j - b = (j - (b + 1)) + 1 by omega, List.getElem?_cons_succ]
   ·rw [if_neg (by omega), if_neg h2]
theorem zki (b : Nat) (l : List Ob) (i : Nat) : getK (fam b l) (i + b) = l[i]? := by rw [zl6, if_pos (by omega), Nat.add_sub_cancel]
theorem Wk.eqo {Γ : Ctx} {s s' : St} (h : s.Eqo s') : Wk Γ s s' := fun K _ _ h1 h2 => ⟨K, h1, h2.eqo h⟩
/-- The objects end in T; those ahead of it lie outside of its numbers. -/
def EndsIn (T : List (Nat × Ob)) (b k : Nat) : List (Nat × Ob) → Prop
 | [] => T = []
 | p :: l => (p :: l = T) ∨ ((p.1 < b ∨ k + b ≤ p.1) ∧ EndsIn T b k l)
theorem EndsIn.out {T b k} : ∀ {obs}, EndsIn T b k obs → ∃ A, obs = A ++ T ∧ ∀ p ∈ A, p.1 < b ∨ k + b ≤ p.1
 | [], h => ⟨[], by rw [show T = [] from h]; rfl, by simp⟩
 | p :: l, h => by
  rcases h with h | ⟨h1, h2⟩
  ·exact ⟨[], by rw [h]; rfl, by simp⟩
  ·obtain ⟨A, e, h3⟩ := EndsIn.out h2
   exact ⟨p :: A, by rw [e]; rfl, fun q hq => (List.mem_cons.1 hq).elim (fun e => by rw [e]; exact h1) (h3 q)⟩
theorem EndsIn.get {L : List Ob} {b obs} (h : EndsIn (fam b L) b L.length obs) {i : Nat} (hi : i < L.length) : getK obs (i + b) = L[i]? := by
 obtain ⟨A, rfl, h2⟩ := h.out
 rw [zab]
 have : getK A (i + b) = none := by
  cases hq : getK A (i + b) with
  | none => rfl
  | some o =>
   obtain ⟨p, hp, e⟩ := List.mem_map.1 (zgM hq)
   have := h2 p hp
   omega
 rw [this, zki]
def famPure (L : List Ob) : Prop := ∀ o ∈ L, ∃ e sz B, o = .vec e sz B ∧ zaS B
theorem famPure.under {L : List Ob} (h : famPure L) {o : Ob} (ho : o ∈ L) (nx : Nat) : o.under nx = true := by
 obtain ⟨e, sz, B, rfl, hB⟩ := h o ho
 exact Ob.zkG (zeK hB)
end Go.VL
namespace Go.VL
open Go
theorem zjg {P : Program} {Γ : Ctx} {s s' : St} {k : St → Prop} {dst : Option Tmp} {fop : Operand} {args : List Operand} (hw : Wk Γ s s') (h : CallP P Γ fop args dst s' k) : CallP P Γ fop args dst s k := fun ts ty pos after K a w hin hs =>
 let ⟨K', h1, h2⟩ := hw K a w hin hs
 h ts ty pos after K' a w h1 h2
end Go.VL
namespace Go.VL
open Go
/-- How a call ends: a value, or a panic. -/
inductive Out where
 | val (d : D)
 | pan (ch : List PanicEntry)
def zqG (k : Kr) (e : Ending) : Out → Prop
 | .val d => ∃ v, e = .returned v ∧ Rep k d v
 | .pan ch => e = .panicked ch
/-- What a call gives back, or how it panics. -/
def RetX (P : Program) (f : FuncId) (ds : List D) (obs : List (Nat × Ob)) (nx : Nat) (post : Out → List (Nat × Ob) → Nat → Prop) : Prop :=
 ∀ (k : Kr) (own : Nat → Prop) (w : World) (vs : Array Value), Sat k own obs w → (∀ i, nx ≤ i → k.hdr i = none) → (∀ b, w.heap.size ≤ b → own b) → RepL k ds vs →
  Calls P f vs w fun e w' => ∃ r obs' nx' k', zqG k' e r ∧ In (.of own k nx w) k' w' ∧ Sat k' own obs' w' ∧ (∀ i, nx' ≤ i → k'.hdr i = none) ∧ nx ≤ nx' ∧ post r obs' nx'
theorem Ret.x {P f ds obs nx post} (h : Ret P f ds obs nx post) : RetX P f ds obs nx fun r o n => match r with | .val d => post d o n | .pan _ => False :=
 fun k own w vs h1 h2 h3 h4 => (h k own w vs h1 h2 h3 h4).mono fun _ _ ⟨v, d, o, n, k', e, a, b, c, g, r, hp⟩ => ⟨.val d, o, n, k', ⟨v, e, r⟩, a, b, c, g, hp⟩
theorem RetX.mono {P f ds obs nx} {p q : Out → List (Nat × Ob) → Nat → Prop} (h : RetX P f ds obs nx p) (hq : ∀ r o n, p r o n → q r o n) : RetX P f ds obs nx q :=
 fun k own w vs h1 h2 h3 h4 => (h k own w vs h1 h2 h3 h4).mono fun _ _ ⟨r, o, n, k', e, a, b, c, g, hp⟩ => ⟨r, o, n, k', e, a, b, c, g, hq _ _ _ hp⟩
theorem RetX.ret {P f ds obs nx} {p : Out → List (Nat × Ob) → Nat → Prop} {q : D → List (Nat × Ob) → Nat → Prop} (h : RetX P f ds obs nx p) (hv : ∀ d o n, p (.val d) o n → q d o n) (hx : ∀ ch o n, ¬ p (.pan ch) o n) : Ret P f ds obs nx q :=
 fun k own w vs h1 h2 h3 h4 => (h k own w vs h1 h2 h3 h4).mono fun _ _ ⟨r, o, n, k', e, a, b, c, g, hp⟩ => by
  cases r with
  | val d =>
   obtain ⟨v, e, hr⟩ := e
   exact ⟨v, d, o, n, k', e, a, b, c, g, hr, hv d o n hp⟩
  | pan ch => exact absurd hp (hx ch o n)
theorem RetX.congr {P f ds obs obs' nx post} (h : RetX P f ds obs nx post) (e : ∀ i, getK obs' i = getK obs i) : RetX P f ds obs' nx post :=
 fun k own w vs hsat hhdr hfresh hrep => h k own w vs (Sat.congr hsat fun i => (e i).symm) hhdr hfresh hrep
/-- What a call does not know of stays az it is: the memory behind it. -/
theorem zkk {k k' : Kr} {own : Nat → Prop} {obs F o1 : List (Nat × Ob)} {nx : Nat} {w w' : World} (hsat : Sat k own (F ++ obs) w)
  (hin : In (.of (fun b => own b ∧ ¬ Blk k F b) k nx w) k' w') (hs1 : Sat k' (fun b => own b ∧ ¬ Blk k F b) o1 w') : Sat k' own (F ++ o1) w' := by
 have hfo : ∀ i ob, getK F i = some ob → getK (F ++ obs) i = some ob := fun i ob hi => by rw [zab, hi]
 have hFat : ∀ i ob, getK F i = some ob → ∃ g, k.hdr i = some g ∧ k'.hdr i = some g ∧ (∀ b, g.1 = some b → own b ∧ (∀ o, k'.mem b o = none) ∧ Blk k F b) ∧ ObAt k' w' g ob := fun i ob hi => by
  obtain ⟨g, h1, h2, h3⟩ := hsat.ob i ob (hfo i ob hi)
  have hB : ∀ b, g.1 = some b → Blk k F b := fun b hb => ⟨i, ob, g, hi, h1, hb⟩
  refine ⟨g, h1, hin.le.hdr i g h1, fun b hb => ⟨(h2 b hb).1, fun o => ?_, hB b hb⟩, h3.keep hin.le fun b hb => hin.block b fun hb' => hb'.2 (hB b hb)⟩
  cases hm : k'.mem b o with
  | none => rfl
  | some x =>
   rcases hin.memNew b o x hm with h4 | h4
   ·have h4' : k.mem b o = some x := h4
    rw [(h2 b hb).2 o] at h4'; cases h4'
   ·exact absurd (hB b hb) h4.2
 refine ⟨hs1.mem, fun i ob hi => ?_, fun i j x y g g' b hx hy hij hg hg' hb => ?_⟩
 ·rw [zab] at hi
  cases hf : getK F i with
  | some x =>
   rw [hf] at hi
   cases hi
   obtain ⟨g, _, h2, h3, h4⟩ := hFat i _ hf
   exact ⟨g, h2, fun b hb => ⟨(h3 b hb).1, (h3 b hb).2.1⟩, h4⟩
  | none =>
   rw [hf] at hi
   obtain ⟨g, h1, h2, h3⟩ := hs1.ob i ob hi
   exact ⟨g, h1, fun b hb => ⟨(h2 b hb).1.1, (h2 b hb).2⟩, h3⟩
 ·rw [zab] at hx hy
  cases hfx : getK F i with
  | some x' =>
   obtain ⟨g1, k1, k2, k3, _⟩ := hFat i _ hfx
   rw [hg] at k2
   cases k2
   cases hfy : getK F j with
   | some y' =>
    obtain ⟨g2, l1, l2, l3, _⟩ := hFat j _ hfy
    rw [hg'] at l2
    cases l2
    exact hsat.apart i j x' y' g g' b (hfo i _ hfx) (hfo j _ hfy) hij k1 l1 hb
   | none =>
    rw [hfy] at hy
    obtain ⟨g2, l1, l2, _⟩ := hs1.ob j y hy
    rw [hg'] at l1
    cases l1
    exact fun e => (l2 b e).1.2 (k3 b hb).2.2
  | none =>
   rw [hfx] at hx
   cases hfy : getK F j with
   | some y' =>
    obtain ⟨g2, l1, l2, l3, _⟩ := hFat j _ hfy
    rw [hg'] at l2
    cases l2
    obtain ⟨g1, k1, k2, _⟩ := hs1.ob i x hx
    rw [hg] at k1
    cases k1
    exact fun e => (k2 b hb).1.2 (l3 b e).2.2
   | none =>
    rw [hfy] at hy
    exact hs1.apart i j x y g g' b hx hy hij hg hg' hb
theorem zif {k : Kr} {own : Nat → Prop} {obs F : List (Nat × Ob)} {w : World} (hF : ∀ i ob, getK F i = some ob → getK obs i = none) (hsat : Sat k own (F ++ obs) w) : Sat k (fun b => own b ∧ ¬ Blk k F b) obs w := by
 have hob : ∀ i ob, getK obs i = some ob → getK F i = none ∧ getK (F ++ obs) i = some ob := fun i ob hi => by
  have hn : getK F i = none := by
   cases hf : getK F i with
   | none => rfl
   | some x => rw [hF i x hf] at hi; cases hi
  exact ⟨hn, by rw [zab, hn]; exact hi⟩
 have hfo : ∀ i ob, getK F i = some ob → getK (F ++ obs) i = some ob := fun i ob hi => by rw [zab, hi]
 refine ⟨hsat.mem, fun i ob hi => ?_, fun i j x y g g' b hx hy hij => ?_⟩
 ·obtain ⟨hn, hi'⟩ := hob i ob hi
  obtain ⟨g, h1, h2, h3⟩ := hsat.ob i ob hi'
  refine ⟨g, h1, fun b hb => ⟨⟨(h2 b hb).1, ?_⟩, (h2 b hb).2⟩, h3⟩
  rintro ⟨j, oj, g', h4, h5, h6⟩
  exact hsat.apart i j ob oj g g' b hi' (hfo j oj h4) (fun e => by subst e; rw [hn] at h4; cases h4) h1 h5 hb h6
 ·exact hsat.apart i j x y g g' b (hob i x hx).2 (hob j y hy).2 hij
theorem zhn {k : Kr} {own : Nat → Prop} {obs F : List (Nat × Ob)} {w : World} (hsat : Sat k own (F ++ obs) w) (hfresh : ∀ b, w.heap.size ≤ b → own b) : ∀ b, w.heap.size ≤ b → own b ∧ ¬ Blk k F b := fun b hb => by
 refine ⟨hfresh b hb, fun hB => ?_⟩
 obtain ⟨i, ob, g, h1, h2, h3⟩ := hB
 exact absurd (hsat.lt ⟨i, ob, g, by rw [zab, h1], h2, h3⟩) (by omega)
theorem zl8 {k k' : Kr} {own : Nat → Prop} {F : List (Nat × Ob)} {nx : Nat} {w w' : World} (hfresh : ∀ b, w.heap.size ≤ b → own b) (hin : In (.of (fun b => own b ∧ ¬ Blk k F b) k nx w) k' w') : In (.of own k nx w) k' w' :=
 ⟨hin.le, hin.none0, fun b o x hx => (hin.memNew b o x hx).imp id (·.1), hfresh, hin.os, hin.tape, hin.output, hin.size, fun b hb => hin.block b fun hb' => hb hb'.1⟩
theorem RetX.frame {P f ds obs nx post} (F : List (Nat × Ob)) (hF : ∀ i ob, getK F i = some ob → getK obs i = none) (h : RetX P f ds obs nx post) :
  RetX P f ds (F ++ obs) nx (fun r o n => ∃ o1, o = F ++ o1 ∧ post r o1 n) := by
 intro k own w vs hsat hhdr hfresh hrep
 refine (h k _ w vs (zif hF hsat) hhdr (zhn hsat hfresh) hrep).mono ?_
 rintro e w' ⟨r, o1, n', k', he, hin, hs1, hh1, hle, hp⟩
 exact ⟨r, F ++ o1, n', k', he, zl8 hfresh hin, zkk hsat hin hs1, hh1, hle, o1, rfl, hp⟩
/-- A call that may panic, by what it does to the objects. -/
theorem EffP.zsJ {P Γ s k} {fop : Operand} {args : Array Operand} {ts : Array TypeId} {ty : TypeId} {f caps dst pos after} {ds : List D} {post : Out → List (Nat × Ob) → Nat → Prop}
  (hf : zaw (opd s fop) = some (f, caps)) (hc : zam P f = true) (hds : args.toList.map (opd s) ++ caps = ds) (hret : RetX P f ds s.obs s.next post) (hp : zaI dst s)
  (hk : ∀ d obs' nx', s.next ≤ nx' → post (.val d) obs' nx' → k (({ s with obs := obs', next := nx' } : St).put dst d))
  (hx : ∀ ch obs' nx', s.next ≤ nx' → post (.pan ch) obs' nx' → ∃ s2, Wk Γ { s with obs := obs', next := nx' } s2 ∧ Γ.pan ch s2) :
  EffP P Γ { dst, op := .call { callee := .value fop, args, argTypes := ts }, type := ty, pos, after, guard := none } s k := by
 intro K a w hin hs Kont Q hK hP
 obtain ⟨vs, hrep, hrun⟩ := zmk hs (args := args) (ts := ts) (ty := ty) hf hc dst pos after none
 rw [hds] at hrep
 unfold Oper.wp
 rw [hrun]
 refine Calls.mono (hret K Γ.own w vs hs.sat hs.hdr (fun b hb => hin.own_of_ge hb) hrep) ?_
 rintro e w' ⟨r, obs', nx', k', hr, hin', hsat', hhdr', hnx, hpost⟩
 have hle : K.le k' := hin'.le
 have hin2 : In Γ k' w' := hin.step hle (fun b o v e => hin'.memNew b o v e) hin'.os hin'.tape hin'.output hin'.size hin'.block
 have hsim : Sim k' Γ.own ({ s with obs := obs', next := nx' } : St) a w' := ⟨hsat', hs.defers, hs.size, fun x d hx => ⟨(hs.env x d hx).1, (hs.env x d hx).2.mono hle⟩, hhdr'⟩
 cases r with
 | val d =>
  obtain ⟨v, rfl, hr⟩ := hr
  exact hK k' _ w' _ hin2 (hsim.put (by cases dst <;> simp_all [zaI]) hr) (hk d obs' nx' hnx hpost)
 | pan ch =>
  obtain rfl := hr
  obtain ⟨s2, hw, hpn⟩ := hx ch obs' nx' hnx hpost
  obtain ⟨k2, g1, g2⟩ := hw k' a w' hin2 hsim
  exact hP ch k2 a w' s2 g1 g2 hpn
theorem CallP.x_ {P : Program} {Γ : Ctx} {s : St} {k : St → Prop} {dst : Option Tmp} {fop : Operand} {args : List Operand} {f caps} {ds : List D} {post : Out → List (Nat × Ob) → Nat → Prop} (hret : RetX P f ds s.obs s.next post)
  (hf : zaw (opd s fop) = some (f, caps)) (hc : zam P f = true) (hds : args.map (opd s) ++ caps = ds) (hp : zaI dst s)
  (hk : ∀ d obs' nx', s.next ≤ nx' → post (.val d) obs' nx' → k (({ s with obs := obs', next := nx' } : St).put dst d))
  (hx : ∀ ch obs' nx', s.next ≤ nx' → post (.pan ch) obs' nx' → ∃ s2, Wk Γ { s with obs := obs', next := nx' } s2 ∧ Γ.pan ch s2) : CallP P Γ fop args dst s k :=
 fun _ _ _ _ => EffP.zsJ hf hc hds hret hp hk hx
theorem CallP.xF {P : Program} {Γ : Ctx} {s : St} {k : St → Prop} {dst : Option Tmp} {fop : Operand} {args : List Operand} {f caps} {ds : List D} {post : Out → List (Nat × Ob) → Nat → Prop} (F obs : List (Nat × Ob)) (hret : RetX P f ds obs s.next post)
  (heq : ∀ i, getK s.obs i = getK (F ++ obs) i) (hF : ∀ i ob, getK F i = some ob → getK obs i = none)
  (hf : zaw (opd s fop) = some (f, caps)) (hc : zam P f = true) (hds : args.map (opd s) ++ caps = ds) (hp : zaI dst s)
  (hk : ∀ d o1 nx', s.next ≤ nx' → post (.val d) o1 nx' → k (({ s with obs := F ++ o1, next := nx' } : St).put dst d))
  (hx : ∀ ch o1 nx', s.next ≤ nx' → post (.pan ch) o1 nx' → ∃ s2, Wk Γ { s with obs := F ++ o1, next := nx' } s2 ∧ Γ.pan ch s2) : CallP P Γ fop args dst s k :=
 CallP.x_ ((hret.frame F hF).congr heq) hf hc hds hp (fun d o n hn ⟨o1, ho, hpo⟩ => by subst ho; exact hk d o1 n hn hpo) (fun ch o n hn ⟨o1, ho, hpo⟩ => by subst ho; exact hx ch o1 n hn hpo)
theorem CallP.x0 {P : Program} {Γ : Ctx} {s : St} {k : St → Prop} {dst : Option Tmp} {fop : Operand} {args : List Operand} {f caps} {ds : List D} {post : Out → List (Nat × Ob) → Nat → Prop} (hret : RetX P f ds [] s.next post)
  (hf : zaw (opd s fop) = some (f, caps)) (hc : zam P f = true) (hds : args.map (opd s) ++ caps = ds) (hp : zaI dst s)
  (hk : ∀ d o1 nx', s.next ≤ nx' → post (.val d) o1 nx' → k (({ s with obs := s.obs ++ o1, next := nx' } : St).put dst d))
  (hx : ∀ ch o1 nx', s.next ≤ nx' → post (.pan ch) o1 nx' → ∃ s2, Wk Γ { s with obs := s.obs ++ o1, next := nx' } s2 ∧ Γ.pan ch s2) : CallP P Γ fop args dst s k :=
 CallP.xF s.obs [] hret (fun i => by simp) (fun i ob _ => rfl) hf hc hds hp hk hx
theorem CallP.x1 {P : Program} {Γ : Ctx} {s : St} {k : St → Prop} {dst : Option Tmp} {fop : Operand} {args : List Operand} {f caps} {ds : List D} {post : Out → List (Nat × Ob) → Nat → Prop} {j : Nat} {ob : Ob} (hret : RetX P f ds [(j, ob)] s.next post)
  (hj : getK s.obs j = some ob) (hf : zaw (opd s fop) = some (f, caps)) (hc : zam P f = true) (hds : args.map (opd s) ++ caps = ds) (hp : zaI dst s)
  (hk : ∀ d o1 nx', s.next ≤ nx' → post (.val d) o1 nx' → k (({ s with obs := del s.obs j ++ o1, next := nx' } : St).put dst d))
  (hx : ∀ ch o1 nx', s.next ≤ nx' → post (.pan ch) o1 nx' → ∃ s2, Wk Γ { s with obs := del s.obs j ++ o1, next := nx' } s2 ∧ Γ.pan ch s2) : CallP P Γ fop args dst s k :=
 CallP.xF (del s.obs j) [(j, ob)] hret (fun i => by
  rw [zab, zac]
  by_cases h : i = j
  ·subst h; simp [hj, getK]
  ·simp only [if_neg h, getK]
   cases getK s.obs i <;> rfl) (fun i o hi => by
  rw [zac] at hi
  by_cases h : i = j
  ·rw [if_pos h] at hi; cases hi
  ·simp [getK, h]) hf hc hds hp hk hx
/-- A call that is handed one object, and goes through, or panics. -/
theorem CallP.ok1 {P : Program} {Γ : Ctx} {s : St} {k : St → Prop} {dst : Option Tmp} {fop : Operand} {args : List Operand} {f caps} {ds : List D} {j : Nat} {ob ob' : Ob} {d : D}
  (hret : RetX P f ds [(j, ob)] s.next fun r o n => r = .val d ∧ o = [(j, ob')] ∧ n = s.next)
  (hj : getK s.obs j = some ob) (hf : zaw (opd s fop) = some (f, caps)) (hds : args.map (opd s) ++ caps = ds)
  (hk : zam P f = true ∧ zaI dst s ∧ k (({ s with obs := del s.obs j ++ [(j, ob')], next := s.next } : St).put dst d)) : CallP P Γ fop args dst s k :=
 CallP.x1 hret hj hf hk.1 hds hk.2.1 (fun d' o1 nx' _ ⟨h1, h2, h3⟩ => by cases h1; subst h2; subst h3; exact hk.2.2) (fun ch o1 nx' _ ⟨h1, _⟩ => by cases h1)
theorem CallP.zem {P : Program} {Γ : Ctx} {s : St} {k : St → Prop} {dst : Option Tmp} {fop : Operand} {args : List Operand} {f caps} {ds : List D} {j : Nat} {ob : Ob} {ch : List PanicEntry} {p : Ob → Prop}
  (hret : RetX P f ds [(j, ob)] s.next fun r o n => r = .pan ch ∧ (∃ ob', p ob' ∧ o = [(j, ob')]) ∧ n = s.next)
  (hj : getK s.obs j = some ob) (hf : zaw (opd s fop) = some (f, caps)) (hc : zam P f = true) (hds : args.map (opd s) ++ caps = ds) (hp : zaI dst s)
  (hx : ∀ ob', p ob' → ∃ s2, Wk Γ { s with obs := del s.obs j ++ [(j, ob')], next := s.next } s2 ∧ Γ.pan ch s2) : CallP P Γ fop args dst s k :=
 CallP.x1 hret hj hf hc hds hp (fun d' o1 nx' _ ⟨h1, _⟩ => by cases h1) (fun ch' o1 nx' _ ⟨h1, ⟨ob', h2, h3⟩, h4⟩ => by cases h1; subst h3; subst h4; exact hx ob' h2)
/-- The same, and a second object that is gone behind it. -/
theorem CallP.x2 {P : Program} {Γ : Ctx} {s : St} {k : St → Prop} {dst : Option Tmp} {fop : Operand} {args : List Operand} {f caps} {ds : List D} {post : Out → List (Nat × Ob) → Nat → Prop} {j q : Nat} {ob oq : Ob} (hret : RetX P f ds [(j, ob), (q, oq)] s.next post)
  (hj : getK s.obs j = some ob) (hq : getK s.obs q = some oq) (hne : j ≠ q) (hf : zaw (opd s fop) = some (f, caps)) (hc : zam P f = true) (hds : args.map (opd s) ++ caps = ds) (hp : zaI dst s)
  (hk : ∀ d o1 nx', s.next ≤ nx' → post (.val d) o1 nx' → k (({ s with obs := del (del s.obs j) q ++ o1, next := nx' } : St).put dst d))
  (hx : ∀ ch o1 nx', s.next ≤ nx' → post (.pan ch) o1 nx' → ∃ s2, Wk Γ { s with obs := del (del s.obs j) q ++ o1, next := nx' } s2 ∧ Γ.pan ch s2) : CallP P Γ fop args dst s k :=
 CallP.xF (del (del s.obs j) q) [(j, ob), (q, oq)] hret (fun i => by
  rw [zab, zac, zac]
  by_cases h : i = q
  ·subst h; rw [if_pos rfl]; simp [getK, Ne.symm hne, hq]
  ·rw [if_neg h]
   by_cases h2 : i = j
   ·subst h2; simp [hj, getK]
   ·simp only [if_neg h2, getK, if_neg h]
    cases getK s.obs i <;> rfl) (fun i o hi => by
  rw [zac, zac] at hi
  by_cases h : i = q
  ·rw [if_pos h] at hi; cases hi
  ·rw [if_neg h] at hi
   by_cases h2 : i = j
   ·rw [if_pos h2] at hi; cases hi
   ·simp [getK, h, h2]) hf hc hds hp hk hx
/-- The same call, nothing put off. -/
def Ctx.base (Γ : Ctx) : Ctx := .of Γ.own.own Γ.k0 Γ.n0 Γ.w0
/-- A panic, up to what the state may be told az. -/
def zrX (Γ : Ctx) (post : Out → List (Nat × Ob) → Nat → Prop) (ch : List PanicEntry) (s : St) : Prop := ∃ s', Wk Γ s s' ∧ Γ.n0 ≤ s'.next ∧ post (.pan ch) s'.obs s'.next
/-- What a call leaves behind. -/
def RX (Γ : Ctx) (post : Out → List (Nat × Ob) → Nat → Prop) (e : Ending) (w' : World) : Prop :=
 ∃ r obs' nx' k', zqG k' e r ∧ In Γ k' w' ∧ Sat k' Γ.own obs' w' ∧ (∀ i, nx' ≤ i → k'.hdr i = none) ∧ Γ.n0 ≤ nx' ∧ post r obs' nx'
theorem zeS {P Γ fn e s K a w} {post : Out → List (Nat × Ob) → Nat → Prop} (hend : EndW P Γ fn Γ.n0 (fun d o n => post (.val d) o n) e s) (hin : In Γ K w) (hs : Sim K Γ.own s a w) :
  ∃ v, (results fn a.tmps).run P w = .ok v w ∧ RX Γ post (.returned v) w := by
 obtain ⟨s', hw, _, hres⟩ := hend
 obtain ⟨K', hin, hs⟩ := hw K a w hin hs
 obtain ⟨rs, rv, hfin, hrun, hlen, hr⟩ := zgH hs _ _ hres
 have hres' : (results fn a.tmps).run P w = .ok (if h : rv.toArray.size = 1 then rv.toArray[0] else .tuple rv.toArray) w := by
  unfold results
  rw [Array.mapM_eq_mapM_toList]
  have e : (fn.results.toList.mapM fun (x : ResultVar) => match x with | .tmp t => (pure (a.tmps.getD t undef) : Sem Value) | .cell x t => do loadVar t (← asAddr (a.tmps.getD x undef))).run P w = .ok rv w := hrun
  simp only [Sem.run_bind, Sem.run_map, Result.andThen_ok]
  erw [e]
  simp
 have hrepv : Rep K' (zag rs) (if h : rv.toArray.size = 1 then rv.toArray[0] else .tuple rv.toArray) := by
  match rs, rv, hlen, hr with
  | [], [], _, hr => exact .tup [] [] rfl (by simp)
  | [d], [v], _, hr => simpa [zag] using hr 0 d rfl
  | d :: d1 :: ds, v :: v1 :: vs, hlen, hr =>
   simp only [zag]
   rw [dif_neg (by simp)]
   exact .tup _ _ hlen hr
 refine ⟨_, hres', ?_⟩
 rcases hfin with ⟨s2, ρ, d', hle, hd, hu, hnx, hpost⟩ | ⟨hnx, hpost⟩
 ·obtain ⟨h1, h2⟩ := Sim.weak hin hs hle
  exact ⟨.val d', s2.obs, s2.next, _, ⟨_, rfl, hrepv.weak hd hu⟩, h1, h2.sat, h2.hdr, hnx, hpost⟩
 ·exact ⟨.val _, s'.obs, s'.next, K', ⟨_, rfl, hrepv⟩, hin, hs.sat, hs.hdr, hnx, hpost⟩
theorem RX.conv {Γ Γ' : Ctx} {post e w'} (h : RX Γ post e w') (h1 : Γ'.own.own = Γ.own.own) (h2 : Γ'.k0 = Γ.k0) (h3 : Γ'.n0 = Γ.n0) (h4 : Γ'.w0 = Γ.w0) : RX Γ' post e w' := by
 obtain ⟨r, o, n, k', a, b, c, d, e, f⟩ := h
 exact ⟨r, o, n, k', a, b.conv h1 h2 h3 h4, by rw [h1]; exact c, d, by rw [h3]; exact e, f⟩
theorem Wk.conv {Γ Γ' : Ctx} {s s'} (h : Wk Γ s s') (h1 : Γ'.own = Γ.own) (h2 : Γ'.k0 = Γ.k0) (h3 : Γ'.n0 = Γ.n0) (h4 : Γ'.w0 = Γ.w0) : Wk Γ' s s' := fun K a w hin hs => by
 obtain ⟨K', g1, g2⟩ := h K a w (hin.conv (by rw [h1]) h2.symm h3.symm h4.symm) (by rw [← h1]; exact hs)
 exact ⟨K', g1.conv (by rw [h1]) h2 h3 h4, by rw [h1]; exact g2⟩
/-- A function's body, with all the ways in which it may end. -/
theorem RetX.zdC {P f fn c ds obs nx post} (hf : P.funcs[f]? = some fn) (hb : fn.body = some c) (hn : ds.length ≤ fn.ntmps)
  (h : ∀ Γ : Ctx, Γ.n0 = nx → Γ.own.dfr = [] → (∀ ch s, zrX Γ post ch s → Γ.pan ch s) → (∀ e a w', bodyPostD P fn (RX Γ.base post) e a w' → Γ.esc e a w') → V P Γ c (entry ds fn.ntmps obs nx) (zap P Γ (EndW P Γ fn nx fun d o n => post (.val d) o n) .done)) : RetX P f ds obs nx post := by
 intro k own w vs hsat hhdr hfresh hrep
 have hsz : vs.size = ds.length := hrep.1
 let Γ0 : Ctx := .of own k nx w
 let Γ : Ctx := ⟨⟨own, []⟩, k, nx, w, zrX Γ0 post, bodyPostD P fn (RX Γ0 post)⟩
 have hpan : ∀ ch s, zrX Γ post ch s → Γ.pan ch s := fun ch s ⟨s', h1, h2, h3⟩ => ⟨s', h1.conv rfl rfl rfl rfl, h2, h3⟩
 have hR : ∀ e w', RX Γ post e w' → RX Γ0 post e w' := fun e w' h => h.conv rfl rfl rfl rfl
 have hesc : ∀ e a w', bodyPostD P fn (RX Γ.base post) e a w' → Γ.esc e a w' := fun e a w' h => h
 refine calls_of_wp_defers (R := RX Γ0 post) hf hb (wp_mono (h Γ rfl rfl hpan hesc k _ w ⟨.refl _, hhdr, fun b o v e => .inl e, hfresh, rfl, rfl, rfl, Nat.le_refl _, fun _ _ => rfl⟩
  ⟨hsat, rfl, ?_, fun x d hx => ?_, hhdr⟩) ?_)
 ·simp [entry, hsz]; omega
 ·simp only [entry, zfm, Nat.zero_le, if_true, Nat.sub_zero] at hx
  have hlt := (lGE.1 hx).1
  refine ⟨by simp [entry]; omega, ?_⟩
  have := hrep.2 x d hx
  have e : (vs ++ Array.replicate (fn.ntmps - vs.size) undef).getD x undef = vs.getD x undef := by
   simp [Array.getElem?_append, show x < vs.size by omega]
  rw [e]
  exact this
 ·rintro e a' w' (⟨K', s', hin, hs, hend⟩ | hx)
  ·have hd : a'.defers = [] := hs.defers
   cases e with
   | panic ch =>
    obtain ⟨s2, hw, hn2, hp⟩ := (hend : zrX Γ0 post ch s')
    obtain ⟨K2, h1, h2⟩ := hw K' a' w' (hin.conv rfl rfl rfl rfl) hs
    show Leaves P fn a'.tmps (RX Γ0 post) a'.defers (.panicking ch) w'
    rw [hd]
    exact ⟨.pan ch, s2.obs, s2.next, K2, rfl, h1, h2.sat, h2.hdr, hn2, hp⟩
   | normal =>
    obtain ⟨v, h1, h2⟩ := zeS (Γ := Γ) (post := post) hend hin hs
    show Leaves P fn a'.tmps (RX Γ0 post) a'.defers .returning w'
    rw [hd]
    exact ⟨v, h1, hR _ _ h2⟩
   | ret =>
    obtain ⟨v, h1, h2⟩ := zeS (Γ := Γ) (post := post) hend hin hs
    show Leaves P fn a'.tmps (RX Γ0 post) a'.defers .returning w'
    rw [hd]
    exact ⟨v, h1, hR _ _ h2⟩
   | exit i => obtain ⟨_, _, h1, _⟩ := hend; rcases h1 with h1 | h1 <;> cases h1
   | goto i => obtain ⟨_, _, h1, _⟩ := hend; rcases h1 with h1 | h1 <;> cases h1
   | outgrown => obtain ⟨_, _, h1, _⟩ := hend; rcases h1 with h1 | h1 <;> cases h1
  ·exact hx.2
theorem RetX.of_bodyW {P f fn c ds obs nx post} (hf : P.funcs[f]? = some fn) (hb : fn.body = some c) (hn : ds.length ≤ fn.ntmps)
  (h : ∀ Γ : Ctx, Γ.n0 = nx → (∀ ch s, zrX Γ post ch s → Γ.pan ch s) → V P Γ c (entry ds fn.ntmps obs nx) (zap P Γ (EndW P Γ fn nx fun d o n => post (.val d) o n) .done)) : RetX P f ds obs nx post :=
 RetX.zdC hf hb hn fun Γ h1 _ h2 _ => h Γ h1 h2
end Go.VL
namespace Go.VL
open Go
/-- Code at which a walk stops. -/
@[irreducible] def zsc (c : Code) : Code := c
theorem zoC (c : Code) : zsc c = c := by unfold zsc; rfl
theorem zdF {id : Nat} {o1 : Oper} {dst : Option Tmp} {cl : Call} {type : TypeId} {pos : String} {after : Array Edge} {guard : Option (Nat × Bool)} {rest : Code} :
  Code.seq (.region id #[o1, { dst, op := .defer cl, type, pos, after, guard }] false) rest = zsc (.seq (.region id #[o1, { dst, op := .defer cl, type, pos, after, guard }] false) rest) := (zoC _).symm
/-- What a deferred function does to the objects, and to the frame below. -/
def RetDf (P : Program) (g : FuncId) (caps : List D) (obs : List (Nat × Ob)) (nx : Nat) (u : FrameMode) (post : FrameMode → List (Nat × Ob) → Nat → Prop) : Prop :=
 ∀ (k : Kr) (own : Nat → Prop) (w : World) (vs : Array Value), Sat k own obs w → (∀ i, nx ≤ i → k.hdr i = none) → (∀ b, w.heap.size ≤ b → own b) → RepL k caps vs →
  CallsD P g vs u w fun e u' w' => ∃ v obs' nx' k', e = .returned v ∧ In (.of own k nx w) k' w' ∧ Sat k' own obs' w' ∧ (∀ i, nx' ≤ i → k'.hdr i = none) ∧ nx ≤ nx' ∧ post u' obs' nx'
theorem RetDf.mono {P g caps obs nx u} {p q : FrameMode → List (Nat × Ob) → Nat → Prop} (h : RetDf P g caps obs nx u p) (hq : ∀ u o n, p u o n → q u o n) : RetDf P g caps obs nx u q :=
 fun k own w vs h1 h2 h3 h4 => (h k own w vs h1 h2 h3 h4).mono fun _ _ _ ⟨v, o, n, k', e, a, b, c, d, hp⟩ => ⟨v, o, n, k', e, a, b, c, d, hq _ _ _ hp⟩
theorem RetDf.congr {P g caps obs obs' nx u post} (h : RetDf P g caps obs nx u post) (e : ∀ i, getK obs' i = getK obs i) : RetDf P g caps obs' nx u post :=
 fun k own w vs hsat hhdr hfresh hrep => h k own w vs (Sat.congr hsat fun i => (e i).symm) hhdr hfresh hrep
theorem RetDf.frame {P g caps obs nx u post} (F : List (Nat × Ob)) (hF : ∀ i ob, getK F i = some ob → getK obs i = none) (h : RetDf P g caps obs nx u post) :
  RetDf P g caps (F ++ obs) nx u (fun u o n => ∃ o1, o = F ++ o1 ∧ post u o1 n) := by
 intro k own w vs hsat hhdr hfresh hrep
 refine (h k _ w vs (zif hF hsat) hhdr (zhn hsat hfresh) hrep).mono ?_
 rintro e u' w' ⟨v, o1, n', k', he, hin, hs1, hh1, hle, hp⟩
 exact ⟨v, F ++ o1, n', k', he, zl8 hfresh hin, zkk hsat hin hs1, hh1, hle, o1, rfl, hp⟩
/-- Where a function leaves that has put off g: the deferred call makes its end good. -/
def LeaveD (P : Program) (Γb : Ctx) (fn : Func) (post : Out → List (Nat × Ob) → Nat → Prop) (g : FuncId) (caps : List D) (u : FrameMode) (s : St) : Prop :=
 RetDf P g caps s.obs s.next u fun u' o n => settle u' = .returning ∧ EndW P Γb fn Γb.n0 (fun d o n => post (.val d) o n) .ret { s with obs := o, next := n }
def zt4 (P : Program) (Γb : Ctx) (fn : Func) (post : Out → List (Nat × Ob) → Nat → Prop) (g : FuncId) (caps : List D) (e : Exit) (s : St) : Prop := e = .ret ∧ LeaveD P Γb fn post g caps .returning s
theorem zm3 {P Γ Γ' fn post g caps u s K K1 a w w1} (hmode : u ≠ .run) (h : LeaveD P Γ.base fn post g caps u s) (hin1 : In Γ K1 w1) (hin : In Γ' K w) (hs : Sim K Γ'.own s a w) (ho : Γ'.own.own = Γ.own.own) (hk : Γ'.k0 = K1) (hn : ∀ i, Γ'.n0 ≤ i → K1.hdr i = none) (hw : Γ'.w0 = w1)
  (hc : zam P g = true) (vs : Array Value) (hrep : RepL K1 caps vs) :
  Leaves P fn a.tmps (RX Γ.base post) [{ target := .fn (.func g) vs, args := #[] }] u w := by
 have hle1 : K1.le K := by rw [← hk]; exact hin.le
 have hin0 : In Γ K w := hin1.step hle1 (fun b o v e => by have := hin.memNew b o v e; rw [hk, ho] at this; exact this) (by rw [hin.os, hw]) (by rw [hin.tape, hw]) (by rw [hin.output, hw]) (by have := hin.size; rw [hw] at this; exact this)
  (fun b hb => by have := hin.block b (by rw [ho]; exact hb); rw [hw] at this; exact this)
 refine leaves_cons (f := g) (args := vs) hmode ?_ ?_
 ·unfold zam at hc
  split at hc
  ·rename_i fn' hfn
   simp at hc
   obtain ⟨hb, hname⟩ := hc
   have hb' : fn'.body.isNone = false := by cases hbb : fn'.body <;> simp_all
   simp [invoke, callFunc, hfn, hb', hname]
   intro h0
   rw [h0] at hb
   simp at hb
  ·cases hc
 ·refine (h K Γ'.own.own w vs hs.sat hs.hdr (fun b hb => by rw [ho]; exact hin0.own_of_ge hb) ⟨hrep.1, fun j d hj => (hrep.2 j d hj).mono hle1⟩).mono ?_
  rintro e u' w' ⟨v, o, n, k', rfl, hin2, hsat, hhdr, hnx, hset, hend⟩
  rw [ho] at hin2 hsat
  have hin3 : In Γ k' w' := hin0.step hin2.le (fun b o v e => hin2.memNew b o v e) hin2.os hin2.tape hin2.output hin2.size hin2.block
  have hsim : Sim k' Γ.base.own ({ s with obs := o, next := n } : St) { a with defers := [] } w' := ⟨hsat, rfl, hs.size, fun x d hx => ⟨(hs.env x d hx).1, (hs.env x d hx).2.mono hin2.le⟩, hhdr⟩
  obtain ⟨v', h1, h2⟩ := zeS (Γ := Γ.base) (post := post) hend (hin3.conv rfl rfl rfl rfl) hsim
  show Leaves P fn a.tmps (RX Γ.base post) [] (settle u') w'
  rw [hset]
  exact ⟨v', h1, h2⟩
/-- A function value is made and put off: what follows is walked in a context of its own. -/
theorem zgo {P Γ fn post s Q kt id g t type pos after type2 pos2 after2 rest} {ts : Array TypeId} {caps : List Operand}
  (hesc : ∀ e a w', bodyPostD P fn (RX Γ.base post) e a w' → Γ.esc e a w') (hd : Γ.own.dfr = []) (hc : zam P g = true) (ht : t < s.n)
  (h : ∀ Γ' : Ctx, Γ'.n0 = s.next → (∀ ch s2, LeaveD P Γ.base fn post g (caps.map (opd s)) (.panicking ch) s2 → Γ'.pan ch s2) →
    V P Γ' rest (s.put (some t) (.fnc (.func g) (caps.map (opd s)))) (zap P Γ' (zt4 P Γ.base fn post g (caps.map (opd s))) .done)) :
  V P Γ (zsc (.seq (.region id #[{ dst := some t, op := .makeFunc (.func g) #[] caps.toArray, type := type, pos := pos, after := after, guard := none },
   { dst := none, op := .defer { callee := .value (.tmp t), args := #[], argTypes := ts }, type := type2, pos := pos2, after := after2, guard := none }] false) rest)) s (zap P Γ Q kt) := by
 rw [zoC]
 intro K a w hin hs
 refine wp_seq (wp_region_lit ?_)
 have hrep : RepL K (caps.map (opd s)) (caps.map a.eval).toArray := ⟨by simp, fun j d hj => by have := zeO hs caps j d hj; simpa using this⟩
 have hfv : Rep K (.fnc (.func g) (caps.map (opd s))) (.func (.func g) #[] (caps.map a.eval).toArray) := .fnc _ _ _ (by simp) (zeO hs caps)
 have hts : t < a.tmps.size := by rw [hs.size]; exact ht
 refine wpList_plain rfl fun K1 hK1 => ?_
 have hrun1 : (execOp a.eval { dst := some t, op := .makeFunc (.func g) #[] caps.toArray, type := type, pos := pos, after := after, guard := none }).run P w = .ok (.value (.func (.func g) #[] (caps.map a.eval).toArray)) w := by
  simp [execOp, Instr.makeFunc]
 unfold Oper.wp
 rw [hrun1]
 refine hK1 _ _ (wpList_plain rfl fun K2 hK2 => ?_)
 generalize ha1 : (a.put (some t) (.func (.func g) #[] (caps.map a.eval).toArray)) = a1
 have hev : a1.eval (.tmp t) = .func (.func g) #[] (caps.map a.eval).toArray := by
  subst ha1
  simp [Act.eval, Act.put, hts]
 have hrun2 : (execOp a1.eval { dst := none, op := .defer { callee := .value (.tmp t), args := #[], argTypes := ts }, type := type2, pos := pos2, after := after2, guard := none }).run P w = .ok (.defer { target := .fn (.func g) (caps.map a.eval).toArray, args := #[] }) w := by
  simp [execOp, resolve, hev, Deferred.ofValue]
 unfold Oper.wp
 rw [hrun2]
 refine hK2 _ _ ?_
 let Γ' : Ctx := ⟨⟨Γ.own.own, [{ target := .fn (.func g) (caps.map a.eval).toArray, args := #[] }]⟩, K, s.next, w, fun ch s2 => LeaveD P Γ.base fn post g (caps.map (opd s)) (.panicking ch) s2, fun _ _ _ => False⟩
 have hin' : In Γ' K w := ⟨.refl _, hs.hdr, fun b o v e => .inl e, fun b hb => hin.own_of_ge hb, rfl, rfl, rfl, Nat.le_refl _, fun _ _ => rfl⟩
 have hs1 : Sim K Γ.own (s.put (some t) (.fnc (.func g) (caps.map (opd s)))) a1 w := by
  subst ha1
  exact hs.put (by simpa [zaI] using ht) hfv
 have hs' : Sim K Γ'.own (s.put (some t) (.fnc (.func g) (caps.map (opd s)))) (({ a1 with defers := { target := .fn (.func g) (caps.map a.eval).toArray, args := #[] } :: a1.defers } : Act).put none undef) w :=
  ⟨hs1.sat, by have := hs1.defers; rw [hd] at this; show _ :: a1.defers = _; rw [this], hs1.size, hs1.env, hs1.hdr⟩
 refine wp_mono (h Γ' rfl (fun ch s2 h => h) K _ w hin' hs') ?_
 rintro e a' w' (⟨K', s', h1, h2, h3⟩ | h3)
 ·have hdf : a'.defers = [{ target := .fn (.func g) (caps.map a.eval).toArray, args := #[] }] := h2.defers
  have go : ∀ u, u ≠ .run → LeaveD P Γ.base fn post g (caps.map (opd s)) u s' → Leaves P fn a'.tmps (RX Γ.base post) a'.defers u w' := fun u hu hl => by
   rw [hdf]
   exact zm3 hu hl hin h1 h2 rfl rfl hs.hdr rfl hc _ hrep
  cases e with
  | panic ch => exact .inr ⟨trivial, hesc _ _ _ (go (.panicking ch) (by simp) h3)⟩
  | ret => exact .inr ⟨trivial, hesc _ _ _ (go .returning (by simp) h3.2)⟩
  | normal => exact absurd h3.1 (by simp)
  | exit i => exact absurd h3.1 (by simp)
  | goto i => exact absurd h3.1 (by simp)
  | outgrown => exact absurd h3.1 (by simp)
 ·exact h3.2.elim
def HS (P : Program) (Γ : Ctx) : List Oper → St → (St → Prop) → Prop
 | [], s, k => k s
 | o :: l, s, k => o.guard = none ∧ zck P Γ o.dst o.op s fun s' => HS P Γ l s' k
theorem zqB {P Γ cs} {Q : Exit → Act → List Frame → World → Prop} {k : St → Prop} (ops : Array Oper) : ∀ (l : List Oper) (i : Nat) (s : St) (K : Kr) (a : Act) (w : World), (∀ j, ops[i + j]? = l[j]?) → HS P Γ l s k → In Γ K w → Sim K Γ.own s a w →
  (∀ K' a' w' s', In Γ K' w' → Sim K' Γ.own s' a' w' → k s' → Q .normal a' cs w') → (∀ ch K' a' w' s', In Γ K' w' → Sim K' Γ.own s' a' w' → Γ.pan ch s' → Q (.panic ch) a' cs w') →
  wpOpsS P ops Q (List.range' i l.length) a cs w
 | [], i, s, K, a, w, _, h, hin, hs, hQ, _ => by simpa [wpOpsS] using hQ K a w s hin hs h
 | o :: l, i, s, K, a, w, ho, h, hin, hs, hQ, hP => by
  have h0 : ops[i]? = some o := by simpa using ho 0
  obtain ⟨hg, hst⟩ := h
  rw [List.length_cons, List.range'_succ]
  unfold wpOpsS
  rw [h0]
  simp only [Region.wanted, hg, if_true]
  have hw := ze5 hst K a w hin hs (fun a' w' => wpOpsS P ops Q (List.range' (i + 1) l.length) a' cs w') (fun e a' w' => Q e a' cs w')
   (fun K' a' w' s' h1 h2 h3 => zqB ops l (i + 1) s' K' a' w' (fun j => by have := ho (j + 1); simpa [nAA, Nat.add_comm 1 j] using this) h3 h1 h2 hQ hP) hP
  unfold Oper.wp at hw
  split
  ·rename_i w' hr
   rw [hr] at hw
   exact hw.elim
  ·exact hw
/-- What recover hands out, and how the frame below goes on. -/
def zkU : FrameMode → Value × FrameMode
 | .panicking ({ v, recovered := false, goexit := false } :: older) => (v, .panicking ({ v, recovered := true } :: older))
 | u => (.nilIface, u)
def ztd (Γ : Ctx) (post : FrameMode → List (Nat × Ob) → Nat → Prop) (u' : FrameMode) (e : Exit) (s : St) : Prop := (e = .normal ∨ e = .ret) ∧ ∃ s', Wk Γ s s' ∧ Γ.n0 ≤ s'.next ∧ post u' s'.obs s'.next
theorem RetDf.of_body {P g fn caps obs nx u post id x type pos after l rest} (hf : P.funcs[g]? = some fn)
  (hb : fn.body = some (.seq (.region id ({ dst := some x, op := .call { callee := .builtin .recover, args := #[], argTypes := #[] }, type := type, pos := pos, after := after, guard := none } :: l : List Oper).toArray false) rest))
  (hn : caps.length ≤ fn.ntmps) (hx : x < fn.ntmps) (hres : fn.results = #[])
  (h : ∀ Γ : Ctx, Γ.n0 = nx → HS P Γ l ((entry caps fn.ntmps obs nx).put (some x) (.u (.oth (zkU u).1))) fun s' => V P Γ rest s' (zap P Γ (ztd Γ post (zkU u).2) .done)) : RetDf P g caps obs nx u post := by
 intro k own w vs hsat hhdr hfresh hrep
 have hsz : vs.size = caps.length := hrep.1
 let Γ : Ctx := .of own k nx w
 have hin : In Γ k w := ⟨.refl _, hhdr, fun b o v e => .inl e, hfresh, rfl, rfl, rfl, Nat.le_refl _, fun _ _ => rfl⟩
 have hs : Sim k Γ.own (entry caps fn.ntmps obs nx) { tmps := vs ++ Array.replicate (fn.ntmps - vs.size) undef, defers := [] } w := by
  refine ⟨hsat, rfl, ?_, fun y d hy => ?_, hhdr⟩
  ·simp [entry, hsz]; omega
  ·simp only [entry, zfm, Nat.zero_le, if_true, Nat.sub_zero] at hy
   have hlt := (lGE.1 hy).1
   refine ⟨by simp [entry]; omega, ?_⟩
   have := hrep.2 y d hy
   have e : (vs ++ Array.replicate (fn.ntmps - vs.size) undef).getD y undef = vs.getD y undef := by
    simp [Array.getElem?_append, show y < vs.size by omega]
   rw [e]
   exact this
 refine callsD_of_wpS hf hb fun c0 cs hm => wpS_seq (wpS_region ?_)
 have hsize : ({ dst := some x, op := .call { callee := .builtin .recover, args := #[], argTypes := #[] }, type := type, pos := pos, after := after, guard := none } :: l : List Oper).toArray.size = l.length + 1 := by simp
 rw [hsize, List.range_eq_range', List.range'_succ]
 generalize hops : ({ dst := some x, op := .call { callee := .builtin .recover, args := #[], argTypes := #[] }, type := type, pos := pos, after := after, guard := none } :: l : List Oper).toArray = ops
 have h0 : ops[0]? = some { dst := some x, op := .call { callee := .builtin .recover, args := #[], argTypes := #[] }, type := type, pos := pos, after := after, guard := none } := by rw [← hops]; simp
 unfold wpOpsS
 rw [h0]
 have hrun : ∀ ρ : Operand → Value, (execOp ρ { dst := some x, op := .call { callee := .builtin .recover, args := #[], argTypes := #[] }, type := type, pos := pos, after := after, guard := none }).run P w = .ok .recover w := fun ρ => by
  simp [execOp, resolve, invoke, builtin]
 simp only [Region.wanted, if_true, hrun]
 have hrec : recoverD (c0 :: cs) = some ((zkU u).1, { c0 with mode := (zkU u).2 } :: cs) ∨ (recoverD (c0 :: cs) = none ∧ (zkU u).1 = .nilIface ∧ { c0 with mode := (zkU u).2 } = c0) := by
  subst hm
  have same : ∀ m, c0.mode = m → ({ c0 with mode := m } : Frame) = c0 := fun m h => by rw [← h]
  cases hmo : c0.mode with
  | run => exact .inr ⟨by simp [recoverD, hmo], rfl, same _ hmo⟩
  | returning => exact .inr ⟨by simp [recoverD, hmo], rfl, same _ hmo⟩
  | panicking ch =>
   cases ch with
   | nil => exact .inr ⟨by simp [recoverD, hmo], rfl, same _ hmo⟩
   | cons e older =>
    obtain ⟨v, r, g⟩ := e
    cases r <;> cases g
    ·exact .inl (by simp [recoverD, hmo, zkU])
    ·exact .inr ⟨by simp [recoverD, hmo], rfl, same _ hmo⟩
    ·exact .inr ⟨by simp [recoverD, hmo], rfl, same _ hmo⟩
    ·exact .inr ⟨by simp [recoverD, hmo], rfl, same _ hmo⟩
 have main : wpOpsS P ops (Exit.thenS (rest.wpS P (bodyPostS P fn c0 cs fun e u' w' => ∃ v obs' nx' k', e = .returned v ∧ In (.of own k nx w) k' w' ∧ Sat k' own obs' w' ∧ (∀ i, nx' ≤ i → k'.hdr i = none) ∧ nx ≤ nx' ∧ post u' obs' nx'))
   (bodyPostS P fn c0 cs fun e u' w' => ∃ v obs' nx' k', e = .returned v ∧ In (.of own k nx w) k' w' ∧ Sat k' own obs' w' ∧ (∀ i, nx' ≤ i → k'.hdr i = none) ∧ nx ≤ nx' ∧ post u' obs' nx')) (List.range' (0 + 1) l.length)
   (Act.put { tmps := vs ++ Array.replicate (fn.ntmps - vs.size) undef, defers := [] } (some x) (zkU u).1) ({ c0 with mode := (zkU u).2 } :: cs) w := by
  refine zqB ops l (0 + 1) _ k _ w (fun j => by rw [← hops]; simp [Nat.add_comm 1 j]) (h Γ rfl) hin (hs.put (by simpa [zaI, entry] using hx) (.u _ _ (.oth _))) (fun K' a' w' s' h1 h2 h3 => ?_) (fun ch K' a' w' s' _ _ h3 => h3.elim)
  refine wpS_of_wp (wp_mono (h3 K' a' w' h1 h2) ?_)
  rintro e a2 w2 (⟨K2, s2, g1, g2, g3⟩ | g3)
  ·have hd2 : a2.defers = [] := g2.defers
   have fin : ztd Γ post (zkU u).2 e s2 → a2.defers = [] ∧ ∃ u', ({ c0 with mode := (zkU u).2 } :: cs : List Frame) = { c0 with mode := u' } :: cs ∧ ∃ v, (results fn a2.tmps).run P w2 = .ok v w2 ∧
     ∃ v' obs' nx' k', Ending.returned v = .returned v' ∧ In (.of own k nx w) k' w2 ∧ Sat k' own obs' w2 ∧ (∀ i, nx' ≤ i → k'.hdr i = none) ∧ nx ≤ nx' ∧ post u' obs' nx' := fun ⟨_, s3, hw, hnx, hp⟩ => by
    obtain ⟨K3, q1, q2⟩ := hw K2 a2 w2 g1 g2
    exact ⟨hd2, _, rfl, .tuple #[], by simp [results, hres], _, s3.obs, s3.next, K3, rfl, q1, q2.sat, q2.hdr, hnx, hp⟩
   cases e with
   | normal => exact fin g3
   | ret => exact fin g3
   | panic ch => exact g3.elim
   | exit i => rcases g3.1 with h | h <;> cases h
   | goto i => rcases g3.1 with h | h <;> cases h
   | outgrown => rcases g3.1 with h | h <;> cases h
  ·exact g3.2.elim
 rcases hrec with hr | ⟨hr, h1, h2⟩
 ·rw [hr]
  exact main
 ·rw [hr]
  rw [h1, h2] at main
  exact main
end Go.VL
namespace Go.VL
open Go
/-- A call that is sure to panic, wherever its operands and objects are az here. -/
def zrh (P : Program) (Γ : Ctx) (s : St) (op : Op) : Prop :=
 ∀ s' : St, s'.n = s.n → (∀ y, getK s'.obs y = getK s.obs y) → (∀ x ∈ op.operands, opd s' x = opd s x) → s.next ≤ s'.next → ∀ o : Oper, o.op = op → o.guard = none → zaI o.dst s' → EffP P Γ o s' fun _ => False
/-- A call that changes the objects it is handed, and makes none. -/
def zrr (P : Program) (N : Nat) (s : St) (op : Op) (d : D) (W : Wr) (R : List Nat) : Prop :=
 ∃ fop args f caps, ∃ (O O' : List (Nat × Ob)) (L : List Nat), zbT op = some (fop, args) ∧ zaw (opd s fop) = some (f, caps) ∧ zam P f = true ∧ R = O.map (·.1) ∧ W = (O'.filter fun p => L.contains p.1).map (fun p => (p.1, some p.2)) ∧ O'.map (·.1) = O.map (·.1) ∧
  (∀ y, L.contains y = false → getK O' y = getK O y) ∧ (∀ p ∈ O, getK s.obs p.1 = some p.2) ∧ (O.map (·.1)).Nodup ∧ (d.under N = true ∧ ∀ p ∈ O', p.2.under N = true) ∧
  ∀ nx, s.next ≤ nx → RetX P f (args.map (opd s) ++ caps) O nx fun r o n => r = .val d ∧ (∀ y, getK o y = getK O' y) ∧ n = nx
/-- A call that changes nothing of what it is handed, and makes one object. -/
def zsL (P : Program) (N : Nat) (s : St) (op : Op) (d : D) (W : Wr) (cr : Option Nat) (R : List Nat) : Prop :=
 ∃ fop args f caps, ∃ (O : List (Nat × Ob)) (e : ERes) (nb : Ob) (x0 : Nat), zbT op = some (fop, args) ∧ zaw (opd s fop) = some (f, caps) ∧ zam P f = true ∧ R = O.map (·.1) ∧ (e.U = [] ∧ e.nw = some nb ∧ nb.under N = true) ∧
  (cr = some x0 ∧ W = (x0, some nb) :: e.U ∧ d = mkD e.how x0) ∧ (∀ p ∈ O, getK s.obs p.1 = some p.2) ∧
  ∀ nx, s.next ≤ nx → RetX P f (args.map (opd s) ++ caps) O nx fun r o n => r = .val (mkD e.how nx) ∧ (∀ y, getK o y = getK ((nx, nb) :: O) y) ∧ n = nx + 1
def zrj (P : Program) (N : Nat) (s : St) (op : Op) (dst : Option Tmp) (d : D) (W : Wr) (cr : Option Nat) (R : List Nat) : Prop :=
 Op1 P s op dst d W cr R ∨ (zrr P N s op d W R ∧ cr = none) ∨ zsL P N s op d W cr R
def zrY (P : Program) (N : Nat) (all : Array Oper) (s : St) (o : Oper) (d : D) (W : Wr) (cr : Option Nat) (R : List Nat) : Prop :=
 match o.guard with
 | none => zrj P N s o.op o.dst d W cr R
 | some (j, want) => ∃ t, zaY all j = some t ∧ ((∃ b, getK s.env t = some (.u (.bool b)) ∧
  if b = want then zrj P N s o.op o.dst d W cr R else d = .un ∧ W = [] ∧ cr = none) ∨ (getK s.env t = some .un ∧ d = .un ∧ W = [] ∧ cr = none))
theorem zcl {α : Type} (l : List (Nat × α)) (c : List Nat) (y : Nat) : getK (l.filter fun p => !c.contains p.1) y = if c.contains y = true then none else getK l y := by
 induction l with
 | nil => simp [getK]
 | cons p l ih =>
  obtain ⟨k, x⟩ := p
  rw [List.filter_cons]
  by_cases hk : c.contains k = true
  ·rw [if_neg (by simpa using hk), ih, zaa]
   by_cases hy : y = k
   ·subst hy; rw [if_pos hk, if_pos hk]
   ·rw [if_neg hy]
  ·rw [if_pos (by simpa using hk), zaa, zaa, ih]
   by_cases hy : y = k
   ·subst hy; rw [if_pos rfl, if_pos rfl, if_neg hk]
   ·rw [if_neg hy, if_neg hy]
theorem zkh {α : Type} (l : List (Nat × α)) (c : List Nat) (y : Nat) : getK (l.filter fun p => c.contains p.1) y = if c.contains y = true then getK l y else none := by
 induction l with
 | nil => simp [getK]
 | cons p l ih =>
  obtain ⟨k, x⟩ := p
  rw [List.filter_cons]
  by_cases hk : c.contains k = true
  ·rw [if_pos (by exact hk), zaa, zaa, ih]
   by_cases hy : y = k
   ·subst hy; rw [if_pos rfl, if_pos rfl, if_pos hk]
   ·rw [if_neg hy, if_neg hy]
  ·rw [if_neg (by exact hk), ih, zaa]
   by_cases hy : y = k
   ·subst hy; rw [if_neg hk, if_neg hk]
   ·rw [if_neg hy]
theorem zeR {α : Type} {l : List (Nat × α)} {y : Nat} {x : α} (h : getK l y = some x) : (y, x) ∈ l := by
 induction l with
 | nil => cases h
 | cons p l ih =>
  obtain ⟨k, d⟩ := p
  rw [zaa] at h
  by_cases hyk : y = k
  ·rw [if_pos hyk] at h; cases h; subst hyk; simp
  ·rw [if_neg hyk] at h; exact List.mem_cons_of_mem _ (ih h)
theorem zcB {α : Type} {l : List (Nat × α)} {y : Nat} (h : y ∈ l.map (·.1)) : ∃ x, getK l y = some x := by
 induction l with
 | nil => cases h
 | cons p l ih =>
  obtain ⟨k, d⟩ := p
  rw [zaa]
  by_cases hyk : y = k
  ·exact ⟨d, by rw [if_pos hyk]⟩
  ·rw [if_neg hyk]
   simp only [List.map_cons, List.mem_cons] at h
   exact ih (h.resolve_left hyk)
theorem ziY (O : List (Nat × Ob)) (y : Nat) : getK (O.map fun p => (p.1, some p.2) : Wr) y = (getK O y).map some := by
 induction O with
 | nil => rfl
 | cons p l ih =>
  obtain ⟨k, d⟩ := p
  rw [List.map_cons, zaa, zaa, ih]
  split <;> rfl
theorem zcH {ρ : Nat → Nat} {N M : Nat} (hρ : ∀ y, y < N → ρ y = y) (hNM : N ≤ M) : ∀ {d : D}, d.under N = true → Good ρ M d
 | .u x, _ => ⟨by simp [D.ren], by simp [D.under]⟩
 | .any, _ => ⟨by simp [D.ren], by simp [D.under]⟩
 | .ptr i off, h => by simp [D.under] at h; exact ⟨by simp [D.ren, hρ i h], by simp [D.under]; omega⟩
 | .vec i len, h => by simp [D.under] at h; exact ⟨by simp [D.ren, hρ i h], by simp [D.under]; omega⟩
 | .mp i, h => by simp [D.under] at h; exact ⟨by simp [D.ren, hρ i h], by simp [D.under]; omega⟩
 | .elt i sz idx off, h => by simp [D.under] at h; exact ⟨by simp [D.ren, hρ i h], by simp [D.under]; omega⟩
 | .fnc f caps, h => by
  have hc : ∀ c ∈ caps, Good ρ M c := fun c hc => zcH hρ hNM (by rw [D.under] at h; simp only [List.all_map, List.all_eq_true] at h; exact h c hc)
  refine ⟨by rw [D.ren]; congr 1; exact (List.map_congr_left fun c hc' => (hc c hc').1).trans (List.map_id _), ?_⟩
  rw [D.under]
  simp only [List.all_map, List.all_eq_true]
  exact fun c hc' => (hc c hc').2
 | .bnd f caps, h => by
  have hc : ∀ c ∈ caps, Good ρ M c := fun c hc => zcH hρ hNM (by rw [D.under] at h; simp only [List.all_map, List.all_eq_true] at h; exact h c hc)
  refine ⟨by rw [D.ren]; congr 1; exact (List.map_congr_left fun c hc' => (hc c hc').1).trans (List.map_id _), ?_⟩
  rw [D.under]
  simp only [List.all_map, List.all_eq_true]
  exact fun c hc' => (hc c hc').2
 | .agg caps, h => by
  have hc : ∀ c ∈ caps, Good ρ M c := fun c hc => zcH hρ hNM (by rw [D.under] at h; simp only [List.all_map, List.all_eq_true] at h; exact h c hc)
  refine ⟨by rw [D.ren]; congr 1; exact (List.map_congr_left fun c hc' => (hc c hc').1).trans (List.map_id _), ?_⟩
  rw [D.under]
  simp only [List.all_map, List.all_eq_true]
  exact fun c hc' => (hc c hc').2
 | .tup caps, h => by
  have hc : ∀ c ∈ caps, Good ρ M c := fun c hc => zcH hρ hNM (by rw [D.under] at h; simp only [List.all_map, List.all_eq_true] at h; exact h c hc)
  refine ⟨by rw [D.ren]; congr 1; exact (List.map_congr_left fun c hc' => (hc c hc').1).trans (List.map_id _), ?_⟩
  rw [D.under]
  simp only [List.all_map, List.all_eq_true]
  exact fun c hc' => (hc c hc').2
theorem zfE {ρ : Nat → Nat} {N M : Nat} (hρ : ∀ y, y < N → ρ y = y) (hNM : N ≤ M) {ob : Ob} (h : ob.under N = true) : ob.all (Good ρ M) := by
 cases ob with
 | it => trivial
 | nw => trivial
 | box cs => exact fun c hc => zcH hρ hNM ((List.all_eq_true.1 h) c hc)
 | vec e sz rows => exact fun r hr c hc => zcH hρ hNM ((List.all_eq_true.1 ((List.all_eq_true.1 h) r hr)) c hc)
 | map kk ag es => exact fun p hp c hc => zcH hρ hNM ((List.all_eq_true.1 ((List.all_eq_true.1 h) p hp)) c hc)
/-- What comes before stands before. -/
theorem zoY {ops : List Oper} (hord : zgb ops = true) : ∀ {i j : Nat} {y : Oper}, ops[j]? = some y → zd9 ops ops.length i j = true → i < j := by
 have key : ∀ (n i j : Nat) (y : Oper), ops[j]? = some y → zd9 ops n i j = true → i < j := by
  intro n
  induction n with
  | zero => intro i j y hj h; simp [zd9] at h
  | succ n ih =>
   intro i j y hj h
   simp only [zd9, hj] at h
   rw [List.any_eq_true] at h
   obtain ⟨p, hp, h⟩ := h
   have hlt := (zbW hord hj).1 p hp
   simp only [Bool.or_eq_true, beq_iff_eq] at h
   rcases h with rfl | h
   ·exact hlt
   ·have hpl : p < ops.length := by have := (lGE.1 hj).1; omega
    have := ih i p _ (List.getElem?_eq_getElem hpl) h
    omega
 exact fun {i j y} hj h => key _ i j y hj h
theorem EffP.guard {P Γ s k} {dst op type pos after guard} (h : EffP P Γ { dst, op, type, pos, after, guard := none } s k) : EffP P Γ { dst, op, type, pos, after, guard } s k := h
/-- All orders of operations, from a state on. -/
def VA (P : Program) (Γ : Ctx) (ops : List Oper) (s : St) (R : Exit → St → Prop) : Prop :=
 ∀ K a w, In Γ K w → Sim K Γ.own s a w → wpAny P .any ops.toArray (VPost Γ R) ops.toArray.size (Array.replicate ops.toArray.size false) a { w with drawn := w.drawn + 1 }
set_option maxHeartbeats 4000000 in
theorem zqj {P Γ} {R0 : Exit → St → Prop} {ops : List Oper} {T : Nat → D} {W : Nat → Wr} {cr : Nat → Option Nat} {R : Nat → List Nat} {kd : Nat → Nat} {s : St} {M : Nat}
  (hord : zgb ops = true) (hn0 : Γ.n0 ≤ s.next) (hM : s.next ≤ M)
  (hcr : ∀ i x, cr i = some x → s.next ≤ x ∧ x < M) (hcr1 : ∀ i j x, cr i = some x → cr j = some x → i = j)
  (hpair : ∀ i j, i < j → j < ops.length → zd9 ops ops.length i j = false → (∀ y ∈ zdr (W i), y ∉ R j ∧ y ∉ zdr (W j)) ∧ ∀ y ∈ zdr (W j), y ∉ R i)
  (hkd : ∀ i, kd i ≠ 0 → W i = [] ∧ cr i = none) (hstop : ∀ p i, kd p = 1 → i < ops.length → W i ≠ [] → zd9 ops ops.length i p = true ∨ zd9 ops ops.length p i = true)
  (hval : ∀ i o, ops[i]? = some o → zaI o.dst s ∧ if kd i = 2 then ∃ p, kd p = 1 ∧ p < ops.length ∧ zd9 ops ops.length p i = true else if kd i = 1 then o.guard = none ∧ zrh P Γ (stW ops T W s M fun j => decide (j < i)) o.op else
    zrY P s.next ops.toArray (stW ops T W s M fun j => decide (j < i)) o (T i) (W i) (cr i) (R i))
  (hfin : (∀ i, i < ops.length → kd i ≠ 1) → ∃ s', (stW ops T W s M fun _ => true).Eqo s' ∧ R0 .normal s') : VA P Γ ops s R0 := by
 intro K a w hin hs
 have hin0 : In Γ K { w with drawn := w.drawn + 1 } := ⟨hin.le, hin.none0, hin.memNew, hin.fresh, hin.os, hin.tape, hin.output, hin.size, hin.block⟩
 have hs0 : Sim K Γ.own s a { w with drawn := w.drawn + 1 } := ⟨⟨hs.sat.mem, fun i ob hi => by
   obtain ⟨h, h1, h2, h3⟩ := hs.sat.ob i ob hi
   exact ⟨h, h1, h2, h3.keep (.refl _) fun b e => rfl⟩, hs.sat.apart⟩, hs.defers, hs.size, hs.env, hs.hdr⟩
 generalize ({ w with drawn := w.drawn + 1 } : World) = w0 at hin0 hs0
 have key : ∀ (fuel : Nat) (listed : Array Bool) (K : Kr) (a : Act) (w : World), listed.size = ops.length → (listed.toList.filter (! ·)).length ≤ fuel →
   (∀ j y, ops[j]? = some y → listed.getD j false = true → ∀ p ∈ zba y, listed.getD p false = true) → In Γ K w → Sim K Γ.own (stW ops T W s M fun j => listed.getD j false) a w →
   (∀ j x, j < ops.length → listed.getD j false = false → cr j = some x → K.hdr x = none) → (∀ p, kd p = 1 → p < ops.length → listed.getD p false = false) →
   wpAny P .any ops.toArray (VPost Γ R0) fuel listed a w := by
  have allDone : ∀ (listed : Array Bool) (K : Kr) (a : Act) (w : World), (∀ p, kd p = 1 → p < ops.length → listed.getD p false = false) → (∀ j, j < ops.length → listed.getD j false = true) → In Γ K w → Sim K Γ.own (stW ops T W s M fun j => listed.getD j false) a w →
    ∃ K' s', In Γ K' w ∧ Sim K' Γ.own s' a w ∧ R0 .normal s' := fun listed K a w hsp hall hin hs => by
   obtain ⟨s', he, hfin⟩ := hfin fun i hi hk => by have h1 := hsp i hk hi; rw [hall i hi] at h1; cases h1
   refine ⟨K, _, hin, Sim.eqo (hs.eqo ?_) he, hfin⟩
   refine ⟨rfl, fun x => ?_, rfl, fun x => ?_⟩
   ·simp only [stW, zaC]
    rw [zbK W _ (fun _ => true) x ops.length fun j hj _ => hall j hj]
   ·exact zbq T _ _ x ops 0 s.env s.env rfl fun j o hj _ => by
     have hl := (lGE.1 hj).1
     simp only [Nat.zero_add]
     exact hall j hl
  have least : ∀ (listed : Array Bool), listed.size = ops.length → ∀ i, i < ops.length → listed.getD i false = false → ∃ i0, i0 ∈ Region.ready .any ops.toArray listed := fun listed hsz i hi hu => by
   induction i using Nat.strongRecOn with
   | _ i ih =>
    have ho : ops[i]? = some ops[i] := List.getElem?_eq_getElem hi
    by_cases hp : ∀ p ∈ zba ops[i], listed.getD p false = true
    ·refine ⟨i, mem_ready.2 ⟨?_, ops[i], by simp, fun e he hb => hp e.on ?_⟩⟩
     ·have hi' : i < listed.size := by omega
      simp [hi'] at hu ⊢
      exact hu
     ·simp only [zba, List.mem_map, List.mem_filter]
      exact ⟨e, ⟨by simpa using he, hb⟩, rfl⟩
    ·simp only [Classical.not_forall] at hp
     obtain ⟨p, hpm, hpu⟩ := hp
     have hlt := (zbW hord ho).1 p hpm
     exact ih p hlt (by omega) (by simpa using hpu)
  intro fuel
  induction fuel with
  | zero =>
   intro listed K a w hsz hcnt hcl hin hs _ hsp
   have hall : ∀ j, j < ops.length → listed.getD j false = true := fun j hj => by
    have hj' : j < listed.size := by omega
    have h0 : (listed.toList.filter (! ·)) = [] := List.eq_nil_of_length_eq_zero (by omega)
    have := (List.filter_eq_nil_iff.1 h0) listed[j] (by simp)
    simp only [Bool.not_eq_true', Bool.not_eq_false] at this
    simp [hj', this]
   refine ⟨?_, .inl (allDone listed K a w hsp hall hin hs)⟩
   refine List.eq_nil_iff_forall_not_mem.2 fun i hi => ?_
   obtain ⟨h1, o, ho, _⟩ := mem_ready.1 hi
   have hl : i < ops.length := by
    have := (Array.getElem?_eq_some_iff.1 ho).1
    simpa using this
   have := hall i hl
   have hi' : i < listed.size := by omega
   simp [hi'] at h1 this
   rw [h1] at this
   cases this
  | succ fuel ih =>
   intro listed K a w hsz hcnt hcl hin hs hfr hsp
   refine ⟨fun hnil => .inl (allDone listed K a w hsp (fun j hj => ?_) hin hs), fun i hi => ?_⟩
   ·cases hu : listed.getD j false with
    | true => rfl
    | false =>
     obtain ⟨i0, h0⟩ := least listed hsz j hj hu
     rw [hnil] at h0
     cases h0
   ·obtain ⟨hun, o, ho, hall⟩ := mem_ready.1 hi
    have ho' : ops[i]? = some o := by simpa using ho
    have hil := (lGE.1 ho').1
    have hil' : i < listed.size := by omega
    have hunf : listed.getD i false = false := by simp [hil'] at hun ⊢; exact hun
    have hpred : ∀ p ∈ zba o, listed.getD p false = true := fun p hp => by
     simp only [zba, List.mem_map, List.mem_filter] at hp
     obtain ⟨e, ⟨he, hb⟩, rfl⟩ := hp
     exact hall e (by simpa using he) hb
    obtain ⟨hpo, hv⟩ := hval i o ho'
    have bef1 : ∀ j, zd9 ops ops.length j i = true → listed.getD j false = true := fun j hb => zcJ hcl _ j i o ho' hpred hb
    have bef2 : ∀ j x, ops[j]? = some x → zd9 ops ops.length i j = true → listed.getD j false = false := fun j x hj hb => by
     cases hu : listed.getD j false with
     | false => rfl
     | true =>
      have := zcJ hcl _ i j x hj (hcl j x hj hu) hb
      rw [hunf] at this
      cases this
    -- who writes a slot that this operation looks at, or writes
    have before : ∀ j x, ops[j]? = some x → j < i → zds ops.toArray x o = true ∨ zds ops.toArray o x = true → listed.getD j false = true := fun j x hj hlt hmm =>
     bef1 j ((zbW hord ho').2.2 j x hlt hj hmm)
    have behind : ∀ j x, ops[j]? = some x → i < j → zds ops.toArray x o = true ∨ zds ops.toArray o x = true → listed.getD j false = false := fun j x hj hlt hmm =>
     bef2 j x hj ((zbW hord hj).2.2 i o hlt ho' hmm.symm)
    have agree : ∀ t, t ∈ o.looksAt ops.toArray → getK (zdA T (fun j => listed.getD j false) ops 0 s.env) t = getK (zdA T (fun j => decide (j < i)) ops 0 s.env) t := fun t ht => by
     refine zbq T _ _ t ops 0 s.env s.env rfl fun j x hj hx => ?_
     simp only [Nat.zero_add]
     have hmm : zds ops.toArray x o = true := by simp [zds, hx, ht]
     rcases Nat.lt_trichotomy j i with h | h | h
     ·rw [before j x hj h (.inl hmm)]; simp [h]
     ·subst h; rw [hunf]; simp
     ·rw [behind j x hj h (.inl hmm)]; simp; omega
    have hopd : ∀ x ∈ o.op.operands, opd (stW ops T W s M fun j => decide (j < i)) x = opd (stW ops T W s M fun j => listed.getD j false) x := fun x hx => by
     cases x with
     | tmp t =>
      simp only [opd, St.at, stW]
      rw [agree t (List.mem_append_left _ (List.mem_filterMap.2 ⟨.tmp t, by simpa using hx, rfl⟩))]
     | _ => rfl
    -- who changes an object that this operation looks at
    have hloc : ∀ y ∈ R i, getK (stW ops T W s M fun j => decide (j < i)).obs y = getK (stW ops T W s M fun j => listed.getD j false).obs y := fun y hy => by
     simp only [stW, zaC]
     rw [zbK W (fun j => decide (j < i)) (fun j => listed.getD j false) y ops.length fun j hj hk => ?_]
     rcases Nat.lt_trichotomy j i with h | h | h
     ·have hb : zd9 ops ops.length j i = true := by
       cases hb : zd9 ops ops.length j i with
       | true => rfl
       | false => exact absurd hy (((hpair j i h hil hb).1 y hk).1)
      rw [bef1 j hb]
      simp [h]
     ·subst h; rw [hunf]; simp
     ·have hb : zd9 ops ops.length i j = true := by
       cases hb : zd9 ops ops.length i j with
       | true => rfl
       | false => exact absurd hy ((hpair i j h hj hb).2 y hk)
      rw [bef2 j _ (List.getElem?_eq_getElem hj) hb]
      simp; omega
    have hlast : ∀ y ∈ zdr (W i), ∀ j, j < ops.length → i < j → y ∈ zdr (W j) → listed.getD j false = false := fun y hy j hj hlt hk => by
     have hb : zd9 ops ops.length i j = true := by
      cases hb : zd9 ops ops.length i j with
      | true => rfl
      | false => exact absurd hk ((hpair i j hlt hj hb).1 y hy).2
     exact bef2 j _ (List.getElem?_eq_getElem hj) hb
    have hS : (fun j => (listed.setIfInBounds i true).getD j false) = fun j => listed.getD j false || j == i := funext fun j => by
     by_cases hji : j = i
     ·subst hji; simp [hil']
     ·simp [Array.getElem?_setIfInBounds_ne (Ne.symm hji), hji]
    -- the slots behind this operation
    have henv : ∀ (x : Nat), o.dst = some x → getK (zdA T (fun j => listed.getD j false || j == i) ops 0 s.env) x = some (T i) := fun x hdx =>
     zgO T _ i x ops 0 s.env i o ho' (by omega) hdx fun j o' hj hlt hd' => by
      rw [Nat.zero_add]
      exact behind j o' hj hlt (.inl (by simp [zds, hd', hdx]))
    have henv' : ∀ (x : Nat), o.dst ≠ some x → getK (zdA T (fun j => listed.getD j false || j == i) ops 0 s.env) x = getK (zdA T (fun j => listed.getD j false) ops 0 s.env) x := fun x hdx =>
     zbq T _ (fun j => listed.getD j false) x ops 0 s.env s.env rfl fun j o' hj hd' => by
      simp only [Nat.zero_add]
      have : j ≠ i := fun e => by subst e; rw [ho'] at hj; cases hj; exact hdx hd'
      simp [this]
    -- an operation after one that panics is never ready
    by_cases hk2 : kd i = 2
    ·rw [if_pos hk2] at hv
     obtain ⟨p, hp1, hp2, hp3⟩ := hv
     have := bef1 p hp3
     rw [hsp p hp1 hp2] at this
     cases this
    rw [if_neg hk2] at hv
    by_cases hk1 : kd i = 1
    ·rw [if_pos hk1] at hv
     obtain ⟨hg, hst⟩ := hv
     unfold wpOp
     rw [ho]
     simp only [Region.wanted, hg, if_true]
     refine .inl (hst (stW ops T W s M fun j => listed.getD j false) rfl (fun y => ?_) (fun x hx => (hopd x hx).symm) (Nat.le_refl _) o rfl hg hpo K a w hin hs _ _ (fun _ _ _ _ _ _ h => h.elim) fun ch K' a' w' s' h1 h2 h3 => .inl ⟨K', s', h1, h2, h3⟩)
     simp only [stW, zaC]
     rw [zbK W (fun j => listed.getD j false) (fun j => decide (j < i)) y ops.length fun j hj hk => ?_]
     have hne : W j ≠ [] := fun e => by rw [e] at hk; cases hk
     rcases hstop i j hk1 hj hne with hb | hb
     ·have h1 := bef1 j hb
      have hji : j < i := by
       rcases Nat.lt_trichotomy j i with h | h | h
       ·exact h
       ·subst h; rw [hunf] at h1; cases h1
       ·have := zoY hord ho' hb; omega
      rw [h1]; simp [hji]
     ·have h1 := bef2 j _ (List.getElem?_eq_getElem hj) hb
      have hji : ¬ j < i := by have := zoY hord (List.getElem?_eq_getElem hj) hb; omega
      rw [h1]; simp [hji]
    rw [if_neg hk1] at hv
    have go : ∀ K' a' w', In Γ K' w' → Sim K' Γ.own (stW ops T W s M fun j => listed.getD j false || j == i) a' w' →
      (∀ j x, j < ops.length → (listed.getD j false || j == i) = false → cr j = some x → K'.hdr x = none) →
      wpAny P .any ops.toArray (VPost Γ R0) fuel (listed.setIfInBounds i true) a' w' := fun K' a' w' h1 h2 h3 => by
     have hS' : ∀ j, (listed.setIfInBounds i true).getD j false = (listed.getD j false || j == i) := fun j => congrFun hS j
     refine ih (listed.setIfInBounds i true) K' a' w' (by simp [hsz]) ?_ (fun j y hj hSj p hp => ?_) h1 (by rw [hS]; exact h2) (fun j x hj hu => h3 j x hj (by rw [← hS']; exact hu)) (fun p hp1 hp2 => by
      rw [hS', hsp p hp1 hp2]
      have : p ≠ i := fun e => hk1 (e ▸ hp1)
      simp [this])
     ·have cnt : ∀ (l : List Bool) (n : Nat), l[n]? = some false → ((l.set n true).filter (! ·)).length + 1 = (l.filter (! ·)).length := by
       intro l
       induction l with
       | nil => intro n h; simp at h
       | cons b l ih =>
               intro n h
               cases n with
               | zero => simp at h; subst h; simp
               | succ n =>
                have := ih n (by simpa using h)
                cases b <;> simp at this ⊢ <;> omega
      have := cnt listed.toList i (by
       rw [Array.getElem?_toList, Array.getElem?_eq_getElem hil']
       simp [hil'] at hunf
       rw [hunf])
      rw [Array.toList_setIfInBounds]
      omega
     ·rw [hS'] at hSj ⊢
      simp only [Bool.or_eq_true, beq_iff_eq] at hSj ⊢
      rcases hSj with hSj | rfl
      ·exact .inl (hcl j y hj hSj p hp)
      ·rw [ho'] at hj
       cases hj
       exact .inl (hpred p hp)
    -- an operation that changes nothing
    have next : W i = [] → ∀ K' v w', In Γ K' w' → K.le K' → K'.hdr = K.hdr → Sat K' Γ.own (stW ops T W s M fun j => listed.getD j false).obs w' → Rep K' (T i) v →
      wpAny P .any ops.toArray (VPost Γ R0) fuel (listed.setIfInBounds i true) (a.put o.dst v) w' := fun hW K' v w' h1 h2 h3 h4 h5 => by
     refine go K' _ w' h1 ?_ fun j x hj hu hc => by
      rw [h3]
      simp only [Bool.or_eq_false_iff] at hu
      exact hfr j x hj hu.1 hc
     have hdef : (a.put o.dst v).defers = Γ.own.dfr := by cases o.dst <;> exact hs.defers
     have hsize : (a.put o.dst v).tmps.size = s.n := by
      have hsz2 : a.tmps.size = s.n := hs.size
      cases o.dst <;> simp [Act.put, hsz2]
     refine ⟨h4.eqo fun y => ?_, hdef, hsize, fun x d hx => ?_, fun j hj => by rw [h3]; exact hs.hdr j hj⟩
     ·simp only [stW, zaC]
      rw [zbK W (fun j => listed.getD j false) (fun j => listed.getD j false || j == i) y ops.length fun j hj hk => ?_]
      by_cases hji : j = i
      ·subst hji; rw [hW] at hk; cases hk
      ·simp [hji]
     ·simp only [stW] at hx
      by_cases hdx : o.dst = some x
      ·rw [henv x hdx] at hx
       cases hx
       have hlt : x < s.n := by rw [hdx] at hpo; exact hpo
       refine ⟨hlt, ?_⟩
       have hsz' : a.tmps.size = s.n := hs.size
       rw [hdx]
       simpa [Act.put, hsz', hlt] using h5
      ·rw [henv' x hdx] at hx
       obtain ⟨g1, g2⟩ := hs.env x d hx
       refine ⟨g1, ?_⟩
       have e : (a.put o.dst v).tmps.getD x undef = a.tmps.getD x undef := by
               cases hd : o.dst with
               | none => rfl
               | some y =>
                have hne : y ≠ x := fun e => hdx (by rw [hd, e])
                simp [Act.put, Array.getElem?_setIfInBounds_ne hne]
       rw [e]
       exact g2.mono h2
    unfold wpOp
    rw [ho]
    simp only
    have two : (Region.wanted o (yielded ops.toArray a.tmps) = true ∧ zrj P s.next (stW ops T W s M fun j => decide (j < i)) o.op o.dst (T i) (W i) (cr i) (R i)) ∨ (Region.wanted o (yielded ops.toArray a.tmps) = false ∧ T i = .un ∧ W i = []) := by
     unfold zrY at hv
     split at hv
     ·rename_i hg
      exact .inl ⟨by simp [Region.wanted, hg], hv⟩
     ·rename_i j want hg
      obtain ⟨t, ht, hv⟩ := hv
      have lift : ∀ dd, getK (stW ops T W s M fun j => decide (j < i)).env t = some dd → getK (stW ops T W s M fun j => listed.getD j false).env t = some dd := fun dd hb => by
       simp only [stW] at hb ⊢
       rw [agree t (by
               refine List.mem_append_right _ ?_
               unfold zaY at ht
               simp only [hg]
               rw [ht]
               simp)]
       exact hb
      rcases hv with ⟨b, hb, hv⟩ | ⟨hb, hv⟩
      ·have hb' := lift _ hb
       obtain ⟨hlt, hr⟩ := hs.getK hb'
       have hbv := zcw hr
       have hyd : yielded ops.toArray a.tmps j = some b := by
               unfold yielded
               unfold zaY at ht
               rw [ht]
               simp only [Option.bind_some]
               have : a.tmps[t]? = some (.bool b) := by
                rw [Array.getElem?_eq_getElem hlt]
                simp [hlt] at hbv
                rw [hbv]
               rw [this]
       by_cases hbw : b = want
       ·rw [if_pos hbw] at hv
        exact .inl ⟨by simp [Region.wanted, hg, hyd, hbw], hv⟩
       ·rw [if_neg hbw] at hv
        exact .inr ⟨by simp [Region.wanted, hg, hyd, hbw], hv.1, hv.2.1⟩
      ·have hb' := lift _ hb
       obtain ⟨hlt, hr⟩ := hs.getK hb'
       have hbv := zc8 hr
       have hyd : yielded ops.toArray a.tmps j = none := by
               unfold yielded
               unfold zaY at ht
               rw [ht]
               simp only [Option.bind_some]
               have : a.tmps[t]? = some undef := by
                rw [Array.getElem?_eq_getElem hlt]
                simp [hlt] at hbv
                rw [hbv]
               rw [this]
               try rfl
       exact .inr ⟨by simp [Region.wanted, hg, hyd], hv.1, hv.2.1⟩
    rcases two with ⟨hw, hv⟩ | ⟨hw, hv⟩
    ·rw [if_pos hw]
     let un : Nat → Prop := fun y => ∃ j, j < ops.length ∧ (listed.getD j false || j == i) = false ∧ cr j = some y
     let ρ : Nat → Nat := fun y => open Classical in if cr i = some y then M else if un y then M + 1 + y else y
     have hknown : ∀ y h, K.hdr y = some h → ρ y = y ∧ y < M := fun y h hy => by
      have h1 : cr i ≠ some y := fun e => by rw [hfr i y hil hunf e] at hy; cases hy
      have h2 : ¬ un y := fun ⟨j, hj, hu, hc⟩ => by
       simp only [Bool.or_eq_false_iff] at hu
       rw [hfr j y hj hu.1 hc] at hy
       cases hy
      refine ⟨by simp only [ρ]; rw [if_neg h1, if_neg h2], ?_⟩
      rcases Nat.lt_or_ge y M with h | h
      ·exact h
      ·rw [hs.hdr y h] at hy; cases hy
     have hobs : ∀ y ob, getK (stW ops T W s M fun j => listed.getD j false).obs y = some ob → (ρ y = y ∧ y < M) ∧ ob.all (Good ρ M) := fun y ob hy => by
      have hok := hs.sat.ob y ob hy
      obtain ⟨h, h1, _⟩ := hok
      exact ⟨hknown y h h1, (hs.sat.ob y ob hy).good hknown⟩
     have hρs0 : ∀ y, y < s.next → ρ y = y := fun y hy => by
      have c1 : cr i ≠ some y := fun e => by have := (hcr i y e).1; omega
      have c2 : ¬ un y := fun ⟨j, _, _, hc⟩ => by have := (hcr j y hc).1; omega
      simp only [ρ]
      rw [if_neg c1, if_neg c2]
     have mk : ∀ e' : ERes, (∀ p ∈ e'.U, ∀ ob, p.2 = some ob → ob.all (Good ρ M) ∧ ∃ o, getK (stW ops T W s M fun j => listed.getD j false).obs p.1 = some o) → (∀ ob, e'.nw = some ob → ob.all (Good ρ M)) →
       (match e'.nw with | none => o.dst = none ∧ W i = e'.U ∧ cr i = none | some ob => ∃ x, cr i = some x ∧ W i = (x, some ob) :: e'.U ∧ T i = mkD e'.how x) →
       ∀ K' a' w', In Γ K' w' → Sim K' Γ.own ((stW ops T W s M fun j => listed.getD j false).effS e' o.dst) a' w' → wpAny P .any ops.toArray (VPost Γ R0) fuel (listed.setIfInBounds i true) a' w' := by
      intro e' hgU hgN hcase K' a' w' h1 h2
      have hle : St.Le Γ.n0 ρ ((stW ops T W s M fun j => listed.getD j false).effS e' o.dst) (stW ops T W s M fun j => listed.getD j false || j == i) := by
       have hWi : ∀ y, y ∈ zdr (W i) → getK (zeo W (fun j => listed.getD j false || j == i) ops.length) y = getK (W i) y := fun y hy =>
               zgC W _ i y hy ops.length hil fun j hj hlt hk => hlast y hy j hj hlt hk
       have hWn : ∀ y, y ∉ zdr (W i) → getK (zeo W (fun j => listed.getD j false || j == i) ops.length) y = getK (zeo W (fun j => listed.getD j false) ops.length) y := fun y hy =>
               zbK W _ _ y ops.length fun j hj hk => by
                by_cases hji : j = i
                ·subst hji; exact absurd hk hy
                ·simp [hji]
       have hinj : ∀ y1 y2, y1 < M → y2 < M → ρ y1 = ρ y2 → y1 = y2 := fun y1 y2 g1 g2 hr => by
               simp only [ρ] at hr
               by_cases c1 : cr i = some y1 <;> by_cases c2 : cr i = some y2
               ·rw [c1] at c2; cases c2; rfl
               ·rw [if_pos c1, if_neg c2] at hr
                split at hr <;> omega
               ·rw [if_neg c1, if_pos c2] at hr
                split at hr <;> omega
               ·rw [if_neg c1, if_neg c2] at hr
                split at hr <;> split at hr <;> omega
       have hobs2 : ∀ y ob', getK (stW ops T W s M fun j => listed.getD j false || j == i).obs y = some ob' → y < M ∧
                ∃ ob, getK ((stW ops T W s M fun j => listed.getD j false).effS e' o.dst).obs (ρ y) = some ob ∧ Ob.le ρ ob ob' ∧ ob'.under M = true := fun y ob' hy => by
               simp only [stW, zaC] at hy
               cases hn : e'.nw with
               | none =>
                rw [hn] at hcase
                obtain ⟨hd0, hWU, hcn⟩ := hcase
                have hob : ∀ z, getK ((stW ops T W s M fun j => listed.getD j false).effS e' o.dst).obs z = match getK (W i) z with | some x => x | none => getK (stW ops T W s M fun j => listed.getD j false).obs z := fun z => by
                 simp only [St.effS, hn, zaC, hWU]
                 try rfl
                by_cases hk : y ∈ zdr (W i)
                ·rw [hWi y hk] at hy
                 obtain ⟨x, hx⟩ := zdG (W i) y hk
                 rw [hx] at hy
                 simp only at hy
                 subst hy
                 have hmem : (y, some ob') ∈ e'.U := by
                  rw [← hWU]
                  have : ∀ (l : Wr), getK l y = some (some ob') → (y, some ob') ∈ l := by
                   intro l
                   induction l with
                   | nil => intro h; cases h
                   | cons p l ih =>
                    obtain ⟨k', d'⟩ := p
                    intro h
                    rw [zaa] at h
                    by_cases hyk : y = k'
                    ·rw [if_pos hyk] at h; cases h; subst hyk; simp
                    ·rw [if_neg hyk] at h; exact List.mem_cons_of_mem _ (ih h)
                  exact this _ hx
                 obtain ⟨hga, o0, ho0⟩ := hgU _ hmem ob' rfl
                 obtain ⟨⟨hr, hlt⟩, _⟩ := hobs y o0 ho0
                 refine ⟨hlt, ob', ?_, (Ob.zcf hga).1, (Ob.zcf hga).2⟩
                 rw [hr, hob, hx]
                ·rw [hWn y hk] at hy
                 obtain ⟨⟨hr, hlt⟩, hga⟩ := hobs y ob' (by simp only [stW, zaC]; exact hy)
                 refine ⟨hlt, ob', ?_, (Ob.zcf hga).1, (Ob.zcf hga).2⟩
                 rw [hr, hob, zby (W i) y hk]
                 simp only [stW, zaC]
                 exact hy
               | some nb =>
                rw [hn] at hcase
                obtain ⟨x0, hcx, hWU, hTi⟩ := hcase
                have hx0 := hcr i x0 hcx
                have hob : ∀ z, z ≠ M → getK ((stW ops T W s M fun j => listed.getD j false).effS e' o.dst).obs z = match getK e'.U z with | some x => x | none => getK (stW ops T W s M fun j => listed.getD j false).obs z := fun z hz => by
                 have : ∀ (q : St) (d : D), (q.put o.dst d).obs = q.obs := fun q d => by cases o.dst <;> rfl
                 simp only [St.effS, hn, this, zaa]
                 rw [if_neg (by simpa [stW] using hz), zaC]
                 try rfl
                have hobM : getK ((stW ops T W s M fun j => listed.getD j false).effS e' o.dst).obs M = some nb := by
                 have : ∀ (q : St) (d : D), (q.put o.dst d).obs = q.obs := fun q d => by cases o.dst <;> rfl
                 simp only [St.effS, hn, this, zaa]
                 rw [if_pos (by simp [stW])]
                by_cases hyx : y = x0
                ·subst hyx
                 have hk : y ∈ zdr (W i) := by rw [hWU]; simp [zdr]
                 rw [hWi y hk, hWU, zaa, if_pos rfl] at hy
                 simp only at hy
                 cases hy
                 have hga := hgN ob' hn
                 refine ⟨hx0.2, ob', ?_, (Ob.zcf hga).1, (Ob.zcf hga).2⟩
                 simp only [ρ]
                 rw [if_pos hcx]
                 exact hobM
                ·by_cases hk : y ∈ zdr (W i)
                 ·rw [hWi y hk, hWU, zaa, if_neg hyx] at hy
                  have hk' : y ∈ e'.U.map (·.1) := by
                   rw [hWU] at hk
                   simp only [zdr, List.map_cons, List.mem_cons] at hk
                   exact hk.resolve_left hyx
                  obtain ⟨x, hx⟩ := zdG e'.U y hk'
                  rw [hx] at hy
                  simp only at hy
                  subst hy
                  have hmem : (y, some ob') ∈ e'.U := by
                   have : ∀ (l : Wr), getK l y = some (some ob') → (y, some ob') ∈ l := by
                    intro l
                    induction l with
                    | nil => intro h; cases h
                    | cons p l ih =>
                     obtain ⟨k', d'⟩ := p
                     intro h
                     rw [zaa] at h
                     by_cases hyk : y = k'
                     ·rw [if_pos hyk] at h; cases h; subst hyk; simp
                     ·rw [if_neg hyk] at h; exact List.mem_cons_of_mem _ (ih h)
                   exact this _ hx
                  obtain ⟨hga, o0, ho0⟩ := hgU _ hmem ob' rfl
                  obtain ⟨⟨hr, hlt⟩, _⟩ := hobs y o0 ho0
                  refine ⟨hlt, ob', ?_, (Ob.zcf hga).1, (Ob.zcf hga).2⟩
                  rw [hr, hob y (by omega), hx]
                 ·rw [hWn y hk] at hy
                  obtain ⟨⟨hr, hlt⟩, hga⟩ := hobs y ob' (by simp only [stW, zaC]; exact hy)
                  refine ⟨hlt, ob', ?_, (Ob.zcf hga).1, (Ob.zcf hga).2⟩
                  have hk' : y ∉ e'.U.map (·.1) := by
                   rw [hWU] at hk
                   simp only [zdr, List.map_cons, List.mem_cons, not_or] at hk
                   exact hk.2
                  rw [hr, hob y (by omega), zby e'.U y hk']
                  simp only [stW, zaC]
                  exact hy
       have henv2 : ∀ x d', getK (stW ops T W s M fun j => listed.getD j false || j == i).env x = some d' →
                (D.le ρ (((stW ops T W s M fun j => listed.getD j false).effS e' o.dst).at x) d' ∧ d'.under M = true) ∧ x < s.n := fun x d' hx => by
               simp only [stW] at hx
               by_cases hdx : o.dst = some x
               ·rw [henv x hdx] at hx
                cases hx
                have hlt : x < s.n := by rw [hdx] at hpo; exact hpo
                cases hn : e'.nw with
                | none =>
                 rw [hn] at hcase
                 rw [hcase.1] at hdx
                 cases hdx
                | some nb =>
                 rw [hn] at hcase
                 obtain ⟨x0, hcx, hWU, hTi⟩ := hcase
                 have hx0 := hcr i x0 hcx
                 have hρ : ρ x0 = M := by simp only [ρ]; rw [if_pos hcx]
                 refine ⟨⟨.inr (.inl ?_), ?_⟩, hlt⟩
                 ·rw [hTi]
                  simp only [St.effS, hn, hdx, St.put, St.at, zaa, if_true, Option.getD_some]
                  cases e'.how <;> simp [mkD, D.ren, hρ, stW]
                 ·rw [hTi]
                  cases e'.how <;> simp [mkD, D.under, hx0.2]
               ·rw [henv' x hdx] at hx
                obtain ⟨g1, g2⟩ := hs.env x d' hx
                have hgd := g2.good hknown
                have hat : ((stW ops T W s M fun j => listed.getD j false).effS e' o.dst).at x = d' := by
                 have : ∀ (q : St) (d : D), getK (q.put o.dst d).env x = getK q.env x := fun q d => by
                  cases hd : o.dst with
                  | none => rfl
                  | some y =>
                   have hne : ¬ x = y := fun e => hdx (by rw [hd, e])
                   simp only [St.put, zaa, if_neg hne]
                 simp only [St.at, St.effS]
                 cases hn : e'.nw with
                 | none => simp only [stW, hx]; rfl
                 | some nb => simp only [this, stW, hx]; rfl
                rw [hat]
                exact ⟨⟨.inr (.inl hgd.1.symm), hgd.2⟩, g1⟩
       refine ⟨?_, fun x d' hx => (henv2 x d' hx).1, fun x d' hx => ?_, hobs2, fun y1 y2 o1 o2 g1 g2 hr => hinj y1 y2 (hobs2 y1 o1 g1).1 (hobs2 y2 o2 g2).1 hr, fun j hj => ?_⟩
       ·have : ∀ (q : St) (d : D), (q.put o.dst d).n = q.n := fun q d => by cases o.dst <;> rfl
        simp only [St.effS]
        cases e'.nw <;> simp only [this] <;> rfl
       ·have : ∀ (q : St) (d : D), (q.put o.dst d).n = q.n := fun q d => by cases o.dst <;> rfl
        have e2 : ((stW ops T W s M fun j => listed.getD j false).effS e' o.dst).n = s.n := by
         simp only [St.effS]
         cases e'.nw <;> simp only [this] <;> rfl
        rw [e2]
        exact (henv2 x d' hx).2
       ·have c1 : cr i ≠ some j := fun e => by have := (hcr i j e).1; omega
        have c2 : ¬ un j := fun ⟨q, _, _, hc⟩ => by have := (hcr q j hc).1; omega
        refine ⟨by simp only [ρ]; rw [if_neg c1, if_neg c2], ?_⟩
        show j < M
        omega
      obtain ⟨g1, g2⟩ := Sim.weak h1 h2 hle
      refine go _ a' w' g1 g2 fun j x hj hu hc => ?_
      simp only [Kr.ren]
      split
      ·have c1 : cr i ≠ some x := fun e => by
               have := hcr1 i j x e hc
               subst this
               simp at hu
       have c2 : un x := ⟨j, hj, hu, hc⟩
       simp only [ρ]
       rw [if_neg c1, if_pos c2]
       refine h2.hdr _ ?_
       have : ∀ (q : St) (d : D), (q.put o.dst d).next = q.next := fun q d => by cases o.dst <;> rfl
       simp only [St.effS]
       cases e'.nw <;> simp only [this, stW] <;> omega
      ·rfl
     rcases hv with (⟨hv, hW, hcn, hR⟩ | ⟨e, he, hR, hcase⟩) | ⟨⟨fop, args, f, caps, O, O', L, hco, hcf, hcb, hR, hW, hkeys, hsm, hO, hnd, ⟨hdu, hOu⟩, hret⟩, hcn⟩ | ⟨fop, args, f, caps, O, e, nb, x0, hco, hcf, hcb, hR, ⟨heU, heN, hnu⟩, hcx, hO, hret⟩
     ·replace hv := zgE (s := stW ops T W s M fun j => decide (j < i)) (s' := stW ops T W s M fun j => listed.getD j false) (by rw [← hR]; exact hloc) hopd hv
      exact .inl (zgD hv hin hs fun K' v w' h1 h2 h3 h4 h5 => next hW K' v w' h1 h2 h3 h4 h5)
     ·
      replace he := zd0 (s := stW ops T W s M fun j => decide (j < i)) (s' := stW ops T W s M fun j => listed.getD j false) (by rw [← hR]; exact hloc) hopd he
      have hgood := zmg (g := Good ρ M) (fun _ => ⟨by simp [D.ren], by simp [D.under]⟩) (fun cs h => h.agg) he (fun x hx => (zaL hs x).good hknown) (fun y ob hy => (hobs y ob hy).2)
      obtain ⟨e', he', ⟨rfl, hgU, hgN⟩⟩ := Lin.effD.2 _ hgood
      have he2 : effD P (stW ops T W s M fun j => listed.getD j false) o.op fun e => zaI o.dst (stW ops T W s M fun j => listed.getD j false) ∧ (e.nw = none → o.dst = none) ∧
               ((stW ops T W s M fun j => listed.getD j false).effS e o.dst) = (stW ops T W s M fun j => listed.getD j false).effS e' o.dst :=
       Lin.effD.1 _ _ (fun e hee => by
               subst hee
               refine ⟨hpo, fun hn => ?_, rfl⟩
               rw [hn] at hcase
               exact hcase.1) he
      refine .inl (ze5 (k := fun s' => s' = (stW ops T W s M fun j => listed.getD j false).effS e' o.dst) (zij he2) K a w hin hs _ _ (fun K' a' w' s' h1 h2 h3 => ?_) fun ch K' a' w' s' h1 h2 h3 => .inl ⟨K', s', h1, h2, h3⟩)
      have h3' : s' = _ := h3
      subst h3'
      exact mk e' hgU hgN hcase K' a' w' h1 h2
     ·
      let un : Nat → Prop := fun y => ∃ j, j < ops.length ∧ (listed.getD j false || j == i) = false ∧ cr j = some y
      let ρ : Nat → Nat := fun y => open Classical in if un y then M + 1 + y else y
      have hρs : ∀ y, y < s.next → ρ y = y := fun y hy => by
       have : ¬ un y := fun ⟨j, _, _, hc⟩ => by have := (hcr j y hc).1; omega
       simp only [ρ]; rw [if_neg this]
      have hknown : ∀ y h, K.hdr y = some h → ρ y = y ∧ y < M := fun y h hy => by
       have h2 : ¬ un y := fun ⟨j, hj, hu, hc⟩ => by
               simp only [Bool.or_eq_false_iff] at hu
               rw [hfr j y hj hu.1 hc] at hy
               cases hy
       refine ⟨by simp only [ρ]; rw [if_neg h2], ?_⟩
       rcases Nat.lt_or_ge y M with h | h
       ·exact h
       ·rw [hs.hdr y h] at hy; cases hy
      have hobs : ∀ y ob, getK (stW ops T W s M fun j => listed.getD j false).obs y = some ob → (ρ y = y ∧ y < M) ∧ ob.all (Good ρ M) := fun y ob hy => by
       have hok := hs.sat.ob y ob hy
       obtain ⟨h, h1, _⟩ := hok
       exact ⟨hknown y h h1, (hs.sat.ob y ob hy).good hknown⟩
      have hOact : ∀ p ∈ O, getK (stW ops T W s M fun j => listed.getD j false).obs p.1 = some p.2 := fun p hp => by
       rw [← hloc p.1 (by rw [hR]; exact List.mem_map.2 ⟨p, hp, rfl⟩)]
       exact hO p hp
      have hOget : ∀ y ob, getK O y = some ob → getK (stW ops T W s M fun j => listed.getD j false).obs y = some ob := fun y ob h => hOact _ (zeR h)
      let F := (stW ops T W s M fun j => listed.getD j false).obs.filter fun p => !(O.map (·.1)).contains p.1
      have hFg : ∀ y, getK F y = if (O.map (·.1)).contains y = true then none else getK (stW ops T W s M fun j => listed.getD j false).obs y := fun y => zcl _ _ y
      have hOn : ∀ y, ¬ (O.map (·.1)).contains y = true → getK O y = none := fun y h => zby O y (by simpa using h)
      have heq : ∀ y, getK (stW ops T W s M fun j => listed.getD j false).obs y = getK (F ++ O) y := fun y => by
       rw [zab, hFg]
       by_cases hy : (O.map (·.1)).contains y = true
       ·rw [if_pos hy]
        obtain ⟨x, hx⟩ := zcB (l := O) (y := y) (by simpa using hy)
        rw [hx, hOget y x hx]
       ·rw [if_neg hy, hOn y hy]
        cases getK (stW ops T W s M fun j => listed.getD j false).obs y <;> rfl
      have hF : ∀ y ob, getK F y = some ob → getK O y = none := fun y ob h => by
       rw [hFg] at h
       by_cases hy : (O.map (·.1)).contains y = true
       ·rw [if_pos hy] at h; cases h
       ·exact hOn y hy
      have hopdS : ∀ x, x ∈ fop :: args → opd (stW ops T W s M fun j => listed.getD j false) x = opd (stW ops T W s M fun j => decide (j < i)) x := fun x hx => (hopd x (by
       rcases o with ⟨odst, oop, ot, opos, oaf, og⟩
       unfold zbT at hco
       split at hco
       ·rename_i c hop
        simp only at hop
        subst hop
        split at hco
        ·cases hco
         rename_i f' hcal
         simp only [Op.operands, Call.operands, hcal]
         simp only [List.mem_cons] at hx
         simp
         rcases hx with rfl | hx
         ·exact .inl rfl
         ·exact .inr (by simpa using hx)
        ·cases hco
       ·cases hco)).symm
      have hcall : CallP P Γ fop args o.dst (stW ops T W s M fun j => listed.getD j false) fun s' => ∃ o1, (∀ y, getK o1 y = getK O' y) ∧ s' = (({ (stW ops T W s M fun j => listed.getD j false) with obs := F ++ o1, next := M } : St).put o.dst (T i)) :=
       CallP.xF F O (hret M (Nat.le_refl _)) heq hF (by rw [hopdS fop (by simp)]; exact hcf) hcb (by rw [List.map_congr_left fun x hx => hopdS x (by simp [hx])]) hpo
               (fun d o1 nx' _ ⟨h1, h2, h3⟩ => ⟨o1, h2, by cases h1; rw [h3]⟩) (fun ch o1 nx' _ ⟨h1, _⟩ => by cases h1)
      have heff : EffP P Γ o (stW ops T W s M fun j => listed.getD j false) fun s' => ∃ o1, (∀ y, getK o1 y = getK O' y) ∧ s' = (({ (stW ops T W s M fun j => listed.getD j false) with obs := F ++ o1, next := M } : St).put o.dst (T i)) := by
       have e := hcall
       rcases o with ⟨odst, oop, ot, opos, oaf, og⟩
       unfold zbT at hco
       split at hco
       ·rename_i c hop
        simp only at hop
        subst hop
        split at hco
        ·cases hco
         rename_i f' hcal
         obtain ⟨cal, cargs, cts⟩ := c
         simp only at hcal
         subst hcal
         exact EffP.guard (e cts ot opos oaf)
        ·cases hco
       ·cases hco
      refine .inl (heff K a w hin hs _ _ (fun K' a' w' s' h1 h2 h3 => ?_) fun ch K' a' w' s' h1 h2 h3 => .inl ⟨K', s', h1, h2, h3⟩)
      obtain ⟨o1, ho1, rfl⟩ := h3
      have hWi : ∀ y, y ∈ zdr (W i) → getK (zeo W (fun j => listed.getD j false || j == i) ops.length) y = getK (W i) y := fun y hy =>
       zgC W _ i y hy ops.length hil fun j hj hlt hk => hlast y hy j hj hlt hk
      have hWn : ∀ y, y ∉ zdr (W i) → getK (zeo W (fun j => listed.getD j false || j == i) ops.length) y = getK (zeo W (fun j => listed.getD j false) ops.length) y := fun y hy =>
       zbK W _ _ y ops.length fun j hj hk => by
               by_cases hji : j = i
               ·subst hji; exact absurd hk hy
               ·simp [hji]
      have hWg : ∀ y, getK (W i) y = if L.contains y = true then (getK O' y).map some else none := fun y => by
       rw [hW, ziY, zkh]
       split <;> rfl
      have hkW : ∀ y, y ∈ zdr (W i) ↔ L.contains y = true ∧ y ∈ O.map (·.1) := fun y => by
       rw [hW, ← hkeys]
       simp only [zdr, List.map_map, List.mem_map, List.mem_filter, Function.comp]
       exact ⟨fun ⟨p, ⟨h1, h2⟩, h3⟩ => ⟨h3 ▸ h2, p, h1, h3⟩, fun ⟨h1, p, h2, h3⟩ => ⟨p, ⟨h2, by rw [h3]; exact h1⟩, h3⟩⟩
      have pobs : ∀ (q : St) (d : D), (q.put o.dst d).obs = q.obs := fun q d => by cases o.dst <;> rfl
      have pn : ∀ (q : St) (d : D), (q.put o.dst d).n = q.n := fun q d => by cases o.dst <;> rfl
      have pnext : ∀ (q : St) (d : D), (q.put o.dst d).next = q.next := fun q d => by cases o.dst <;> rfl
      have hobs2 : ∀ y ob', getK (stW ops T W s M fun j => listed.getD j false || j == i).obs y = some ob' → y < M ∧
               ∃ ob, getK (({ (stW ops T W s M fun j => listed.getD j false) with obs := F ++ o1, next := M } : St).put o.dst (T i)).obs (ρ y) = some ob ∧ Ob.le ρ ob ob' ∧ ob'.under M = true := fun y ob' hy => by
       rw [pobs]
       simp only [stW, zaC] at hy
       by_cases hk : y ∈ zdr (W i)
       ·rw [hWi y hk, hWg, if_pos ((hkW y).1 hk).1] at hy
        have hyO : y ∈ O.map (·.1) := ((hkW y).1 hk).2
        obtain ⟨x0, hx0⟩ := zcB (l := O) (y := y) hyO
        obtain ⟨⟨hr, hlt⟩, _⟩ := hobs y x0 (hOget y x0 hx0)
        cases hq : getK O' y with
        | none =>
         obtain ⟨x1, hx1⟩ := zcB (l := O') (y := y) (by rw [hkeys]; exact hyO)
         rw [hx1] at hq
         cases hq
        | some ob =>
         rw [hq] at hy
         have hy : ob = ob' := by simpa using hy
         subst hy
         have hga := zfE (M := M) hρs hM (hOu _ (zeR hq))
         refine ⟨hlt, ob, ?_, (Ob.zcf hga).1, (Ob.zcf hga).2⟩
         rw [hr, zab, hFg, if_pos (by simpa using hyO), ho1 y, hq]
       ·rw [hWn y hk] at hy
        obtain ⟨⟨hr, hlt⟩, hga⟩ := hobs y ob' (by simp only [stW, zaC]; exact hy)
        refine ⟨hlt, ob', ?_, (Ob.zcf hga).1, (Ob.zcf hga).2⟩
        by_cases hyO : (O.map (·.1)).contains y = true
        ·have hL : L.contains y = false := by
          cases hL : L.contains y with
          | false => rfl
          | true => exact absurd ((hkW y).2 ⟨hL, by simpa using hyO⟩) hk
         obtain ⟨x0, hx0⟩ := zcB (l := O) (y := y) (by simpa using hyO)
         have hx1 := hOget y x0 hx0
         simp only [stW, zaC] at hx1
         rw [hy] at hx1
         rw [hr, zab, hFg, if_pos hyO, ho1 y, hsm y hL, hx0]
         exact hx1.symm
        ·rw [hr, zab, hFg, if_neg hyO]
         simp only [stW, zaC]
         rw [hy]
      have henv2 : ∀ x d', getK (stW ops T W s M fun j => listed.getD j false || j == i).env x = some d' →
               (D.le ρ ((({ (stW ops T W s M fun j => listed.getD j false) with obs := F ++ o1, next := M } : St).put o.dst (T i)).at x) d' ∧ d'.under M = true) ∧ x < s.n := fun x d' hx => by
       simp only [stW] at hx
       by_cases hdx : o.dst = some x
       ·rw [henv x hdx] at hx
        cases hx
        have hlt : x < s.n := by rw [hdx] at hpo; exact hpo
        have hg := zcH (M := M) hρs hM hdu
        refine ⟨⟨.inr (.inl ?_), hg.2⟩, hlt⟩
        simp only [hdx, St.put, St.at, zaa, if_true, Option.getD_some]
        exact hg.1.symm
       ·rw [henv' x hdx] at hx
        obtain ⟨g1, g2⟩ := hs.env x d' hx
        have hgd := g2.good hknown
        have hat : (({ (stW ops T W s M fun j => listed.getD j false) with obs := F ++ o1, next := M } : St).put o.dst (T i)).at x = d' := by
         have : ∀ (q : St) (d : D), getK (q.put o.dst d).env x = getK q.env x := fun q d => by
          cases hd : o.dst with
          | none => rfl
          | some y =>
           have hne : ¬ x = y := fun e => hdx (by rw [hd, e])
           simp only [St.put, zaa, if_neg hne]
         simp only [St.at, this, stW, hx]
         try rfl
        rw [hat]
        exact ⟨⟨.inr (.inl hgd.1.symm), hgd.2⟩, g1⟩
      have hinj : ∀ y1 y2, y1 < M → y2 < M → ρ y1 = ρ y2 → y1 = y2 := fun y1 y2 g1 g2 hr => by
       simp only [ρ] at hr
       split at hr <;> split at hr <;> omega
      have hle : St.Le Γ.n0 ρ (({ (stW ops T W s M fun j => listed.getD j false) with obs := F ++ o1, next := M } : St).put o.dst (T i)) (stW ops T W s M fun j => listed.getD j false || j == i) := by
       refine ⟨by rw [pn]; rfl, fun x d' hx => (henv2 x d' hx).1, fun x d' hx => by rw [pn]; exact (henv2 x d' hx).2, hobs2, fun y1 y2 o1 o2 g1 g2 hr => hinj y1 y2 (hobs2 y1 o1 g1).1 (hobs2 y2 o2 g2).1 hr, fun j hj => ⟨hρs j (by omega), ?_⟩⟩
       show j < M
       omega
      obtain ⟨g1, g2⟩ := Sim.weak h1 h2 hle
      refine go _ a' w' g1 g2 fun j x hj hu hc => ?_
      simp only [Kr.ren]
      split
      ·have c2 : un x := ⟨j, hj, hu, hc⟩
       simp only [ρ]
       rw [if_pos c2]
       refine h2.hdr _ ?_
       rw [pnext]
       show M ≤ M + 1 + x
       omega
      ·rfl
     ·
      have hOact : ∀ p ∈ O, getK (stW ops T W s M fun j => listed.getD j false).obs p.1 = some p.2 := fun p hp => by
       rw [← hloc p.1 (by rw [hR]; exact List.mem_map.2 ⟨p, hp, rfl⟩)]
       exact hO p hp
      have hOget : ∀ y ob, getK O y = some ob → getK (stW ops T W s M fun j => listed.getD j false).obs y = some ob := fun y ob h => hOact _ (zeR h)
      let F := (stW ops T W s M fun j => listed.getD j false).obs.filter fun p => !(O.map (·.1)).contains p.1
      have hFg : ∀ y, getK F y = if (O.map (·.1)).contains y = true then none else getK (stW ops T W s M fun j => listed.getD j false).obs y := fun y => zcl _ _ y
      have hOn : ∀ y, ¬ (O.map (·.1)).contains y = true → getK O y = none := fun y h => zby O y (by simpa using h)
      have heq : ∀ y, getK (stW ops T W s M fun j => listed.getD j false).obs y = getK (F ++ O) y := fun y => by
       rw [zab, hFg]
       by_cases hy : (O.map (·.1)).contains y = true
       ·rw [if_pos hy]
        obtain ⟨x, hx⟩ := zcB (l := O) (y := y) (by simpa using hy)
        rw [hx, hOget y x hx]
       ·rw [if_neg hy, hOn y hy]
        cases getK (stW ops T W s M fun j => listed.getD j false).obs y <;> rfl
      have hF : ∀ y ob, getK F y = some ob → getK O y = none := fun y ob h => by
       rw [hFg] at h
       by_cases hy : (O.map (·.1)).contains y = true
       ·rw [if_pos hy] at h; cases h
       ·exact hOn y hy
      have hopdS : ∀ x, x ∈ fop :: args → opd (stW ops T W s M fun j => listed.getD j false) x = opd (stW ops T W s M fun j => decide (j < i)) x := fun x hx => (hopd x (by
       rcases o with ⟨odst, oop, ot, opos, oaf, og⟩
       unfold zbT at hco
       split at hco
       ·rename_i c hop
        simp only at hop
        subst hop
        split at hco
        ·cases hco
         rename_i f' hcal
         simp only [Op.operands, Call.operands, hcal]
         simp only [List.mem_cons] at hx
         simp
         rcases hx with rfl | hx
         ·exact .inl rfl
         ·exact .inr (by simpa using hx)
        ·cases hco
       ·cases hco)).symm
      have hMn : getK (stW ops T W s M fun j => listed.getD j false).obs M = none := by
       cases hq : getK (stW ops T W s M fun j => listed.getD j false).obs M with
       | none => rfl
       | some ob =>
               obtain ⟨h, h1, _⟩ := hs.sat.ob M ob hq
               rw [hs.hdr M (Nat.le_refl _)] at h1
               cases h1
      have hcall : CallP P Γ fop args o.dst (stW ops T W s M fun j => listed.getD j false) fun s' => ∃ o1, (∀ y, getK o1 y = getK ((M, nb) :: O) y) ∧ s' = (({ (stW ops T W s M fun j => listed.getD j false) with obs := F ++ o1, next := M + 1 } : St).put o.dst (mkD e.how M)) :=
       CallP.xF F O (hret M (by first | exact Nat.le_refl _ | exact hM)) heq hF (by rw [hopdS fop (by simp)]; exact hcf) hcb (by rw [List.map_congr_left fun x hx => hopdS x (by simp [hx])]) hpo
               (fun d o1 nx' _ ⟨h1, h2, h3⟩ => ⟨o1, h2, by cases h1; rw [h3]⟩) (fun ch o1 nx' _ ⟨h1, _⟩ => by cases h1)
      have heff : EffP P Γ o (stW ops T W s M fun j => listed.getD j false) fun s' => ∃ o1, (∀ y, getK o1 y = getK ((M, nb) :: O) y) ∧ s' = (({ (stW ops T W s M fun j => listed.getD j false) with obs := F ++ o1, next := M + 1 } : St).put o.dst (mkD e.how M)) := by
       have e := hcall
       rcases o with ⟨odst, oop, ot, opos, oaf, og⟩
       unfold zbT at hco
       split at hco
       ·rename_i c hop
        simp only at hop
        subst hop
        split at hco
        ·cases hco
         rename_i f' hcal
         obtain ⟨cal, cargs, cts⟩ := c
         simp only at hcal
         subst hcal
         exact EffP.guard (e cts ot opos oaf)
        ·cases hco
       ·cases hco
      refine .inl (heff K a w hin hs _ _ (fun K' a' w' s' h1 h2 h3 => ?_) fun ch K' a' w' s' h1 h2 h3 => .inl ⟨K', s', h1, h2, h3⟩)
      obtain ⟨o1, ho1, rfl⟩ := h3
      refine mk e (by rw [heU]; simp) (fun ob h => by rw [heN] at h; cases h; exact zfE hρs0 hM hnu) (by rw [heN]; exact ⟨x0, hcx⟩) K' a' w' h1 (h2.eqo ?_)
      have pobs : ∀ (q : St) (d : D), (q.put o.dst d).obs = q.obs := fun q d => by cases o.dst <;> rfl
      have pn : ∀ (q : St) (d : D), (q.put o.dst d).n = q.n := fun q d => by cases o.dst <;> rfl
      have pnext : ∀ (q : St) (d : D), (q.put o.dst d).next = q.next := fun q d => by cases o.dst <;> rfl
      have penv : ∀ (q q' : St) (d : D) (x : Nat), q.env = q'.env → getK (q.put o.dst d).env x = getK (q'.put o.dst d).env x := fun q q' d x e => by cases o.dst <;> simp [St.put, e]
      simp only [St.effS, heN]
      refine ⟨by rw [pn, pn], fun y => ?_, by rw [pnext, pnext]; rfl, fun x => penv _ _ _ x rfl⟩
      rw [pobs, pobs]
      simp only [heU]
      rw [zab, ho1, zaa, zaa]
      show _ = if y = M then some nb else getK (zaP [] (stW ops T W s M fun j => listed.getD j false).obs) y
      have hap : zaP [] (stW ops T W s M fun j => listed.getD j false).obs = (stW ops T W s M fun j => listed.getD j false).obs := rfl
      rw [hap]
      by_cases hy : y = M
      ·subst hy
       have hFM : getK F y = none := by rw [hFg, hMn]; split <;> rfl
       rw [hFM]
       simp
      ·rw [if_neg hy, if_neg hy, heq y, zab]
    ·rw [if_neg (by rw [hw]; simp)]
     exact next hv.2 K undef w hin (.refl _) rfl hs.sat (by rw [hv.1]; exact .u _ _ (.oth _))
 have h0 : (fun j => (Array.replicate ops.toArray.size false).getD j false) = fun _ => false := funext fun j => by
  by_cases hj : j < ops.length <;> simp [hj]
 refine key _ _ K a w0 (by simp) (by simp) (fun j y hj hS => ?_) hin0 ?_ (fun j x _ _ hc => hs.hdr x (hcr j x hc).1) (fun p _ _ => congrFun h0 p)
 ·have : (Array.replicate ops.toArray.size false).getD j false = false := congrFun h0 j
  rw [this] at hS
  cases hS
 ·rw [h0]
  have none : ∀ (l : List Oper) (i : Nat) (e : List (Nat × D)), zdA T (fun _ => false) l i e = e := by
   intro l
   induction l with
   | nil => intro i e; rfl
   | cons o l ih => intro i e; simp [zdA, ih]
  have wn : ∀ m, zeo W (fun _ => false) m = [] := by
   intro m
   induction m with
   | zero => rfl
   | succ m ih => simp [zeo, ih]
  refine ⟨hs0.sat.eqo fun y => ?_, hs0.defers, hs0.size, fun x d hx => hs0.env x d ?_, fun y hy => hs0.hdr y (Nat.le_trans hM hy)⟩
  ·simp only [stW, wn]; rfl
  ·simp only [stW, none] at hx; exact hx
abbrev zqI := Ent × Nat
abbrev Fp4 := List (List Nat × List Nat × Nat)
def eE (E : Nat → zqI) (j : Nat) : Ent := (E j).1
def tF4 (E : Nat → zqI) (n : Nat) : Fp4 := (List.range n).map fun j => (tR (eE E) j, zdr (tW (eE E) j), (E j).2)
def ztb (P : Program) (N : Nat) (s : St) (o : O1) (e : Ent) : Prop :=
 match o.guard with
 | none => zrj P N s o.op o.dst e.1 e.2.1 e.2.2.1 e.2.2.2
 | some (t, want) => (∃ b, getK s.env t = some (.u (.bool b)) ∧ if b = want then zrj P N s o.op o.dst e.1 e.2.1 e.2.2.1 e.2.2.2 else e.1 = .un ∧ e.2.1 = [] ∧ e.2.2.1 = none) ∨
  (getK s.env t = some .un ∧ e.1 = .un ∧ e.2.1 = [] ∧ e.2.2.1 = none)
def Op4 (P : Program) (Γ : Ctx) (N : Nat) (s : St) (o : O1) (e : zqI) : Prop :=
 if e.2 = 2 then e.1.2.1 = [] ∧ e.1.2.2.1 = none else if e.2 = 1 then o.guard = none ∧ zrh P Γ s o.op ∧ e.1.2.1 = [] ∧ e.1.2.2.1 = none else e.2 = 0 ∧ ztb P N s o e.1
def zku (P : Program) (Γ : Ctx) (N : Nat) : List O1 → St → Fp4 → (St → Fp4 → Prop) → Prop
 | [], s, fp, k => k s fp
 | o :: rest, s, fp, k => ∃ e : zqI, zaI o.dst s ∧ Op4 P Γ N s o e ∧ (∀ x, e.1.2.2.1 = some x → x = s.next) ∧ zku P Γ N rest (s.app o.dst e.1) (fp ++ [(e.1.2.2.2, zdr e.1.2.1, e.2)]) k
def HD4 (P : Program) (Γ : Ctx) (N : Nat) (l : List O1) (s : St) (fp : Fp4) (C : Fp4 → Prop) (k : St → Prop) : Prop :=
 ∀ s0 : St, s0.Eqo s → zku P Γ N l s0 fp fun s1 fp => C fp ∧ ((∀ p ∈ fp, p.2.2 ≠ 1) → ∃ s', s1.Eqo s' ∧ k s')
/-- The head of a list of operations goes through. -/
def zns (P : Program) (Γ : Ctx) (N : Nat) (o : O1) (rest : List O1) (s : St) (fp : Fp4) (C : Fp4 → Prop) (k : St → Prop) : Prop :=
 ∀ s0 : St, s0.Eqo s → ∃ e : zqI, zaI o.dst s0 ∧ Op4 P Γ N s0 o e ∧ e.2 ≠ 1 ∧ (∀ x, e.1.2.2.1 = some x → x = s0.next) ∧ zku P Γ N rest (s0.app o.dst e.1) (fp ++ [(e.1.2.2.2, zdr e.1.2.1, e.2)]) fun s1 fp => C fp ∧ ((∀ p ∈ fp, p.2.2 ≠ 1) → ∃ s', s1.Eqo s' ∧ k s')
theorem HD4.of_h {P Γ N o rest s fp C k} (h : zns P Γ N o rest s fp C k) : HD4 P Γ N (o :: rest) s fp C k := fun s0 e => by
 obtain ⟨en, h1, h2, _, h3, h4⟩ := h s0 e
 exact ⟨en, h1, h2, h3, h4⟩
theorem zbH {P Γ N s fp C k} (hC : C fp) (h : k s) : HD4 P Γ N [] s fp C k := fun s0 e => ⟨hC, fun _ => ⟨s, e, h⟩⟩
theorem zf4 {P Γ N s fp C k} (hC : C fp) (h : (fp.any fun p => p.2.2 == 1) = true) : HD4 P Γ N [] s fp C k := fun s0 e => ⟨hC, fun h1 => by
 obtain ⟨p, hp, hk⟩ := List.any_eq_true.1 h
 exact absurd (by simpa using hk) (h1 p hp)⟩
theorem zjf {P Γ N s dst op rest fp C k} (_ : zbN op = false) (h : valD P s op fun d => zaI dst s ∧ HD4 P Γ N rest (s.put dst d) (fp ++ [(zbO s op, [], 0)]) C k) : zns P Γ N ⟨dst, op, none⟩ rest s fp C k := fun s0 e => by
 obtain ⟨d, hv, hp, hr⟩ := Lin.valD.2 _ h
 refine ⟨((d, [], none, zbO s op), 0), by cases dst <;> simp_all [zaI, e.1], ?_, by simp, fun x hx => (by cases hx), hr _ (e.put dst d)⟩
 unfold Op4
 rw [if_neg (by simp), if_neg (by simp)]
 exact ⟨rfl, .inl (.inl ⟨by rw [zpd e]; exact hv, rfl, rfl, (zg4 e op).symm⟩)⟩
theorem zqn {P Γ N s dst op rest fp C k} (_ : zbN op = true) (h : effD P s op fun e => zaI dst s ∧ (e.nw = none → dst = none) ∧
  HD4 P Γ N rest (s.effS e dst) (fp ++ [(zbO s op, match e.nw with | none => (e.U.map (·.1), 0) | some _ => (s.next :: e.U.map (·.1), 0))]) C k) : zns P Γ N ⟨dst, op, none⟩ rest s fp C k := fun s0 e0 => by
 obtain ⟨e, hv, hp, hd, hr⟩ := Lin.effD.2 _ h
 have hp0 : zaI dst s0 := by cases dst <;> simp_all [zaI, e0.1]
 have hv0 : effD P s0 op (· = e) := by rw [zpV e0]; exact hv
 cases hn : e.nw with
 | none =>
  obtain rfl := hd hn
  refine ⟨((.any, e.U, none, zbO s op), 0), hp0, ?_, by simp, fun x hx => (by cases hx), ?_⟩
  ·unfold Op4
   rw [if_neg (by simp), if_neg (by simp)]
   exact ⟨rfl, .inl (.inr ⟨e, hv0, (zg4 e0 op).symm, by rw [hn]; exact ⟨rfl, rfl, rfl⟩⟩)⟩
  rw [hn] at hr
  refine hr _ ?_
  simp only [St.app, St.effS, hn, St.put]
  exact ⟨e0.1, fun x => by simp only [zaC, e0.2.1 x], e0.2.2.1, e0.2.2.2⟩
 | some ob =>
  refine ⟨((mkD e.how s0.next, (s0.next, some ob) :: e.U, some s0.next, zbO s op), 0), hp0, ?_, by simp, fun x hx => (by cases hx; rfl), ?_⟩
  ·unfold Op4
   rw [if_neg (by simp), if_neg (by simp)]
   exact ⟨rfl, .inl (.inr ⟨e, hv0, (zg4 e0 op).symm, by rw [hn]; exact ⟨s0.next, rfl, rfl, rfl⟩⟩)⟩
  rw [hn] at hr
  have h1 := hr (s0.app dst (mkD e.how s0.next, (s0.next, some ob) :: e.U, some s0.next, zbO s op)) (by
   simp only [St.app, St.effS, hn, e0.2.2.1]
   apply St.Eqo.put
   refine ⟨e0.1, fun x => ?_, by simp, e0.2.2.2⟩
   simp only [zaP, zak, zaa, zaC, e0.2.1 x])
  simp only [zdr, List.map_cons]
  rw [e0.2.2.1] at h1 ⊢
  exact h1
theorem zbo {P Γ N s dst op rest fp C k} (h0 : zbN op = false) (h : valD P s op fun d => zaI dst s ∧ HD4 P Γ N rest (s.put dst d) (fp ++ [(zbO s op, [], 0)]) C k) : HD4 P Γ N (⟨dst, op, none⟩ :: rest) s fp C k := .of_h (zjf h0 h)
theorem zb8 {P Γ N s dst op rest fp C k} (h0 : zbN op = true) (h : effD P s op fun e => zaI dst s ∧ (e.nw = none → dst = none) ∧
  HD4 P Γ N rest (s.effS e dst) (fp ++ [(zbO s op, match e.nw with | none => (e.U.map (·.1), 0) | some _ => (s.next :: e.U.map (·.1), 0))]) C k) : HD4 P Γ N (⟨dst, op, none⟩ :: rest) s fp C k := .of_h (zqn h0 h)
theorem zhB {P Γ N s dst op rest fp C k t want b} (hb : getK s.env t = some (.u (.bool b))) (hp : zaI dst s)
  (hy : b = want → zns P Γ N ⟨dst, op, none⟩ rest (s.put (some t) (.u (.bool want))) fp C k)
  (hn : b = !want → HD4 P Γ N rest ((s.put (some t) (.u (.bool (!want)))).put dst .un) (fp ++ [([], [], 0)]) C k) : HD4 P Γ N (⟨dst, op, some (t, want)⟩ :: rest) s fp C k := fun s0 e => by
 have lit : ∀ b', b = b' → s.Eqo (s.put (some t) (.u (.bool b'))) := fun b' e' => ⟨rfl, fun _ => rfl, rfl, fun x => by
  subst e'
  simp only [St.put, zaa]
  split
  ·rename_i hx; rw [hx, hb]
  ·rfl⟩
 have hp0 : zaI dst s0 := by cases dst <;> simp_all [zaI, e.1]
 by_cases hw : b = want
 ·have e1 := e.trans (lit want hw)
  obtain ⟨en, h1, h2, h5, h3, h4⟩ := hy hw s0 e1
  refine ⟨en, h1, ?_, h3, h4⟩
  unfold Op4 at h2 ⊢
  by_cases h6 : en.2 = 2
  ·rw [if_pos h6] at h2 ⊢
   exact h2
  ·rw [if_neg h6, if_neg h5] at h2 ⊢
   exact ⟨h2.1, .inl ⟨b, by rw [e.2.2.2 t]; exact hb, by rw [if_pos hw]; exact h2.2⟩⟩
 ·have hw' : b = !want := by cases b <;> cases want <;> simp_all
  have e1 := e.trans (lit _ hw')
  refine ⟨((.un, [], none, []), 0), hp0, ?_, fun x hx => (by cases hx), hn hw' _ (e1.put dst .un)⟩
  unfold Op4
  rw [if_neg (by simp), if_neg (by simp)]
  exact ⟨rfl, .inl ⟨b, by rw [e.2.2.2 t]; exact hb, by rw [if_neg hw]; exact ⟨rfl, rfl, rfl⟩⟩⟩
/-- An operation that is never reached, for one ahead of it panics. -/
theorem zqp {P Γ N s dst op g rest fp C k} (hp : zaI dst s) (h : HD4 P Γ N rest (s.put dst .any) (fp ++ [([], [], 2)]) C k) : HD4 P Γ N (⟨dst, op, g⟩ :: rest) s fp C k := fun s0 e => by
 refine ⟨((.any, [], none, []), 2), by cases dst <;> simp_all [zaI, e.1], ?_, fun x hx => (by cases hx), h _ (e.put dst .any)⟩
 unfold Op4
 rw [if_pos rfl]
 exact ⟨rfl, rfl⟩
theorem zlr (W : Wr) {o o' : List (Nat × Ob)} (h : ∀ y, getK o y = getK o' y) : ∀ y, getK (zaP W o) y = getK (zaP W o') y := fun y => by rw [zaC, zaC, h y]
/-- A call that changes some of the objects it is handed, and makes none. -/
theorem zo8 {P : Program} {Γ : Ctx} {N : Nat} {s : St} {dst : Option Tmp} {rest fp C k} {fop : Operand} {args : Array Operand} {ts : Array TypeId} {f caps} {ds : List D} {d : D} (O O' : List (Nat × Ob)) (L : List Nat)
  (hret : ∀ nx, s.next ≤ nx → RetX P f ds O nx fun r o n => r = .val d ∧ (∀ y, getK o y = getK O' y) ∧ n = nx)
  (hf : zaw (opd s fop) = some (f, caps)) (hc : zam P f = true) (hds : args.toList.map (opd s) ++ caps = ds) (hkeys : O'.map (·.1) = O.map (·.1)) (hsm : ∀ y, L.contains y = false → getK O' y = getK O y) (hO : ∀ p ∈ O, getK s.obs p.1 = some p.2) (hnd : (O.map (·.1)).Nodup)
  (hu : d.under N = true ∧ ∀ p ∈ O', p.2.under N = true) (hp : zaI dst s)
  (h : HD4 P Γ N rest (({ s with obs := zaP ((O'.filter fun p => L.contains p.1).map fun p => (p.1, some p.2)) s.obs } : St).put dst d) (fp ++ [(O.map (·.1), (O'.filter fun p => L.contains p.1).map (·.1), 0)]) C k) :
  HD4 P Γ N (⟨dst, .call { callee := .value fop, args, argTypes := ts }, none⟩ :: rest) s fp C k := fun s0 e => by
 refine ⟨((d, (O'.filter fun p => L.contains p.1).map (fun p => (p.1, some p.2)), none, O.map (·.1)), 0), by cases dst <;> simp_all [zaI, e.1], ?_, fun x hx => (by cases hx), ?_⟩
 ·unfold Op4
  rw [if_neg (by simp), if_neg (by simp)]
  refine ⟨rfl, .inr (.inl ⟨⟨fop, args.toList, f, caps, O, O', L, rfl, by rw [zet e]; exact hf, hc, rfl, rfl, hkeys, hsm, fun p hp => by rw [e.2.1]; exact hO p hp, hnd, hu, fun nx hnx => ?_⟩, rfl⟩)⟩
  have e1 : args.toList.map (opd s0) = args.toList.map (opd s) := List.map_congr_left fun x _ => zet e x
  rw [e1, hds]
  exact hret nx (by rw [e.2.2.1] at hnx; exact hnx)
 ·have := h (s0.app dst (d, (O'.filter fun p => L.contains p.1).map (fun p => (p.1, some p.2)), none, O.map (·.1))) (by
   simp only [St.app]
   apply St.Eqo.put
   exact ⟨e.1, zlr _ e.2.1, by simpa using e.2.2.1, e.2.2.2⟩)
  simpa [zdr, List.map_map, Function.comp_def] using this
theorem znf {O O' : List (Nat × Ob)} (hkeys : O'.map (·.1) = O.map (·.1)) : (O'.filter fun p => (O.map (·.1)).contains p.1) = O' := by
 refine List.filter_eq_self.2 fun p hp => ?_
 rw [← hkeys]
 simp only [List.contains_eq_mem, decide_eq_true_eq]
 exact List.mem_map.2 ⟨p, hp, rfl⟩
/-- A call that changes the objects it is handed, and makes none. -/
theorem zqq {P : Program} {Γ : Ctx} {N : Nat} {s : St} {dst : Option Tmp} {rest fp C k} {fop : Operand} {args : Array Operand} {ts : Array TypeId} {f caps} {ds : List D} {d : D} (O O' : List (Nat × Ob))
  (hret : ∀ nx, s.next ≤ nx → RetX P f ds O nx fun r o n => r = .val d ∧ (∀ y, getK o y = getK O' y) ∧ n = nx)
  (hf : zaw (opd s fop) = some (f, caps)) (hc : zam P f = true) (hds : args.toList.map (opd s) ++ caps = ds) (hkeys : O'.map (·.1) = O.map (·.1)) (hO : ∀ p ∈ O, getK s.obs p.1 = some p.2) (hnd : (O.map (·.1)).Nodup)
  (hu : d.under N = true ∧ ∀ p ∈ O', p.2.under N = true) (hp : zaI dst s)
  (h : HD4 P Γ N rest (({ s with obs := zaP (O'.map fun p => (p.1, some p.2)) s.obs } : St).put dst d) (fp ++ [(O.map (·.1), O'.map (·.1), 0)]) C k) :
  HD4 P Γ N (⟨dst, .call { callee := .value fop, args, argTypes := ts }, none⟩ :: rest) s fp C k :=
 zo8 O O' (O.map (·.1)) hret hf hc hds hkeys (fun y hy => by
  rw [zby O y (by simpa using hy), zby O' y (by rw [hkeys]; simpa using hy)]) hO hnd hu hp (by rw [znf hkeys]; exact h)
/-- A call that panics: nothing behind it is reached. -/
theorem zqo {P : Program} {Γ : Ctx} {N : Nat} {s : St} {dst : Option Tmp} {rest fp C k} {fop : Operand} {args : Array Operand} {ts : Array TypeId} {f caps} {ds : List D} {post : Out → List (Nat × Ob) → Nat → Prop} (O : List (Nat × Ob))
  (hret : ∀ nx, s.next ≤ nx → RetX P f ds O nx post) (hno : ∀ d o n, ¬ post (.val d) o n)
  (hf : zaw (opd s fop) = some (f, caps)) (hc : zam P f = true) (hds : args.toList.map (opd s) ++ caps = ds) (hO : ∀ p ∈ O, getK s.obs p.1 = some p.2) (hp : zaI dst s)
  (hx : ∀ env ch o n, s.next ≤ n → post (.pan ch) o n → ∃ s2, Wk Γ { n := s.n, env := env, obs := (s.obs.filter fun p => !(O.map (·.1)).contains p.1) ++ o, next := n } s2 ∧ Γ.pan ch s2)
  (h : HD4 P Γ N rest (s.put dst .any) (fp ++ [([], [], 1)]) C k) :
  HD4 P Γ N (⟨dst, .call { callee := .value fop, args, argTypes := ts }, none⟩ :: rest) s fp C k := fun s0 e => by
 refine ⟨((.any, [], none, []), 1), by cases dst <;> simp_all [zaI, e.1], ?_, fun x hx => (by cases hx), h _ (e.put dst .any)⟩
 unfold Op4
 rw [if_neg (by simp), if_pos rfl]
 refine ⟨rfl, fun s' hn ho hopd hnx o hop hg hpo => ?_, rfl, rfl⟩
 obtain ⟨odst, oop, ot, opos, oaf, og⟩ := o
 simp only at hop hg hpo
 subst hop
 subst hg
 have hopS : ∀ x ∈ fop :: args.toList, opd s' x = opd s x := fun x hx => by
  rw [hopd x (by
   simp only [Op.operands, Call.operands]
   simp only [List.mem_cons] at hx
   simp
   rcases hx with rfl | hx
   ·exact .inl rfl
   ·exact .inr (by simpa using hx)), zet e]
 have hOget : ∀ y, getK s'.obs y = getK s.obs y := fun y => by rw [ho, e.2.1]
 have hcall : CallP P Γ fop args.toList odst s' fun _ => False :=
  CallP.xF (s'.obs.filter fun p => !(O.map (·.1)).contains p.1) O (hret s'.next (by rw [← e.2.2.1]; exact hnx)) (fun y => by
   rw [zab, zcl]
   by_cases hy : (O.map (·.1)).contains y = true
   ·rw [if_pos hy]
    obtain ⟨x, hx⟩ := zcB (l := O) (y := y) (by simpa using hy)
    rw [hx, hOget y, hO _ (zeR hx)]
   ·rw [if_neg hy, zby O y (by simpa using hy)]
    cases getK s'.obs y <;> rfl) (fun y ob hy => by
   rw [zcl] at hy
   by_cases hc : (O.map (·.1)).contains y = true
   ·rw [if_pos hc] at hy; cases hy
   ·exact zby O y (by simpa using hc)) (by rw [hopS fop (by simp)]; exact hf) hc (by rw [List.map_congr_left fun x hx => hopS x (by simp [hx])]; exact hds) hpo
   (fun d o1 nx' _ hp => absurd hp (hno d o1 nx')) (fun ch o1 nx' hn' hp => by
     obtain ⟨s2, h1, h2⟩ := hx s'.env ch o1 nx' (by have := e.2.2.1; omega) hp
     refine ⟨s2, fun K a w hin hs => h1 K a w hin (hs.eqo ⟨by simp [hn, e.1], fun y => ?_, rfl, fun _ => rfl⟩), h2⟩
     simp only [zab, zcl, hOget])
 exact hcall ts ot opos oaf
theorem zmh {P : Program} {Γ : Ctx} {N : Nat} {all : Array Oper} {s0 : St} {ops : List Oper} {k : St → Fp4 → Prop} : ∀ (l : List O1) (tail : List Oper) (i : Nat) (E : Nat → zqI), zbe all tail = some l → (∀ j, tail[j]? = ops[i + j]?) →
  zku P Γ N l (stE ops s0 (eE E) i) (tF4 E i) k → ∃ E' : Nat → zqI, (∀ j, j < i → E' j = E j) ∧
   (∀ j o, i ≤ j → ops[j]? = some o → zaI o.dst s0 ∧ (if (E' j).2 = 2 then tW (eE E') j = [] ∧ tC (eE E') j = none else if (E' j).2 = 1 then o.guard = none ∧ zrh P Γ (stE ops s0 (eE E') j) o.op ∧ tW (eE E') j = [] ∧ tC (eE E') j = none else
     (E' j).2 = 0 ∧ zrY P N all (stE ops s0 (eE E') j) o (tT (eE E') j) (tW (eE E') j) (tC (eE E') j) (tR (eE E') j)) ∧ ∀ x, tC (eE E') j = some x → x = s0.next + cnt (eE E') j) ∧
   k (stE ops s0 (eE E') (i + tail.length)) (tF4 E' (i + tail.length))
 | [], tail, i, E, hs, ht, h => by
  cases tail with
  | nil => exact ⟨E, fun _ _ => rfl, fun j o hj ho => by have := ht (j - i); rw [show i + (j - i) = j by omega, ho] at this; simp at this, by simpa [zku] using h⟩
  | cons x l => simp only [zbe] at hs; split at hs <;> simp at hs
 | o1 :: l, tail, i, E, hs, ht, h => by
  obtain ⟨x, tl, rfl, hx, hr⟩ := zc2 hs
  obtain ⟨e, hp, hv, hnx, hc⟩ := h
  have hxi : ops[i]? = some x := by have := ht 0; simpa using this.symm
  have hdst : o1.dst = x.dst ∧ o1.op = x.op := by
   unfold zc4 at hx
   split at hx
   ·simp at hx; subst hx; exact ⟨rfl, rfl⟩
   ·split at hx
    ·simp at hx; subst hx; exact ⟨rfl, rfl⟩
    ·cases hx
  let E1 : Nat → zqI := fun j => if j = i then e else E j
  have h1 : ∀ j, j < i → E j = E1 j := fun j hj => by simp only [E1]; rw [if_neg (by omega)]
  have h1' : ∀ j, j < i → eE E j = eE E1 j := fun j hj => by simp only [eE, h1 j hj]
  have hi : E1 i = e := by simp [E1]
  have hi' : eE E1 i = e.1 := by simp only [eE, hi]
  have zck : (stE ops s0 (eE E) i).app o1.dst e.1 = stE ops s0 (eE E1) (i + 1) := by
   rw [zfw h1', hdst.1]
   simp only [stE, St.app]
   rw [zfQ (tT (eE E1)) i ops 0 s0.env x (Nat.zero_le _) (by simpa using hxi)]
   have hw : zeo (tW (eE E1)) (fun _ => true) (i + 1) = e.1.2.1 ++ zeo (tW (eE E1)) (fun _ => true) i := by
    rw [zeo, if_pos rfl, show tW (eE E1) i = e.1.2.1 by simp only [tW, hi']]
   have hcn : cnt (eE E1) (i + 1) = cnt (eE E1) i + if e.1.2.2.1.isSome then 1 else 0 := by
    rw [cnt, show tC (eE E1) i = e.1.2.2.1 by simp only [tC, hi']]
   rw [hw, zdB, hcn]
   have hT : tT (eE E1) i = e.1.1 := by simp only [tT, hi']
   cases x.dst with
   | none => simp only [St.put, nAA]
   | some y => simp only [St.put, hT, nAA]
  have hfp : tF4 E i ++ [(e.1.2.2.2, zdr e.1.2.1, e.2)] = tF4 E1 (i + 1) := by
   have hc1 : tF4 E i = tF4 E1 i := List.map_congr_left fun j hj => by
    have := h1 j (List.mem_range.1 hj)
    simp only [eE, tR, tW, this]
   rw [hc1]
   simp only [tF4, List.range_succ, List.map_append, List.map_cons, List.map_nil]
   rw [show tR (eE E1) i = e.1.2.2.2 by simp only [tR, hi'], show tW (eE E1) i = e.1.2.1 by simp only [tW, hi'], hi]
  rw [zck, hfp] at hc
  obtain ⟨E', g1, g2, g3⟩ := zmh l tl (i + 1) E1 hr (fun j => by have := ht (j + 1); rw [show i + 1 + j = i + (j + 1) by omega, ← this]; simp) hc
  refine ⟨E', fun j hj => by rw [g1 j (by omega), h1 j hj], fun j o hj ho => ?_, ?_⟩
  ·rcases Nat.lt_or_ge i j with h' | h'
   ·exact g2 j o h' ho
   ·obtain rfl : i = j := by omega
    rw [hxi] at ho
    cases ho
    have hEi : E' i = e := by rw [g1 i (by omega), hi]
    have hEi' : eE E' i = e.1 := by simp only [eE, hEi]
    have hst : stE ops s0 (eE E') i = stE ops s0 (eE E) i := zfw fun j hj => by simp only [eE]; rw [g1 j (by omega), ← h1 j hj]
    refine ⟨by rw [hdst.1] at hp; exact hp, ?_, fun y hy => ?_⟩
    ·rw [hst]
     simp only [tT, tW, tC, tR, hEi, hEi']
     unfold Op4 at hv
     by_cases c2 : e.2 = 2
     ·rw [if_pos c2] at hv ⊢
      exact hv
     ·rw [if_neg c2] at hv ⊢
      by_cases c1 : e.2 = 1
      ·rw [if_pos c1] at hv ⊢
       obtain ⟨v1, v2, v3⟩ := hv
       refine ⟨?_, by rw [← hdst.2]; exact v2, v3⟩
       unfold zc4 at hx
       split at hx
       ·rename_i hg; exact hg
       ·split at hx
        ·simp at hx; subst hx; cases v1
        ·cases hx
      ·rw [if_neg c1] at hv ⊢
       obtain ⟨v0, hv⟩ := hv
       refine ⟨v0, ?_⟩
       unfold zc4 at hx
       unfold zrY
       unfold ztb at hv
       split at hx
       ·rename_i hg
        simp at hx
        subst hx
        try rw [hg]
        exact hv
       ·rename_i q want hg
        split at hx
        ·rename_i t ht'
         simp at hx
         subst hx
         try rw [hg]
         exact ⟨t, ht', hv⟩
        ·cases hx
    ·have : tC (eE E') i = e.1.2.2.1 := by simp only [tC, hEi']
     rw [this] at hy
     have := hnx y hy
     rw [this, zfV (eE E') (eE E) i fun j hj => by simp only [eE]; rw [g1 j (by omega), ← h1 j hj]]
     try rfl
  ·rw [show i + (x :: tl).length = i + 1 + tl.length by simp; omega]
   exact g3
def zqw (ops : List Oper) (fp : Fp4) : Bool :=
 okP ops (fp.map fun p => (p.1, p.2.1)) &&
 (List.range ops.length).all fun j => ((fp.getD j ([], [], 0)).2.2 != 2 || (List.range ops.length).any fun p => (fp.getD p ([], [], 0)).2.2 == 1 && zd9 ops ops.length p j) &&
   ((fp.getD j ([], [], 0)).2.2 != 1 || (List.range ops.length).all fun i => (fp.getD i ([], [], 0)).2.1.isEmpty || zd9 ops ops.length i j || zd9 ops ops.length j i)
theorem zmq {P Γ s} {R0 : Exit → St → Prop} {l : List Oper} (hord : zgb l = true) (hn0 : Γ.n0 ≤ s.next)
  (h : ∀ (C : Fp4 → Prop) (k : St → Prop), (∀ fp, zqw l fp = true → C fp) → (∀ s', R0 .normal s' → k s') → match zbe l.toArray l with | some l' => HD4 P Γ s.next l' s [] C k | none => False) :
  VA P Γ l s R0 := by
 have := h (fun fp => zqw l fp = true) _ (fun _ h => h) fun _ h => h
 split at this
 ·rename_i l' hl
  have h0 : stE l s (eE fun _ => default) 0 = s := by
   have hnone : ∀ (l : List Oper) (i : Nat) (e : List (Nat × D)), zdA (tT (eE fun _ => default)) (fun j => decide (j < 0)) l i e = e := by
    intro l
    induction l with
    | nil => intro i e; rfl
    | cons o l ih => intro i e; exact ih (i + 1) e
   simp only [stE, hnone]
   try rfl
  have hc := this s (.refl s)
  rw [← h0] at hc
  obtain ⟨E, _, h2, hok, hfin⟩ := zmh l' l 0 (fun _ => default) hl (fun j => by rw [Nat.zero_add]) hc
  rw [Nat.zero_add] at hok hfin
  simp only [zqw, Bool.and_eq_true] at hok
  obtain ⟨hok1, hok2⟩ := hok
  have hlen4 : ∀ i, i < l.length → (tF4 E l.length).getD i ([], [], 0) = (tR (eE E) i, zdr (tW (eE E) i), (E i).2) := fun i hi => by
   simp [tF4, hi]
  have hlen : ∀ i, i < l.length → ((tF4 E l.length).map fun p => (p.1, p.2.1)).getD i ([], []) = (tR (eE E) i, zdr (tW (eE E) i)) := fun i hi => by
   simp [tF4, hi]
  have mono : ∀ i j, i ≤ j → cnt (eE E) i ≤ cnt (eE E) j := fun i j hij => by
   induction hij with
   | refl => exact Nat.le_refl _
   | step _ ih => simp only [cnt]; omega
  have hcr : ∀ i x, i < l.length → tC (eE E) i = some x → x = s.next + cnt (eE E) i ∧ cnt (eE E) (i + 1) = cnt (eE E) i + 1 := fun i x hi hx => by
   have := (h2 i _ (Nat.zero_le _) (List.getElem?_eq_getElem hi)).2.2 x hx
   exact ⟨this, by simp only [cnt, hx]; rfl⟩
  let cr : Nat → Option Nat := fun i => if i < l.length then tC (eE E) i else none
  let kd : Nat → Nat := fun i => if i < l.length then (E i).2 else 0
  let W : Nat → Wr := fun i => if i < l.length then tW (eE E) i else []
  have hWe : ∀ i, i < l.length → W i = tW (eE E) i := fun i hi => by simp only [W]; rw [if_pos hi]
  refine zqj (T := tT (eE E)) (W := W) (cr := cr) (R := tR (eE E)) (kd := kd) (M := s.next + cnt (eE E) l.length) hord hn0 (by omega) (fun i x hx => ?_) (fun i j x hi hj => ?_) (fun i j hij hj hb => ?_) (fun i hk => ?_) (fun p i hp hi hw => ?_) (fun i o ho => ?_) (fun hnk => ?_)
  ·simp only [cr] at hx
   split at hx
   ·rename_i hi
    obtain ⟨e1, e2⟩ := hcr i x hi hx
    have := mono (i + 1) l.length hi
    omega
   ·cases hx
  ·simp only [cr] at hi hj
   split at hi
   ·rename_i hil
    split at hj
    ·rename_i hjl
     obtain ⟨e1, e2⟩ := hcr i x hil hi
     obtain ⟨e3, e4⟩ := hcr j x hjl hj
     rcases Nat.lt_trichotomy i j with hlt | hlt | hlt
     ·have := mono (i + 1) j hlt
      omega
     ·exact hlt
     ·have := mono (j + 1) i hlt
      omega
    ·cases hj
   ·cases hi
  ·have := (List.all_eq_true.1 ((List.all_eq_true.1 hok1) j (List.mem_range.2 hj))) i (List.mem_range.2 hij)
   rw [hb, hlen i (by omega), hlen j hj] at this
   simp only [Bool.false_or, Bool.and_eq_true] at this
   rw [hWe i (by omega), hWe j hj]
   refine ⟨fun y hy => ?_, fun y hy => zfS this.2 y hy⟩
   have := zfS this.1 y hy
   rw [List.mem_append, not_or] at this
   exact this
  ·simp only [kd] at hk
   split at hk
   ·rename_i hi
    obtain ⟨_, g2, _⟩ := h2 i _ (Nat.zero_le _) (List.getElem?_eq_getElem hi)
    have hci : cr i = tC (eE E) i := by simp only [cr]; rw [if_pos hi]
    rw [hWe i hi, hci]
    by_cases c2 : (E i).2 = 2
    ·rw [if_pos c2] at g2; exact g2
    ·rw [if_neg c2] at g2
     by_cases c1 : (E i).2 = 1
     ·rw [if_pos c1] at g2; exact g2.2.2
     ·rw [if_neg c1] at g2; exact absurd g2.1 hk
   ·exact absurd rfl hk
  ·simp only [kd] at hp
   split at hp
   ·rename_i hpl
    have := (List.all_eq_true.1 hok2) p (List.mem_range.2 hpl)
    rw [Bool.and_eq_true, hlen4 p hpl] at this
    have h3 := this.2
    simp only [hp] at h3
    have h4 : ((List.range l.length).all fun i => ((tF4 E l.length).getD i ([], [], 0)).2.1.isEmpty || zd9 l l.length i p || zd9 l l.length p i) = true := by simpa using h3
    have h5 := (List.all_eq_true.1 h4) i (List.mem_range.2 hi)
    rw [hlen4 i hi] at h5
    simp only [Bool.or_eq_true] at h5
    rcases h5 with (h5 | h5) | h5
    ·exfalso
     apply hw
     rw [hWe i hi]
     have : zdr (tW (eE E) i) = [] := by simpa using h5
     simpa [zdr] using this
    ·exact .inl h5
    ·exact .inr h5
   ·cases hp
  ·have hi := (lGE.1 ho).1
   obtain ⟨g1, g2, g3⟩ := h2 i o (Nat.zero_le _) ho
   refine ⟨g1, ?_⟩
   have hwl : ∀ S m, m ≤ l.length → zeo W S m = zeo (tW (eE E)) S m := fun S m hm => zen W (tW (eE E)) S m fun j hj => hWe j (by omega)
   have hst : stW l (tT (eE E)) W s (s.next + cnt (eE E) l.length) (fun j => decide (j < i)) = { stE l s (eE E) i with next := s.next + cnt (eE E) l.length } := by
    simp only [stW, stE]
    rw [hwl _ _ (Nat.le_refl _), zgS (tW (eE E)) i l.length (by omega)]
   have hcri : cr i = tC (eE E) i := by simp only [cr]; rw [if_pos hi]
   have hkdi : kd i = (E i).2 := by simp only [kd]; rw [if_pos hi]
   rw [hst, hcri, hkdi, hWe i hi]
   have opo : ∀ x, opd { stE l s (eE E) i with next := s.next + cnt (eE E) l.length } x = opd (stE l s (eE E) i) x := fun x => by cases x <;> rfl
   have eqo : ∀ (op : Op) (r : D → Prop), valD P { stE l s (eE E) i with next := s.next + cnt (eE E) l.length } op r = valD P (stE l s (eE E) i) op r := fun op r => zdD rfl fun x _ => by cases x <;> rfl
   have ero : ∀ (op : Op), zbO { stE l s (eE E) i with next := s.next + cnt (eE E) l.length } op = zbO (stE l s (eE E) i) op := fun op => by
    have e : opd { stE l s (eE E) i with next := s.next + cnt (eE E) l.length } = opd (stE l s (eE E) i) := funext fun x => by cases x <;> rfl
    unfold zbO zbG zcn
    rw [e]
   have efo : ∀ (op : Op) (r : ERes → Prop), effD P { stE l s (eE E) i with next := s.next + cnt (eE E) l.length } op r = effD P (stE l s (eE E) i) op r := fun op r =>
    propext ⟨zd0 (fun _ _ => rfl) fun x _ => by cases x <;> rfl, zd0 (fun _ _ => rfl) fun x _ => by cases x <;> rfl⟩
   have hle : (stE l s (eE E) i).next ≤ s.next + cnt (eE E) l.length := by
    have := mono i l.length (by omega)
    simp only [stE]; omega
   have cao : ∀ (op : Op) (d : D) (W : Wr) (R : List Nat), zrr P s.next (stE l s (eE E) i) op d W R → zrr P s.next { stE l s (eE E) i with next := s.next + cnt (eE E) l.length } op d W R :=
    fun op d W R ⟨fop, args, f, caps, O, O', L, q1, q2, q3, q4, q5, q6, q6b, q7, q8, q9, q10⟩ => ⟨fop, args, f, caps, O, O', L, q1, by rw [opo]; exact q2, q3, q4, q5, q6, q6b, q7, q8, q9, fun nx hnx => by
     rw [List.map_congr_left fun x _ => opo x]
     exact q10 nx (Nat.le_trans hle hnx)⟩
   have c1x : ∀ (op : Op) (dst : Option Tmp) (d : D) (W : Wr) (cr : Option Nat) (R : List Nat), zrj P s.next (stE l s (eE E) i) op dst d W cr R → zrj P s.next { stE l s (eE E) i with next := s.next + cnt (eE E) l.length } op dst d W cr R :=
    fun op dst d W cr R h => by
     rcases h with h | ⟨h, hc⟩ | ⟨fop, args, f, caps, O, e, nb, x0, q1, q2, q3, q4, q5, q6, q7, q8⟩
     ·left
      unfold Op1 at h ⊢
      simp only [eqo, ero, efo]
      exact h
     ·exact .inr (.inl ⟨cao _ _ _ _ h, hc⟩)
     ·exact .inr (.inr ⟨fop, args, f, caps, O, e, nb, x0, q1, by rw [opo]; exact q2, q3, q4, q5, q6, q7, fun nx hnx => by
       rw [List.map_congr_left fun x _ => opo x]
       exact q8 nx (Nat.le_trans hle hnx)⟩)
   by_cases k2 : (E i).2 = 2
   ·rw [if_pos k2]
    have := (List.all_eq_true.1 hok2) i (List.mem_range.2 hi)
    rw [Bool.and_eq_true, hlen4 i hi] at this
    have h3 := this.1
    simp only [k2] at h3
    have h4 : ((List.range l.length).any fun p => ((tF4 E l.length).getD p ([], [], 0)).2.2 == 1 && zd9 l l.length p i) = true := by simpa using h3
    obtain ⟨p, hp, h5⟩ := List.any_eq_true.1 h4
    have hpl := List.mem_range.1 hp
    rw [hlen4 p hpl, Bool.and_eq_true] at h5
    exact ⟨p, by simp only [kd]; rw [if_pos hpl]; simpa using h5.1, hpl, h5.2⟩
   ·rw [if_neg k2] at g2 ⊢
    by_cases k1 : (E i).2 = 1
    ·rw [if_pos k1] at g2 ⊢
     refine ⟨g2.1, fun s' a1 a2 a3 a4 => g2.2.1 s' a1 a2 (fun x hx => by rw [a3 x hx, opo]) (Nat.le_trans hle a4)⟩
    ·rw [if_neg k1] at g2 ⊢
     obtain ⟨_, g2⟩ := g2
     unfold zrY at g2 ⊢
     split
     ·rename_i hg; rw [hg] at g2; exact c1x _ _ _ _ _ _ g2
     ·rename_i j want hg
      rw [hg] at g2
      obtain ⟨t, ht, g2⟩ := g2
      refine ⟨t, ht, ?_⟩
      rcases g2 with ⟨b, hb, g2⟩ | g2
      ·refine .inl ⟨b, hb, ?_⟩
       split
       ·rename_i hbw; rw [if_pos hbw] at g2; exact c1x _ _ _ _ _ _ g2
       ·rename_i hbw; rw [if_neg hbw] at g2; exact g2
      ·exact .inr g2
  ·obtain ⟨s', h3, h4⟩ := hfin fun p hp => by
    obtain ⟨i, hi, rfl⟩ := List.mem_map.1 hp
    have hil := List.mem_range.1 hi
    have := hnk i hil
    simp only [kd] at this
    rw [if_pos hil] at this
    exact this
   refine ⟨s', St.Eqo.trans (b := stE l s (eE E) l.length) ⟨rfl, fun x => ?_, rfl, fun x => ?_⟩ h3, h4⟩
   ·simp only [stW, stE]
    rw [zen W (tW (eE E)) (fun _ => true) l.length fun j hj => hWe j hj]
   ·simp only [stW, stE]
    exact zbq (tT (eE E)) _ _ x l 0 s.env s.env rfl fun j o hj _ => by
     have := (lGE.1 hj).1
     simp [this]
 ·exact this.elim
theorem zb0 {P Γ s} {Q : Exit → St → Prop} {kt : Kt} {id : Nat} {l : List Oper} (hm : P.follows .mixedOrders = true) (hord : zgb l = true) (hn0 : Γ.n0 ≤ s.next)
  (h : ∀ (C : Fp4 → Prop) (k : St → Prop), (∀ fp, zqw l fp = true → C fp) → (∀ s', zap P Γ Q kt .normal s' → k s') → match zbe l.toArray l with | some l' => HD4 P Γ s.next l' s [] C k | none => False) :
  V P Γ (.region id l.toArray true) s (zap P Γ Q kt) := fun K a w hin hs => by
 refine wp_region_any hm ?_
 exact zmq (R0 := zap P Γ Q kt) hord hn0 h K a w hin hs
end Go.VL
namespace Go.VL
open Go
/-- Numbers of objects by their places: the first zfi are those that were handed over. -/
def zjA (ids : List Nat) (nx k : Nat) : Nat := match ids[k]? with | some x => x | none => nx + (k - ids.length)
theorem zpm {ids : List Nat} {nx : Nat} (hd : ids.Nodup) (hlt : ∀ x ∈ ids, x < nx) {a b : Nat} (h : zjA ids nx a = zjA ids nx b) : a = b := by
 unfold zjA at h
 rcases ha : ids[a]? with _ | x <;> rcases hb : ids[b]? with _ | y <;> rw [ha, hb] at h <;> simp only at h
 ·have := List.getElem?_eq_none_iff.1 ha
  have := List.getElem?_eq_none_iff.1 hb
  omega
 ·have := hlt y (List.mem_of_getElem? hb)
  omega
 ·have := hlt x (List.mem_of_getElem? ha)
  omega
 ·obtain ⟨h1, h2⟩ := lGE.1 ha
  obtain ⟨h3, h4⟩ := lGE.1 hb
  rw [List.nodup_iff_pairwise_ne, List.pairwise_iff_getElem] at hd
  rcases Nat.lt_trichotomy a b with hlt' | hlt' | hlt'
  ·exact absurd (h2.trans (h.trans h4.symm)) (hd a b h1 h3 hlt')
  ·exact hlt'
  ·exact absurd (h2.trans (h.trans h4.symm)).symm (hd b a h3 h1 hlt')
inductive KL (ids : List Nat) (nx : Nat) : List Nat → List Nat → Prop
 | nil : KL ids nx [] []
 | cons (k : Nat) {x l l0} (h : zjA ids nx k = x) (t : KL ids nx l l0) : KL ids nx (x :: l) (k :: l0)
theorem KL.map {ids nx l l0} (h : KL ids nx l l0) : l = l0.map (zjA ids nx) := by
 induction h with
 | nil => rfl
 | cons k h t ih => rw [List.map_cons, h, ← ih]
inductive KF (ids : List Nat) (nx : Nat) : Fp4 → Fp4 → Prop
 | nil : KF ids nx [] []
 | cons {a a0 b b0 k fp fp0} (h1 : KL ids nx a a0) (h2 : KL ids nx b b0) (h3 : KF ids nx fp fp0) : KF ids nx ((a, b, k) :: fp) ((a0, b0, k) :: fp0)
theorem KF.map {ids nx l l0} (h : KF ids nx l l0) : l = l0.map fun p => (p.1.map (zjA ids nx), p.2.1.map (zjA ids nx), p.2.2) := by
 induction h with
 | nil => rfl
 | cons h1 h2 _ ih => rw [List.map_cons, ← h1.map, ← h2.map, ← ih]
theorem zoO {ρ : Nat → Nat} (hρ : ∀ a b, ρ a = ρ b → a = b) (a b : List Nat) : znj (a.map ρ) (b.map ρ) = znj a b := by
 unfold znj
 rw [List.all_map]
 congr 1
 funext y
 simp only [Function.comp]
 congr 1
 rw [Bool.eq_iff_iff]
 simp only [List.contains_eq_mem, decide_eq_true_eq, List.mem_map]
 exact ⟨fun ⟨z, h1, h2⟩ => hρ _ _ h2 ▸ h1, fun h => ⟨y, h, rfl⟩⟩
theorem zcp {ops : List Oper} {fp : Fp4} (ids : List Nat) (nx : Nat) (hd : ids.Nodup) (hlt : ∀ x ∈ ids, x < nx) (h : ∃ fp0, KF ids nx fp fp0 ∧ zqw ops fp0 = true) : zqw ops fp = true := by
 obtain ⟨fp0, hk, h⟩ := h
 have hr := hk.map
 subst hr
 have hρ : ∀ a b, zjA ids nx a = zjA ids nx b → a = b := fun a b => zpm hd hlt
 have g4 : ∀ i, (fp0.map fun p => (p.1.map (zjA ids nx), p.2.1.map (zjA ids nx), p.2.2)).getD i ([], [], 0) = (((fp0.getD i ([], [], 0)).1.map (zjA ids nx), (fp0.getD i ([], [], 0)).2.1.map (zjA ids nx), (fp0.getD i ([], [], 0)).2.2)) := fun i => by
  simp only [List.getD_eq_getElem?_getD, List.getElem?_map]
  cases fp0[i]? <;> rfl
 have g2 : ∀ i, ((fp0.map fun p => (p.1.map (zjA ids nx), p.2.1.map (zjA ids nx), p.2.2)).map fun p => (p.1, p.2.1)).getD i ([], []) =
   ((((fp0.map fun p => (p.1, p.2.1)).getD i ([], [])).1.map (zjA ids nx), ((fp0.map fun p => (p.1, p.2.1)).getD i ([], [])).2.map (zjA ids nx))) := fun i => by
  simp only [List.getD_eq_getElem?_getD, List.getElem?_map]
  cases fp0[i]? <;> rfl
 unfold zqw okP at h ⊢
 simp only [g4, g2, ← List.map_append, zoO hρ, List.isEmpty_map] at h ⊢
 exact h
/-- A call that changes the one object it is handed. -/
theorem zhA {P : Program} {Γ : Ctx} {N : Nat} {s : St} {dst : Option Tmp} {rest fp C k} {fop : Operand} {args : Array Operand} {ts : Array TypeId} {f caps} {ds : List D} {d : D} {j : Nat} {ob ob' : Ob}
  (hret : ∀ nx, s.next ≤ nx → RetX P f ds [(j, ob)] nx fun r o n => r = .val d ∧ o = [(j, ob')] ∧ n = nx)
  (hj : getK s.obs j = some ob) (hf : zaw (opd s fop) = some (f, caps)) (hc : zam P f = true) (hds : args.toList.map (opd s) ++ caps = ds)
  (hu : d.under N = true ∧ ob'.under N = true) (hp : zaI dst s)
  (h : HD4 P Γ N rest (({ s with obs := zaP [(j, some ob')] s.obs } : St).put dst d) (fp ++ [([j], [j], 0)]) C k) :
  HD4 P Γ N (⟨dst, .call { callee := .value fop, args, argTypes := ts }, none⟩ :: rest) s fp C k :=
 zqq [(j, ob)] [(j, ob')] (fun nx hnx => (hret nx hnx).mono fun r o n ⟨h1, h2, h3⟩ => ⟨h1, fun y => by rw [h2], h3⟩) hf hc hds rfl (by simpa using hj) (by simp) ⟨hu.1, by simpa using hu.2⟩ hp h
/-- The same, and it panics. -/
theorem zf3 {P : Program} {Γ : Ctx} {N : Nat} {s : St} {dst : Option Tmp} {rest fp C k} {fop : Operand} {args : Array Operand} {ts : Array TypeId} {f caps} {ds : List D} {j : Nat} {ob : Ob} {ch : List PanicEntry} {p : Ob → Prop}
  (hret : ∀ nx, s.next ≤ nx → RetX P f ds [(j, ob)] nx fun r o n => r = .pan ch ∧ (∃ ob', p ob' ∧ o = [(j, ob')]) ∧ n = nx)
  (hj : getK s.obs j = some ob) (hf : zaw (opd s fop) = some (f, caps)) (hc : zam P f = true) (hds : args.toList.map (opd s) ++ caps = ds) (hp : zaI dst s)
  (hx : ∀ env ob' n, s.next ≤ n → p ob' → ∃ s2, Wk Γ { n := s.n, env := env, obs := del s.obs j ++ [(j, ob')], next := n } s2 ∧ Γ.pan ch s2)
  (h : HD4 P Γ N rest (s.put dst .any) (fp ++ [([], [], 1)]) C k) :
  HD4 P Γ N (⟨dst, .call { callee := .value fop, args, argTypes := ts }, none⟩ :: rest) s fp C k := by
 have hfil : (s.obs.filter fun p => !(([(j, ob)] : List (Nat × Ob)).map (·.1)).contains p.1) = del s.obs j := by
  unfold del
  congr 1
  funext p
  simp only [List.map_cons, List.map_nil, List.contains_cons, List.contains_nil, Bool.or_false]
 refine zqo (post := fun r o _ => r = .pan ch ∧ ∃ ob', p ob' ∧ o = [(j, ob')]) [(j, ob)] (fun nx hnx => (hret nx hnx).mono fun r o n ⟨h1, h2, _⟩ => ⟨h1, h2⟩) (fun d o n h => by cases h.1) hf hc hds (by simpa using hj) hp (fun env ch' o n hn h => ?_) h
 obtain ⟨h1, ob', h2, rfl⟩ := h
 cases h1
 rw [hfil]
 exact hx env ob' n hn h2
/-- Behind a call that panics. -/
theorem zeW {P Γ N s dst op g rest fp C k} (_ : (fp.any fun p => p.2.2 == 1) = true) (hp : zaI dst s) (h : HD4 P Γ N rest (s.put dst .any) (fp ++ [([], [], 2)]) C k) : HD4 P Γ N (⟨dst, op, g⟩ :: rest) s fp C k := zqp hp h
/-- The end of a call: without its slots and its own objects. -/
theorem FinOK.cut {n0 : Nat} {post : D → List (Nat × Ob) → Nat → Prop} {s : St} {d : D} (obs : List (Nat × Ob)) (N : Nat) (ho : ∀ p ∈ obs, getK s.obs p.1 = some p.2 ∧ p.1 < N ∧ p.2.under N = true) (hd : d.under N = true) (hn : n0 ≤ N)
  (h : post d obs N) : FinOK n0 post s d :=
 .inl ⟨{ s with env := [], obs := obs, next := N }, fun i => i, d, ⟨rfl, fun x d' hx => by simp [getK] at hx, fun x d' hx => by simp [getK] at hx,
  fun i ob hi => ⟨(ho _ (zfn hi)).2.1, ob, (ho _ (zfn hi)).1, Ob.le_id ob, (ho _ (zfn hi)).2.2⟩, fun _ _ _ _ _ _ h => h, fun i hi => ⟨rfl, Nat.lt_of_lt_of_le hi hn⟩⟩, D.le_id d, hd, hn, h⟩
def zsi : D → Bool
 | .vec .. => true
 | _ => false
/-- A slice that is handed over and not needed any more is frozen ahead of the call. -/
theorem zar {P : Program} {Γ : Ctx} {s : St} {k : St → Prop} {dst : Option Tmp} {fop : Operand} {args : List Operand} (_ : (args.map (opd s)).any zsi = true) (h : CallP P Γ fop args dst (frzN 1 s) k) : CallP P Γ fop args dst s k :=
 zjg (Wk.frzN 1 _) h
end Go.VL
namespace Go.VL
open Go
def zdf {α : Type} (obs : List (Nat × α)) : List Nat → List (Nat × α)
 | [] => obs
 | i :: l => zdf (del obs i) l
theorem zfr {α : Type} : ∀ (l : List Nat) (obs : List (Nat × α)), zdf obs l = obs.filter fun p => !l.contains p.1
 | [], obs => by rw [zdf]; exact (List.filter_eq_self.2 (by simp)).symm
 | i :: l, obs => by
  rw [zdf, zfr l, del, List.filter_filter]
  congr 1
  funext p
  simp only [List.contains_cons]
  cases p.1 == i <;> cases l.contains p.1 <;> rfl
theorem zi1 {obs O : List (Nat × Ob)} (hO : ∀ p ∈ O, getK obs p.1 = some p.2) (i : Nat) : getK obs i = getK (zdf obs (O.map (·.1)) ++ O) i := by
 rw [zfr, zab, zcl]
 by_cases hy : (O.map (·.1)).contains i = true
 ·rw [if_pos hy]
  obtain ⟨x, hx⟩ := zcB (l := O) (y := i) (by simpa using hy)
  rw [hx, hO _ (zeR hx)]
 ·rw [if_neg hy, zby O i (by simpa using hy)]
  cases getK obs i <;> rfl
theorem zhr {obs O : List (Nat × Ob)} (i : Nat) (ob : Ob) (h : getK (zdf obs (O.map (·.1))) i = some ob) : getK O i = none := by
 rw [zfr, zcl] at h
 by_cases hc : (O.map (·.1)).contains i = true
 ·rw [if_pos hc] at h; cases h
 ·exact zby O i (by simpa using hc)
/-- A call that is handed objects, and goes through. -/
theorem CallP.okL {P : Program} {Γ : Ctx} {s : St} {k : St → Prop} {dst : Option Tmp} {fop : Operand} {args : List Operand} {f caps} {ds : List D} {O O' : List (Nat × Ob)} {d : D} {N : Nat}
  (hret : RetX P f ds O s.next fun r o n => r = .val d ∧ o = O' ∧ n = N) (hO : ∀ p ∈ O, getK s.obs p.1 = some p.2)
  (hf : zaw (opd s fop) = some (f, caps)) (hds : args.map (opd s) ++ caps = ds)
  (hk : zam P f = true ∧ zaI dst s ∧ k (({ s with obs := zdf s.obs (O.map (·.1)) ++ O', next := N } : St).put dst d)) : CallP P Γ fop args dst s k :=
 CallP.xF (zdf s.obs (O.map (·.1))) O hret (zi1 hO) zhr hf hk.1 hds hk.2.1 (fun d' o1 nx' _ ⟨h1, h2, h3⟩ => by cases h1; subst h2; subst h3; exact hk.2.2) (fun ch o1 nx' _ ⟨h1, _⟩ => by cases h1)
/-- A function is left behind which a deferred one is called that is handed objects. -/
theorem LeaveD.of {P : Program} {Γb : Ctx} {fn : Func} {post : Out → List (Nat × Ob) → Nat → Prop} {g : FuncId} {caps : List D} {u : FrameMode} {s : St} (O : List (Nat × Ob)) {O' : List (Nat × Ob)} (hO : ∀ p ∈ O, getK s.obs p.1 = some p.2)
  (h : RetDf P g caps O s.next u fun u' o n => settle u' = .returning ∧ n = s.next ∧ o = O') (hk : EndW P Γb fn Γb.n0 (fun d o n => post (.val d) o n) .ret { s with obs := zdf s.obs (O.map (·.1)) ++ O', next := s.next }) :
  LeaveD P Γb fn post g caps u s :=
 ((h.frame (zdf s.obs (O.map (·.1))) zhr).congr (zi1 hO)).mono fun u' o n ⟨o1, ho, hs, hn, ho1⟩ => ⟨hs, by subst ho; subst ho1; subst hn; exact hk⟩
end Go.VL
namespace Go.VL
open Go
theorem zoV {P : Program} {k own s a w} (hs : Sim k own s a w) {fop : Operand} {args : Array Operand} {ts : Array TypeId} {ty : TypeId} {f first} (hf : opd s fop = .bnd (.func f) first) (hc : zam P f = true)
  (dst : Option Tmp) (pos : String) (after : Array Edge) (g : Option (Nat × Bool)) :
  ∃ vs, RepL k (first ++ args.toList.map (opd s)) vs ∧ (execOp a.eval { dst, op := .call { callee := .value fop, args, argTypes := ts }, type := ty, pos, after, guard := g }).run P w = .ok (.enter f vs) w := by
 have hr := zaL hs fop
 rw [hf] at hr
 obtain ⟨cv, hl, hv, hcap⟩ := znL hr
 refine ⟨cv.toArray ++ args.map a.eval, ⟨by simp [hl], fun j d hj => ?_⟩, ?_⟩
 ·by_cases hlt : j < first.length
  ·rw [List.getElem?_append_left hlt] at hj
   have := hcap j d hj
   have e : (cv.toArray ++ args.map a.eval).getD j undef = cv.getD j undef := by
    have hlt2 : j < cv.length := by omega
    simp [Array.getElem?_append, hlt2]
   rw [e]
   exact this
  ·rw [List.getElem?_append_right (Nat.le_of_not_lt hlt)] at hj
   have := zeO hs args.toList (j - first.length) d hj
   have e : (cv.toArray ++ args.map a.eval).getD j undef = (args.toList.map a.eval).getD (j - first.length) undef := by
    have hlt2 : ¬ j < cv.length := by omega
    simp [Array.getElem?_append, hlt2, hl]
   rw [e]
   exact this
 ·unfold zam at hc
  split at hc
  ·rename_i fn hfn
   simp at hc
   obtain ⟨hb, hname⟩ := hc
   have hb' : fn.body.isNone = false := by cases hbb : fn.body <;> simp_all
   have hname' : (fn.name == "runtime.NumGoroutine") = false := by simpa using hname
   simp only [execOp]
   simp [resolve, hv, Deferred.ofValue, invoke, callFunc, hfn, hname', hb', hname]
   intro h0
   rw [h0] at hb
   simp at hb
  ·cases hc
/-- A call of a method that came az a value, by what it does to the objects. -/
theorem EffP.zsK {P Γ s k} {fop : Operand} {args : Array Operand} {ts : Array TypeId} {ty : TypeId} {f first dst pos after} {ds : List D} {post : Out → List (Nat × Ob) → Nat → Prop}
  (hf : opd s fop = .bnd (.func f) first) (hc : zam P f = true) (hds : first ++ args.toList.map (opd s) = ds) (hret : RetX P f ds s.obs s.next post) (hp : zaI dst s)
  (hk : ∀ d obs' nx', s.next ≤ nx' → post (.val d) obs' nx' → k (({ s with obs := obs', next := nx' } : St).put dst d))
  (hx : ∀ ch obs' nx', s.next ≤ nx' → post (.pan ch) obs' nx' → ∃ s2, Wk Γ { s with obs := obs', next := nx' } s2 ∧ Γ.pan ch s2) :
  EffP P Γ { dst, op := .call { callee := .value fop, args, argTypes := ts }, type := ty, pos, after, guard := none } s k := by
 intro K a w hin hs Kont Q hK hP
 obtain ⟨vs, hrep, hrun⟩ := zoV hs (args := args) (ts := ts) (ty := ty) hf hc dst pos after none
 rw [hds] at hrep
 unfold Oper.wp
 rw [hrun]
 refine Calls.mono (hret K Γ.own w vs hs.sat hs.hdr (fun b hb => hin.own_of_ge hb) hrep) ?_
 rintro e w' ⟨r, obs', nx', k', hr, hin', hsat', hhdr', hnx, hpost⟩
 have hle : K.le k' := hin'.le
 have hin2 : In Γ k' w' := hin.step hle (fun b o v e => hin'.memNew b o v e) hin'.os hin'.tape hin'.output hin'.size hin'.block
 have hsim : Sim k' Γ.own ({ s with obs := obs', next := nx' } : St) a w' := ⟨hsat', hs.defers, hs.size, fun x d hx => ⟨(hs.env x d hx).1, (hs.env x d hx).2.mono hle⟩, hhdr'⟩
 cases r with
 | val d =>
  obtain ⟨v, rfl, hr⟩ := hr
  exact hK k' _ w' _ hin2 (hsim.put (by cases dst <;> simp_all [zaI]) hr) (hk d obs' nx' hnx hpost)
 | pan ch =>
  obtain rfl := hr
  obtain ⟨s2, hw, hpn⟩ := hx ch obs' nx' hnx hpost
  obtain ⟨k2, g1, g2⟩ := hw k' a w' hin2 hsim
  exact hP ch k2 a w' s2 g1 g2 hpn
theorem CallP.b_ {P : Program} {Γ : Ctx} {s : St} {k : St → Prop} {dst : Option Tmp} {fop : Operand} {args : List Operand} {f first} {ds : List D} {post : Out → List (Nat × Ob) → Nat → Prop} (hret : RetX P f ds s.obs s.next post)
  (hf : opd s fop = .bnd (.func f) first) (hc : zam P f = true) (hds : first ++ args.map (opd s) = ds) (hp : zaI dst s)
  (hk : ∀ d obs' nx', s.next ≤ nx' → post (.val d) obs' nx' → k (({ s with obs := obs', next := nx' } : St).put dst d))
  (hx : ∀ ch obs' nx', s.next ≤ nx' → post (.pan ch) obs' nx' → ∃ s2, Wk Γ { s with obs := obs', next := nx' } s2 ∧ Γ.pan ch s2) : CallP P Γ fop args dst s k :=
 fun _ _ _ _ => EffP.zsK hf hc hds hret hp hk hx
/-- The same where the caller has no object but the one that is handed over, and nothing panics. -/
theorem CallP.bok {P : Program} {Γ : Ctx} {s : St} {k : St → Prop} {dst : Option Tmp} {fop : Operand} {args : List Operand} {f first} {ds : List D} {j : Nat} {ob ob' : Ob} {d : D}
  (hret : RetX P f ds [(j, ob)] s.next fun r o n => r = .val d ∧ o = [(j, ob')] ∧ n = s.next) (hobs : s.obs = [(j, ob)])
  (hf : opd s fop = .bnd (.func f) first) (hc : zam P f = true) (hds : first ++ args.map (opd s) = ds) (hp : zaI dst s)
  (hk : k (({ s with obs := [(j, ob')], next := s.next } : St).put dst d)) : CallP P Γ fop args dst s k :=
 CallP.b_ (hobs ▸ hret) hf hc hds hp (fun d' o1 nx' _ ⟨h1, h2, h3⟩ => by cases h1; subst h2; subst h3; exact hk) (fun ch o1 nx' _ ⟨h1, _⟩ => by cases h1)
end Go.VL
namespace Go.VL
open Go
theorem Oper.zql {P : Program} {o : Oper} {a : Act} {w : World} {K K' : Act → World → Prop} {Q Q' : Exit → Act → World → Prop} (h : ∀ a w, K a w → K' a w) (hq : ∀ e a w, e ≠ .normal → Q e a w → Q' e a w)
  (hh : o.wp P a w K Q) : o.wp P a w K' Q' := by
 unfold Oper.wp at *
 generalize (execOp a.eval o).run P w = r at *
 cases r with
 | ok n w' =>
  cases n <;> simp only [Oper.upon] at hh ⊢ <;>
   first
    | exact h _ _ hh
    | exact Calls.mono hh (fun e w'' he => by
      cases e <;> simp only at he ⊢ <;>
       first
        | exact h _ _ he
        | exact hq _ _ _ (by simp) he
        | exact let ⟨a, w, h2⟩ := he; ⟨a, w, hq _ _ _ (by simp) h2⟩)
    | exact Rows.mono hh (fun _ _ he => h _ _ he)
 | halt x w' => cases x <;> simp only [Oper.upon] at hh ⊢ <;> first | exact hq _ _ _ (by simp) hh | exact hh
section
variable {P : Program} {l : List Oper} {o : Oper} {Q Q1 : Exit → Act → World → Prop}
theorem zg3 (hord : zgb l = true) {listed : Array Bool} (hsz : listed.size = l.length) : ∀ i, i < l.length → listed.getD i false = false → ∃ i0, i0 ∈ Region.ready .any l.toArray listed := fun i hi hu => by
 induction i using Nat.strongRecOn with
 | _ i ih =>
  have ho : l[i]? = some l[i] := List.getElem?_eq_getElem hi
  by_cases hp : ∀ p ∈ zba l[i], listed.getD p false = true
  ·refine ⟨i, mem_ready.2 ⟨?_, l[i], by simp, fun e he hb => hp e.on ?_⟩⟩
   ·have hi' : i < listed.size := by omega
    simp [hi'] at hu ⊢
    exact hu
   ·simp only [zba, List.mem_map, List.mem_filter]
    exact ⟨e, ⟨by simpa using he, hb⟩, rfl⟩
  ·simp only [Classical.not_forall] at hp
   obtain ⟨p, hpm, hpu⟩ := hp
   have hlt := (zbW hord ho).1 p hpm
   exact ih p hlt (by omega) (by simpa using hpu)
theorem zcM {listed : Array Bool} {j : Nat} (h : j ≠ listed.size) (d : Bool) : (listed.push false).getD j d = listed.getD j d := by
 rcases Nat.lt_trichotomy j listed.size with hlt | rfl | hgt
 ·rw [Array.getD_eq_getD_getElem?, Array.getD_eq_getD_getElem?, Array.getElem?_push, if_neg h]
 ·exact absurd rfl h
 ·simp [Array.getElem?_eq_none (Nat.le_of_lt hgt), Array.getElem?_eq_none (show (listed.push false).size ≤ j by simp; omega)]
theorem zpn {listed : Array Bool} {i : Nat} (h : i < listed.size) : (listed.push false).setIfInBounds i true = (listed.setIfInBounds i true).push false := by
 apply Array.toList_inj.1
 simp [List.set_append_left _ _ (show i < listed.toList.length by simpa using h)]
theorem zjD (listed : Array Bool) (d : Bool) : (listed.push false).getD listed.size d = false := by simp
/-- The last operation, behind all of the others. -/
theorem zmv (hord : zgb l = true) (hg : ∀ x ∈ l, x.guard = none) (hgo : o.guard = none) (hlast : ∀ j, j < l.length → zd9 (l ++ [o]) (l.length + 1) j l.length = true) (hlp : ∀ p ∈ zba o, p < l.length)
  (hQ : ∀ e a w, e ≠ .normal → Q1 e a w → Q e a w) (hN : ∀ a w, Q1 .normal a w → o.wp P a w (fun a w => Q .normal a w) Q ∨ (o.asks P a w ∧ LetsOut Q)) :
  ∀ (fuel : Nat) (listed : Array Bool) (a : Act) (w : World), listed.size = l.length → (∀ j y, l[j]? = some y → listed.getD j false = true → ∀ p ∈ zba y, listed.getD p false = true) →
   wpAny P .any l.toArray Q1 fuel listed a w → wpAny P .any (l ++ [o]).toArray Q (fuel + 1) (listed.push false) a w := by
 -- an operation that is ready among all
 have rdy : ∀ (listed : Array Bool), listed.size = l.length → ∀ i, i ∈ Region.ready .any (l ++ [o]).toArray (listed.push false) → i < l.length → i ∈ Region.ready .any l.toArray listed := fun listed hsz i hi hlt => by
  obtain ⟨h1, x, hx, h2⟩ := mem_ready.1 hi
  have hx' : l[i]? = some x := by
   have : (l ++ [o])[i]? = some x := by simpa using hx
   rwa [List.getElem?_append_left hlt] at this
  refine mem_ready.2 ⟨by rwa [zcM (by omega)] at h1, x, by simpa using hx', fun e he hb => ?_⟩
  have h3 := h2 e he hb
  have hp := (zbW hord hx').1 e.on (by simp only [zba, List.mem_map, List.mem_filter]; exact ⟨e, ⟨by simpa using he, hb⟩, rfl⟩)
  rwa [zcM (by omega)] at h3
 have rlt : ∀ (listed : Array Bool) i, i ∈ Region.ready .any (l ++ [o]).toArray listed → i ≤ l.length := fun listed i hi => by
  obtain ⟨_, x, hx, _⟩ := mem_ready.1 hi
  have := (Array.getElem?_eq_some_iff.1 hx).1
  simp at this
  omega
 -- the last one is ready when all are done, and then alone
 have lastAll : ∀ (listed : Array Bool), listed.size = l.length → (∀ j y, l[j]? = some y → listed.getD j false = true → ∀ p ∈ zba y, listed.getD p false = true) → l.length ∈ Region.ready .any (l ++ [o]).toArray (listed.push false) → ∀ j, j < l.length → listed.getD j false = true := fun listed hsz hcl hi j hj => by
  obtain ⟨_, x, hx, h2⟩ := mem_ready.1 hi
  have hx' : (l ++ [o])[l.length]? = some x := by simpa using hx
  have hxo : x = o := by simpa using hx'.symm
  subst hxo
  have h3 := zcJ (ops := l ++ [x]) (S := fun j => (listed.push false).getD j false) (fun j y hy (hS : (listed.push false).getD j false = true) p hp => show (listed.push false).getD p false = true from ?_) (l.length + 1) j l.length x (by simp) (fun p hp => ?_) (hlast j hj)
  ·have h3 : (listed.push false).getD j false = true := h3
   rwa [zcM (by omega)] at h3
  ·by_cases hjl : j < l.length
   ·rw [zcM (by omega)] at hS
    rw [List.getElem?_append_left hjl] at hy
    have hpl := (zbW hord hy).1 p hp
    rw [zcM (by omega)]
    exact hcl j y hy hS p hp
   ·have : j = l.length := by
     have := (lGE.1 hy).1
     simp at this
     omega
    subst this
    rw [← hsz, zjD] at hS
    cases hS
  ·simp only [zba, List.mem_map, List.mem_filter] at hp
   obtain ⟨e, ⟨he, hb⟩, rfl⟩ := hp
   exact h2 e (by simpa using he) hb
 have noneReady : ∀ (listed : Array Bool), listed.size = l.length → (∀ j, j < l.length → listed.getD j false = true) → Region.ready .any l.toArray listed = [] := fun listed hsz hall => by
  refine List.eq_nil_iff_forall_not_mem.2 fun i hi => ?_
  obtain ⟨h1, x, hx, _⟩ := mem_ready.1 hi
  have hl : i < l.length := by
   have := (Array.getElem?_eq_some_iff.1 hx).1
   simpa using this
  have h2 := hall i hl
  have hi' : i < listed.size := by omega
  simp [hi'] at h1 h2
  rw [h1] at h2
  cases h2
 have wanted : ∀ (i : Nat) x (K : Act → World → Prop) (a : Act) (w : World), (l ++ [o])[i]? = some x → x.wp P a w K Q ∨ (x.asks P a w ∧ LetsOut Q) → wpOp P (l ++ [o]).toArray Q i K a w := fun i x K a w hx h => by
  have hxg : x.guard = none := by
   rcases List.mem_append.1 (List.mem_of_getElem? hx) with h | h
   ·exact hg x h
   ·rw [List.mem_singleton.1 h]; exact hgo
  unfold wpOp
  have hx' : (l ++ [o]).toArray[i]? = some x := by simpa using hx
  rw [hx']
  simp only [Region.wanted, hxg, if_true]
  exact h
 have doLast : ∀ (listed : Array Bool) (a : Act) (w : World), listed.size = l.length → (∀ j, j < l.length → listed.getD j false = true) → Q1 .normal a w → ∀ fuel, wpOp P (l ++ [o]).toArray Q l.length (wpAny P .any (l ++ [o]).toArray Q fuel ((listed.push false).setIfInBounds l.length true)) a w := fun listed a w hsz hall hq fuel => by
  refine wanted l.length o _ a w (by simp) ((hN a w hq).imp (Oper.wp_mono fun a' w' hk => ?_) id)
  have hnil : Region.ready .any (l ++ [o]).toArray ((listed.push false).setIfInBounds l.length true) = [] := by
   refine List.eq_nil_iff_forall_not_mem.2 fun i hi => ?_
   have hle := rlt _ i hi
   obtain ⟨h1, _⟩ := mem_ready.1 hi
   by_cases hil : i = l.length
   ·subst hil
    have : l.length < (listed.push false).size := by simp; omega
    simp [hsz] at h1
   ·rw [getD_set_ne true (Ne.symm hil), zcM (by omega)] at h1
    have h2 := hall i (by omega)
    have hi' : i < listed.size := by omega
    simp [hi'] at h1 h2
    rw [h1] at h2
    cases h2
  cases fuel with
  | zero => exact ⟨hnil, hk⟩
  | succ f => exact ⟨fun _ => hk, fun i hi => by rw [hnil] at hi; cases hi⟩
 have notNil : ∀ (listed : Array Bool), listed.size = l.length → Region.ready .any (l ++ [o]).toArray (listed.push false) = [] → False := fun listed hsz hnil => by
  have hall : ∀ j, j < l.length → listed.getD j false = true := fun j hj => by
   cases hu : listed.getD j false with
   | true => rfl
   | false =>
    obtain ⟨i0, h0⟩ := zg3 hord hsz j hj hu
    obtain ⟨h1, x, hx, h2⟩ := mem_ready.1 h0
    have hl : i0 < l.length := by
     have := (Array.getElem?_eq_some_iff.1 hx).1
     simpa using this
    have hx' : l[i0]? = some x := by simpa using hx
    have : i0 ∈ Region.ready .any (l ++ [o]).toArray (listed.push false) := mem_ready.2 ⟨by rwa [zcM (by omega)], x, by simp [List.getElem?_append_left hl, hx'], fun e he hb => by
     have h3 := h2 e he hb
     have hp := (zbW hord hx').1 e.on (by simp only [zba, List.mem_map, List.mem_filter]; exact ⟨e, ⟨by simpa using he, hb⟩, rfl⟩)
     rwa [zcM (by omega)]⟩
    rw [hnil] at this
    cases this
  have : l.length ∈ Region.ready .any (l ++ [o]).toArray (listed.push false) := mem_ready.2 ⟨by rw [← hsz]; exact zjD listed true, o, by simp, fun e he hb => by
   have hp := hlp e.on (by simp only [zba, List.mem_map, List.mem_filter]; exact ⟨e, ⟨by simpa using he, hb⟩, rfl⟩)
   rw [zcM (by omega)]
   exact hall _ hp⟩
  rw [hnil] at this
  cases this
 intro fuel
 induction fuel with
 | zero =>
  intro listed a w hsz hcl ⟨h1, h2⟩
  have hall : ∀ j, j < l.length → listed.getD j false = true := fun j hj => by
   cases hu : listed.getD j false with
   | true => rfl
   | false =>
    obtain ⟨i0, h0⟩ := zg3 hord hsz j hj hu
    rw [h1] at h0
    cases h0
  refine ⟨fun hnil => (notNil listed hsz hnil).elim, fun i hi => ?_⟩
  have hle := rlt _ i hi
  by_cases hil : i < l.length
  ·have := rdy listed hsz i hi hil
   rw [h1] at this
   cases this
  ·obtain rfl : i = l.length := by omega
   exact doLast listed a w hsz hall h2 0
 | succ fuel ih =>
  intro listed a w hsz hcl ⟨h1, h2⟩
  refine ⟨fun hnil => (notNil listed hsz hnil).elim, fun i hi => ?_⟩
  have hle := rlt _ i hi
  by_cases hil : i < l.length
  ·have hr := rdy listed hsz i hi hil
   have h3 := h2 i hr
   obtain ⟨hun, x, hx, hpred⟩ := mem_ready.1 hr
   have hx' : l[i]? = some x := by simpa using hx
   have hxg := hg x (List.mem_of_getElem? hx')
   unfold wpOp at h3
   rw [hx] at h3
   simp only [Region.wanted, hxg, if_true] at h3
   have step : ∀ a w, wpAny P .any l.toArray Q1 fuel (listed.setIfInBounds i true) a w → wpAny P .any (l ++ [o]).toArray Q (fuel + 1) ((listed.push false).setIfInBounds i true) a w := fun a w h => by
    have e : (listed.push false).setIfInBounds i true = (listed.setIfInBounds i true).push false := by
     exact zpn (by omega)
    rw [e]
    refine ih _ a w (by simpa using hsz) (fun j y hy hl p hp => ?_) h
    by_cases hji : j = i
    ·subst hji
     obtain rfl : y = x := by rw [hx'] at hy; cases hy; rfl
     have hpl := (zbW hord hx').1 p hp
     rw [getD_set_ne false (by omega)]
     simp only [zba, List.mem_map, List.mem_filter] at hp
     obtain ⟨e, ⟨he, hb⟩, rfl⟩ := hp
     exact hpred e (by simpa using he) hb
    ·rw [getD_set_ne false (Ne.symm hji)] at hl
     exact getD_set_true (hcl j y hy hl p hp)
   rcases h3 with h3 | ⟨h3, h4⟩
   ·exact wanted i x _ a w (by rw [List.getElem?_append_left hil]; exact hx') (.inl (Oper.zql step hQ h3))
   ·exact wanted i x _ a w (by rw [List.getElem?_append_left hil]; exact hx') (.inr ⟨h3, let ⟨a, w, h5⟩ := h4; ⟨a, w, hQ _ _ _ (by simp) h5⟩⟩)
  ·obtain rfl : i = l.length := by omega
   have hall := lastAll listed hsz hcl hi
   exact doLast listed a w hsz hall (h1 (noneReady listed hsz hall)) (fuel + 1)
end
/-- The operations but the last one. -/
def zeb : List Oper → Option (List Oper × Oper)
 | [] => none
 | [o] => some ([], o)
 | x :: l => (zeb l).map fun p => (x :: p.1, p.2)
theorem zgq : ∀ {L l : List Oper} {o : Oper}, zeb L = some (l, o) → L = l ++ [o]
 | [o'], l, o, h => by simp [zeb] at h; obtain ⟨rfl, rfl⟩ := h; rfl
 | x :: y :: r, l, o, h => by
  rw [zeb] at h
  ·cases hr : zeb (y :: r) with
   | none => rw [hr] at h; cases h
   | some p =>
    rw [hr] at h
    cases h
    rw [zgq (l := p.1) (o := p.2) hr]; rfl
  ·simp
def zqy (l : List Oper) (o : Oper) : Bool := zgb l && (l.all fun x => x.guard.isNone) && o.guard.isNone && ((List.range l.length).all fun j => zd9 (l ++ [o]) (l.length + 1) j l.length) && ((zba o).all fun p => decide (p < l.length))
/-- What is left when all but the last operation are done. -/
def zr2 (P : Program) (Γ : Ctx) (o : Oper) (s' : St) (k : St → Prop) : Prop := match zbe #[o] [o] with | some l' => H P Γ l' s' k | none => False
theorem zdx {P Γ o s' k} (h : match zbe #[o] [o] with | some l' => H P Γ l' s' k | none => False) : zr2 P Γ o s' k := h
theorem zeB {P Γ s} {Q : Exit → St → Prop} {kt : Kt} {id : Nat} {L l : List Oper} {o : Oper} (hs : zeb L = some (l, o)) (hm : P.follows .mixedOrders = true) (hok : zqy l o = true) (hn0 : Γ.n0 ≤ s.next)
  (h : ∀ (C : Fp4 → Prop) (k : St → Prop), (∀ fp, zqw l fp = true → C fp) → (∀ s', zr2 P Γ o s' (zap P Γ Q kt .normal) → k s') → match zbe l.toArray l with | some l' => HD4 P Γ s.next l' s [] C k | none => False) :
  V P Γ (.region id L.toArray true) s (zap P Γ Q kt) := by
 obtain rfl := zgq hs
 simp only [zqy, Bool.and_eq_true, List.all_eq_true, List.mem_range, decide_eq_true_eq, Option.isNone_iff_eq_none] at hok
 obtain ⟨⟨⟨⟨h1, h2⟩, h3⟩, h4⟩, h5⟩ := hok
 let R0 : Exit → St → Prop := fun e s' => match e with | .normal => (match zbe #[o] [o] with | some l' => H P Γ l' s' (zap P Γ Q kt .normal) | none => False) | e => zap P Γ Q kt e s'
 have hva : VA P Γ l s R0 := zmq h1 hn0 fun C k hC hk => h C k hC fun s' hs' => hk s' hs'
 intro K a w hin hsim
 refine wp_region_any hm ?_
 have h6 := hva K a w hin hsim
 have key := zmv (Q := VPost Γ (zap P Γ Q kt)) (Q1 := VPost Γ R0) (P := P) h1 h2 h3 (fun j hj => h4 j hj) (fun p hp => h5 p hp) (fun e a w he hq => ?_) (fun a w hq => ?_) l.length (Array.replicate l.length false) a { w with drawn := w.drawn + 1 } (by simp) (fun j y hy hl => ?_) (by simpa using h6)
 ·have e1 : (Array.replicate l.length false).push false = Array.replicate (l ++ [o]).toArray.size false := by simp [Array.replicate_succ]
  rw [e1] at key
  have e2 : (l ++ [o]).toArray.size = l.length + 1 := by simp
  rw [e2] at key ⊢
  exact key
 ·rcases hq with ⟨K', s', g1, g2, g3⟩ | hq
  ·refine .inl ⟨K', s', g1, g2, ?_⟩
   cases e <;> first | exact absurd rfl he | exact g3
  ·exact .inr hq
 ·rcases hq with ⟨K', s', g1, g2, g3⟩ | ⟨hq, _⟩
  ·have g3' : match zbe #[o] [o] with | some l' => H P Γ l' s' (zap P Γ Q kt .normal) | none => False := g3
   split at g3'
   ·rename_i l' hl'
    have hg := g3' _ _ hl'
    have := hg K' a w g1 g2 (fun e a w => VPost Γ (zap P Γ Q kt) e a w) (fun K2 a2 w2 s2 q1 q2 q3 => .inl ⟨K2, s2, q1, q2, q3⟩) (fun ch K2 a2 w2 s2 q1 q2 q3 => .inl ⟨K2, s2, q1, q2, q3⟩)
    unfold wpList at this
    simp only [Region.wanted, h3, if_true] at this
    exact this
   ·exact g3'.elim
  ·exact hq.elim
 ·have hj := (lGE.1 hy).1
  simp [hj] at hl
/-- A call that is handed objects, and says what becomes of them by a statement. -/
theorem CallP.okE {P : Program} {Γ : Ctx} {s : St} {k : St → Prop} {dst : Option Tmp} {fop : Operand} {args : List Operand} {f caps} {ds : List D} {O : List (Nat × Ob)} {post : D → List (Nat × Ob) → Nat → Prop}
  (hret : RetX P f ds O s.next fun r o n => ∃ d, r = .val d ∧ post d o n) (hO : ∀ p ∈ O, getK s.obs p.1 = some p.2)
  (hf : zaw (opd s fop) = some (f, caps)) (hc : zam P f = true) (hds : args.map (opd s) ++ caps = ds) (hp : zaI dst s)
  (hk : ∀ d o n, s.next ≤ n → post d o n → k (({ s with obs := zdf s.obs (O.map (·.1)) ++ o, next := n } : St).put dst d)) : CallP P Γ fop args dst s k :=
 CallP.xF (zdf s.obs (O.map (·.1))) O hret (zi1 hO) zhr hf hc hds hp (fun d' o1 nx' hn ⟨d, h1, h2⟩ => by cases h1; exact hk _ _ _ hn h2) (fun ch o1 nx' _ ⟨d, h1, _⟩ => by cases h1)
end Go.VL
namespace Go.VL
open Go Go.Lib
def zek (l : List UInt8) : List (List U) := l.map fun c => [.int .u8 c.toNat]
abbrev zcu (l : List UInt8) : List (List D) := rowsD (zek l)
theorem znm (l : List UInt8) : (zek l).length = l.length := by simp [zek]
theorem znn (a b : List UInt8) : zek (a ++ b) = zek a ++ zek b := by simp [zek]
theorem zik (l : List UInt8) : (zcu l).length = l.length := by simp [zek]
theorem zgk (l : List UInt8) : zcu l = l.map fun c => [.u (.int .u8 c.toNat)] := by simp [zcu, zek, rowsD, Function.comp_def]
theorem znq {P : Program} (w : World) {t u ty e : TypeId} {i : TypeInfo} (ht : P.underlying t = some (.slice e)) (hu : P.underlying u = some .string) (hi : P.info? e = some i) (hz : i.zero = some (.int .u8 0)) (hsize : i.size = 1) (hby : i.bytes = 1)
  {v : Value} {n : Nat} {xs : List Value} (hown : w.ownsRow 0 e 1 v n xs) (s : ByteArray) (hb : n + s.size ≤ 140737488355328) :
  ∃ v' w', (Builtin.append_ #[t, u] ty #[v, .string s]).run P w = .ok v' w' ∧ w'.ownsRow 0 e 1 v' (n + s.size) (xs ++ strCells s) ∧ w.grownBy w' v.ownBlock ∧
   (v'.ownBlock = v.ownBlock ∨ ∃ b, w.heap.size ≤ b ∧ v'.ownBlock = some b) := by
 have h63 : n + s.size ≤ maxLen := by unfold maxLen; omega
 obtain ⟨v', w', hr, h2, h3, _⟩ := run_append_own_string w 0 t u ty e i ht hu hi hz hsize hby v n xs hown s h63 hb (Nat.zero_le _)
 refine ⟨v', w', hr, h2, h3, ?_⟩
 rcases hown.2 with ⟨rfl, rfl⟩ | ⟨g, cap, cur, rfl, hbg, hg, hnc, hcm, hcs, htake⟩
 ·have hx : xs = [] := List.eq_nil_of_length_eq_zero (by simpa using hown.1)
  subst hx
  obtain ⟨v2, w2, hr2, h4, _⟩ := run_append_own_string w w.heap.size t u ty e i ht hu hi hz hsize hby (.slice none 0 0) 0 [] (World.ownsRow_nil w w.heap.size e 1) s h63 hb (Nat.le_refl _)
  rw [hr] at hr2
  cases hr2
  rcases h4.2 with ⟨rfl, _⟩ | ⟨g, cap, cur, rfl, hbg, _⟩
  ·exact .inl rfl
  ·exact .inr ⟨g, hbg, rfl⟩
 ·by_cases hroom : n + s.size ≤ cap
  ·have hcs' : cur.size = cap := by simpa using hcs
   have hr2 := run_append_room_string (P := P) w t u ty e i ht hu hi hsize g n cap cur hg s hroom (by omega)
   rw [hr] at hr2
   cases hr2
   exact .inl rfl
  ·have holds : ∀ j u, xs[j]? = some u → w.cell? ((⟨g, 0, none⟩ : Addr).add j) = some u := hown.cells (g := g) rfl
   have hxl : xs.length = n := by simpa using hown.1
   have hr2 := run_append_grow_string (P := P) w t u ty e i (.int .u8 0) ht hu hi hz ⟨g, 0, none⟩ n cap xs (by rw [hsize]; simpa using hxl) holds s (by omega) (by omega) (by rw [hby]; exact growslice_fits (by omega) (by omega))
   rw [hr] at hr2
   cases hr2
   exact .inr ⟨_, Nat.le_refl _, rfl⟩
def zlo (P : Program) (t u : TypeId) : Option TypeId := match P.underlying t, P.underlying u with
 | some (.slice e), some .string => match P.info? e with
  | some i => match i.zero with
   | some (.int .u8 z) => if z = 0 ∧ i.size = 1 ∧ i.bytes = 1 then some e else none
   | _ => none
  | none => none
 | _, _ => none
def zf1 (P : Program) (t u : TypeId) (x y : D) (s : St) (dst : Option Tmp) (k : St → Prop) : Prop := match x, y with
 | .vec i len, .u (.str l) => match getK s.obs i with
  | some (.vec e sz rows) => zlo P t u = some e ∧ sz = 1 ∧ len = rows.length ∧ zaI dst s ∧ len + l.length ≤ 140737488355328 ∧
    k ((({ s with obs := del s.obs i } : St).add (.vec e 1 (rows ++ zcu l))).put dst (.vec s.next (len + l.length)))
  | _ => False
 | _, _ => False
theorem Eff.zrq {P Γ o s k x y t u} (ho : o.op = .call { callee := .builtin .append, args := #[x, y], argTypes := #[t, u] }) (h : zf1 P t u (opd s x) (opd s y) s o.dst k) : Eff P Γ o s k := by
 intro K a w hin hs Kont Q hK
 obtain ⟨dst, op, type, pos, after, guard⟩ := o
 simp only at ho h
 subst ho
 unfold zf1 at h
 split at h
 case h_2 => exact h.elim
 rename_i i len l hx hy
 split at h
 case h_2 => exact h.elim
 rename_i e sz rows hg
 obtain ⟨he, rfl, rfl, hp, hlen0, hk⟩ := h
 unfold zlo at he
 split at he
 case h_2 => cases he
 rename_i e0 ht hu
 split at he
 case h_2 => cases he
 rename_i inf hi
 split at he
 case h_2 => cases he
 rename_i z hz
 split at he
 case isFalse => cases he
 rename_i hinf
 cases he
 obtain ⟨rfl, hsize, hby⟩ := hinf
 have hnext := hs.hdr s.next (Nat.le_refl _)
 have hxr := zaL hs x
 rw [hx] at hxr
 obtain ⟨gi, hgi, hxv⟩ := zd5 hxr
 have hyr := zaL hs y
 rw [hy] at hyr
 have hyv := zer hyr
 obtain ⟨g2, xs, hg2, hrow, hpos, hlen, hcs, hno⟩ := (hs.sat.ob _ _ hg).vec
 rw [hgi] at hg2
 simp only [Option.some.injEq] at hg2
 subst hg2
 have hls : (ByteArray.mk l.toArray).size = l.length := by simp [ByteArray.size]
 obtain ⟨v', w', hrun, hown, hgrow, hob⟩ := znq w (ty := type) ht hu hi hz hsize hby hrow ⟨l.toArray⟩ (by rw [hls]; exact hlen0)
 rw [hls] at hown
 obtain ⟨g, hv', hgv⟩ := ziH hown
 subst hv'
 have hrun' : (execOp a.eval { dst, op := .call { callee := .builtin .append, args := #[x, y], argTypes := #[t, u] }, type, pos, after, guard }).run P w = .ok (.value (zaX g (rows.length + l.length))) w' := by
  simp only [execOp]
  simp [resolve, invoke, builtin, hxv, hyv, hrun]
 unfold Oper.wp
 rw [hrun']
 have hle := Kr.zfd (k := K) (h := g) hnext
 have hvb : (zaX gi rows.length).ownBlock = gi.1 := by
  obtain ⟨gb, gc⟩ := gi
  cases gb <;> rfl
 rw [hvb] at hgrow hob
 have hin' : In Γ (K.add s.next g) w' := (hin.grown hgrow (fun b e => (hno b e).1)).step hle (fun _ _ _ e => .inl e) rfl rfl rfl (Nat.le_refl _) fun _ _ => rfl
 have hd := hs.sat.del i
 have hnb : ∀ b, gi.1 = some b → ¬ Blk K (del s.obs i) b := fun b e ⟨j, oj, gj, h1, h2, h3⟩ => by
  rw [zac] at h1
  split at h1
  ·cases h1
  ·rename_i hji
   exact hs.sat.apart i j _ oj gi gj b hg h1 (Ne.symm hji) hgi h2 e h3
 have hold : ∀ b, b < w.heap.size → gi.1 ≠ some b → w'.heap[b]? = w.heap[b]? := fun b hb hne => hgrow.block b hb (fun e => hne e.symm)
 have hcell : ∀ j : Nat, (strCells ⟨l.toArray⟩)[j]? = (l[j]?).map fun c : UInt8 => Value.int .u8 c.toNat := fun j => by simp [strCells]
 suffices hsim : Sim (K.add s.next g) Γ.own (({ s with obs := del s.obs i } : St).add (.vec e 1 (rows ++ zcu l))) a w' from
  hK _ _ _ _ hin' (hsim.put (St.zdO (s := { s with obs := del s.obs i }) (by cases dst <;> simp_all [zaI])) (.vec _ _ _ (by simp [Kr.add]))) hk
 refine ⟨?_, hs.defers, hs.size, fun x d hx => ⟨(hs.env x d hx).1, (hs.env x d hx).2.mono hle⟩, fun i hi => ?_⟩
 ·refine hd.add hnext (fun b e => ?_) (fun b hb => ?_) ⟨xs ++ strCells ⟨l.toArray⟩, ?_, Nat.one_pos, ?_, ?_⟩
  ·rw [hgv] at e
   rcases hob with ho | ⟨b', hb', ho⟩
   ·rw [ho] at e
    exact ⟨(hno b e).1, (hno b e).2, hnb b e⟩
   ·rw [ho] at e
    simp only [Option.some.injEq] at e
    subst e
    refine ⟨hin.own_of_ge hb', fun o => ?_, fun hb => absurd (hd.lt hb) (by omega)⟩
    cases hm : K.mem b' o with
    | none => rfl
    | some v => exact absurd (hs.sat.memLt hm) (by omega)
  ·refine hold b (hb.elim hd.lt fun ⟨_, _, e⟩ => hs.sat.memLt e) fun e => ?_
   rcases hb with hb | ⟨o, v, hm⟩
   ·exact hnb b e hb
   ·have := (hno b e).2 o
    rw [hm] at this
    cases this
  ·have e1 : (rows ++ zcu l).length = rows.length + l.length := by rw [List.length_append, zik]
   rw [e1]
   exact hown
  ·intro r hr
   rcases List.mem_append.1 hr with hr | hr
   ·exact hlen r hr
   ·rw [zgk] at hr
    obtain ⟨c, _, rfl⟩ := List.mem_map.1 hr
    try rfl
  ·have hnews : ∀ i r, (zcu l)[i]? = some r → ∀ j d, r[j]? = some d → zcV (K.add s.next g) d ((strCells ⟨l.toArray⟩).getD (i * 1 + j) undef) := fun i r hi j d hj => by
    rw [zgk, List.getElem?_map] at hi
    cases hc : l[i]? with
    | none => rw [hc] at hi; cases hi
    | some c =>
     rw [hc] at hi
     cases hi
     match j, hj with
     | 0, hj =>
      cases hj
      have : (strCells ⟨l.toArray⟩).getD (i * 1 + 0) undef = .int .u8 c.toNat := by
       rw [List.getD_eq_getElem?_getD, Nat.mul_one, Nat.add_zero, hcell, hc]; rfl
      rw [this]
      exact ⟨rfl, .u _ _ (.int _ _)⟩
   exact rows_append (by simpa using hrow.1) hlen (fun i r hi j d hj => ⟨(hcs i r hi j d hj).1, (hcs i r hi j d hj).2.mono hle⟩) hnews
 ·have hi' : s.next + 1 ≤ i := hi
  simp only [Kr.add]
  rw [if_neg (by omega)]
  exact hs.hdr i (by omega)
theorem zkI {P : Program} {Γ : Ctx} {s : St} {k : St → Prop} {dst : Option Tmp} {x y : Operand} {t u : TypeId} {rest : List O1}
  (h : zf1 P t u (opd s x) (opd s y) s dst fun s' => H P Γ rest s' k) : H P Γ (⟨dst, .call { callee := .builtin .append, args := #[x, y], argTypes := #[t, u] }, none⟩ :: rest) s k := by
 intro all ops e
 obtain ⟨o, ops', rfl, hx, hr⟩ := zc2 e
 obtain ⟨dst', op, type, pos, after, guard⟩ := o
 unfold zc4 at hx
 simp only at hx
 cases guard with
 | none =>
  simp at hx
  obtain ⟨rfl, rfl⟩ := hx
  exact zr3 ((Eff.zrq (o := { dst := dst', op := _, type, pos, after, guard := none }) rfl h).mono fun s' h => h all ops' hr)
 | some g =>
  obtain ⟨j, b⟩ := g
  simp only at hx
  split at hx <;> simp at hx
theorem Eff.zr5 {P Γ o s k t} (ho : o.op = .alloc t) (hz : zeF P t = some [.pointer none, .slice none 0 0]) (hp : zaI o.dst s) (hk : k ((s.add (.nw t)).put o.dst (.ptr s.next 0))) : Eff P Γ o s k := by
 intro K a w hin hs Kont Q hK
 obtain ⟨v, hv, hc, hone⟩ := zf6 hz
 obtain ⟨h1, h2⟩ := Sim.alloc hin hs (.cells v.cells t) 0 (.nw t) ⟨w.heap.size, rfl, by rw [heap_alloc_new, hc]⟩
 have hrun : (execOp a.eval o).run P w = .ok (.value (.pointer (some ⟨w.heap.size, 0, none⟩))) (w.alloc (.cells v.cells t)) := by
  obtain ⟨dst, op, type, pos, after, guard⟩ := o
  simp only at ho
  subst ho
  simp [execOp, Instr.alloc, hv, newVar, newRow]
 unfold Oper.wp
 rw [hrun]
 refine hK _ _ _ _ h1 (h2.put (by cases hd : o.dst <;> simp_all [zaI, St.add]) (.ptr _ _ w.heap.size 0 (by simp [Kr.add]))) hk
/-- A variable of two nil cells is made, and not yet written. -/
theorem zgR {P : Program} {Γ : Ctx} {s : St} {k : St → Prop} {dst : Option Tmp} {t : TypeId} {rest : List O1}
  (hz : zeF P t = some [.pointer none, .slice none 0 0]) (hp : zaI dst s) (h : H P Γ rest ((s.add (.nw t)).put dst (.ptr s.next 0)) k) : H P Γ (⟨dst, .alloc t, none⟩ :: rest) s k := by
 intro all ops e
 obtain ⟨o, ops', rfl, hx, hr⟩ := zc2 e
 obtain ⟨dst', op, type, pos, after, guard⟩ := o
 unfold zc4 at hx
 simp only at hx
 cases guard with
 | none =>
  simp at hx
  obtain ⟨rfl, rfl⟩ := hx
  exact zr3 ((Eff.zr5 (k := fun s' => H P Γ rest s' k) (o := { dst := dst', op := _, type, pos, after, guard := none }) rfl hz hp h).mono fun s' h => h all ops' hr)
 | some g =>
  obtain ⟨j, b⟩ := g
  simp only at hx
  split at hx <;> simp at hx
end Go.VL
namespace Go.Proofs.YthnemhfamhnfjaaGreatDoor
open Go Go.VL
@[simp] theorem ld3 : zgz Tryz.prog 3 = some none := by kernel_rfl
@[simp] theorem ts3 : tsz Tryz.prog 3 = some 1 := by kernel_rfl
@[simp] theorem io3 : zl4 Tryz.prog 3 = some .i64 := by kernel_rfl
@[simp] theorem zc3 : zeF Tryz.prog 3 = some [.int .i64 0] := by kernel_rfl
@[simp] theorem sl3 : zqz Tryz.prog 3 = false := by kernel_rfl
@[simp] theorem ld4 : zgz Tryz.prog 4 = some none := by kernel_rfl
@[simp] theorem ts4 : tsz Tryz.prog 4 = some 1 := by kernel_rfl
@[simp] theorem ld9 : zgz Tryz.prog 9 = some none := by kernel_rfl
@[simp] theorem ts9 : tsz Tryz.prog 9 = some 1 := by kernel_rfl
@[simp] theorem na9 : zhd Tryz.prog 9 = true := by kernel_rfl
@[simp] theorem sf9 : stT Tryz.prog 9 = none := by kernel_rfl
@[simp] theorem st9 : zkd Tryz.prog 9 = true := by kernel_rfl
@[simp] theorem zc9 : zeF Tryz.prog 9 = some [.string ⟨#[]⟩] := by kernel_rfl
@[simp] theorem sl9 : zqz Tryz.prog 9 = false := by kernel_rfl
@[simp] theorem zvw : zle Tryz.prog 20 = true := by kernel_rfl
@[simp] theorem zuz : zgz Tryz.prog 23 = some none := by kernel_rfl
@[simp] theorem zun : tsz Tryz.prog 23 = some 1 := by kernel_rfl
@[simp] theorem zuo : zhd Tryz.prog 23 = true := by kernel_rfl
@[simp] theorem zuD : zlm Tryz.prog 23 = some (45, 6) := by kernel_rfl
@[simp] theorem zuH : zfq Tryz.prog 23 = some (45, 6, 80, [.string ⟨#[]⟩, .int .i64 0, .int .i64 0, .int .i64 0, .string ⟨#[]⟩, .slice none 0 0]) := by kernel_rfl
@[simp] theorem zuy : zgz Tryz.prog 24 = some none := by kernel_rfl
@[simp] theorem zuC : zlm Tryz.prog 24 = some (26, 5) := by kernel_rfl
@[simp] theorem zuG : zfq Tryz.prog 24 = some (26, 5, 64, [.int .i64 0, .int .i64 0, .int .i64 0, .string ⟨#[]⟩, .slice none 0 0]) := by kernel_rfl
@[simp] theorem zux : zgz Tryz.prog 26 = some (some 5) := by kernel_rfl
@[simp] theorem zum : tsz Tryz.prog 26 = some 5 := by kernel_rfl
@[simp] theorem zuf : zeF Tryz.prog 26 = some [.int .i64 0, .int .i64 0, .int .i64 0, .string ⟨#[]⟩, .slice none 0 0] := by kernel_rfl
@[simp] theorem zs9 : zbP Tryz.prog 26 0 = some (0, 1, none) := by kernel_rfl
@[simp] theorem zs8 : zbP Tryz.prog 26 1 = some (1, 1, none) := by kernel_rfl
@[simp] theorem zs7 : zbP Tryz.prog 26 2 = some (2, 1, none) := by kernel_rfl
@[simp] theorem zs6 : zbP Tryz.prog 26 3 = some (3, 1, none) := by kernel_rfl
@[simp] theorem zs5 : zbP Tryz.prog 26 4 = some (4, 1, none) := by kernel_rfl
@[simp] theorem zt8 : zp Tryz.prog 26 = some ([.int .i64 0, .int .i64 0, .int .i64 0, .string ⟨#[]⟩, .slice none 0 0], [(0, 1), (1, 1), (2, 1), (3, 1), (4, 1)]) := by kernel_rfl
@[simp] theorem zuw : zgz Tryz.prog 28 = some (some 37) := by kernel_rfl
@[simp] theorem zul : tsz Tryz.prog 28 = some 37 := by kernel_rfl
@[simp] theorem zue : zeF Tryz.prog 28 = some [.int .i64 0, .int .i64 0, .int .i64 0, .int .i64 0, .int .i64 0, .int .i64 0, .bool false, .int .i64 0, .int .i64 0, .int .i64 0, .int .i64 0, .slice none 0 0, .int .i64 0, .int .i64 0, .int .i64 0, .string ⟨#[]⟩, .slice none 0 0, .int .i64 0, .int .i64 0, .int .i64 0, .string ⟨#[]⟩, .slice none 0 0, .int .i64 0, .int .i64 0, .int .i64 0, .string ⟨#[]⟩, .slice none 0 0, .int .i64 0, .int .i64 0, .int .i64 0, .string ⟨#[]⟩, .slice none 0 0, .int .i64 0, .int .i64 0, .int .i64 0, .string ⟨#[]⟩, .slice none 0 0] := by kernel_rfl
@[simp] theorem zs4 : zbP Tryz.prog 28 0 = some (0, 1, none) := by kernel_rfl
@[simp] theorem zs3 : zbP Tryz.prog 28 1 = some (1, 1, none) := by kernel_rfl
@[simp] theorem zs2 : zbP Tryz.prog 28 2 = some (2, 1, none) := by kernel_rfl
@[simp] theorem zs1 : zbP Tryz.prog 28 3 = some (3, 1, none) := by kernel_rfl
@[simp] theorem zs0 : zbP Tryz.prog 28 4 = some (4, 1, none) := by kernel_rfl
@[simp] theorem zsZ : zbP Tryz.prog 28 5 = some (5, 1, none) := by kernel_rfl
@[simp] theorem zsY : zbP Tryz.prog 28 6 = some (6, 1, none) := by kernel_rfl
@[simp] theorem zsX : zbP Tryz.prog 28 7 = some (7, 1, none) := by kernel_rfl
@[simp] theorem zsW : zbP Tryz.prog 28 8 = some (8, 1, none) := by kernel_rfl
@[simp] theorem zsV : zbP Tryz.prog 28 9 = some (9, 1, none) := by kernel_rfl
@[simp] theorem zsq : zbP Tryz.prog 28 10 = some (10, 1, none) := by kernel_rfl
@[simp] theorem zsp : zbP Tryz.prog 28 11 = some (11, 1, none) := by kernel_rfl
@[simp] theorem zso : zbP Tryz.prog 28 12 = some (12, 5, some 5) := by kernel_rfl
@[simp] theorem zsn : zbP Tryz.prog 28 13 = some (17, 5, some 5) := by kernel_rfl
@[simp] theorem zsm : zbP Tryz.prog 28 14 = some (22, 5, some 5) := by kernel_rfl
@[simp] theorem zsl : zbP Tryz.prog 28 15 = some (27, 5, some 5) := by kernel_rfl
@[simp] theorem zsk : zbP Tryz.prog 28 16 = some (32, 5, some 5) := by kernel_rfl
@[simp] theorem zt7 : zp Tryz.prog 28 = some ([.int .i64 0, .int .i64 0, .int .i64 0, .int .i64 0, .int .i64 0, .int .i64 0, .bool false, .int .i64 0, .int .i64 0, .int .i64 0, .int .i64 0, .slice none 0 0, .int .i64 0, .int .i64 0, .int .i64 0, .string ⟨#[]⟩, .slice none 0 0, .int .i64 0, .int .i64 0, .int .i64 0, .string ⟨#[]⟩, .slice none 0 0, .int .i64 0, .int .i64 0, .int .i64 0, .string ⟨#[]⟩, .slice none 0 0, .int .i64 0, .int .i64 0, .int .i64 0, .string ⟨#[]⟩, .slice none 0 0, .int .i64 0, .int .i64 0, .int .i64 0, .string ⟨#[]⟩, .slice none 0 0], [(0, 1), (1, 1), (2, 1), (3, 1), (4, 1), (5, 1), (6, 1), (7, 1), (8, 1), (9, 1), (10, 1), (11, 1), (12, 5), (17, 5), (22, 5), (27, 5), (32, 5)]) := by kernel_rfl
@[simp] theorem zuv : zgz Tryz.prog 29 = some none := by kernel_rfl
@[simp] theorem zuk : tsz Tryz.prog 29 = some 1 := by kernel_rfl
@[simp] theorem zud : zeF Tryz.prog 29 = some [.int .i64 0] := by kernel_rfl
@[simp] theorem zuu : zgz Tryz.prog 45 = some (some 6) := by kernel_rfl
@[simp] theorem zuj : tsz Tryz.prog 45 = some 6 := by kernel_rfl
@[simp] theorem zuc : zeF Tryz.prog 45 = some [.string ⟨#[]⟩, .int .i64 0, .int .i64 0, .int .i64 0, .string ⟨#[]⟩, .slice none 0 0] := by kernel_rfl
@[simp] theorem zsU : zbP Tryz.prog 45 0 = some (0, 1, none) := by kernel_rfl
@[simp] theorem zsT : zbP Tryz.prog 45 1 = some (1, 5, some 5) := by kernel_rfl
@[simp] theorem zt6 : zp Tryz.prog 45 = some ([.string ⟨#[]⟩, .int .i64 0, .int .i64 0, .int .i64 0, .string ⟨#[]⟩, .slice none 0 0], [(0, 1), (1, 5)]) := by kernel_rfl
@[simp] theorem zut : zgz Tryz.prog 47 = some none := by kernel_rfl
@[simp] theorem zuB : zlm Tryz.prog 47 = some (52, 4) := by kernel_rfl
@[simp] theorem zuF : zfq Tryz.prog 47 = some (52, 4, 40, [.int .i64 0, .string ⟨#[]⟩, .int .i64 0, .int .i64 0]) := by kernel_rfl
@[simp] theorem zus : zgz Tryz.prog 52 = some (some 4) := by kernel_rfl
@[simp] theorem zui : tsz Tryz.prog 52 = some 4 := by kernel_rfl
@[simp] theorem zub : zeF Tryz.prog 52 = some [.int .i64 0, .string ⟨#[]⟩, .int .i64 0, .int .i64 0] := by kernel_rfl
@[simp] theorem zsS : zbP Tryz.prog 52 0 = some (0, 1, none) := by kernel_rfl
@[simp] theorem zsR : zbP Tryz.prog 52 1 = some (1, 1, none) := by kernel_rfl
@[simp] theorem zsQ : zbP Tryz.prog 52 2 = some (2, 1, none) := by kernel_rfl
@[simp] theorem zsP : zbP Tryz.prog 52 3 = some (3, 1, none) := by kernel_rfl
@[simp] theorem zt5 : zp Tryz.prog 52 = some ([.int .i64 0, .string ⟨#[]⟩, .int .i64 0, .int .i64 0], [(0, 1), (1, 1), (2, 1), (3, 1)]) := by kernel_rfl
@[simp] theorem zur : zgz Tryz.prog 54 = some none := by kernel_rfl
@[simp] theorem zuA : zlm Tryz.prog 71 = some (9, 1) := by kernel_rfl
@[simp] theorem zuE : zfq Tryz.prog 71 = some (9, 1, 16, [.string ⟨#[]⟩]) := by kernel_rfl
@[simp] theorem zuq : zgz Tryz.prog 74 = some none := by kernel_rfl
@[simp] theorem zuh : tsz Tryz.prog 74 = some 1 := by kernel_rfl
@[simp] theorem zua : zeF Tryz.prog 76 = some [.pointer none, .slice none 0 0] := by kernel_rfl
@[simp] theorem zsO : zbP Tryz.prog 76 1 = some (1, 1, none) := by kernel_rfl
@[simp] theorem zup : zgz Tryz.prog 82 = some none := by kernel_rfl
@[simp] theorem zug : tsz Tryz.prog 82 = some 1 := by kernel_rfl
@[simp] theorem zt9 : zeF Tryz.prog 82 = some [.nilFunc] := by kernel_rfl
@[simp] theorem zsx : zbP Tryz.prog 103 0 = some (0, 1, none) := by kernel_rfl
@[simp] theorem zsw : zbP Tryz.prog 103 1 = some (1, 1, none) := by kernel_rfl
@[simp] theorem ztg : zp Tryz.prog 103 = some ([.slice none 0 0, .int .i64 0], [(0, 1), (1, 1)]) := by kernel_rfl
@[simp] theorem ztk : tsz Tryz.prog 105 = some 2 := by kernel_rfl
@[simp] theorem ztm : zmS Tryz.prog 105 = true := by kernel_rfl
@[simp] theorem zti : zeF Tryz.prog 105 = some [.int .i64 0, .int .i64 0] := by kernel_rfl
@[simp] theorem zsv : zbP Tryz.prog 105 0 = some (0, 1, none) := by kernel_rfl
@[simp] theorem zsu : zbP Tryz.prog 105 1 = some (1, 1, none) := by kernel_rfl
@[simp] theorem ztf : zp Tryz.prog 105 = some ([.int .i64 0, .int .i64 0], [(0, 1), (1, 1)]) := by kernel_rfl
@[simp] theorem zts : zlm Tryz.prog 119 = some (121, 3) := by kernel_rfl
@[simp] theorem ztu : zfq Tryz.prog 119 = some (121, 3, 32, [.string ⟨#[]⟩, .int .i64 0, .int .i64 0]) := by kernel_rfl
@[simp] theorem zto : zgz Tryz.prog 121 = some (some 3) := by kernel_rfl
@[simp] theorem ztj : tsz Tryz.prog 121 = some 3 := by kernel_rfl
@[simp] theorem zth : zeF Tryz.prog 121 = some [.string ⟨#[]⟩, .int .i64 0, .int .i64 0] := by kernel_rfl
@[simp] theorem zst : zbP Tryz.prog 121 0 = some (0, 1, none) := by kernel_rfl
@[simp] theorem zss : zbP Tryz.prog 121 1 = some (1, 1, none) := by kernel_rfl
@[simp] theorem zsr : zbP Tryz.prog 121 2 = some (2, 1, none) := by kernel_rfl
@[simp] theorem zte : zp Tryz.prog 121 = some ([.string ⟨#[]⟩, .int .i64 0, .int .i64 0], [(0, 1), (1, 1), (2, 1)]) := by kernel_rfl
@[simp] theorem ztr : zlm Tryz.prog 131 = some (3, 1) := by kernel_rfl
@[simp] theorem ztt : zfq Tryz.prog 131 = some (3, 1, 8, [.int .i64 0]) := by kernel_rfl
@[simp] theorem ztn : zgz Tryz.prog 138 = some (some 11) := by kernel_rfl
@[simp] theorem zt0 : zsa Tryz.prog 138 = some 11 := by kernel_rfl
@[simp] theorem ca9 : zam Tryz.prog 9 = true := by kernel_rfl
@[simp] theorem zvv : zam Tryz.prog 10 = true := by kernel_rfl
@[simp] theorem zvu : zam Tryz.prog 12 = true := by kernel_rfl
@[simp] theorem zvt : zam Tryz.prog 14 = true := by kernel_rfl
@[simp] theorem zvs : zam Tryz.prog 15 = true := by kernel_rfl
@[simp] theorem zvr : zam Tryz.prog 16 = true := by kernel_rfl
@[simp] theorem zvq : zam Tryz.prog 19 = true := by kernel_rfl
@[simp] theorem zvp : zam Tryz.prog 21 = true := by kernel_rfl
@[simp] theorem zvo : zam Tryz.prog 23 = true := by kernel_rfl
@[simp] theorem zvn : zam Tryz.prog 25 = true := by kernel_rfl
@[simp] theorem zvm : zam Tryz.prog 27 = true := by kernel_rfl
@[simp] theorem zvl : zam Tryz.prog 28 = true := by kernel_rfl
@[simp] theorem zvk : zam Tryz.prog 29 = true := by kernel_rfl
@[simp] theorem zvj : zam Tryz.prog 32 = true := by kernel_rfl
@[simp] theorem zvi : zam Tryz.prog 34 = true := by kernel_rfl
@[simp] theorem zvh : zam Tryz.prog 37 = true := by kernel_rfl
@[simp] theorem zvg : zam Tryz.prog 41 = true := by kernel_rfl
@[simp] theorem zvf : zam Tryz.prog 42 = true := by kernel_rfl
@[simp] theorem zve : zam Tryz.prog 43 = true := by kernel_rfl
@[simp] theorem zvd : zam Tryz.prog 44 = true := by kernel_rfl
@[simp] theorem zvc : zam Tryz.prog 46 = true := by kernel_rfl
@[simp] theorem zvb : zam Tryz.prog 47 = true := by kernel_rfl
@[simp] theorem zva : zam Tryz.prog 48 = true := by kernel_rfl
@[simp] theorem zu9 : zam Tryz.prog 49 = true := by kernel_rfl
@[simp] theorem zu8 : zam Tryz.prog 52 = true := by kernel_rfl
@[simp] theorem zu7 : zam Tryz.prog 56 = true := by kernel_rfl
@[simp] theorem zu6 : zam Tryz.prog 58 = true := by kernel_rfl
@[simp] theorem zu5 : zam Tryz.prog 59 = true := by kernel_rfl
@[simp] theorem zu4 : zam Tryz.prog 60 = true := by kernel_rfl
@[simp] theorem zu3 : zam Tryz.prog 61 = true := by kernel_rfl
@[simp] theorem zu2 : zam Tryz.prog 66 = true := by kernel_rfl
@[simp] theorem zu1 : zam Tryz.prog 67 = true := by kernel_rfl
@[simp] theorem zu0 : zam Tryz.prog 68 = true := by kernel_rfl
@[simp] theorem zuZ : zam Tryz.prog 69 = true := by kernel_rfl
@[simp] theorem zuY : zam Tryz.prog 71 = true := by kernel_rfl
@[simp] theorem zuX : zam Tryz.prog 72 = true := by kernel_rfl
@[simp] theorem zuW : zam Tryz.prog 73 = true := by kernel_rfl
@[simp] theorem zuV : zam Tryz.prog 75 = true := by kernel_rfl
@[simp] theorem zuU : zam Tryz.prog 76 = true := by kernel_rfl
@[simp] theorem zuT : zam Tryz.prog 77 = true := by kernel_rfl
@[simp] theorem zuS : zam Tryz.prog 78 = true := by kernel_rfl
@[simp] theorem zuR : zam Tryz.prog 79 = true := by kernel_rfl
@[simp] theorem zuQ : zam Tryz.prog 80 = true := by kernel_rfl
@[simp] theorem zuP : zam Tryz.prog 81 = true := by kernel_rfl
@[simp] theorem zuO : zam Tryz.prog 82 = true := by kernel_rfl
@[simp] theorem zuN : zam Tryz.prog 83 = true := by kernel_rfl
@[simp] theorem zuM : zam Tryz.prog 84 = true := by kernel_rfl
@[simp] theorem zuL : zam Tryz.prog 85 = true := by kernel_rfl
@[simp] theorem zuK : zam Tryz.prog 95 = true := by kernel_rfl
@[simp] theorem zuJ : zam Tryz.prog 96 = true := by kernel_rfl
@[simp] theorem zuI : zam Tryz.prog 97 = true := by kernel_rfl
@[simp] theorem ztV : zam Tryz.prog 102 = true := by kernel_rfl
@[simp] theorem ztU : zam Tryz.prog 103 = true := by kernel_rfl
@[simp] theorem ztT : zam Tryz.prog 104 = true := by kernel_rfl
@[simp] theorem ztS : zam Tryz.prog 105 = true := by kernel_rfl
@[simp] theorem ztR : zam Tryz.prog 111 = true := by kernel_rfl
@[simp] theorem ztQ : zam Tryz.prog 112 = true := by kernel_rfl
@[simp] theorem ztP : zam Tryz.prog 113 = true := by kernel_rfl
@[simp] theorem ztO : zam Tryz.prog 118 = true := by kernel_rfl
@[simp] theorem ztN : zam Tryz.prog 119 = true := by kernel_rfl
@[simp] theorem ztM : zam Tryz.prog 120 = true := by kernel_rfl
@[simp] theorem ztL : zam Tryz.prog 121 = true := by kernel_rfl
@[simp] theorem ztK : zam Tryz.prog 122 = true := by kernel_rfl
@[simp] theorem ztJ : zam Tryz.prog 123 = true := by kernel_rfl
@[simp] theorem ztI : zam Tryz.prog 124 = true := by kernel_rfl
@[simp] theorem ztH : zam Tryz.prog 125 = true := by kernel_rfl
@[simp] theorem ztG : zam Tryz.prog 126 = true := by kernel_rfl
@[simp] theorem ztF : zam Tryz.prog 127 = true := by kernel_rfl
@[simp] theorem ztE : zam Tryz.prog 128 = true := by kernel_rfl
@[simp] theorem ztD : zam Tryz.prog 129 = true := by kernel_rfl
@[simp] theorem ztC : zam Tryz.prog 133 = true := by kernel_rfl
@[simp] theorem ztB : zam Tryz.prog 140 = true := by kernel_rfl
@[simp] theorem ztA : zam Tryz.prog 141 = true := by kernel_rfl
@[simp] theorem ztz : zam Tryz.prog 142 = true := by kernel_rfl
@[simp] theorem zty : zam Tryz.prog 143 = true := by kernel_rfl
end Go.Proofs.YthnemhfamhnfjaaGreatDoor
namespace Go.VL
open Go
open Go.ChangeShapes Go.WideShapes Go.ChangeAt Go.WideMaps Go.WideElems Go.RowKit
theorem zpK {H : Type} {enc : TypeId × Value → H} {C : Checked} {os : Os} {f : FuncId} {fn : Func} {s : ChangeSpec} {conds : List PathCond} {apart fresh handsOn again : Bool} {tb : TypeId} {laid : List (String × DataW Unit)}
  (own : ownKnob C.prog.godebug = none) (started : os.Started) (noInit : C.prog.inits.idxOf? f = none) (hfn : C.prog.funcs[f]? = some fn)
  (witness : ∃ (w : World) (tape : Tape) (i : Input), w.os = os ∧ (w.forCall tape i).Shaped C.prog ∧ i.vars = [] ∧ Input.okWide C.prog (w.forCall tape i) .any w.heap.size f i ∧
    ((s.pre enc C.prog fn conds apart (w.forCall tape i).memory i.args ∧ laidMetH C.prog laid (w.forCall tape i).memory) ∧ sizedMet enc C.prog fn (OpenSpec.ofChange s) apart (w.forCall tape i).memory i.args) ∧ (({} : Assume)).holds C.prog (lone (Frame.enter C.prog f i.args .normal) [] (w.forCall tape i)))
  (hl : laidOutB C.prog = true) (hseq : zhU C.prog = true) (hpar : (fn.params.toList.all fun t => C.prog.readableRec t && decide (t < C.prog.types.size)) = true)
  (hvars : s.vars = []) (hspec : ∀ ds : List (DataW H), ds.length = fn.params.size → s.fn H ds = { results := [.lit (.bool true)], args := ds })
  (hres : fn.resultTypes = #[tb]) (htb : C.prog.underlying tb = some .bool)
  (hfun : ∀ us : List U, zqs C.prog fn.params.toList us → Fun C.prog f (us.map .u) (· = .u (.bool true))) (hglob : ∀ W : World, laidMetH C.prog laid W → GlobIn (zjk W)) :
  ReturnsInHanded {} C os f .any (fun w args => (s.pre enc C.prog fn conds apart w args ∧ laidMetH C.prog laid w) ∧ sizedMet enc C.prog fn (OpenSpec.ofChange s) apart w args) (s.post enc C.prog fn apart fresh handsOn again) := by
 refine returnsInHanded_of_change_and (X := fun w _ => laidMetH C.prog laid w) (fun _ _ _ hh h => h.of_heap hh) own started noInit hfn witness ?_
 intro W base args ds gs before hval hW _ _ hL _
 have hpar' : ∀ t ∈ fn.params.toList, C.prog.readableRec t = true ∧ t < C.prog.types.size := by
  intro t ht
  have := List.all_eq_true.1 hpar t ht
  simpa using this
 have hW' := hW
 obtain ⟨p, q, hA, hV, rfl, hfz, hnd⟩ := hW
 rw [hvars] at hV
 obtain ⟨rfl, rfl⟩ := trodVars_none hV
 have hlt : ∀ x ∈ p, x.block < W.heap.size := fun x hx => hW'.lt x (by simp [hx])
 obtain ⟨us, h1, h2, _⟩ := zmp hseq hA (fun t ht => (hpar' t ht).2) (fun j t v ht hv => hval j t v (by simpa using ht) (by simpa using hv))
 refine (zkw (hfun us h1) (hglob W hL) h2).mono ?_
 rintro e W' ⟨rfl, hb⟩
 have hdl : ds.length = fn.params.size := by
  have : ∀ {ts : List TypeId} {vs : List Value} {ds : List (DataW H)} {p : List MemPlace}, DataW.TrodAll enc C.prog W 0 (fun _ => true) true ts vs ds p → ds.length = ts.length := by
   intro ts
   induction ts with
   | nil => intro vs ds p h; cases vs <;> cases ds <;> simp_all [DataW.TrodAll]
   | cons t ts ih =>
    intro vs ds p h
    cases vs <;> cases ds <;> simp only [DataW.TrodAll] at h
    obtain ⟨p, q, _, h2, _⟩ := h
    simp [ih h2]
  simpa using this hA
 have hs := hspec ds hdl
 refine ⟨_, rfl, zmH (pa := p) (pv := []) hW' (fun b sp hd => ?_) (fun sp hsp => ?_) (fun sp _ => ?_) rfl hb (fun j t r ht hr => ?_)⟩
 ·rw [List.append_nil, hs, hres]
  exact trodAll_mk1 ⟨1, by simp [DataW.trod, Value.cells, htb]⟩
 ·rw [List.append_nil, hs]
  exact zfv hl hb hpar' hA hlt fun x hx => hsp x (by simp [hx])
 ·rw [List.append_nil, hs, hvars]
  try rfl
 ·rw [hres] at ht hr
  cases j with
  | zero =>
   simp at ht
   subst ht
   simp [Value.resultList] at hr
   subst hr
   simp [Value.okWide, htb, Cell.okWide, Cell.ok]
  | succ j => simp at ht
/-- The cells of a listed array of strings. -/
theorem zi8 {P : Program} {w : World} {n : String} {g : Nat} {t e : TypeId} {cs : Array Value} {L : List (List UInt8)} {fuel : Nat} {H : Type} {enc : TypeId × Value → H} {base : Nat} {spare : Nat → Bool} {held : Bool} {q : List MemPlace}
  (hg : P.globalNamed n = some g) (hv : w.var? P n = some cs) (ht : P.underlying t = some (.array L.length e)) (he : P.underlying e = some .string) (hc : P.cellsOf e = 1)
  (hd : DataW.trod enc P w base spare held fuel t cs.toList = some (.agg (L.map fun b => .lit (.string b)), q)) : ∀ (j : Nat) (b : List UInt8), L[j]? = some b → w.cell? ⟨g, j, none⟩ = some (.string ⟨b.toArray⟩) := by
 intro j b hj
 obtain ⟨xs, m1, rfl, hx1, hlen, hn3, hel⟩ := DataW.trod_array ht hd
 have hjl := (lGE.1 hj).1
 have h := hel j hjl
 rw [hc, Nat.mul_one] at h
 simp only [Prod.mk.injEq, DataW.agg.injEq] at hx1
 obtain ⟨x, hx⟩ : ∃ x, xs[j]? = some x := ⟨_, List.getElem?_eq_getElem (by omega)⟩
 rw [hx] at h
 obtain ⟨s, h1, h2, _⟩ := DataW.trod_string he h
 have h3 : (L.map fun b => (DataW.lit (.string b) : DataW H))[j]? = (xs.map (·.1))[j]? := by rw [hx1.1]
 rw [List.getElem?_map, List.getElem?_map, hj, hx, h2] at h3
 simp only [Option.map_some, Option.some.injEq, DataW.lit.injEq, Lit.string.injEq] at h3
 have h4 : (cs.toList.drop j)[0]? = some (.string s) := by
  have : ((cs.toList.drop j).take 1)[0]? = some (.string s) := by rw [h1]; rfl
  simpa [List.getElem?_take] using this
 rw [List.getElem?_drop, Nat.add_zero] at h4
 rw [World.var?_cell hg hv j]
 rw [Array.getElem?_toList] at h4
 rw [h4, h3]
end Go.VL
namespace Go.Proofs.YthnemhfamhnfjaaGreatDoor
open Go Go.VL Go.Shelf Go.RowKit
abbrev bT : Nat := 76
abbrev u8T : Nat := 5
/-- One value handed over. -/
theorem zha {k : Kr} {d : D} {vs : Array Value} (h : RepL k [d] vs) : ∃ v, vs = #[v] ∧ Rep k d v := by
 obtain ⟨h1, h2⟩ := h
 have hs : vs.size = 1 := by simpa using h1
 refine ⟨vs.getD 0 undef, ?_, h2 0 d rfl⟩
 apply Array.ext_getElem?
 intro i
 match i with
 | 0 => have h4 : 0 < vs.size := by omega
        simp [h4]
 | i + 1 => rw [Array.getElem?_eq_none (by omega), Array.getElem?_eq_none (by simp)]
/-- copyCheck at an unwritten builder. -/
theorem zpX (i nx : Nat) (hi : i < nx) : RetX Tryz.prog 108 [.ptr i 0] [(i, .nw bT)] nx
  (fun r o n => r = .val (.tup []) ∧ o = [(nx, .vec u8T 1 []), (i, .box [.ptr i 0, .vec nx 0])] ∧ n = nx + 1) := by
 intro k own w vs hsat hhdr hown hrep
 obtain ⟨v, rfl, hv⟩ := zha hrep
 obtain ⟨⟨hb, c⟩, h1, h2, b, e, h3⟩ := hsat.ob i (.nw bT) (by simp [getK])
 simp only at e
 subst e
 obtain ⟨b', c', h4, rfl⟩ := zc7 hv
 rw [h1] at h4
 cases h4
 obtain ⟨hob, hnone⟩ := h2 b rfl
 have hlt : b < w.heap.size := (Array.getElem?_eq_some_iff.1 h3).1
 refine (Any.Builder_copyCheck_fresh (P := Tryz.prog) (ρ := Tryz.zeC) { Tryz.zje with } Tryz.Builder_Extra_156.toX72 b w (by simp [World.cell?, h3]) (by simp [World.shape?, h3]; rfl) (by simp [World.frozen?, h3])).mono ?_
 rintro e w' ⟨rfl, rfl⟩
 have hheap : ∀ x, x ≠ b → (w.setCell ⟨b, 0, none⟩ (.pointer (some ⟨b, 0, none⟩))).heap[x]? = w.heap[x]? := fun x hx => Below.heap_setCell _ _ _ _ hx
 have hbb : (w.setCell ⟨b, 0, none⟩ (.pointer (some ⟨b, 0, none⟩))).heap[b]? = some (.cells #[.pointer (some ⟨b, 0, none⟩), .slice none 0 0] bT (0, 0)) := by
  simp [World.setCell, Array.getElem?_modify, h3]
 have hnx := hhdr nx (Nat.le_refl _)
 have hle := Kr.zfd (k := k) (h := (none, 0)) hnx
 have hki : (k.add nx (none, 0)).hdr i = some (some b, c) := by simp only [Kr.add]; rw [if_neg (by omega)]; exact h1
 refine ⟨.val (.tup []), [(nx, .vec u8T 1 []), (i, .box [.ptr i 0, .vec nx 0])], nx + 1, k.add nx (none, 0), ⟨_, rfl, .tup [] [] rfl (by simp)⟩, ⟨hle, hhdr, fun _ _ _ e => .inl e, hown, rfl, rfl, rfl, by simp [World.setCell], fun x hx => hheap x fun e => hx (e ▸ hob)⟩,
  ⟨fun x o v hm => ?_, fun j ob hj => ?_, fun x y ox oy g g' z hx hy hxy hg hg' hz => ?_⟩, fun q hq => ?_, by omega, rfl, rfl, rfl⟩
 ·have hm : k.mem x o = some v := hm
  have hne : x ≠ b := fun e => by rw [e, hnone o] at hm; cases hm
  rw [zfF (hheap x hne)]
  exact hsat.mem x o v hm
 ·simp only [getK] at hj
  split at hj
  ·rename_i hji
   subst hji
   cases hj
   exact ⟨(none, 0), by simp [Kr.add], fun b e => (by cases e), [], ⟨rfl, .inl ⟨rfl, rfl⟩⟩, Nat.one_pos, by simp, by simp⟩
  ·split at hj
   ·rename_i hji
    subst hji
    cases hj
    refine ⟨(some b, c), hki, h2, b, _, bT, rfl, hbb, rfl, fun q d hq => ?_⟩
    match q, hq with
    | 0, hq => cases hq; exact ⟨rfl, .ptr j 0 b c hki⟩
    | 1, hq => cases hq; exact ⟨rfl, .vec nx 0 (none, 0) (by simp [Kr.add])⟩
   ·cases hj
 ·by_cases hxn : x = nx
  ·subst hxn
   have : g = (none, 0) := by simpa [Kr.add] using hg.symm
   rw [this] at hz
   cases hz
  ·by_cases hyn : y = nx
   ·subst hyn
    have : g' = (none, 0) := by simpa [Kr.add] using hg'.symm
    rw [this]
    simp
   ·simp only [getK, if_neg hxn] at hx
    simp only [getK, if_neg hyn] at hy
    split at hx
    ·split at hy
     ·omega
     ·cases hy
    ·cases hx
 ·simp only [Kr.add]
  rw [if_neg (by omega)]
  exact hhdr q (by omega)
/-- copyCheck at a builder that was written. -/
theorem zoP (i nx : Nat) (hi : i < nx) (d : D) : RetX Tryz.prog 108 [.ptr i 0] [(i, .box [.ptr i 0, d])] nx
  (fun r o n => r = .val (.tup []) ∧ o = [(i, .box [.ptr i 0, d])] ∧ n = nx) := by
 intro k own w vs hsat hhdr hown hrep
 obtain ⟨v, rfl, hv⟩ := zha hrep
 obtain ⟨b, c, cs, t, h1, hob, h3, hsz, hcs, hnone⟩ := (hsat.ob i (.box [.ptr i 0, d]) (by simp [getK])).box
 obtain ⟨b', c', h4, rfl⟩ := zc7 hv
 rw [h1] at h4
 cases h4
 have h0 := (hcs 0 _ rfl).2
 obtain ⟨b', c', h4, h5⟩ := zc7 h0
 rw [h1] at h4
 cases h4
 have hc0 : cs[0]? = some (.pointer (some ⟨b, 0, none⟩)) := by
  have hlt : 0 < cs.size := by rw [hsz]; simp
  rw [Array.getElem?_eq_getElem hlt]
  rw [← h5]
  simp [hlt]
 refine (Any.Builder_copyCheck_used (P := Tryz.prog) (ρ := Tryz.zeC) { Tryz.zje with } Tryz.Builder_Extra_156.toX72 b w (by simp [World.cell?, h3, hc0])).mono ?_
 rintro e w' ⟨rfl, rfl⟩
 exact ⟨.val (.tup []), [(i, .box [.ptr i 0, d])], nx, k, ⟨_, rfl, .tup [] [] rfl (by simp)⟩, ⟨.refl _, hhdr, fun _ _ _ e => .inl e, hown, rfl, rfl, rfl, Nat.le_refl _, fun x hx => rfl⟩, hsat, hhdr, Nat.le_refl _, rfl, rfl, rfl⟩
section
open Go.RowKit
variable {P : Program} {ρ : Ren}
set_option maxHeartbeats 1000000 in
set_option maxRecDepth 100000 in
/-- String, with the world that it leaves: the bytes are frozen, and no more. -/
theorem zjq (L : Go.Proofs.Lays.n169 P ρ) (X : Builder.Extra P ρ) (b g cap : Nat) (c0 : Value) (T : TypeId) (l : List UInt8) (cur : Array Value) (w : World) (h0 : l ≠ [])
  (hbk : w.heap[b]? = some (.cells #[c0, .slice (some ⟨g, 0, none⟩) l.length cap] T (0, 0))) (hg : w.heap[g]? = some (.cells cur (ρ.t 5) (0, 0))) (hnc : l.length ≤ cap) (hcm : cap ≤ maxLen) (hcs : cur.size = cap * 1)
  (hcells : ∀ (j : Nat) (x : UInt8), l[j]? = some x → w.cell? ⟨g, j, none⟩ = some (.int .u8 x.toNat)) :
  Calls P (ρ.f 169) #[.pointer (some ⟨b, 0, none⟩)] w fun e w' => e = .returned (.string ⟨l.toArray⟩) ∧ w' = w.drew.freeze ⟨g, 0, none⟩ l.length := by
 have hl0 : l.length ≠ 0 := by simpa using h0
 have c1 : w.drew.cell? ⟨b, 1, none⟩ = some (.slice (some ⟨g, 0, none⟩) l.length cap) := by
  have : w.drew.heap[b]? = some (.cells #[c0, .slice (some ⟨g, 0, none⟩) l.length cap] T (0, 0)) := hbk
  rw [Lib.cell_of_heap this]; rfl
 have hSD : (Builtin.unsafeSliceData_ #[(ρ.t 37)] (ρ.t 127) #[.slice (some ⟨g, 0, none⟩) l.length cap]).run P w.drew = .ok (.pointer (some ⟨g, 0, none⟩)) w.drew :=
  Lib.run_unsafeSliceData_row _ _ _ _ _ _ (by omega)
 have hUS : (Builtin.unsafeString_ #[(ρ.t 127), (ρ.t 3)] (ρ.t 9) #[.pointer (some ⟨g, 0, none⟩), .int .i64 l.length]).run P w.drew = .ok (.string ⟨l.toArray⟩) (w.drew.freeze ⟨g, 0, none⟩ l.length) := by
  refine Lib.run_unsafeString_row w.drew (ρ.t 127) (ρ.t 3) (ρ.t 9) (ρ.t 5) L.t127 X.cellsByte g cur.size (by have hg' : w.drew.heap[g]? = some (.cells cur (ρ.t 5) (0, 0)) := hg; simp [World.shape?, hg']) l h0 (by omega) (by unfold maxLen at hcm; omega) ?_
  intro j x hx
  rw [zcd, Nat.zero_add]
  exact hcells j x hx
 have mixed := L.mixed
 have t72 := L.t72; have a72 := L.a72; have z72 := L.z72; have v72 := L.v72; have u72 := run_underlying L.t72
 have t70 := L.t70; have a70 := L.a70; have z70 := L.z70; have v70 := L.v70; have u70 := run_underlying L.t70
 have t37 := L.t37; have a37 := L.a37; have z37 := L.z37; have v37 := L.v37; have u37 := run_underlying L.t37
 have t127 := L.t127; have a127 := L.a127; have z127 := L.z127; have v127 := L.v127; have u127 := run_underlying L.t127
 have t3 := L.t3; have a3 := L.a3; have z3 := L.z3; have v3 := L.v3; have u3 := run_underlying L.t3
 have t9 := L.t9; have a9 := L.a9; have z9 := L.z9; have v9 := L.v9; have u9 := run_underlying L.t9
 have t5 := X.t5; have a5 := X.a5; have z5 := X.z5; have v5 := X.v5; have u5 := run_underlying X.t5
 go_enter L.f169, Body.n169_ntmps ρ
 go_wp2
 go_region_o
 all_goals (go_wp2; go_ret; exact ⟨rfl, rfl⟩)
end
/-- String, of a builder that holds a byte: both of its objects are gone behind it. -/
theorem zmy (i j nx : Nat) (hi : i < nx) (hj : j < nx) (hij : i ≠ j) (l : List UInt8) (h0 : l ≠ []) : RetX Tryz.prog 62 [.ptr i 0] [(i, .box [.ptr i 0, .vec j l.length]), (j, .vec u8T 1 (zcu l))] nx
  (fun r o n => r = .val (.u (.str l)) ∧ o = [] ∧ n = nx) := by
 intro k own w vs hsat hhdr hown hrep
 obtain ⟨v, rfl, hv⟩ := zha hrep
 obtain ⟨b, c, cs, t, h1, hob, h3, hsz, hcs, hnone⟩ := (hsat.ob i (.box [.ptr i 0, .vec j l.length]) (by simp [getK])).box
 obtain ⟨b', c', h4, rfl⟩ := zc7 hv
 rw [h1] at h4
 cases h4
 obtain ⟨hd, xs, g1, hrow, _, _, hxs, hno⟩ := (hsat.ob j (.vec u8T 1 (zcu l)) (by simp [getK, Ne.symm hij])).vec
 obtain ⟨hd', g2, hv1⟩ := zd5 (hcs 1 _ rfl).2
 rw [g1] at g2
 cases g2
 rw [zik] at hrow
 have hl0 : l.length ≠ 0 := by simpa using h0
 rcases hrow.2 with ⟨_, hz⟩ | ⟨g, cap, cur, hhv, _, hg, hnc, hcm, hcsz, htk⟩
 ·exact absurd hz hl0
 have hd1 : hd.1 = some g ∧ hd.2 = cap := by
  simp only [zaX, Value.slice.injEq, Option.map_eq_some_iff] at hhv
  obtain ⟨⟨b, hb, e⟩, _, e2⟩ := hhv
  simp only [Addr.mk.injEq] at e
  exact ⟨by rw [hb, e.1], e2⟩
 have hcell : ∀ (q : Nat) (x : UInt8), l[q]? = some x → w.cell? ⟨g, q, none⟩ = some (.int .u8 x.toNat) := fun q x hq => by
  have h5 := (hxs q [.u (.int .u8 x.toNat)] (by rw [zgk]; simp [hq]) 0 _ rfl).2
  have h6 := zbs h5
  have hlt : q < xs.length := by rw [hrow.1]; have := (lGE.1 hq).1; omega
  have h7 := hrow.cells (g := g) (by rw [hhv]; rfl) q (xs.getD (q * 1 + 0) undef) (by simp [hlt])
  rw [h6] at h7
  rwa [zcd, Nat.zero_add] at h7
 have hc2 : cs = #[cs.getD 0 undef, .slice (some ⟨g, 0, none⟩) l.length cap] := by
  have e1 : cs.getD 1 undef = .slice (some ⟨g, 0, none⟩) l.length cap := by rw [hv1, hhv]
  apply Array.ext_getElem?
  intro q
  have hs2 : cs.size = 2 := by simpa using hsz
  match q with
  | 0 => simp [show 0 < cs.size by omega]
  | 1 => rw [← e1]; simp [show 1 < cs.size by omega]
  | q + 2 => rw [Array.getElem?_eq_none (by omega), Array.getElem?_eq_none (by simp)]
 rw [hc2] at h3
 refine (zjq (P := Tryz.prog) (ρ := Tryz.zfs) Tryz.zre Tryz.zgp b g cap _ t l cur w h0 h3 hg hnc hcm hcsz hcell).mono ?_
 rintro e w' ⟨rfl, rfl⟩
 have hog := hno g hd1.1
 have hfz : w.drew.freeze ⟨g, 0, none⟩ l.length = { w.drew with heap := (w.drew.freeze ⟨g, 0, none⟩ l.length).heap } := by
  unfold World.freeze
  rw [if_neg hl0]
 have hheap : ∀ x, x ≠ g → (w.drew.freeze ⟨g, 0, none⟩ l.length).heap[x]? = w.heap[x]? := fun x hx => by
  unfold World.freeze
  rw [if_neg hl0]
  simp only [Array.getElem?_modify]
  rw [if_neg (Ne.symm hx)]
  rfl
 have hsz : (w.drew.freeze ⟨g, 0, none⟩ l.length).heap.size = w.heap.size := by
  unfold World.freeze
  rw [if_neg hl0]
  simp only [Array.size_modify]
  rfl
 refine ⟨.val (.u (.str l)), [], nx, k, ⟨_, rfl, .u _ _ (.str l)⟩, ⟨.refl _, hhdr, fun _ _ _ e => .inl e, hown, by rw [hfz]; rfl, by rw [hfz]; rfl, by rw [hfz]; rfl, by rw [hsz]; exact Nat.le_refl _, fun x hx => hheap x fun e => hx (e ▸ hog.1)⟩,
  ⟨fun x o v hm => ?_, fun j ob hj => by simp [getK] at hj, fun x y ox oy g g' z hx => by simp [getK] at hx⟩, hhdr, Nat.le_refl _, rfl, rfl, rfl⟩
 have hne : x ≠ g := fun e => by rw [e, hog.2 o] at hm; cases hm
 rw [zfF (hheap x hne)]
 exact hsat.mem x o v hm
/-- A call by value by a contract that keeps all that was there. -/
theorem Fun.zlu {P : Program} {f : FuncId} {ds : List D} {u : U} (h : ∀ (k : Kr) (own : Nat → Prop) (w : World) (vs : Array Value), Sat k own [] w → RepL k ds vs → ∃ v, RepU k.mem u v ∧ Calls P f vs w fun e w' => e = .returned v ∧ Below w.heap.size w w') :
  Fun P f ds (· = .u u) := by
 intro k own w vs hsat hhdr hown hrep
 obtain ⟨v, hv, hc⟩ := h k own w vs hsat hrep
 refine hc.mono ?_
 rintro e w' ⟨rfl, hb⟩
 refine ⟨v, .u u, [], 0, k, rfl, ⟨.refl _, fun i hi => hhdr i hi, fun _ _ _ e => .inl e, hown, hb.os, hb.tape, hb.output, hb.size, fun x hx => hb.block x ?_⟩, ⟨fun x o v hm => ?_, fun j ob hj => by simp [getK] at hj, fun x y ox oy g g' z hx => by simp [getK] at hx⟩, hhdr, Nat.le_refl _, .u _ _ hv, by simp [zau], rfl⟩
 ·rcases Nat.lt_or_ge x w.heap.size with h | h
  ·exact h
  ·exact absurd (hown x h) hx
 ·rw [zfF (hb.block x (hsat.memLt hm))]
  exact hsat.mem x o v hm
end Go.Proofs.YthnemhfamhnfjaaGreatDoor
