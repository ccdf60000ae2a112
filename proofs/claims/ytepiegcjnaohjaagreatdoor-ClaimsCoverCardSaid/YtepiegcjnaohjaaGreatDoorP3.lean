import Derived.Test.YtepiegcjnaohjaaGreatDoorP2
import Derived.Test.YtepiegcjnaohjaaGreatDoorRows
import Derived.ProofKit
import Derived.Below
import Derived.ChangeSame
import Derived.Deep.Slices
import Derived.Sort.OwnSortedInts
import Derived.Recover
import Derived.LaidMore
import Derived.LaidLaws
import Derived.LaidHandle
import Derived.MakeChecks
import Derived.Stop.Joined
import Derived.OpenShut
import Derived.Shelf.LaysM
import Derived.Shelf.Strings.Runes
import Derived.Ground.Names2Prog
import Derived.Ground.SlgnProg
import Derived.Test.YtepiegcjnaohjaaGreatDoorProg
import Derived.Test.YtepiegcjnaohjaaGreatDoorTie
import Derived.Test.YtepiegcjnaohjaaGreatDoorCards
import Derived.Lib.LaidTab
set_option linter.all false
set_option maxRecDepth 100000
set_option maxHeartbeats 8000000
namespace Go.VL
open Go Go.ChangeShapes Go.WideShapes Go.ChangeAt Go.RowKit Go.Deep
open Go.Proofs.YtepiegcjnaohjaaGreatDoor.Rows (uptoBulk uptoBulkAll)
def ziI (w : World) : Mem := fun b o => look w b o
inductive HasRow (P : Program) : TypeId -> List U -> Prop
 | bool {t b} (h : P.underlying t = some .bool) : HasRow P t [.bool b]
 | int {t k n} (h : P.underlying t = some (.int k)) (h1 : k.min <= n) (h2 : n <= k.max) : HasRow P t [.int k n]
 | str {t l} (h : P.underlying t = some .string) (h1 : l.length <= maxLen) : HasRow P t [.str l]
 | slice {t e rows} (h : P.underlying t = some (.slice e)) (h1 : rows.length <= maxLen) (h2 : ∀ r ∈ rows, HasRow P e r) : HasRow P t [.sl rows]
 | struct {t fs} (rs : List (List U)) (h : P.underlying t = some (.struct fs)) (h1 : rs.length = fs.size) (h2 : ∀ (i : Nat) (f : Field) (r : List U), fs[i]? = some f -> rs[i]? = some r -> HasRow P f.type r) : HasRow P t rs.flatten
 | other {t r} (h : match P.underlying t with | some .bool | some (.int _) | some .string | some (.struct _) => False | some (.slice e) => P.cellsOf e = 0 | _ => True) : HasRow P t r
def zqO (P : Program) : Nat -> List Field -> Nat -> Bool
 | o, [], n => o == n
 | o, f :: l, n => f.offset == o && zqO P (o + P.cellsOf f.type) l n
def zhn (P : Program) : Bool := (List.range P.types.size).all fun t => match P.underlying t with
 | some (.struct fs) => zqO P 0 fs.toList (P.cellsOf t) && fs.toList.all fun f => decide (f.type < P.types.size)
 | some (.slice e) => decide (e < P.types.size)
 | _ => true
theorem zh0 {P : Program} (h : zhn P = true) {t fs} (hlt : t < P.types.size) (ht : P.underlying t = some (.struct fs)) : zqO P 0 fs.toList (P.cellsOf t) = true /\ ∀ f ∈ fs.toList, f.type < P.types.size := by
 have := List.all_eq_true.1 h t (List.mem_range.2 hlt);simp only [ht, Bool.and_eq_true, List.all_eq_true, decide_eq_true_eq] at this;exact this
theorem ziT {P : Program} (h : zhn P = true) {t e} (hlt : t < P.types.size) (ht : P.underlying t = some (.slice e)) : e < P.types.size := by
 have := List.all_eq_true.1 h t (List.mem_range.2 hlt);simp only [ht, decide_eq_true_eq] at this;exact this
def RepRow (m : Mem) (r : List U) (cs : List Value) : Prop := r.length = cs.length /\ ∀ (j : Nat) (u : U), r[j]? = some u -> RepU m u (cs.getD j undef)
theorem RepRow.one {m : Mem} {u : U} {v : Value} (h : RepU m u v) : RepRow m [u] [v] := ⟨rfl, fun j w hj => by
 cases j with
 | zero => simp at hj; subst hj; exact h
 | succ j => simp at hj⟩
theorem RepRow.append {m : Mem} {a b : List U} {x y : List Value} (h : RepRow m a x) (g : RepRow m b y) : RepRow m (a ++ b) (x ++ y) := by
 refine ⟨by simp [h.1, g.1], fun j u hj => ?_⟩;rw [List.getElem?_append] at hj;rw [List.getD_eq_getElem?_getD, List.getElem?_append, <- h.1];by_cases hl : j < a.length
 ·rw [if_pos hl] at hj ⊢;rw [<- List.getD_eq_getElem?_getD];exact h.2 j u hj
 ·rw [if_neg hl] at hj ⊢;rw [<- List.getD_eq_getElem?_getD];exact g.2 _ u hj
theorem RepRow.flatten {m : Mem} : ∀ {rs : List (List U)} {xs : List (List Value)}, rs.length = xs.length -> (∀ (i : Nat) r x, rs[i]? = some r -> xs[i]? = some x -> RepRow m r x) -> RepRow m rs.flatten xs.flatten
 | [], [], _, _ => ⟨rfl, by simp⟩
 | r :: rs, x :: xs, hl, h => by
  rw [List.flatten_cons, List.flatten_cons];exact (h 0 r x rfl rfl).append (RepRow.flatten (by simpa using hl) fun i r x h1 h2 => h (i + 1) r x (by simpa using h1) (by simpa using h2))
 | [], _ :: _, hl, _ => by simp at hl
 | _ :: _, [], hl, _ => by simp at hl
theorem zhm {P : Program} {cs : List Value} : ∀ (l : List Field) (o : Nat), zqO P o l cs.length = true -> cs.drop o = (l.map fun f => (cs.drop f.offset).take (P.cellsOf f.type)).flatten
 | [], o, h => by
  simp [zqO] at h;subst h;simp
 | f :: l, o, h => by
  simp only [zqO, Bool.and_eq_true, beq_iff_eq] at h;obtain ⟨h1, h2⟩ := h;rw [List.map_cons, List.flatten_cons, <- zhm l _ h2, h1]
  conv => lhs; rw [<- List.take_append_drop (P.cellsOf f.type) (cs.drop o)]
  rw [List.drop_drop]
theorem ze1 {α : Type} {p : Nat -> α -> Prop} : ∀ (n : Nat), (∀ i, i < n -> ∃ x, p i x) -> ∃ l : List α, l.length = n /\ ∀ i x, l[i]? = some x -> p i x
 | 0, _ => ⟨[], rfl, by simp⟩
 | n + 1, h => by
  obtain ⟨l, hl, hp⟩ := ze1 n fun i hi => h i (by omega);obtain ⟨x, hx⟩ := h n (by omega);refine ⟨l ++ [x], by simp [hl], fun i y hy => ?_⟩;rw [List.getElem?_append] at hy;by_cases hi : i < l.length
  ·rw [if_pos hi] at hy; exact hp i y hy
  ·rw [if_neg hi] at hy;have hi2 := (lGE.1 hy).1;simp at hi2;have : i = n := by omega
   subst this;rw [hl] at hy;simp at hy;subst hy;exact hx
theorem zma {w : World} {base : Nat} {a : Addr} {n : Nat} {cs : List Value} (h : w.cells? base a n = some cs) (hn : 0 < n) : a.spot = none := by
 obtain ⟨_, hl, hc⟩ := World.cells?_some h;have h0 := hc 0 hn;have hlt : 0 < cs.length := by omega
 rw [List.getElem?_eq_getElem hlt] at h0;simp only [Addr.add, if_true] at h0;unfold World.cell? at h0;cases hs : a.spot with
 | none => rfl
 | some x =>
  exfalso;split at h0
  ·simp [hs] at h0
  ·simp at h0
def szU : U -> Nat
 | .str l => l.length
 | .sl rows => (rows.map fun r => 1 + (r.map fun u => szU u).sum).sum
 | .agg cs => (cs.map fun u => szU u).sum
 | _ => 0
termination_by u => SizeOf.sizeOf u
decreasing_by
 ·rename_i h1 h2;have h1 := List.sizeOf_lt_of_mem h1;have h2 := List.sizeOf_lt_of_mem h2
  simp_wf
  omega
 ·rename_i h2;have h2 := List.sizeOf_lt_of_mem h2
  simp_wf
  omega
theorem zq0 (rows : List (List U)) : szU (.sl rows) = (rows.map fun r => 1 + (r.map szU).sum).sum := by rw [szU]
theorem zpZ (cs : List U) : szU (.agg cs) = (cs.map szU).sum := by rw [szU]
theorem zq1 (v : Value) : szU (.oth v) = 0 := by simp [szU]
open Go.Proofs.YtepiegcjnaohjaaGreatDoor.Rows (uptoBulk uptoBulkAll)
theorem ziu {H : Type} (d : DataW H) : 1 <= uptoBulk d := by
 cases d with
 | lit l => cases l <;> simp [uptoBulk]
 | _ => simp [uptoBulk]
theorem zfI {H : Type} : ∀ {l : List (DataW H)} {ns : List Nat}, ns.length = l.length -> (∀ (i n : Nat) (d : DataW H), ns[i]? = some n -> l[i]? = some d -> n <= uptoBulk d) -> ns.sum <= uptoBulkAll l
 | [], [], _, _ => by simp
 | d :: l, n :: ns, hl, h => by
  have h1 := h 0 n d rfl rfl;have h2 := zfI (l := l) (ns := ns) (by simpa using hl) fun i n d hn hd => h (i + 1) n d (by simpa using hn) (by simpa using hd);simp only [uptoBulkAll, List.sum_cons];omega
 | [], _ :: _, hl, _ => by simp at hl
 | _ :: _, [], hl, _ => by simp at hl
theorem zjT (cs : List Value) : ((cs.map U.oth).map szU).sum = 0 := by
 induction cs with
 | nil => rfl
 | cons c cs ih => simp only [List.map_cons, List.sum_cons, ih, zq1]
theorem zgn (f : U -> Nat) : ∀ (rs : List (List U)), (rs.flatten.map f).sum = (rs.map fun r => (r.map f).sum).sum
 | [] => rfl
 | r :: rs => by rw [List.flatten_cons, List.map_append, List.sum_append, List.map_cons, List.sum_cons, zgn f rs]
theorem zhY {H : Type} {enc : TypeId × Value -> H} {P : Program} (hseq : zhn P = true) {w : World} {base : Nat} {spare : Nat -> Bool} {held : Bool} : ∀ (fuel : Nat) {t : TypeId} {cs : List Value} {x : DataW H × List MemPlace}, t < P.types.size ->
  DataW.trod enc P w base spare held fuel t cs = some x -> ∃ r, HasRow P t r /\ RepRow (ziI w) r cs /\ 1 + (r.map szU).sum <= uptoBulk x.1
 | 0, t, cs, x, _, h => by simp [DataW.trod] at h
 | fuel + 1, t, cs, x, hts, h => by
  have h0 := h;have hb1 := ziu x.1;have oth : ∀ cs : List Value, RepRow (ziI w) (cs.map .oth) cs := fun cs => ⟨by simp, fun j u hj => by
   rw [List.getElem?_map] at hj;cases hc : cs[j]? with
   | none => rw [hc] at hj; cases hj
   | some v => rw [hc] at hj; cases hj; rw [List.getD_eq_getElem?_getD, hc]; exact .oth v⟩
  cases hu : P.underlying t with
  | none => exact ⟨_, .other (by rw [hu]; trivial), oth cs, by rw [zjT]; exact hb1⟩
  | some td =>
   cases td with
   | bool =>
    unfold DataW.trod at h;rw [hu] at h;split at h <;> simp_all;exact ⟨_, .bool hu, .one (.bool _), by simp [szU]; omega⟩
   | int k =>
    unfold DataW.trod at h;rw [hu] at h;split at h <;> simp_all [Lit.wf];rename_i hk;obtain ⟨⟨hk1, h1, h2⟩, _⟩ := h;subst hk1;exact ⟨_, .int hu h1 h2, .one (.int _ _), by simp [szU]; omega⟩
   | string =>
    unfold DataW.trod at h;rw [hu] at h;split at h <;> simp_all;rename_i s;refine ⟨[.str s.data.toList], .str hu (by simpa using h.1), .one ?_, ?_⟩
    ·have h := RepU.str (m := ziI w) s.data.toList;simpa using h
    ·rw [<- h.2];simp [szU, uptoBulk, uptoBulk, ByteArray.toList_eq];omega
   | slice e =>
    rcases DataW.trod_slice hu h with ⟨rfl, rfl⟩ | ⟨a, len, cap, elems, rest, n, hn, rfl, rfl, hb, hl, hm, hlen, hel, _, _⟩
    ·exact ⟨[.sl []], .slice hu (by simp) (by simp), .one (.slE none 0 fun _ => rfl), by simp [szU]; exact ziu _⟩
    ·have hnf : n = fuel := by omega
     subst hnf;by_cases h0 : len = 0
     ·subst h0;exact ⟨[.sl []], .slice hu (by simp) (by simp), .one (.slE (some a) cap fun e => by cases e), by simp [szU]; exact ziu _⟩
     ·have hrow : ∀ i, i < len -> ∃ q, ∃ cs', w.cells? base (a.add (i * P.cellsOf e)) (P.cellsOf e) = some cs' /\ HasRow P e q /\ RepRow (ziI w) q cs' /\ ∀ d, elems[i]? = some d -> 1 + (q.map szU).sum <= uptoBulk d.1 := fun i hi => by
       have h1 := hel i hi;rw [List.getElem?_eq_getElem (by omega)] at h1;cases hc : w.cells? base (a.add (i * P.cellsOf e)) (P.cellsOf e) with
       | none => rw [hc] at h1; cases h1
       | some cs' =>
        rw [hc] at h1;obtain ⟨q, h2, h3, h4⟩ := zhY hseq n (ziT hseq hts hu) (by simpa using h1);exact ⟨q, cs', rfl, h2, h3, fun d hd => by rw [List.getElem?_eq_getElem (by omega)] at hd; cases hd; exact h4⟩
      obtain ⟨rows, hrl, hrows⟩ := ze1 len hrow;by_cases hz : P.cellsOf e = 0
      ·exact ⟨_, .other (by rw [hu]; exact hz), oth _, by rw [zjT]; exact hb1⟩
      ·have hsp : a.spot = none := by
        obtain ⟨cs', h1, _⟩ := hrows 0 rows[0] (List.getElem?_eq_getElem (by omega));have := zma h1 (by omega);simpa [Addr.add] using this
       obtain ⟨b, o, sp⟩ := a;simp only at hsp;subst hsp;refine ⟨[.sl rows], .slice hu (by omega) fun r hr => ?_, .one ?_, ?_⟩
       ·obtain ⟨i, hi⟩ := List.getElem?_of_mem hr;obtain ⟨_, _, h2, _⟩ := hrows i r hi;exact h2
       ·have hat : ∀ i r, rows[i]? = some r -> r.length = P.cellsOf e /\ ∀ j, j < P.cellsOf e -> ∃ v, w.cell? ⟨b, o + i * P.cellsOf e + j, none⟩ = some v /\ ∀ u, r[j]? = some u -> RepU (ziI w) u v := fun i r hi => by
         obtain ⟨cs', h1, _, h3, _⟩ := hrows i r hi;obtain ⟨_, h4, h5⟩ := World.cells?_some h1;refine ⟨by rw [h3.1, h4], fun j hj => ?_⟩;have h6 := h5 j hj;rw [zb9, zb9, List.getElem?_eq_getElem (by omega)] at h6;refine ⟨_, h6, fun u hu => ?_⟩;have := h3.2 j u hu;rw [List.getD_eq_getElem?_getD, List.getElem?_eq_getElem (by omega)] at this;exact this
        have := RepU.sl (m := ziI w) rows b o (P.cellsOf e) cap (fun i j => (w.cell? ⟨b, o + i * P.cellsOf e + j, none⟩).getD undef) (by omega) hm (fun r hr => by
          obtain ⟨i, hi⟩ := List.getElem?_of_mem hr;exact (hat i r hi).1)
         (fun i hi j hj => by
           obtain ⟨v, hv, _⟩ := (hat i rows[i] (List.getElem?_eq_getElem hi)).2 j hj;exact zdr (by simp [hv]))
         (fun i r hi j u hj => by
           have hl := (hat i r hi).1;obtain ⟨v, hv, hr⟩ := (hat i r hi).2 j (by have := (lGE.1 hj).1; omega);rw [hv];exact hr u hj)
        rw [hrl] at this;exact this
       ·have := zfI (l := elems.map (·.1)) (ns := rows.map fun r => 1 + (r.map szU).sum) (by simp [hrl, hlen]) fun i n' d hn' hd => by
         rw [List.getElem?_map] at hn' hd;cases hr : rows[i]? with
         | none => rw [hr] at hn'; cases hn'
         | some r =>
          cases he : elems[i]? with
          | none => rw [he] at hd; cases hd
          | some y =>
           rw [hr] at hn';rw [he] at hd;cases hn';cases hd;obtain ⟨_, _, _, _, h7⟩ := hrows i r hr;exact h7 y he
        simp only [List.map_cons, List.map_nil, List.sum_cons, List.sum_nil, zq0, uptoBulk];omega
   | struct fs =>
    obtain ⟨xs, n, hn, rfl, hcl, hxl, hf⟩ := DataW.trod_struct hu h;have hnf : n = fuel := by omega
    subst hnf;obtain ⟨hs, hfl⟩ := zh0 hseq hts hu;rw [<- hcl] at hs;have hp := zhm fs.toList 0 hs;rw [List.drop_zero] at hp;have hrow : ∀ i, i < fs.size -> ∃ q, ∃ f, fs[i]? = some f /\ HasRow P f.type q /\ RepRow (ziI w) q ((cs.drop f.offset).take (P.cellsOf f.type)) /\ ∀ d, xs[i]? = some d -> (q.map szU).sum <= uptoBulk d.1 := fun i hi => by
     have h1 := hf i fs[i] (Array.getElem?_eq_getElem hi);rw [List.getElem?_eq_getElem (by omega)] at h1;obtain ⟨q, h2, h3, h4⟩ := zhY hseq n (hfl _ (by rw [<- Array.getElem_toList]; exact List.getElem_mem _)) h1;exact ⟨q, fs[i], Array.getElem?_eq_getElem hi, h2, h3, fun d hd => by rw [List.getElem?_eq_getElem (by omega)] at hd; cases hd; omega⟩
    obtain ⟨rs, hrl, hrs⟩ := ze1 fs.size hrow;refine ⟨rs.flatten, .struct rs hu hrl fun i f r hi hr => ?_, ?_, ?_⟩
    ·obtain ⟨f', h1, h2, _⟩ := hrs i r hr;rw [hi] at h1;cases h1;exact h2
    ·rw [hp];refine RepRow.flatten (by simp [hrl]) fun i r x hr hx => ?_;obtain ⟨f', h1, _, h3, _⟩ := hrs i r hr;rw [List.getElem?_map, Array.getElem?_toList, h1] at hx;cases hx;exact h3
    ·have := zfI (l := xs.map (·.1)) (ns := rs.map fun r => (r.map szU).sum) (by simp [hrl, hxl]) fun i n' d hn' hd => by
      rw [List.getElem?_map] at hn' hd;cases hr : rs[i]? with
      | none => rw [hr] at hn'; cases hn'
      | some r =>
       cases he : xs[i]? with
       | none => rw [he] at hd; cases hd
       | some y =>
        rw [hr] at hn';rw [he] at hd;cases hn';cases hd;obtain ⟨_, _, _, _, h7⟩ := hrs i r hr;exact h7 y he
     rw [zgn];simp only [uptoBulk];omega
   | _ => exact ⟨_, .other (by rw [hu]; trivial), oth cs, by rw [zjT]; exact hb1⟩
end Go.VL
namespace Go.VL
open Go Go.ChangeShapes Go.WideShapes Go.ChangeAt Go.RowKit Go.Deep
open Go.Proofs.YtepiegcjnaohjaaGreatDoor.Rows (uptoBulk uptoBulkAll)
def zku (P : Program) : List TypeId -> List (List U) -> Prop
 | [], [] => True
 | t :: ts, r :: rs => HasRow P t r /\ zku P ts rs
 | _, _ => False
section
variable {P : Program} {t : TypeId} {r : List U}
theorem HasRow.of_int {k : IntKind} (h : HasRow P t r) (ht : zjh P t = some k) : ∃ n, r = [.int k n] /\ k.min <= n /\ n <= k.max := by
 have hu := zgI ht;cases h with
 | int h h1 h2 => rw [hu] at h; cases h; exact ⟨_, rfl, h1, h2⟩
 | other h => rw [hu] at h; exact h.elim
 | struct rs h => rw [hu] at h; cases h
 | _ h => rw [hu] at h; cases h
theorem HasRow.of_bool (h : HasRow P t r) (hu : P.underlying t = some .bool) : ∃ b, r = [.bool b] := by
 cases h with
 | bool h => exact ⟨_, rfl⟩
 | other h => rw [hu] at h; exact h.elim
 | struct rs h => rw [hu] at h; cases h
 | _ h => rw [hu] at h; cases h
theorem HasRow.of_str (h : HasRow P t r) (ht : zid P t = true) : ∃ l, r = [.str l] /\ l.length <= maxLen := by
 have hu := zdk ht;cases h with
 | str h h1 => exact ⟨_, rfl, h1⟩
 | other h => rw [hu] at h; exact h.elim
 | struct rs h => rw [hu] at h; cases h
 | _ h => rw [hu] at h; cases h
theorem HasRow.of_slice {e sz : Nat} (h : HasRow P t r) (ht : zhD P t = some (e, sz + 1)) : ∃ rows, r = [.sl rows] /\ rows.length <= maxLen /\ ∀ q ∈ rows, HasRow P e q := by
 obtain ⟨hu, hs⟩ := zet ht;cases h with
 | slice h h1 h2 => rw [hu] at h; cases h; exact ⟨_, rfl, h1, h2⟩
 | other h =>
  rw [hu] at h;unfold tsz at hs;unfold Program.cellsOf at h;simp only at h;rw [hs] at h;simp at h
 | struct rs h => rw [hu] at h; cases h
 | _ h => rw [hu] at h; cases h
theorem HasRow.of_struct {ts : List TypeId} (h : HasRow P t r) (ht : stT P t = some ts) : ∃ rs, r = rs.flatten /\ zku P ts rs := by
 unfold stT at ht;split at ht
 ·rename_i fs hu;cases ht;cases h with
  | struct rs h h1 h2 =>
   rw [hu] at h;cases h;refine ⟨rs, rfl, ?_⟩;have key : ∀ (l : List Field) (rs : List (List U)), rs.length = l.length -> (∀ (i : Nat) (f : Field) (r : List U), l[i]? = some f -> rs[i]? = some r -> HasRow P f.type r) -> zku P (l.map (·.type)) rs := by
    intro l
    induction l with
    | nil => intro rs hl _; simp at hl; subst hl; trivial
    | cons f l ih =>
     intro rs hl h;cases rs with
     | nil => simp at hl
     | cons r rs => exact ⟨h 0 f r rfl rfl, ih rs (by simpa using hl) fun i f r h1 h2 => h (i + 1) f r (by simpa using h1) (by simpa using h2)⟩
   exact key fs.toList rs (by simpa using h1) fun i f r hf hr => h2 i f r (by simpa using hf) hr
  | other h => rw [hu] at h; exact h.elim
  | _ h => rw [hu] at h; cases h
 ·cases ht
end
theorem rows_list {α : Type} (f : α -> List U) (Q : α -> Prop) : ∀ {rows : List (List U)}, (∀ r ∈ rows, ∃ x, r = f x /\ Q x) -> ∃ l : List α, rows = l.map f /\ ∀ x ∈ l, Q x
 | [], _ => ⟨[], rfl, by simp⟩
 | r :: rows, h => by
  obtain ⟨x, rfl, hx⟩ := h r (by simp);obtain ⟨l, rfl, hl⟩ := rows_list f Q (rows := rows) fun r hr => h r (by simp [hr]);exact ⟨x :: l, rfl, by simpa using ⟨hx, hl⟩⟩
def ArgU (P : Program) (t : TypeId) (u : U) : Prop := match P.underlying t with
 | some (.struct _) => ∃ r, u = .agg r /\ HasRow P t r
 | some (.array _ _) => True
 | _ => HasRow P t [u]
theorem ArgU.one {P : Program} {t u} (h : ArgU P t u) (hn : stT P t = none) (ha : zfc P t = true) : HasRow P t [u] := by
 unfold ArgU at h;unfold stT at hn;unfold zfc at ha;split at h <;> simp_all
theorem ArgU.agg {P : Program} {t u ts} (h : ArgU P t u) (hn : stT P t = some ts) : ∃ r, u = .agg r /\ HasRow P t r := by
 unfold ArgU at h;unfold stT at hn;split at h <;> simp_all
def zpE (P : Program) : List TypeId -> List U -> Prop
 | [], [] => True
 | t :: ts, u :: us => ArgU P t u /\ zpE P ts us
 | _, _ => False
theorem zlz {P : Program} {w r b t v} (h : Value.okWide P w r b t v) (h1 : ∀ fs, P.underlying t ≠ some (.struct fs)) (h2 : ∀ n e, P.underlying t ≠ some (.array n e)) : v.cells = #[v] := by
 unfold Value.okWide at h;split at h
 ·rename_i fs hu; exact absurd hu (h1 fs)
 ·rename_i n e hu; exact absurd hu (h2 n e)
 ·cases v <;> first | rfl | (exfalso; unfold Cell.okWide at h; split at h <;> simp_all [Cell.ok])
theorem zk5 {H : Type} {enc : TypeId × Value -> H} {P : Program} (hseq : zhn P = true) {w : World} {spare : Nat -> Bool} {held : Bool} {r : Reach} {b : Nat} : ∀ {ts : List TypeId} {vs : List Value} {ds : List (DataW H)} {p : List MemPlace},
  DataW.TrodAll enc P w 0 spare held ts vs ds p -> (∀ t ∈ ts, t < P.types.size) -> (∀ (j : Nat) t v, ts[j]? = some t -> vs[j]? = some v -> Value.okWide P w r b t v) -> ∃ us, zpE P ts us /\ RepRow (ziI w) us vs /\ (us.map szU).sum <= uptoBulkAll ds
 | [], [], [], _, _, _, _ => ⟨[], trivial, ⟨rfl, by simp⟩, by simp⟩
 | t :: ts, v :: vs, d :: ds, p, h, hlt, hok => by
  obtain ⟨p1, q1, ⟨fuel, h1⟩, h2, _⟩ := h;obtain ⟨us, h3, h4, hsz⟩ := zk5 hseq h2 (fun t ht => hlt t (by simp [ht])) fun j t v ht hv => hok (j + 1) t v (by simpa using ht) (by simpa using hv);have hv := hok 0 t v rfl rfl;obtain ⟨row, h5, h6, h6s⟩ := zhY hseq fuel (hlt t (by simp)) h1;simp only at h6s;have hone : ∀ (_ : ∀ fs, P.underlying t ≠ some (.struct fs)) (_ : ∀ n e, P.underlying t ≠ some (.array n e)), ∃ u, HasRow P t [u] /\ RepU (ziI w) u v /\ szU u <= uptoBulk d := fun n1 n2 => by
   have hc := zlz hv n1 n2;rw [hc] at h6;have hl := h6.1
   match row, hl with
   | [u], _ => exact ⟨u, h5, by simpa using h6.2 0 u rfl, by simp at h6s; omega⟩
  have zc6 : ∀ u, ArgU P t u -> RepU (ziI w) u v -> szU u <= uptoBulk d -> ∃ us, zpE P (t :: ts) us /\ RepRow (ziI w) us (v :: vs) /\ (us.map szU).sum <= uptoBulkAll (d :: ds) := fun u hu hr hz => ⟨u :: us, ⟨hu, h3⟩, (RepRow.one hr).append h4, by
   simp only [List.map_cons, List.sum_cons, uptoBulkAll];omega⟩
  cases hu : P.underlying t with
  | none =>
   obtain ⟨u, h7, h8, h9⟩ := hone (fun fs e => by rw [hu] at e; cases e) (fun n x e => by rw [hu] at e; cases e);exact zc6 u (by unfold ArgU; rw [hu]; exact h7) h8 h9
  | some td =>
   cases td with
   | struct fs =>
    unfold Value.okWide at hv;rw [hu] at hv;obtain ⟨cs, rfl, _⟩ := hv;refine zc6 (.agg row) (by unfold ArgU; rw [hu]; exact ⟨row, rfl, h5⟩) ?_ (by rw [zpZ]; omega);have := RepU.agg (m := ziI w) row cs.toList (by simpa [Value.cells] using h6.1) (by simpa [Value.cells] using h6.2);simpa using this
   | array n e => exact zc6 (.oth v) (by unfold ArgU; rw [hu]; trivial) (.oth v) (by rw [zq1]; exact Nat.zero_le _)
   | _ =>
    obtain ⟨u, h7, h8, h9⟩ := hone (fun fs e => by rw [hu] at e; cases e) (fun n x e => by rw [hu] at e; cases e);exact zc6 u (by unfold ArgU; rw [hu]; exact h7) h8 h9
theorem zjD {P : Program} {f : FuncId} {us : List U} {b : Bool} (h : Fun P f (us.map .u) (· = .u (.bool b))) {W : World} {args : Array Value} (hg : GlobIn (ziI W)) (ha : RepRow (ziI W) us args.toList) :
  Calls P f args W fun e W' => e = .returned (.bool b) /\ Below W.heap.size W W' := by
 have := h ⟨ziI W, fun _ => none, hg⟩ (W.heap.size <= ·) W args ⟨fun _ _ _ h => h, by simp [getK], by simp [getK]⟩ (fun _ _ => rfl) (fun _ h => h)
  ⟨by simpa using ha.1.symm, fun j d hj => by
   rw [List.getElem?_map] at hj;cases hu : us[j]? with
   | none => rw [hu] at hj; cases hj
   | some u =>
      rw [hu] at hj;cases hj;have := ha.2 j u hu;have e : args.getD j undef = args.toList.getD j undef := by simp
      rw [e];exact Rep.u _ _ this⟩
 refine this.mono ?_;rintro e W' ⟨v, d, o, n, k', rfl, hin, _, _, _, hr, _, rfl⟩;exact ⟨by rw [zcl hr], ⟨hin.os, hin.tape, hin.output, hin.size, fun k hk => hin.block k (by omega)⟩⟩
theorem ze7 {H : Type} {enc : TypeId × Value -> H} {P : Program} (hl : laidOutB P = true) {W W' : World} (hb : Below W.heap.size W W') {sp : Nat -> Bool} : ∀ {ts : List TypeId} {vs : List Value} {ds : List (DataW H)} {ps : List MemPlace},
  (∀ t ∈ ts, P.readableRec t = true /\ t < P.types.size) -> DataW.TrodAll enc P W 0 (fun _ => true) true ts vs ds ps -> (∀ x ∈ ps, x.block < W.heap.size) -> (∀ x ∈ ps, sp x.block = true) -> DataW.TrodAll enc P W' 0 sp true ts vs ds ps
 | [], [], [], _, _, h, _, _ => h
 | t :: ts, v :: vs, d :: ds, ps, hr, h, hlt, hsp => by
  obtain ⟨p, q, h1, h2, rfl⟩ := h;obtain ⟨h3, h4⟩ := hr t (by simp);refine ⟨p, q, WideElems.Trod_stays hl h3 h4 h1 (fun x hx => hb.same (hlt x (by simp [hx]))) (fun x hx => hsp x (by simp [hx])), ze7 hl hb (fun t ht => hr t (by simp [ht])) h2 (fun x hx => hlt x (by simp [hx])) (fun x hx => hsp x (by simp [hx])), rfl⟩
theorem zlv {H : Type} {enc : TypeId × Value -> H} {P : Program} {f : Func} {s : ChangeSpec} {apart fresh handsOn again : Bool} {W W' : World} {args : Array Value} {v : Value} {ds gs : List (DataW H)} {before pa pv : List MemPlace}
  (hW : DataW.Whole enc P f.params.toList s.vars apart W args.toList ds gs before)
  (hres : ∀ (b : Nat) (sp : Nat -> Bool) (hd : Bool), DataW.TrodAll enc P W' b sp hd f.resultTypes.toList (v.resultList f.resultTypes.size) (s.fn H (ds ++ gs)).results [])
  (hargs : ∀ sp : Nat -> Bool, (∀ p ∈ before, sp p.block = true) -> DataW.TrodAll enc P W' 0 sp true f.params.toList args.toList (s.fn H (ds ++ gs)).args pa)
  (hvars : ∀ sp : Nat -> Bool, (∀ p ∈ before, sp p.block = true) -> DataW.TrodVars enc P W' sp s.vars (s.fn H (ds ++ gs)).vars pv)
  (hps : before = pa ++ pv) (hb : Below W.heap.size W W')
  (hok : ∀ (j : Nat) (t : TypeId) (r : Value), f.resultTypes[j]? = some t -> (v.resultList f.resultTypes.size)[j]? = some r -> Value.okWide P W' .any 0 t r) :
  s.post enc P f apart fresh handsOn again W args v W' := by
 have hlt : ∀ p ∈ before, p.block < W.heap.size := fun p hp => hW.lt p hp;have hold : ∀ p ∈ before, (fun b => decide (b < W.heap.size)) p.block = true := fun p hp => by simpa using hlt p hp
 refine ⟨ds, gs, before, [], pa, pv, hW, hres _ _ _, hargs _ hold, hvars _ hold, World.keptBut_mono (fun p hp => ⟨hp, ?_⟩) (hb.frame (· ∈ before)), fun _ => ?_⟩
 ·rw [hps, List.mem_append] at hp;exact Or.inr hp
 ·obtain ⟨_, _, _, _, _, hz, hn⟩ := hW;refine ⟨hok, _, _, ([] ++ pa) ++ pv, ⟨[] ++ pa, pv, trodAll_append (hargs _ (fun _ _ => rfl)) (hres _ _ _), hvars _ (fun _ _ => rfl), rfl, ?_, ?_⟩, ?_⟩
  ·intro b off hp;have hin : MemPlace.cell b off ∈ before := by rw [hps]; simpa using hp
   rw [hb.frozen (hlt _ hin)];exact hz b off hin
  ·intro ha;have := hn ha;rw [hps] at this;simpa using this
  ·intro p hp _;rw [hps];simpa using hp
end Go.VL
namespace Go.VL
open Go
theorem znN (obs : List (Nat × Ob)) (i : Nat) (σ : D -> Option U) (js : List Nat) (x : Nat) : getK ((del obs i).map fun p => if js.contains p.1 then (p.1, zaH σ p.2) else p) x =
  if x = i then none else (getK obs x).map fun ob => if js.contains x then zaH σ ob else ob := by
 have e : ((del obs i).map fun p => if js.contains p.1 then (p.1, zaH σ p.2) else p) = (del obs i).map fun p => (p.1, if js.contains p.1 then zaH σ p.2 else p.2) := by
  apply List.map_congr_left;intro p _;split <;> rfl
 rw [e, zdf (fun x (o : Ob) => if js.contains x then zaH σ o else o), zac];by_cases h : x = i <;> simp [h]
theorem zaD (s : St) (i : Nat) (σ : D -> Option U) (js : List Nat) (x : Nat) : getK (s.frzS i σ js).obs x = if x = i then none else (getK s.obs x).map fun ob => if js.contains x then zaH σ ob else ob := znN s.obs i σ js x
theorem zaE (s : St) (i : Nat) (σ : D -> Option U) (js : List Nat) (x : Nat) : getK (s.frzS i σ js).env x = (getK s.env x).map (VL.frzS σ) := zdf (fun _ d => VL.frzS σ d) s.env x
def zbV : U -> U
 | .nil => .sl []
 | x => x
def zb1 : U -> U
 | .nil => .sl []
 | .agg cs => .agg (cs.map zbV)
 | x => x
def zbG : D -> D
 | .u x => .u (zb1 x)
 | d => d
def za9 : Ob -> Ob
 | .box cs => .box (cs.map zbG)
 | ob => ob
def St.norm (s : St) : St := { s with env := s.env.map fun p => (p.1, zbG p.2), obs := s.obs.map fun p => (p.1, za9 p.2) }
theorem zlZ (obs : List (Nat × Ob)) (x : Nat) : getK (obs.map fun p => (p.1, za9 p.2)) x = (getK obs x).map za9 := zdf (fun _ o => za9 o) obs x
theorem zcS (s : St) (x : Nat) : getK s.norm.obs x = (getK s.obs x).map za9 := zlZ s.obs x
theorem zcT (s : St) (x : Nat) : getK s.norm.env x = (getK s.env x).map zbG := zdf (fun _ d => zbG d) s.env x
theorem zm8 {m : Mem} {x : U} {v : Value} (h : RepU m x v) : RepU m (zbV x) v := by
 cases h with
 | nil => exact .slE none 0 fun _ => rfl
 | int k n => exact .int k n
 | bool b => exact .bool b
 | str l => exact .str l
 | oth v => exact .oth v
 | slE a c h => exact .slE a c h
 | sl rows b o sz c f h1 h2 h3 h4 h5 => exact .sl rows b o sz c f h1 h2 h3 h4 h5
 | row cells off b o f h1 h2 => exact .row cells off b o f h1 h2
 | agg cells vs h1 h2 => exact .agg cells vs h1 h2
 | map kk ag es0 es hp b ents clock f h1 h2 h3 h4 => exact .map kk ag es0 es hp b ents clock f h1 h2 h3 h4
theorem zm7 {m : Mem} {x : U} {v : Value} (h : RepU m x v) : RepU m (zb1 x) v := by
 cases h with
 | map kk ag es0 es hp b ents clock f h1 h2 h3 h4 => exact .map kk ag es0 es hp b ents clock f h1 h2 h3 h4
 | nil => exact .slE none 0 fun _ => rfl
 | int k n => exact .int k n
 | bool b => exact .bool b
 | str l => exact .str l
 | oth v => exact .oth v
 | slE a c h => exact .slE a c h
 | sl rows b o sz c f h1 h2 h3 h4 h5 => exact .sl rows b o sz c f h1 h2 h3 h4 h5
 | row cells off b o f h1 h2 => exact .row cells off b o f h1 h2
 | agg cells vs h1 h2 =>
  refine .agg _ vs (by simpa using h1) fun j u hj => ?_;rw [List.getElem?_map] at hj;cases hc : cells[j]? with
  | none => rw [hc] at hj; cases hj
  | some e => rw [hc] at hj; cases hj; exact zm8 (h2 j e hc)
theorem zgw {k : Kr} {d : D} {v : Value} (h : Rep k d v) : Rep k (zbG d) v := by
 cases h with
 | u x v h => exact .u _ _ (zm7 h)
 | any v => exact .any v
 | ptr i off b c h => exact .ptr i off b c h
 | vec i len h hh => exact .vec i len h hh
 | mp i b c h => exact .mp i b c h
 | elt i sz idx off b c h => exact .elt i sz idx off b c h
 | fnc f caps vs hl hr => exact .fnc f caps vs hl hr
 | bnd f caps vs hl hr => exact .bnd f caps vs hl hr
 | agg cells vs hl hr => exact .agg cells vs hl hr
 | tup cells vs hl hr => exact .tup cells vs hl hr
theorem Wk.norm {Γ : Ctx} (s : St) : Wk Γ s s.norm := by
 intro k a w hin hs;have ho : ∀ i ob, getK s.norm.obs i = some ob -> ∃ ob0, getK s.obs i = some ob0 /\ ob = za9 ob0 := fun i ob hi => by
  have : getK (s.obs.map fun p => (p.1, za9 p.2)) i = some ob := hi;rw [zdf (fun _ o => za9 o)] at this;cases hc : getK s.obs i with
  | none => rw [hc] at this; cases this
  | some o => rw [hc] at this; cases this; exact ⟨o, rfl, rfl⟩
 refine ⟨k, hin, ⟨⟨hs.sat.mem, fun i ob hi => ?_, fun i j x y g g' b hx hy hij => ?_⟩, hs.defers, hs.size, fun x d hx => ?_, hs.hdr⟩⟩
 ·obtain ⟨ob0, h1, rfl⟩ := ho i ob hi;obtain ⟨g, h2, h3, h4⟩ := hs.sat.ob i ob0 h1;refine ⟨g, h2, h3, ?_⟩;cases ob0 with
  | box cs =>
   obtain ⟨b, vs, t, e, h5, h6, h7⟩ := h4;refine ⟨b, vs, t, e, h5, by simpa using h6, fun j d hj => ?_⟩;rw [List.getElem?_map] at hj;cases hc : cs[j]? with
   | none => rw [hc] at hj; cases hj
   | some e => rw [hc] at hj; cases hj; exact ⟨(h7 j e hc).1, zgw (h7 j e hc).2⟩
  | vec e sz rows => exact h4
  | map kk ag es => exact h4
  | it => exact h4
  | nw => exact h4
  | sit => exact h4
 ·obtain ⟨o1, h1, _⟩ := ho i x hx;obtain ⟨o2, h2, _⟩ := ho j y hy;exact hs.sat.apart i j o1 o2 g g' b h1 h2 hij
 ·have hx' : getK (s.env.map fun p => (p.1, zbG p.2)) x = some d := hx;rw [zdf (fun _ d => zbG d)] at hx';cases hc : getK s.env x with
  | none => rw [hc] at hx'; cases hx'
  | some e => rw [hc] at hx'; cases hx'; exact ⟨(hs.env x e hc).1, zgw (hs.env x e hc).2⟩
end Go.VL
namespace Go.VL
open Go
def frz1 (s : St) : List Nat -> Option St
 | [] => none
 | i :: l => match getK s.obs i with
  | some (.vec _ _ rows) => match zcG rows with
   | some us => some (s.frz i us (s.obs.map (·.1)))
   | none => frz1 s l
  | some (.map kk ag es) => match zc0 es with
   | some us => some (s.frzS i (za6 i kk ag us) (s.obs.map (·.1)))
   | none => frz1 s l
  | _ => frz1 s l
def frzN : Nat -> St -> St
 | 0, s => s
 | n + 1, s => match frz1 s (s.obs.map (·.1)) with
  | some s' => frzN n s'
  | none => s
theorem Wk.frz1 {Γ : Ctx} {s s' : St} : ∀ {l : List Nat}, frz1 s l = some s' -> Wk Γ s s'
 | [], h => by cases h
 | i :: l, h => by
  rw [VL.frz1] at h;split at h
  ·rename_i e sz rows hg;split at h
   ·rename_i us hu;cases h;exact Wk.frz i _ hg hu
   ·exact Wk.frz1 h
  ·rename_i kk ag es hg;split at h
   ·rename_i us hu;cases h;exact Wk.ztn i _ hg hu
   ·exact Wk.frz1 h
  ·exact Wk.frz1 h
theorem Wk.frzN {Γ : Ctx} : ∀ (n : Nat) (s : St), Wk Γ s (frzN n s)
 | 0, s => .refl s
 | n + 1, s => by
  rw [VL.frzN];split
  ·rename_i s' h;exact (Wk.frz1 h).trans (Wk.frzN n s')
  ·exact .refl s
theorem EndW.frzN {P Γ fn n0 post e s} (n : Nat) (h : EndW P Γ fn n0 post e (frzN n s)) : EndW P Γ fn n0 post e s := .wk _ (Wk.frzN n s) h
theorem EndW.norm {P Γ fn n0 post e s} (h : EndW P Γ fn n0 post e s.norm) : EndW P Γ fn n0 post e s := .wk _ (Wk.norm s) h
def frzB (i : Nat) (s : St) : St := match getK s.obs i with
 | some (.box cs) => match zeM cs with
  | some us => s.frzS i (za7 i us) (s.obs.map (·.1))
  | none => s
 | _ => s
theorem Wk.zsx {Γ : Ctx} (i : Nat) (s : St) : Wk Γ s (VL.frzB i s) := by
 unfold VL.frzB;split
 ·rename_i cs hg;split
  ·rename_i us hu;exact Wk.frzB i _ hg hu
  ·exact .refl s
 ·exact .refl s
theorem EndW.frzB {P Γ fn n0 post e s} (i : Nat) (h : EndW P Γ fn n0 post e (VL.frzB i s)) : EndW P Γ fn n0 post e s := .wk _ (Wk.zsx i s) h
end Go.VL
namespace Go.VL
open Go
theorem zuj {P Γ l s s' k} (h : s = s') : H P Γ l s k = H P Γ l s' k := by rw [h]
theorem zpi {P Γ o r s s' k} (h : s = s') : zc6 P Γ o r s k = zc6 P Γ o r s' k := by rw [h]
theorem zst {P l s s' k} (h : s = s') : HD P l s k = HD P l s' k := by rw [h]
theorem zrh {P l s s' fp fp' C k} (h : s = s') (h' : fp = fp') : HD2 P l s fp C k = HD2 P l s' fp' C k := by rw [h, h']
theorem zui {P Γ c s s' Q} (h : s = s') : V P Γ c s Q = V P Γ c s' Q := by rw [h]
theorem zqp {P Γ Q k e s s'} (h : s = s') : zap P Γ Q k e s = zap P Γ Q k e s' := by rw [h]
theorem zpj {α : Type} {Γ : Ctx} {S : α -> St} {μ : α -> Nat} {x : α} {s s' : St} (h : s = s') : LoopW Γ S μ x s = LoopW Γ S μ x s' := by rw [h]
theorem zpk {α : Type} {n0 : Nat} {S : α -> St} {μ : α -> Nat} {x : α} {s s' : St} (h : s = s') : LoopI n0 S μ x s = LoopI n0 S μ x s' := by rw [h]
attribute [congr] zuj zpi zst zrh zui zqp zpj zpk
theorem zdb {P Γ Q b k s} : zap P Γ Q (.seq b k) .normal s = V P Γ b s (zap P Γ Q k) := rfl
theorem zbk {P Γ Q b k s} : zap P Γ Q (.seq b k) .ret s = zap P Γ Q k .ret s := rfl
theorem za1 {P Γ Q b k s i} : zap P Γ Q (.seq b k) (.exit i) s = zap P Γ Q k (.exit i) s := rfl
theorem zdc {P Γ Q i k s} : zap P Γ Q (.blk i k) .normal s = zap P Γ Q k .normal s := rfl
theorem zbl {P Γ Q i k s} : zap P Γ Q (.blk i k) .ret s = zap P Γ Q k .ret s := rfl
theorem za3 {P Γ Q i j k s} : zap P Γ Q (.blk i k) (.exit j) s = if j = i then zap P Γ Q k .normal s else zap P Γ Q k (.exit j) s := rfl
theorem zcf {P Γ Q I k s} : zap P Γ Q (.loop I k) .normal s = I s := rfl
theorem za2 {P Γ Q I k s} : zap P Γ Q (.loop I k) .ret s = zap P Γ Q k .ret s := rfl
theorem zaV {P Γ Q I k s i} : zap P Γ Q (.loop I k) (.exit i) s = zap P Γ Q k (.exit i) s := rfl
theorem zcg {P Γ Q e s} : zap P Γ Q .done e s = Q e s := rfl
def zb0 (P : Program) (Γ : Ctx) (Q : Exit -> St -> Prop) : Code -> Kt -> St -> Prop
 | .seq a b, k, s => zb0 P Γ Q a (.seq b k) s
 | .block id c, k, s => zb0 P Γ Q c (.blk id k) s
 | .skip, k, s => zap P Γ Q k .normal s
 | .label _, k, s => zap P Γ Q k .normal s
 | .exit id, k, s => zap P Γ Q k (.exit id) s
 | .ret, k, s => zap P Γ Q k .ret s
 | .cond c x y, k, s => match opd s c with
  | .u (.bool t) => (t = true -> V P Γ x s (zap P Γ Q k)) /\ (t = false -> V P Γ y s (zap P Γ Q k))
  | _ => False
 | .region _ l false, k, s => match zbm l l.toList with | some l' => H P Γ l' s (zap P Γ Q k .normal) | none => False
 | c, k, s => V P Γ c s (zap P Γ Q k)
theorem zhM {P Γ Q} : ∀ {c : Code} {k : Kt} {s : St}, zb0 P Γ Q c k s -> V P Γ c s (zap P Γ Q k)
 | .seq a b, k, s, h => zrn (zhM (c := a) (by rw [zb0] at h; exact h))
 | .block id c, k, s, h => zoc (zhM (c := c) (by rw [zb0] at h; exact h))
 | .skip, k, s, h => zaq (by rw [zb0] at h; exact h)
 | .label _, k, s, h => zqw (by rw [zb0] at h; exact h)
 | .exit id, k, s, h => zaZ (by rw [zb0] at h; exact h)
 | .ret, k, s, h => zar (by rw [zb0] at h; exact h)
 | .cond c x y, k, s, h => by
  rw [zb0] at h;split at h
  ·rename_i t ht;exact zrq ht h.1 h.2
  ·exact h.elim
 | .region id l false, k, s, h => by
  rw [zb0] at h;have := zn8 (P := P) (Γ := Γ) (s := s) (Q := Q) (kt := k) (id := id) (l := l.toList) fun K hK => by
   split at h
   ·rename_i l' hl;simp only [Array.toArray_toList];rw [hl];exact fun all ops e K' a w h1 h2 Q' hQ => h all ops e K' a w h1 h2 Q' fun K2 a2 w2 s2 h3 h4 h5 => hQ K2 a2 w2 s2 h3 h4 (hK _ h5)
   ·exact h.elim
  simpa using this
 | .region _ _ true, k, s, h => by rw [zb0] at h; exact h; all_goals simp
 | .loop c, k, s, h => by rw [zb0] at h; exact h; all_goals simp
 | .rangeFunc .., k, s, h => by rw [zb0] at h; exact h; all_goals simp
 | .scope .., k, s, h => by rw [zb0] at h; exact h; all_goals simp
 | .goto .., k, s, h => by rw [zb0] at h; exact h; all_goals simp
 | .refuse .., k, s, h => by rw [zb0] at h; exact h; all_goals simp
theorem zph {P Γ Q c k s s'} (h : s = s') : zb0 P Γ Q c k s = zb0 P Γ Q c k s' := by rw [h]
attribute [congr] zph
section
variable {P : Program} {Γ : Ctx} {Q : Exit -> St -> Prop} {k : Kt} {s : St}
theorem zc7 {a b : Code} : zb0 P Γ Q (.seq a b) k s = zb0 P Γ Q a (.seq b k) s := by rw [zb0]
theorem zbJ {i} {a : Code} : zb0 P Γ Q (.block i a) k s = zb0 P Γ Q a (.blk i k) s := by rw [zb0]
theorem zcd {c x y} : zb0 P Γ Q (.cond c x y) k s = match opd s c with
  | .u (.bool t) => (t = true -> V P Γ x s (zap P Γ Q k)) /\ (t = false -> V P Γ y s (zap P Γ Q k))
  | _ => False := by rw [zb0]
theorem zbt {i} {l : List Oper} : zb0 P Γ Q (.region i l.toArray false) k s = match zbm l.toArray l with | some l' => H P Γ l' s (zap P Γ Q k .normal) | none => False := by rw [zb0]
theorem zcb {c} : zb0 P Γ Q (.loop c) k s = V P Γ (.loop c) s (zap P Γ Q k) := by rw [zb0] <;> simp
theorem zcc {i l} : zb0 P Γ Q (.region i l true) k s = V P Γ (.region i l true) s (zap P Γ Q k) := by rw [zb0] <;> simp
theorem zah {a b : Code} (h : zb0 P Γ Q a (.seq b k) s) : V P Γ (.seq a b) s (zap P Γ Q k) := zrn (zhM h)
theorem zao {i} {a : Code} (h : zb0 P Γ Q a (.blk i k) s) : V P Γ (.block i a) s (zap P Γ Q k) := zoc (zhM h)
theorem zai {c x y} (h : zb0 P Γ Q (.cond c x y) k s) : V P Γ (.cond c x y) s (zap P Γ Q k) := zhM h
theorem zat {i} {l : List Oper} (h : zb0 P Γ Q (.region i l.toArray false) k s) : V P Γ (.region i l.toArray false) s (zap P Γ Q k) := zhM h
end
def wkO (s : St) (nx : Nat) : List (Nat × Ob) -> Prop
 | [] => True
 | p :: l => (p.1 < nx /\ getK s.obs p.1 = some p.2 /\ p.2.under nx = true) /\ wkO s nx l
def wkU (nx : Nat) : List (Nat × D) -> Prop
 | [] => True
 | p :: l => p.2.under nx = true /\ wkU nx l
theorem zmm {s nx} : ∀ {l : List (Nat × Ob)} {x ob}, wkO s nx l -> getK l x = some ob -> x < nx /\ getK s.obs x = some ob /\ ob.under nx = true
 | [], x, ob, _, h => by simp [getK] at h
 | (y, e) :: l, x, ob, hw, h => by
  rw [zaa] at h;by_cases hx : x = y
  ·rw [if_pos hx] at h; cases h; subst hx; exact hw.1
  ·rw [if_neg hx] at h; exact zmm hw.2 h
theorem zmk {nx} : ∀ {l : List (Nat × D)} {x d}, wkU nx l -> getK l x = some d -> d.under nx = true
 | [], x, d, _, h => by simp [getK] at h
 | (y, e) :: l, x, d, hw, h => by
  rw [zaa] at h;by_cases hx : x = y
  ·rw [if_pos hx] at h; cases h; subst hx; exact hw.1
  ·rw [if_neg hx] at h; exact zmk hw.2 h
theorem Wk.cut {Γ : Ctx} {s s' : St} (hn : s'.n = s.n) (hx : Γ.n0 <= s'.next) (ho : wkO s s'.next s'.obs) (hu : wkU s'.next s'.env) (he : wkE s s'.env) : Wk Γ s s' := by
 intro K0 a w hin0 hs0
 let s1 : St := { s with env := s'.env }
 obtain ⟨K1, hin1, hs1⟩ := (Wk.env (s := s) (s' := s1) (Γ := Γ) rfl rfl rfl he) K0 a w hin0 hs0;refine ⟨_, Sim.weak (ρ := fun i => i) hin1 hs1 ⟨hn, fun x d' h => ⟨?_, zmk hu h⟩, fun x d' h => (hs1.env x d' h).1, fun i ob' h => ?_, fun i j ob ob' _ _ e => e, fun i hi => ⟨rfl, by omega⟩⟩⟩
 ·have : s1.at x = d' := by show (getK s'.env x).getD .any = d'; rw [h]; rfl
  rw [this];exact D.le_id d'
 ·obtain ⟨h1, h2, h3⟩ := zmm ho h;exact ⟨h1, ob', h2, Ob.le_id ob', h3⟩
theorem zad (n : Nat) (us : List (List U)) : ((rowsD us).all fun r => r.all (·.under n)) = true := by
 simp [rowsD, List.all_eq_true, D.under]
theorem zae (n : Nat) (us : List (Key × List U)) : ((zfW us).all fun p => p.2.all (·.under n)) = true := by
 simp [zfW, List.all_eq_true, D.under]
def zcL : List D -> Prop
 | [] => True
 | .u _ :: l => zcL l
 | _ => False
def zbp : List (List D) -> Prop
 | [] => True
 | r :: l => zcL r /\ zbp l
theorem zgs : ∀ {r : List D}, zcL r -> ∀ c ∈ r, ∃ x, c = D.u x
 | [], _, c, hc => by cases hc
 | d :: l, h, c, hc => by
  cases d <;> simp only [zcL] at h;rcases List.mem_cons.1 hc with rfl | hc
  ·exact ⟨_, rfl⟩
  ·exact zgs h c hc
theorem zem : ∀ {r : List (List D)}, zbp r -> zjS r
 | [], _ => zmB
 | r :: l, h => zli (zgs h.1) (zem h.2)
@[simp] theorem zp1 (l : List U) : zcL (l.map .u) = True := by
 induction l with
 | nil => simp [zcL]
 | cons a l ih => simpa [zcL] using ih
@[simp] theorem zof (l : List (List U)) : zbp (rowsD l) = True := by
 induction l with
 | nil => simp [zbp]
 | cons a l ih => simpa [zbp] using ih
@[simp] theorem zmL (a b : List (List D)) : zbp (a ++ b) = (zbp a /\ zbp b) := by
 induction a with
 | nil => simp [zbp]
 | cons r l ih => simp [zbp, ih, and_assoc]
def zpG (es : List (Key × List D)) : Prop := ∃ us, es = zfW us
@[simp] theorem zp2 (us : List (Key × List U)) : zpG (zfW us) = True := by simp only [eq_iff_iff, iff_true]; exact ⟨us, rfl⟩
def leU (ρ : Nat -> Nat) (nx : Nat) : List D -> List D -> Prop
 | [], [] => True
 | a :: az, b :: bs => (D.le ρ a b /\ b.under nx = true) /\ leU ρ nx az bs
 | _, _ => False
def zqk (ρ : Nat -> Nat) (nx : Nat) (B : List (List D)) : Prop := ∀ r ∈ B, ∀ c ∈ r, c = c.ren ρ /\ c.under nx = true
def obR (ρ : Nat -> Nat) (nx : Nat) : Ob -> Ob -> Prop
 | .box cs, .box cs' => leU ρ nx cs cs'
 | .vec e sz A, .vec e' sz' B => e = e' /\ sz = sz' /\ A = B /\ (zbp B \/ zqk ρ nx B)
 | .map kk ag es, .map kk' ag' es' => kk = kk' /\ ag = ag' /\ es = es' /\ zpG es'
 | .it kk ag es left cur, .it kk' ag' es' left' cur' => kk = kk' /\ ag = ag' /\ es = es' /\ left = left' /\ cur = cur'
 | .nw t, .nw t' => t = t'
 | .sit s p, .sit s' p' => s = s' /\ p = p'
 | _, _ => False
def wkR (s : St) (ρ : Nat -> Nat) (nx : Nat) : List (Nat × Ob) -> Prop
 | [] => True
 | p :: l => (p.1 < nx /\ (match getK s.obs (ρ p.1) with | some ob => obR ρ nx ob p.2 | none => False)) /\ wkR s ρ nx l
def zoj (s : St) (ρ : Nat -> Nat) (nx : Nat) : List (Nat × D) -> Prop
 | [] => True
 | p :: l => ((match getK s.env p.1 with | some d => D.le ρ d p.2 | none => False) /\ p.2.under nx = true) /\ zoj s ρ nx l
theorem znw {ρ nx} : ∀ {a b : List D}, leU ρ nx a b -> leL ρ a b /\ b.all (·.under nx) = true
 | [], [], _ => ⟨trivial, rfl⟩
 | a :: az, b :: bs, h => by
  obtain ⟨h1, h2⟩ := znw h.2;exact ⟨⟨h.1.1, h1⟩, by simp [h.1.2, h2]⟩
 | [], b :: bs, h => h.elim
 | a :: az, [], h => h.elim
theorem zp5 {ρ nx ob ob'} (h : obR ρ nx ob ob') : Ob.le ρ ob ob' /\ ob'.under nx = true := by
 cases ob <;> cases ob' <;> simp only [obR] at h
 ·obtain ⟨h1, h2⟩ := znw h;exact ⟨Ob.zrx h1, h2⟩
 ·obtain ⟨rfl, rfl, rfl, h⟩ := h;rcases h with h | h
  ·have hu := zem h;exact ⟨Ob.zks hu, Ob.zjJ hu⟩
  ·refine ⟨⟨rfl, rfl, Nat.le_refl _, fun i r r' hi hi' => ?_⟩, ?_⟩
   ·rw [hi] at hi';cases hi';refine ⟨rfl, fun j c c' hj hj' => ?_⟩;rw [hj] at hj';cases hj';exact .inr (.inl (h r (List.mem_of_getElem? hi) c (List.mem_of_getElem? hj)).1)
   ·simp only [Ob.under, List.all_eq_true];exact fun r hr c hc => (h r hr c hc).2
 ·obtain ⟨rfl, rfl, rfl, us, rfl⟩ := h;refine ⟨⟨rfl, rfl, rfl, fun i p p' hi hi' => ?_⟩, zae _ _⟩;rw [hi] at hi';cases hi';refine ⟨rfl, fun j c c' hj hj' => ?_⟩;rw [hj] at hj';cases hj';rw [zfW, List.getElem?_map] at hi;cases hq : us[i]? with
  | none => rw [hq] at hi; cases hi
  | some q =>
   rw [hq] at hi;cases hi;simp only [List.getElem?_map] at hj;cases hx : q.2[j]? with
   | none => rw [hx] at hj; cases hj
   | some x => rw [hx] at hj; cases hj; exact .inr (.inl (by simp [D.ren]))
 ·exact ⟨h, rfl⟩
 ·exact ⟨h, rfl⟩
 ·exact ⟨h, rfl⟩
theorem zml {s ρ nx} : ∀ {l : List (Nat × Ob)}, wkR s ρ nx l -> ∀ x ob', getK l x = some ob' -> x < nx /\ ∃ ob, getK s.obs (ρ x) = some ob /\ Ob.le ρ ob ob' /\ ob'.under nx = true
 | [], _, x, d', h => by simp [getK] at h
 | (y, d) :: l, h, x, d', hx => by
  rw [zaa] at hx;by_cases e : x = y
  ·rw [if_pos e] at hx;cases hx;subst e;obtain ⟨⟨h1, h2⟩, _⟩ := h;refine ⟨h1, ?_⟩;split at h2
   ·rename_i ob hg;exact ⟨ob, hg, zp5 h2⟩
   ·exact h2.elim
  ·rw [if_neg e] at hx; exact zml h.2 x d' hx
theorem zhO {s ρ nx} : ∀ {l : List (Nat × D)}, zoj s ρ nx l -> ∀ x d', getK l x = some d' -> (∃ d, getK s.env x = some d /\ D.le ρ d d') /\ d'.under nx = true
 | [], _, x, d', h => by simp [getK] at h
 | (y, d) :: l, h, x, d', hx => by
  rw [zaa] at hx;by_cases e : x = y
  ·rw [if_pos e] at hx;cases hx;subst e;obtain ⟨⟨h1, h2⟩, _⟩ := h;refine ⟨?_, h2⟩;split at h1
   ·rename_i d0 hg;exact ⟨d0, hg, h1⟩
   ·exact h1.elim
  ·rw [if_neg e] at hx; exact zhO h.2 x d' hx
theorem Wk.ren {Γ : Ctx} {s s' : St} (ρ : Nat -> Nat) (hn : s'.n = s.n) (hx : ∀ i, i < Γ.n0 -> ρ i = i /\ i < s'.next) (he : zoj s ρ s'.next s'.env) (ho : wkR s ρ s'.next s'.obs)
  (hi : ∀ i ∈ s'.obs.map (·.1), ∀ j ∈ s'.obs.map (·.1), ρ i = ρ j -> i = j) : Wk Γ s s' := by
 intro K0 a w hin0 hs0;refine ⟨_, Sim.weak (ρ := ρ) hin0 hs0 ⟨hn, fun x d' h => ?_, fun x d' h => ?_, fun i ob h => zml ho i ob h, fun i j ob ob' hi' hj' e => hi i (zf7 hi') j (zf7 hj') e, hx⟩⟩
 ·obtain ⟨⟨d, h1, h2⟩, h3⟩ := zhO he x d' h;have : s.at x = d := by show (getK s.env x).getD .any = d; rw [h1]; rfl
  rw [this];exact ⟨h2, h3⟩
 ·obtain ⟨⟨d, h1, h2⟩, h3⟩ := zhO he x d' h;exact (hs0.env x d h1).1
theorem zay (σ : D -> Option U) (us : List (Key × List U)) : (zfW us).map (fun p => (p.1, p.2.map (frzS σ))) = zfW us := by
 simp only [zfW, List.map_map];apply List.map_congr_left;intro p _;have : (p.2.map D.u).map (frzS σ) = p.2.map D.u := by
  rw [List.map_map];apply List.map_congr_left;intro x _;simp [frzS]
 simp [Function.comp, frzS]
theorem zav (σ : D -> Option U) (us : List (List U)) : (rowsD us).map (fun r => r.map (frzS σ)) = rowsD us := by
 simp only [rowsD, List.map_map];apply List.map_congr_left;intro p _;simp [Function.comp, frzS]
end Go.VL
namespace Go.VL
open Go
abbrev zkt := Nat × Key × List D
def zsI (o : List (Nat × Ob)) (e : zkt) : List (Nat × Ob) := match getK o e.1 with | some (.map kk ag es) => zcw o e.1 (.map kk ag (zdd es e.2.1 e.2.2)) | _ => o
def zrD : List zkt -> List (Nat × Ob) -> List (Nat × Ob)
 | [], o => o
 | e :: L, o => zrD L (zsI o e)
def obE (e : zkt) (x : Option Ob) : Option Ob := match x with | some (.map kk ag es) => some (.map kk ag (zdd es e.2.1 e.2.2)) | x => x
def zrO : List zkt -> Nat -> Option Ob -> Option Ob
 | [], _, x => x
 | e :: L, z, x => zrO L z (if z = e.1 then obE e x else x)
theorem zjl : ∀ (L : List zkt) (o : List (Nat × Ob)) (z : Nat), getK (zrD L o) z = zrO L z (getK o z)
 | [], _, _ => rfl
 | e :: L, o, z => by
  rw [zrD, zjl L, zrO]
  congr 1
  unfold zsI obE;by_cases hz : z = e.1
  ·subst hz;rw [if_pos rfl];cases hg : getK o e.1 with
   | none => exact hg
   | some ob => cases ob <;> simp [hg, zak, zaa]
  ·rw [if_neg hz];cases hg : getK o e.1 with
   | none => rfl
   | some ob => cases ob <;> simp [zak, zaa, hz]
def InsOK (P : Program) (st : St) (op : Op) (e : zkt) : Prop :=
 ∃ t x ki v kk ag z ku, (op = .mapUpdate t x ki v \/ op = .insert t x ki v) /\ zdq P t = some (kk, ag, z) /\ opd st x = .mp e.1 /\ opd st ki = .u ku /\ zgE ku = some e.2.1 /\ e.2.1.kk = kk /\ zf0 ag (opd st v) = some e.2.2 /\ getK st.obs e.1 = some (.map kk ag [])
theorem InsOK.base {P st op e} (h : InsOK P st op e) : ∃ kk ag, getK st.obs e.1 = some (.map kk ag []) := by
 obtain ⟨t, x, ki, v, kk, ag, z, ku, _, _, _, _, _, _, _, h⟩ := h;exact ⟨kk, ag, h⟩
end Go.VL
namespace Go.VL
open Go
abbrev Ent.no : Ent := (.un, [], none, [])
def Op3 (P : Program) (s : St) (o : O1) (e : Ent) : Option zkt -> Prop
 | none => zaC o.dst s /\ Op2 P s o e
 | some q => e = Ent.no /\ o.guard = none /\ o.dst = none /\ InsOK P s o.op q
def zpO (P : Program) : List O1 -> St -> Fp -> List (Option zkt) -> (St -> Fp -> List (Option zkt) -> Prop) -> Prop
 | [], s, fp, ins, k => k s fp ins
 | o :: rest, s, fp, ins, k => ∃ (e : Ent) (q : Option zkt), Op3 P s o e q /\ (∀ x, e.2.2.1 = some x -> x = s.next) /\ zpO P rest (s.app o.dst e) (fp ++ [(e.2.2.2, keys e.2.1)]) (ins ++ [q]) k
def St.ins (s : St) (ins : List (Option zkt)) : St := { s with obs := zrD (ins.filterMap id) s.obs }
def HD3 (P : Program) (l : List O1) (s : St) (fp : Fp) (ins : List (Option zkt)) (C : Fp -> List (Option zkt) -> Prop) (k : St -> Prop) : Prop :=
 ∀ s0 : St, s0.Eqo s -> zpO P l s0 fp ins fun s1 fp ins => C fp ins /\ ∃ s', (s1.ins ins).Eqo s' /\ k s'
theorem St.Eqo.ins {s s' : St} (h : s.Eqo s') (L : List (Option zkt)) : (s.ins L).Eqo (s'.ins L) :=
 ⟨h.1, fun x => by simp only [St.ins, zjl, h.2.1 x], h.2.2.1, h.2.2.2⟩
theorem InsOK.eqo {P : Program} {s s' : St} {op : Op} {q : zkt} (e : s'.Eqo s) (h : InsOK P s op q) : InsOK P s' op q := by
 obtain ⟨t, x, ki, v, kk, ag, z, ku, h1, h2, h3, h4, h5, h6, h7, h8⟩ := h;have ho : ∀ x, opd s' x = opd s x := fun x => by cases x <;> simp [opd, St.at, e.2.2.2]
 exact ⟨t, x, ki, v, kk, ag, z, ku, h1, h2, by rw [ho]; exact h3, by rw [ho]; exact h4, h5, h6, by rw [ho]; exact h7, by rw [e.2.1]; exact h8⟩
theorem zrg {P l s s' fp fp' ins ins' C k} (h : s = s') (h' : fp = fp') (h'' : ins = ins') : HD3 P l s fp ins C k = HD3 P l s' fp' ins' C k := by rw [h, h', h'']
attribute [congr] zrg
end Go.VL
namespace Go.VL
open Go
end Go.VL
namespace Go.VL
open Go Go.Sort Go.Proofs
end Go.VL
namespace Go.VL
open Go
def fam (b : Nat) : List Ob -> List (Nat × Ob)
 | [] => []
 | o :: l => (b, o) :: fam (b + 1) l
theorem zkR : ∀ (b : Nat) (l : List Ob) (j : Nat), getK (fam b l) j = if b <= j then l[j - b]? else none
 | b, [], j => by simp [fam, getK]
 | b, o :: l, j => by
  rw [fam, zaa, zkR (b + 1) l j];by_cases h : j = b
  ·subst h; simp
  ·rw [if_neg h];by_cases h2 : b <= j
   ·rw [if_pos (show b + 1 <= j by omega), if_pos h2, show j - b = (j - (b + 1)) + 1 by omega, List.getElem?_cons_succ]
   ·rw [if_neg (by omega), if_neg h2]
theorem zjn (b : Nat) (l : List Ob) (i : Nat) : getK (fam b l) (i + b) = l[i]? := by rw [zkR, if_pos (by omega), Nat.add_sub_cancel]
theorem Wk.eqo {Γ : Ctx} {s s' : St} (h : s.Eqo s') : Wk Γ s s' := fun K _ _ h1 h2 => ⟨K, h1, h2.eqo h⟩
def EndsIn (T : List (Nat × Ob)) (b k : Nat) : List (Nat × Ob) -> Prop
 | [] => T = []
 | p :: l => (p :: l = T) \/ ((p.1 < b \/ k + b <= p.1) /\ EndsIn T b k l)
theorem EndsIn.out {T b k} : ∀ {obs}, EndsIn T b k obs -> ∃ A, obs = A ++ T /\ ∀ p ∈ A, p.1 < b \/ k + b <= p.1
 | [], h => ⟨[], by rw [show T = [] from h]; rfl, by simp⟩
 | p :: l, h => by
  rcases h with h | ⟨h1, h2⟩
  ·exact ⟨[], by rw [h]; rfl, by simp⟩
  ·obtain ⟨A, e, h3⟩ := EndsIn.out h2;exact ⟨p :: A, by rw [e]; rfl, fun q hq => (List.mem_cons.1 hq).elim (fun e => by rw [e]; exact h1) (h3 q)⟩
theorem EndsIn.get {L : List Ob} {b obs} (h : EndsIn (fam b L) b L.length obs) {i : Nat} (hi : i < L.length) : getK obs (i + b) = L[i]? := by
 obtain ⟨A, rfl, h2⟩ := h.out;rw [zab];have : getK A (i + b) = none := by
  cases hq : getK A (i + b) with
  | none => rfl
  | some o =>
   obtain ⟨p, hp, e⟩ := List.mem_map.1 (zf7 hq);have := h2 p hp;omega
 rw [this, zjn]
def famPure (L : List Ob) : Prop := ∀ o ∈ L, ∃ e sz B, o = .vec e sz B /\ zbp B
theorem famPure.under {L : List Ob} (h : famPure L) {o : Ob} (ho : o ∈ L) (nx : Nat) : o.under nx = true := by
 obtain ⟨e, sz, B, rfl, hB⟩ := h o ho;exact Ob.zjJ (zem hB)
theorem Ret.re {P : Program} {f : FuncId} {ds : List D} {obs : List (Nat × Ob)} {nx : Nat} {p q : D -> List (Nat × Ob) -> Nat -> Prop} (h : Ret P f ds obs nx p) (hq : ∀ d o n, p d o n -> ∃ o', (∀ j, getK o' j = getK o j) /\ q d o' n) : Ret P f ds obs nx q :=
 fun k own w vs h1 h2 h3 h4 => (h k own w vs h1 h2 h3 h4).mono fun e w' ⟨v, d, o, nx', k', a1, a2, a3, a4, a5, a6, a7⟩ =>
  let ⟨o', b1, b2⟩ := hq d o nx' a7
  ⟨v, d, o', nx', k', a1, a2, a3.congr b1, a4, a5, a6, b2⟩
end Go.VL
namespace Go.VL
open Go
theorem ziB {P : Program} {Γ : Ctx} {s s' : St} {k : St -> Prop} {dst : Option Tmp} {fop : Operand} {args : List Operand} (hw : Wk Γ s s') (h : CallP P Γ fop args dst s' k) : CallP P Γ fop args dst s k := fun ts ty pos after K a w hin hs =>
 let ⟨K', h1, h2⟩ := hw K a w hin hs
 h ts ty pos after K' a w h1 h2
end Go.VL
namespace Go.VL
open Go
inductive Out where
 | val (d : D)
 | pan (ch : List PanicEntry)
def zpR (k : Kr) (e : Ending) : Out -> Prop
 | .val d => ∃ v, e = .returned v /\ Rep k d v
 | .pan ch => e = .panicked ch
def RetX (P : Program) (f : FuncId) (ds : List D) (obs : List (Nat × Ob)) (nx : Nat) (post : Out -> List (Nat × Ob) -> Nat -> Prop) : Prop :=
 ∀ (k : Kr) (own : Nat -> Prop) (w : World) (vs : Array Value), Sat k own obs w -> (∀ i, nx <= i -> k.hdr i = none) -> (∀ b, w.heap.size <= b -> own b) -> RepL k ds vs ->
  Calls P f vs w fun e w' => ∃ r obs' nx' k', zpR k' e r /\ In (.of own k nx w) k' w' /\ Sat k' own obs' w' /\ (∀ i, nx' <= i -> k'.hdr i = none) /\ nx <= nx' /\ post r obs' nx'
theorem Ret.x {P f ds obs nx post} (h : Ret P f ds obs nx post) : RetX P f ds obs nx fun r o n => match r with | .val d => post d o n | .pan _ => False :=
 fun k own w vs h1 h2 h3 h4 => (h k own w vs h1 h2 h3 h4).mono fun _ _ ⟨v, d, o, n, k', e, a, b, c, g, r, hp⟩ => ⟨.val d, o, n, k', ⟨v, e, r⟩, a, b, c, g, hp⟩
theorem RetX.mono {P f ds obs nx} {p q : Out -> List (Nat × Ob) -> Nat -> Prop} (h : RetX P f ds obs nx p) (hq : ∀ r o n, p r o n -> q r o n) : RetX P f ds obs nx q :=
 fun k own w vs h1 h2 h3 h4 => (h k own w vs h1 h2 h3 h4).mono fun _ _ ⟨r, o, n, k', e, a, b, c, g, hp⟩ => ⟨r, o, n, k', e, a, b, c, g, hq _ _ _ hp⟩
theorem RetX.ret {P f ds obs nx} {p : Out -> List (Nat × Ob) -> Nat -> Prop} {q : D -> List (Nat × Ob) -> Nat -> Prop} (h : RetX P f ds obs nx p) (hv : ∀ d o n, p (.val d) o n -> q d o n) (hx : ∀ ch o n, ¬ p (.pan ch) o n) : Ret P f ds obs nx q :=
 fun k own w vs h1 h2 h3 h4 => (h k own w vs h1 h2 h3 h4).mono fun _ _ ⟨r, o, n, k', e, a, b, c, g, hp⟩ => by
  cases r with
  | val d =>
   obtain ⟨v, e, hr⟩ := e;exact ⟨v, d, o, n, k', e, a, b, c, g, hr, hv d o n hp⟩
  | pan ch => exact absurd hp (hx ch o n)
theorem RetX.congr {P f ds obs obs' nx post} (h : RetX P f ds obs nx post) (e : ∀ i, getK obs' i = getK obs i) : RetX P f ds obs' nx post :=
 fun k own w vs hsat hhdr hfresh hrep => h k own w vs (Sat.congr hsat fun i => (e i).symm) hhdr hfresh hrep
theorem zjp {k k' : Kr} {own : Nat -> Prop} {obs F o1 : List (Nat × Ob)} {nx : Nat} {w w' : World} (hsat : Sat k own (F ++ obs) w)
  (hin : In (.of (fun b => own b /\ ¬ Blk k F b) k nx w) k' w') (hs1 : Sat k' (fun b => own b /\ ¬ Blk k F b) o1 w') : Sat k' own (F ++ o1) w' := by
 have hfo : ∀ i ob, getK F i = some ob -> getK (F ++ obs) i = some ob := fun i ob hi => by rw [zab, hi]
 have hFat : ∀ i ob, getK F i = some ob -> ∃ g, k.hdr i = some g /\ k'.hdr i = some g /\ (∀ b, g.1 = some b -> own b /\ (∀ o, k'.mem b o = none) /\ Blk k F b) /\ ObAt k' w' g ob := fun i ob hi => by
  obtain ⟨g, h1, h2, h3⟩ := hsat.ob i ob (hfo i ob hi);have hB : ∀ b, g.1 = some b -> Blk k F b := fun b hb => ⟨i, ob, g, hi, h1, hb⟩;refine ⟨g, h1, hin.le.hdr i g h1, fun b hb => ⟨(h2 b hb).1, fun o => ?_, hB b hb⟩, h3.keep hin.le fun b hb => hin.block b fun hb' => hb'.2 (hB b hb)⟩;cases hm : k'.mem b o with
  | none => rfl
  | some x =>
   rcases hin.memNew b o x hm with h4 | h4
   ·have h4' : k.mem b o = some x := h4;rw [(h2 b hb).2 o] at h4'; cases h4'
   ·exact absurd (hB b hb) h4.2
 refine ⟨hs1.mem, fun i ob hi => ?_, fun i j x y g g' b hx hy hij hg hg' hb => ?_⟩
 ·rw [zab] at hi;cases hf : getK F i with
  | some x =>
   rw [hf] at hi;cases hi;obtain ⟨g, _, h2, h3, h4⟩ := hFat i _ hf;exact ⟨g, h2, fun b hb => ⟨(h3 b hb).1, (h3 b hb).2.1⟩, h4⟩
  | none =>
   rw [hf] at hi;obtain ⟨g, h1, h2, h3⟩ := hs1.ob i ob hi;exact ⟨g, h1, fun b hb => ⟨(h2 b hb).1.1, (h2 b hb).2⟩, h3⟩
 ·rw [zab] at hx hy;cases hfx : getK F i with
  | some x' =>
   obtain ⟨g1, k1, k2, k3, _⟩ := hFat i _ hfx;rw [hg] at k2;cases k2;cases hfy : getK F j with
   | some y' =>
    obtain ⟨g2, l1, l2, l3, _⟩ := hFat j _ hfy;rw [hg'] at l2;cases l2;exact hsat.apart i j x' y' g g' b (hfo i _ hfx) (hfo j _ hfy) hij k1 l1 hb
   | none =>
    rw [hfy] at hy;obtain ⟨g2, l1, l2, _⟩ := hs1.ob j y hy;rw [hg'] at l1;cases l1;exact fun e => (l2 b e).1.2 (k3 b hb).2.2
  | none =>
   rw [hfx] at hx;cases hfy : getK F j with
   | some y' =>
    obtain ⟨g2, l1, l2, l3, _⟩ := hFat j _ hfy;rw [hg'] at l2;cases l2;obtain ⟨g1, k1, k2, _⟩ := hs1.ob i x hx;rw [hg] at k1;cases k1;exact fun e => (k2 b hb).1.2 (l3 b e).2.2
   | none =>
    rw [hfy] at hy;exact hs1.apart i j x y g g' b hx hy hij hg hg' hb
theorem zhA {k : Kr} {own : Nat -> Prop} {obs F : List (Nat × Ob)} {w : World} (hF : ∀ i ob, getK F i = some ob -> getK obs i = none) (hsat : Sat k own (F ++ obs) w) : Sat k (fun b => own b /\ ¬ Blk k F b) obs w := by
 have hob : ∀ i ob, getK obs i = some ob -> getK F i = none /\ getK (F ++ obs) i = some ob := fun i ob hi => by
  have hn : getK F i = none := by
   cases hf : getK F i with
   | none => rfl
   | some x => rw [hF i x hf] at hi; cases hi
  exact ⟨hn, by rw [zab, hn]; exact hi⟩
 have hfo : ∀ i ob, getK F i = some ob -> getK (F ++ obs) i = some ob := fun i ob hi => by rw [zab, hi]
 refine ⟨hsat.mem, fun i ob hi => ?_, fun i j x y g g' b hx hy hij => ?_⟩
 ·obtain ⟨hn, hi'⟩ := hob i ob hi;obtain ⟨g, h1, h2, h3⟩ := hsat.ob i ob hi';refine ⟨g, h1, fun b hb => ⟨⟨(h2 b hb).1, ?_⟩, (h2 b hb).2⟩, h3⟩;rintro ⟨j, oj, g', h4, h5, h6⟩;exact hsat.apart i j ob oj g g' b hi' (hfo j oj h4) (fun e => by subst e; rw [hn] at h4; cases h4) h1 h5 hb h6
 ·exact hsat.apart i j x y g g' b (hob i x hx).2 (hob j y hy).2 hij
theorem zgL {k : Kr} {own : Nat -> Prop} {obs F : List (Nat × Ob)} {w : World} (hsat : Sat k own (F ++ obs) w) (hfresh : ∀ b, w.heap.size <= b -> own b) : ∀ b, w.heap.size <= b -> own b /\ ¬ Blk k F b := fun b hb => by
 refine ⟨hfresh b hb, fun hB => ?_⟩;obtain ⟨i, ob, g, h1, h2, h3⟩ := hB;exact absurd (hsat.lt ⟨i, ob, g, by rw [zab, h1], h2, h3⟩) (by omega)
theorem zkT {k k' : Kr} {own : Nat -> Prop} {F : List (Nat × Ob)} {nx : Nat} {w w' : World} (hfresh : ∀ b, w.heap.size <= b -> own b) (hin : In (.of (fun b => own b /\ ¬ Blk k F b) k nx w) k' w') : In (.of own k nx w) k' w' :=
 ⟨hin.le, hin.none0, fun b o x hx => (hin.memNew b o x hx).imp id (·.1), hfresh, hin.os, hin.tape, hin.output, hin.size, fun b hb => hin.block b fun hb' => hb hb'.1⟩
theorem RetX.frame {P f ds obs nx post} (F : List (Nat × Ob)) (hF : ∀ i ob, getK F i = some ob -> getK obs i = none) (h : RetX P f ds obs nx post) :
  RetX P f ds (F ++ obs) nx (fun r o n => ∃ o1, o = F ++ o1 /\ post r o1 n) := by
 intro k own w vs hsat hhdr hfresh hrep;refine (h k _ w vs (zhA hF hsat) hhdr (zgL hsat hfresh) hrep).mono ?_;rintro e w' ⟨r, o1, n', k', he, hin, hs1, hh1, hle, hp⟩;exact ⟨r, F ++ o1, n', k', he, zkT hfresh hin, zjp hsat hin hs1, hh1, hle, o1, rfl, hp⟩
theorem EffP.zsD {P Γ s k} {fop : Operand} {args : Array Operand} {ts : Array TypeId} {ty : TypeId} {f caps dst pos after} {ds : List D} {post : Out -> List (Nat × Ob) -> Nat -> Prop}
  (hf : zaw (opd s fop) = some (f, caps)) (hc : zal P f = true) (hds : args.toList.map (opd s) ++ caps = ds) (hret : RetX P f ds s.obs s.next post) (hp : zaC dst s)
  (hk : ∀ d obs' nx', s.next <= nx' -> post (.val d) obs' nx' -> k (({ s with obs := obs', next := nx' } : St).put dst d))
  (hx : ∀ ch obs' nx', s.next <= nx' -> post (.pan ch) obs' nx' -> ∃ s2, Wk Γ { s with obs := obs', next := nx' } s2 /\ Γ.pan ch s2) :
  EffP P Γ { dst, op := .call { callee := .value fop, args, argTypes := ts }, type := ty, pos, after, guard := none } s k := by
 intro K a w hin hs Kont Q hK hP;obtain ⟨vs, hrep, hrun⟩ := zk4 hs (args := args) (ts := ts) (ty := ty) hf hc dst pos after none;rw [hds] at hrep;unfold Oper.wp;rw [hrun];refine Calls.mono (hret K Γ.own w vs hs.sat hs.hdr (fun b hb => hin.own_of_ge hb) hrep) ?_;rintro e w' ⟨r, obs', nx', k', hr, hin', hsat', hhdr', hnx, hpost⟩;have hle : K.le k' := hin'.le;have hin2 : In Γ k' w' := hin.step hle (fun b o v e => hin'.memNew b o v e) hin'.os hin'.tape hin'.output hin'.size hin'.block;have hsim : Sim k' Γ.own ({ s with obs := obs', next := nx' } : St) a w' := ⟨hsat', hs.defers, hs.size, fun x d hx => ⟨(hs.env x d hx).1, (hs.env x d hx).2.mono hle⟩, hhdr'⟩;cases r with
 | val d =>
  obtain ⟨v, rfl, hr⟩ := hr;exact hK k' _ w' _ hin2 (hsim.put (by cases dst <;> simp_all [zaC]) hr) (hk d obs' nx' hnx hpost)
 | pan ch =>
  obtain rfl := hr;obtain ⟨s2, hw, hpn⟩ := hx ch obs' nx' hnx hpost;obtain ⟨k2, g1, g2⟩ := hw k' a w' hin2 hsim;exact hP ch k2 a w' s2 g1 g2 hpn
theorem CallP.x_ {P : Program} {Γ : Ctx} {s : St} {k : St -> Prop} {dst : Option Tmp} {fop : Operand} {args : List Operand} {f caps} {ds : List D} {post : Out -> List (Nat × Ob) -> Nat -> Prop} (hret : RetX P f ds s.obs s.next post)
  (hf : zaw (opd s fop) = some (f, caps)) (hc : zal P f = true) (hds : args.map (opd s) ++ caps = ds) (hp : zaC dst s)
  (hk : ∀ d obs' nx', s.next <= nx' -> post (.val d) obs' nx' -> k (({ s with obs := obs', next := nx' } : St).put dst d))
  (hx : ∀ ch obs' nx', s.next <= nx' -> post (.pan ch) obs' nx' -> ∃ s2, Wk Γ { s with obs := obs', next := nx' } s2 /\ Γ.pan ch s2) : CallP P Γ fop args dst s k :=
 fun _ _ _ _ => EffP.zsD hf hc hds hret hp hk hx
theorem CallP.xF {P : Program} {Γ : Ctx} {s : St} {k : St -> Prop} {dst : Option Tmp} {fop : Operand} {args : List Operand} {f caps} {ds : List D} {post : Out -> List (Nat × Ob) -> Nat -> Prop} (F obs : List (Nat × Ob)) (hret : RetX P f ds obs s.next post)
  (heq : ∀ i, getK s.obs i = getK (F ++ obs) i) (hF : ∀ i ob, getK F i = some ob -> getK obs i = none)
  (hf : zaw (opd s fop) = some (f, caps)) (hc : zal P f = true) (hds : args.map (opd s) ++ caps = ds) (hp : zaC dst s)
  (hk : ∀ d o1 nx', s.next <= nx' -> post (.val d) o1 nx' -> k (({ s with obs := F ++ o1, next := nx' } : St).put dst d))
  (hx : ∀ ch o1 nx', s.next <= nx' -> post (.pan ch) o1 nx' -> ∃ s2, Wk Γ { s with obs := F ++ o1, next := nx' } s2 /\ Γ.pan ch s2) : CallP P Γ fop args dst s k :=
 CallP.x_ ((hret.frame F hF).congr heq) hf hc hds hp (fun d o n hn ⟨o1, ho, hpo⟩ => by subst ho; exact hk d o1 n hn hpo) (fun ch o n hn ⟨o1, ho, hpo⟩ => by subst ho; exact hx ch o1 n hn hpo)
theorem CallP.x0 {P : Program} {Γ : Ctx} {s : St} {k : St -> Prop} {dst : Option Tmp} {fop : Operand} {args : List Operand} {f caps} {ds : List D} {post : Out -> List (Nat × Ob) -> Nat -> Prop} (hret : RetX P f ds [] s.next post)
  (hf : zaw (opd s fop) = some (f, caps)) (hc : zal P f = true) (hds : args.map (opd s) ++ caps = ds) (hp : zaC dst s)
  (hk : ∀ d o1 nx', s.next <= nx' -> post (.val d) o1 nx' -> k (({ s with obs := s.obs ++ o1, next := nx' } : St).put dst d))
  (hx : ∀ ch o1 nx', s.next <= nx' -> post (.pan ch) o1 nx' -> ∃ s2, Wk Γ { s with obs := s.obs ++ o1, next := nx' } s2 /\ Γ.pan ch s2) : CallP P Γ fop args dst s k :=
 CallP.xF s.obs [] hret (fun i => by simp) (fun i ob _ => rfl) hf hc hds hp hk hx
theorem CallP.x1 {P : Program} {Γ : Ctx} {s : St} {k : St -> Prop} {dst : Option Tmp} {fop : Operand} {args : List Operand} {f caps} {ds : List D} {post : Out -> List (Nat × Ob) -> Nat -> Prop} {j : Nat} {ob : Ob} (hret : RetX P f ds [(j, ob)] s.next post)
  (hj : getK s.obs j = some ob) (hf : zaw (opd s fop) = some (f, caps)) (hc : zal P f = true) (hds : args.map (opd s) ++ caps = ds) (hp : zaC dst s)
  (hk : ∀ d o1 nx', s.next <= nx' -> post (.val d) o1 nx' -> k (({ s with obs := del s.obs j ++ o1, next := nx' } : St).put dst d))
  (hx : ∀ ch o1 nx', s.next <= nx' -> post (.pan ch) o1 nx' -> ∃ s2, Wk Γ { s with obs := del s.obs j ++ o1, next := nx' } s2 /\ Γ.pan ch s2) : CallP P Γ fop args dst s k :=
 CallP.xF (del s.obs j) [(j, ob)] hret (fun i => by
  rw [zab, zac];by_cases h : i = j
  ·subst h; simp [hj, getK]
  ·simp only [if_neg h, getK];cases getK s.obs i <;> rfl) (fun i o hi => by
  rw [zac] at hi;by_cases h : i = j
  ·rw [if_pos h] at hi; cases hi
  ·simp [getK, h]) hf hc hds hp hk hx
theorem CallP.ok1 {P : Program} {Γ : Ctx} {s : St} {k : St -> Prop} {dst : Option Tmp} {fop : Operand} {args : List Operand} {f caps} {ds : List D} {j : Nat} {ob ob' : Ob} {d : D}
  (hret : RetX P f ds [(j, ob)] s.next fun r o n => r = .val d /\ o = [(j, ob')] /\ n = s.next)
  (hj : getK s.obs j = some ob) (hf : zaw (opd s fop) = some (f, caps)) (hds : args.map (opd s) ++ caps = ds)
  (hk : zal P f = true ∧ zaC dst s ∧ k (({ s with obs := del s.obs j ++ [(j, ob')], next := s.next } : St).put dst d)) : CallP P Γ fop args dst s k :=
 CallP.x1 hret hj hf hk.1 hds hk.2.1 (fun d' o1 nx' _ ⟨h1, h2, h3⟩ => by cases h1; subst h2; subst h3; exact hk.2.2) (fun ch o1 nx' _ ⟨h1, _⟩ => by cases h1)
theorem CallP.zeQ {P : Program} {Γ : Ctx} {s : St} {k : St -> Prop} {dst : Option Tmp} {fop : Operand} {args : List Operand} {f caps} {ds : List D} {j : Nat} {ob : Ob} {ch : List PanicEntry} {p : Ob -> Prop}
  (hret : RetX P f ds [(j, ob)] s.next fun r o n => r = .pan ch /\ (∃ ob', p ob' /\ o = [(j, ob')]) /\ n = s.next)
  (hj : getK s.obs j = some ob) (hf : zaw (opd s fop) = some (f, caps)) (hc : zal P f = true) (hds : args.map (opd s) ++ caps = ds) (hp : zaC dst s)
  (hx : ∀ ob', p ob' -> ∃ s2, Wk Γ { s with obs := del s.obs j ++ [(j, ob')], next := s.next } s2 /\ Γ.pan ch s2) : CallP P Γ fop args dst s k :=
 CallP.x1 hret hj hf hc hds hp (fun d' o1 nx' _ ⟨h1, _⟩ => by cases h1) (fun ch' o1 nx' _ ⟨h1, ⟨ob', h2, h3⟩, h4⟩ => by cases h1; subst h3; subst h4; exact hx ob' h2)
theorem CallP.x2 {P : Program} {Γ : Ctx} {s : St} {k : St -> Prop} {dst : Option Tmp} {fop : Operand} {args : List Operand} {f caps} {ds : List D} {post : Out -> List (Nat × Ob) -> Nat -> Prop} {j q : Nat} {ob oq : Ob} (hret : RetX P f ds [(j, ob), (q, oq)] s.next post)
  (hj : getK s.obs j = some ob) (hq : getK s.obs q = some oq) (hne : j ≠ q) (hf : zaw (opd s fop) = some (f, caps)) (hc : zal P f = true) (hds : args.map (opd s) ++ caps = ds) (hp : zaC dst s)
  (hk : ∀ d o1 nx', s.next <= nx' -> post (.val d) o1 nx' -> k (({ s with obs := del (del s.obs j) q ++ o1, next := nx' } : St).put dst d))
  (hx : ∀ ch o1 nx', s.next <= nx' -> post (.pan ch) o1 nx' -> ∃ s2, Wk Γ { s with obs := del (del s.obs j) q ++ o1, next := nx' } s2 /\ Γ.pan ch s2) : CallP P Γ fop args dst s k :=
 CallP.xF (del (del s.obs j) q) [(j, ob), (q, oq)] hret (fun i => by
  rw [zab, zac, zac];by_cases h : i = q
  ·subst h; rw [if_pos rfl]; simp [getK, Ne.symm hne, hq]
  ·rw [if_neg h];by_cases h2 : i = j
   ·subst h2; simp [hj, getK]
   ·simp only [if_neg h2, getK, if_neg h];cases getK s.obs i <;> rfl) (fun i o hi => by
  rw [zac, zac] at hi;by_cases h : i = q
  ·rw [if_pos h] at hi; cases hi
  ·rw [if_neg h] at hi;by_cases h2 : i = j
   ·rw [if_pos h2] at hi; cases hi
   ·simp [getK, h, h2]) hf hc hds hp hk hx
def Ctx.base (Γ : Ctx) : Ctx := .of Γ.own.own Γ.k0 Γ.n0 Γ.w0
def zrt (Γ : Ctx) (post : Out -> List (Nat × Ob) -> Nat -> Prop) (ch : List PanicEntry) (s : St) : Prop := ∃ s', Wk Γ s s' /\ Γ.n0 <= s'.next /\ post (.pan ch) s'.obs s'.next
def RX (Γ : Ctx) (post : Out -> List (Nat × Ob) -> Nat -> Prop) (e : Ending) (w' : World) : Prop :=
 ∃ r obs' nx' k', zpR k' e r /\ In Γ k' w' /\ Sat k' Γ.own obs' w' /\ (∀ i, nx' <= i -> k'.hdr i = none) /\ Γ.n0 <= nx' /\ post r obs' nx'
theorem zes {P Γ fn e s K a w} {post : Out -> List (Nat × Ob) -> Nat -> Prop} (hend : EndW P Γ fn Γ.n0 (fun d o n => post (.val d) o n) e s) (hin : In Γ K w) (hs : Sim K Γ.own s a w) :
  ∃ v, (results fn a.tmps).run P w = .ok v w /\ RX Γ post (.returned v) w := by
 obtain ⟨s', hw, _, hres⟩ := hend;obtain ⟨K', hin, hs⟩ := hw K a w hin hs;obtain ⟨rs, rv, hfin, hrun, hlen, hr⟩ := zf3 hs _ _ hres;have hres' : (results fn a.tmps).run P w = .ok (if h : rv.toArray.size = 1 then rv.toArray[0] else .tuple rv.toArray) w := by
  unfold results;rw [Array.mapM_eq_mapM_toList];have e : (fn.results.toList.mapM fun (x : ResultVar) => match x with | .tmp t => (pure (a.tmps.getD t undef) : Sem Value) | .cell x t => do loadVar t (<- asAddr (a.tmps.getD x undef))).run P w = .ok rv w := hrun;simp only [Sem.run_bind, Sem.run_map, Result.andThen_ok]
  erw [e]
  simp
 have hrepv : Rep K' (zaf rs) (if h : rv.toArray.size = 1 then rv.toArray[0] else .tuple rv.toArray) := by
  match rs, rv, hlen, hr with
  | [], [], _, hr => exact .tup [] [] rfl (by simp)
  | [d], [v], _, hr => simpa [zaf] using hr 0 d rfl
  | d :: d1 :: ds, v :: v1 :: vs, hlen, hr =>
   simp only [zaf];rw [dif_neg (by simp)];exact .tup _ _ hlen hr
 refine ⟨_, hres', ?_⟩;rcases hfin with ⟨s2, ρ, d', hle, hd, hu, hnx, hpost⟩ | ⟨hnx, hpost⟩
 ·obtain ⟨h1, h2⟩ := Sim.weak hin hs hle;exact ⟨.val d', s2.obs, s2.next, _, ⟨_, rfl, hrepv.weak hd hu⟩, h1, h2.sat, h2.hdr, hnx, hpost⟩
 ·exact ⟨.val _, s'.obs, s'.next, K', ⟨_, rfl, hrepv⟩, hin, hs.sat, hs.hdr, hnx, hpost⟩
theorem RX.conv {Γ Γ' : Ctx} {post e w'} (h : RX Γ post e w') (h1 : Γ'.own.own = Γ.own.own) (h2 : Γ'.k0 = Γ.k0) (h3 : Γ'.n0 = Γ.n0) (h4 : Γ'.w0 = Γ.w0) : RX Γ' post e w' := by
 obtain ⟨r, o, n, k', a, b, c, d, e, f⟩ := h;exact ⟨r, o, n, k', a, b.conv h1 h2 h3 h4, by rw [h1]; exact c, d, by rw [h3]; exact e, f⟩
theorem Wk.conv {Γ Γ' : Ctx} {s s'} (h : Wk Γ s s') (h1 : Γ'.own = Γ.own) (h2 : Γ'.k0 = Γ.k0) (h3 : Γ'.n0 = Γ.n0) (h4 : Γ'.w0 = Γ.w0) : Wk Γ' s s' := fun K a w hin hs => by
 obtain ⟨K', g1, g2⟩ := h K a w (hin.conv (by rw [h1]) h2.symm h3.symm h4.symm) (by rw [<- h1]; exact hs);exact ⟨K', g1.conv (by rw [h1]) h2 h3 h4, by rw [h1]; exact g2⟩
theorem RetX.zeN {P f fn c ds obs nx post} (hf : P.funcs[f]? = some fn) (hb : fn.body = some c) (hn : ds.length <= fn.ntmps)
  (h : ∀ Γ : Ctx, Γ.n0 = nx -> Γ.own.dfr = [] -> (∀ ch s, zrt Γ post ch s -> Γ.pan ch s) -> (∀ e a w', bodyPostD P fn (RX Γ.base post) e a w' -> Γ.esc e a w') -> V P Γ c (entry ds fn.ntmps obs nx) (zap P Γ (EndW P Γ fn nx fun d o n => post (.val d) o n) .done)) : RetX P f ds obs nx post := by
 intro k own w vs hsat hhdr hfresh hrep;have hsz : vs.size = ds.length := hrep.1
 let Γ0 : Ctx := .of own k nx w
 let Γ : Ctx := ⟨⟨own, []⟩, k, nx, w, zrt Γ0 post, bodyPostD P fn (RX Γ0 post)⟩
 have hpan : ∀ ch s, zrt Γ post ch s -> Γ.pan ch s := fun ch s ⟨s', h1, h2, h3⟩ => ⟨s', h1.conv rfl rfl rfl rfl, h2, h3⟩;have hR : ∀ e w', RX Γ post e w' -> RX Γ0 post e w' := fun e w' h => h.conv rfl rfl rfl rfl;have hesc : ∀ e a w', bodyPostD P fn (RX Γ.base post) e a w' -> Γ.esc e a w' := fun e a w' h => h;refine calls_of_wp_defers (R := RX Γ0 post) hf hb (wp_mono (h Γ rfl rfl hpan hesc k _ w ⟨.refl _, hhdr, fun b o v e => .inl e, hfresh, rfl, rfl, rfl, Nat.le_refl _, fun _ _ => rfl⟩
  ⟨hsat, rfl, ?_, fun x d hx => ?_, hhdr⟩) ?_)
 ·simp [entry, hsz]; omega
 ·simp only [entry, zeY, Nat.zero_le, if_true, Nat.sub_zero] at hx;have hlt := (lGE.1 hx).1;refine ⟨by simp [entry]; omega, ?_⟩;have := hrep.2 x d hx;have e : (vs ++ Array.replicate (fn.ntmps - vs.size) undef).getD x undef = vs.getD x undef := by
   simp [Array.getElem?_append, show x < vs.size by omega]
  rw [e];exact this
 ·rintro e a' w' (⟨K', s', hin, hs, hend⟩ | hx)
  ·have hd : a'.defers = [] := hs.defers;cases e with
   | panic ch =>
    obtain ⟨s2, hw, hn2, hp⟩ := (hend : zrt Γ0 post ch s');obtain ⟨K2, h1, h2⟩ := hw K' a' w' (hin.conv rfl rfl rfl rfl) hs;show Leaves P fn a'.tmps (RX Γ0 post) a'.defers (.panicking ch) w';rw [hd];exact ⟨.pan ch, s2.obs, s2.next, K2, rfl, h1, h2.sat, h2.hdr, hn2, hp⟩
   | normal =>
    obtain ⟨v, h1, h2⟩ := zes (Γ := Γ) (post := post) hend hin hs;show Leaves P fn a'.tmps (RX Γ0 post) a'.defers .returning w';rw [hd];exact ⟨v, h1, hR _ _ h2⟩
   | ret =>
    obtain ⟨v, h1, h2⟩ := zes (Γ := Γ) (post := post) hend hin hs;show Leaves P fn a'.tmps (RX Γ0 post) a'.defers .returning w';rw [hd];exact ⟨v, h1, hR _ _ h2⟩
   | exit i => obtain ⟨_, _, h1, _⟩ := hend; rcases h1 with h1 | h1 <;> cases h1
   | goto i => obtain ⟨_, _, h1, _⟩ := hend; rcases h1 with h1 | h1 <;> cases h1
   | outgrown => obtain ⟨_, _, h1, _⟩ := hend; rcases h1 with h1 | h1 <;> cases h1
  ·exact hx.2
theorem RetX.of_bodyW {P f fn c ds obs nx post} (hf : P.funcs[f]? = some fn) (hb : fn.body = some c) (hn : ds.length <= fn.ntmps)
  (h : ∀ Γ : Ctx, Γ.n0 = nx -> (∀ ch s, zrt Γ post ch s -> Γ.pan ch s) -> V P Γ c (entry ds fn.ntmps obs nx) (zap P Γ (EndW P Γ fn nx fun d o n => post (.val d) o n) .done)) : RetX P f ds obs nx post :=
 RetX.zeN hf hb hn fun Γ h1 _ h2 _ => h Γ h1 h2
end Go.VL
namespace Go.VL
open Go
@[irreducible] def zrG (c : Code) : Code := c
theorem znI (c : Code) : zrG c = c := by unfold zrG; rfl
theorem zeF {id : Nat} {o1 : Oper} {dst : Option Tmp} {cl : Call} {type : TypeId} {pos : String} {after : Array Edge} {guard : Option (Nat × Bool)} {rest : Code} :
  Code.seq (.region id #[o1, { dst, op := .defer cl, type, pos, after, guard }] false) rest = zrG (.seq (.region id #[o1, { dst, op := .defer cl, type, pos, after, guard }] false) rest) := (znI _).symm
def RetDf (P : Program) (g : FuncId) (caps : List D) (obs : List (Nat × Ob)) (nx : Nat) (u : FrameMode) (post : FrameMode -> List (Nat × Ob) -> Nat -> Prop) : Prop :=
 ∀ (k : Kr) (own : Nat -> Prop) (w : World) (vs : Array Value), Sat k own obs w -> (∀ i, nx <= i -> k.hdr i = none) -> (∀ b, w.heap.size <= b -> own b) -> RepL k caps vs ->
  CallsD P g vs u w fun e u' w' => ∃ v obs' nx' k', e = .returned v /\ In (.of own k nx w) k' w' /\ Sat k' own obs' w' /\ (∀ i, nx' <= i -> k'.hdr i = none) /\ nx <= nx' /\ post u' obs' nx'
theorem RetDf.mono {P g caps obs nx u} {p q : FrameMode -> List (Nat × Ob) -> Nat -> Prop} (h : RetDf P g caps obs nx u p) (hq : ∀ u o n, p u o n -> q u o n) : RetDf P g caps obs nx u q :=
 fun k own w vs h1 h2 h3 h4 => (h k own w vs h1 h2 h3 h4).mono fun _ _ _ ⟨v, o, n, k', e, a, b, c, d, hp⟩ => ⟨v, o, n, k', e, a, b, c, d, hq _ _ _ hp⟩
theorem RetDf.congr {P g caps obs obs' nx u post} (h : RetDf P g caps obs nx u post) (e : ∀ i, getK obs' i = getK obs i) : RetDf P g caps obs' nx u post :=
 fun k own w vs hsat hhdr hfresh hrep => h k own w vs (Sat.congr hsat fun i => (e i).symm) hhdr hfresh hrep
theorem RetDf.frame {P g caps obs nx u post} (F : List (Nat × Ob)) (hF : ∀ i ob, getK F i = some ob -> getK obs i = none) (h : RetDf P g caps obs nx u post) :
  RetDf P g caps (F ++ obs) nx u (fun u o n => ∃ o1, o = F ++ o1 /\ post u o1 n) := by
 intro k own w vs hsat hhdr hfresh hrep;refine (h k _ w vs (zhA hF hsat) hhdr (zgL hsat hfresh) hrep).mono ?_;rintro e u' w' ⟨v, o1, n', k', he, hin, hs1, hh1, hle, hp⟩;exact ⟨v, F ++ o1, n', k', he, zkT hfresh hin, zjp hsat hin hs1, hh1, hle, o1, rfl, hp⟩
def LeaveD (P : Program) (Γb : Ctx) (fn : Func) (post : Out -> List (Nat × Ob) -> Nat -> Prop) (g : FuncId) (caps : List D) (u : FrameMode) (s : St) : Prop :=
 RetDf P g caps s.obs s.next u fun u' o n => settle u' = .returning /\ EndW P Γb fn Γb.n0 (fun d o n => post (.val d) o n) .ret { s with obs := o, next := n }
def zvL (P : Program) (Γb : Ctx) (fn : Func) (post : Out -> List (Nat × Ob) -> Nat -> Prop) (g : FuncId) (caps : List D) (e : Exit) (s : St) : Prop := e = .ret /\ LeaveD P Γb fn post g caps .returning s
theorem zlN {P Γ Γ' fn post g caps u s K K1 a w w1} (hmode : u ≠ .run) (h : LeaveD P Γ.base fn post g caps u s) (hin1 : In Γ K1 w1) (hin : In Γ' K w) (hs : Sim K Γ'.own s a w) (ho : Γ'.own.own = Γ.own.own) (hk : Γ'.k0 = K1) (hn : ∀ i, Γ'.n0 <= i -> K1.hdr i = none) (hw : Γ'.w0 = w1)
  (hc : zal P g = true) (vs : Array Value) (hrep : RepL K1 caps vs) :
  Leaves P fn a.tmps (RX Γ.base post) [{ target := .fn (.func g) vs, args := #[] }] u w := by
 have hle1 : K1.le K := by rw [<- hk]; exact hin.le
 have hin0 : In Γ K w := hin1.step hle1 (fun b o v e => by have := hin.memNew b o v e; rw [hk, ho] at this; exact this) (by rw [hin.os, hw]) (by rw [hin.tape, hw]) (by rw [hin.output, hw]) (by have := hin.size; rw [hw] at this; exact this)
  (fun b hb => by have := hin.block b (by rw [ho]; exact hb); rw [hw] at this; exact this)
 refine leaves_cons (f := g) (args := vs) hmode ?_ ?_
 ·unfold zal at hc;split at hc
  ·rename_i fn' hfn;simp at hc;obtain ⟨hb, hname⟩ := hc;have hb' : fn'.body.isNone = false := by cases hbb : fn'.body <;> simp_all
   simp [invoke, callFunc, hfn, hb', hname];intro h0;rw [h0] at hb;simp at hb
  ·cases hc
 ·refine (h K Γ'.own.own w vs hs.sat hs.hdr (fun b hb => by rw [ho]; exact hin0.own_of_ge hb) ⟨hrep.1, fun j d hj => (hrep.2 j d hj).mono hle1⟩).mono ?_;rintro e u' w' ⟨v, o, n, k', rfl, hin2, hsat, hhdr, hnx, hset, hend⟩;rw [ho] at hin2 hsat;have hin3 : In Γ k' w' := hin0.step hin2.le (fun b o v e => hin2.memNew b o v e) hin2.os hin2.tape hin2.output hin2.size hin2.block;have hsim : Sim k' Γ.base.own ({ s with obs := o, next := n } : St) { a with defers := [] } w' := ⟨hsat, rfl, hs.size, fun x d hx => ⟨(hs.env x d hx).1, (hs.env x d hx).2.mono hin2.le⟩, hhdr⟩;obtain ⟨v', h1, h2⟩ := zes (Γ := Γ.base) (post := post) hend (hin3.conv rfl rfl rfl rfl) hsim;show Leaves P fn a.tmps (RX Γ.base post) [] (settle u') w';rw [hset];exact ⟨v', h1, h2⟩
theorem zix {P Γ fn post s Q kt id g t type pos after type2 pos2 after2 rest} {ts : Array TypeId} {caps : List Operand}
  (hesc : ∀ e a w', bodyPostD P fn (RX Γ.base post) e a w' -> Γ.esc e a w') (hd : Γ.own.dfr = []) (hc : zal P g = true) (ht : t < s.n)
  (h : ∀ Γ' : Ctx, Γ'.n0 = s.next -> (∀ ch s2, LeaveD P Γ.base fn post g (caps.map (opd s)) (.panicking ch) s2 -> Γ'.pan ch s2) ->
    V P Γ' rest (s.put (some t) (.fnc (.func g) (caps.map (opd s)))) (zap P Γ' (zvL P Γ.base fn post g (caps.map (opd s))) .done)) :
  V P Γ (zrG (.seq (.region id #[{ dst := some t, op := .makeFunc (.func g) #[] caps.toArray, type := type, pos := pos, after := after, guard := none },
   { dst := none, op := .defer { callee := .value (.tmp t), args := #[], argTypes := ts }, type := type2, pos := pos2, after := after2, guard := none }] false) rest)) s (zap P Γ Q kt) := by
 rw [znI];intro K a w hin hs;refine wp_seq (wp_region_lit ?_);have hrep : RepL K (caps.map (opd s)) (caps.map a.eval).toArray := ⟨by simp, fun j d hj => by have := zep hs caps j d hj; simpa using this⟩;have hfv : Rep K (.fnc (.func g) (caps.map (opd s))) (.func (.func g) #[] (caps.map a.eval).toArray) := .fnc _ _ _ (by simp) (zep hs caps);have hts : t < a.tmps.size := by rw [hs.size]; exact ht
 refine wpList_plain rfl fun K1 hK1 => ?_;have hrun1 : (execOp a.eval { dst := some t, op := .makeFunc (.func g) #[] caps.toArray, type := type, pos := pos, after := after, guard := none }).run P w = .ok (.value (.func (.func g) #[] (caps.map a.eval).toArray)) w := by
  simp [execOp, Instr.makeFunc]
 unfold Oper.wp;rw [hrun1];refine hK1 _ _ (wpList_plain rfl fun K2 hK2 => ?_);generalize ha1 : (a.put (some t) (.func (.func g) #[] (caps.map a.eval).toArray)) = a1;have hev : a1.eval (.tmp t) = .func (.func g) #[] (caps.map a.eval).toArray := by
  subst ha1;simp [Act.eval, Act.put, hts]
 have hrun2 : (execOp a1.eval { dst := none, op := .defer { callee := .value (.tmp t), args := #[], argTypes := ts }, type := type2, pos := pos2, after := after2, guard := none }).run P w = .ok (.defer { target := .fn (.func g) (caps.map a.eval).toArray, args := #[] }) w := by
  simp [execOp, resolve, hev, Deferred.ofValue]
 unfold Oper.wp;rw [hrun2];refine hK2 _ _ ?_
 let Γ' : Ctx := ⟨⟨Γ.own.own, [{ target := .fn (.func g) (caps.map a.eval).toArray, args := #[] }]⟩, K, s.next, w, fun ch s2 => LeaveD P Γ.base fn post g (caps.map (opd s)) (.panicking ch) s2, fun _ _ _ => False⟩
 have hin' : In Γ' K w := ⟨.refl _, hs.hdr, fun b o v e => .inl e, fun b hb => hin.own_of_ge hb, rfl, rfl, rfl, Nat.le_refl _, fun _ _ => rfl⟩;have hs1 : Sim K Γ.own (s.put (some t) (.fnc (.func g) (caps.map (opd s)))) a1 w := by
  subst ha1;exact hs.put (by simpa [zaC] using ht) hfv
 have hs' : Sim K Γ'.own (s.put (some t) (.fnc (.func g) (caps.map (opd s)))) (({ a1 with defers := { target := .fn (.func g) (caps.map a.eval).toArray, args := #[] } :: a1.defers } : Act).put none undef) w :=
  ⟨hs1.sat, by have := hs1.defers; rw [hd] at this; show _ :: a1.defers = _; rw [this], hs1.size, hs1.env, hs1.hdr⟩
 refine wp_mono (h Γ' rfl (fun ch s2 h => h) K _ w hin' hs') ?_;rintro e a' w' (⟨K', s', h1, h2, h3⟩ | h3)
 ·have hdf : a'.defers = [{ target := .fn (.func g) (caps.map a.eval).toArray, args := #[] }] := h2.defers;have go : ∀ u, u ≠ .run -> LeaveD P Γ.base fn post g (caps.map (opd s)) u s' -> Leaves P fn a'.tmps (RX Γ.base post) a'.defers u w' := fun u hu hl => by
   rw [hdf];exact zlN hu hl hin h1 h2 rfl rfl hs.hdr rfl hc _ hrep
  cases e with
  | panic ch => exact .inr ⟨trivial, hesc _ _ _ (go (.panicking ch) (by simp) h3)⟩
  | ret => exact .inr ⟨trivial, hesc _ _ _ (go .returning (by simp) h3.2)⟩
  | normal => exact absurd h3.1 (by simp)
  | exit i => exact absurd h3.1 (by simp)
  | goto i => exact absurd h3.1 (by simp)
  | outgrown => exact absurd h3.1 (by simp)
 ·exact h3.2.elim
def HS (P : Program) (Γ : Ctx) : List Oper -> St -> (St -> Prop) -> Prop
 | [], s, k => k s
 | o :: l, s, k => o.guard = none /\ zb2 P Γ o.dst o.op s fun s' => HS P Γ l s' k
theorem zpL {P Γ cs} {Q : Exit -> Act -> List Frame -> World -> Prop} {k : St -> Prop} (ops : Array Oper) : ∀ (l : List Oper) (i : Nat) (s : St) (K : Kr) (a : Act) (w : World), (∀ j, ops[i + j]? = l[j]?) -> HS P Γ l s k -> In Γ K w -> Sim K Γ.own s a w ->
  (∀ K' a' w' s', In Γ K' w' -> Sim K' Γ.own s' a' w' -> k s' -> Q .normal a' cs w') -> (∀ ch K' a' w' s', In Γ K' w' -> Sim K' Γ.own s' a' w' -> Γ.pan ch s' -> Q (.panic ch) a' cs w') ->
  wpOpsS P ops Q (List.range' i l.length) a cs w
 | [], i, s, K, a, w, _, h, hin, hs, hQ, _ => by simpa [wpOpsS] using hQ K a w s hin hs h
 | o :: l, i, s, K, a, w, ho, h, hin, hs, hQ, hP => by
  have h0 : ops[i]? = some o := by simpa using ho 0
  obtain ⟨hg, hst⟩ := h;rw [List.length_cons, List.range'_succ];unfold wpOpsS;rw [h0];simp only [Region.wanted, hg, if_true];have hw := zeE hst K a w hin hs (fun a' w' => wpOpsS P ops Q (List.range' (i + 1) l.length) a' cs w') (fun e a' w' => Q e a' cs w')
   (fun K' a' w' s' h1 h2 h3 => zpL ops l (i + 1) s' K' a' w' (fun j => by have := ho (j + 1); simpa [nAA, Nat.add_comm 1 j] using this) h3 h1 h2 hQ hP) hP
  unfold Oper.wp at hw;split
  ·rename_i w' hr;rw [hr] at hw;exact hw.elim
  ·exact hw
def zjX : FrameMode -> Value × FrameMode
 | .panicking ({ v, recovered := false, goexit := false } :: older) => (v, .panicking ({ v, recovered := true } :: older))
 | u => (.nilIface, u)
def ztq (Γ : Ctx) (post : FrameMode -> List (Nat × Ob) -> Nat -> Prop) (u' : FrameMode) (e : Exit) (s : St) : Prop := (e = .normal \/ e = .ret) /\ ∃ s', Wk Γ s s' /\ Γ.n0 <= s'.next /\ post u' s'.obs s'.next
theorem RetDf.of_body {P g fn caps obs nx u post id x type pos after l rest} (hf : P.funcs[g]? = some fn)
  (hb : fn.body = some (.seq (.region id ({ dst := some x, op := .call { callee := .builtin .recover, args := #[], argTypes := #[] }, type := type, pos := pos, after := after, guard := none } :: l : List Oper).toArray false) rest))
  (hn : caps.length <= fn.ntmps) (hx : x < fn.ntmps) (hres : fn.results = #[])
  (h : ∀ Γ : Ctx, Γ.n0 = nx -> HS P Γ l ((entry caps fn.ntmps obs nx).put (some x) (.u (.oth (zjX u).1))) fun s' => V P Γ rest s' (zap P Γ (ztq Γ post (zjX u).2) .done)) : RetDf P g caps obs nx u post := by
 intro k own w vs hsat hhdr hfresh hrep;have hsz : vs.size = caps.length := hrep.1
 let Γ : Ctx := .of own k nx w
 have hin : In Γ k w := ⟨.refl _, hhdr, fun b o v e => .inl e, hfresh, rfl, rfl, rfl, Nat.le_refl _, fun _ _ => rfl⟩;have hs : Sim k Γ.own (entry caps fn.ntmps obs nx) { tmps := vs ++ Array.replicate (fn.ntmps - vs.size) undef, defers := [] } w := by
  refine ⟨hsat, rfl, ?_, fun y d hy => ?_, hhdr⟩
  ·simp [entry, hsz]; omega
  ·simp only [entry, zeY, Nat.zero_le, if_true, Nat.sub_zero] at hy;have hlt := (lGE.1 hy).1;refine ⟨by simp [entry]; omega, ?_⟩;have := hrep.2 y d hy;have e : (vs ++ Array.replicate (fn.ntmps - vs.size) undef).getD y undef = vs.getD y undef := by
    simp [Array.getElem?_append, show y < vs.size by omega]
   rw [e];exact this
 refine callsD_of_wpS hf hb fun c0 cs hm => wpS_seq (wpS_region ?_);have hsize : ({ dst := some x, op := .call { callee := .builtin .recover, args := #[], argTypes := #[] }, type := type, pos := pos, after := after, guard := none } :: l : List Oper).toArray.size = l.length + 1 := by simp
 rw [hsize, List.range_eq_range', List.range'_succ];generalize hops : ({ dst := some x, op := .call { callee := .builtin .recover, args := #[], argTypes := #[] }, type := type, pos := pos, after := after, guard := none } :: l : List Oper).toArray = ops;have h0 : ops[0]? = some { dst := some x, op := .call { callee := .builtin .recover, args := #[], argTypes := #[] }, type := type, pos := pos, after := after, guard := none } := by rw [<- hops]; simp
 unfold wpOpsS;rw [h0];have hrun : ∀ ρ : Operand -> Value, (execOp ρ { dst := some x, op := .call { callee := .builtin .recover, args := #[], argTypes := #[] }, type := type, pos := pos, after := after, guard := none }).run P w = .ok .recover w := fun ρ => by
  simp [execOp, resolve, invoke, builtin]
 simp only [Region.wanted, if_true, hrun];have hrec : recoverD (c0 :: cs) = some ((zjX u).1, { c0 with mode := (zjX u).2 } :: cs) \/ (recoverD (c0 :: cs) = none /\ (zjX u).1 = .nilIface /\ { c0 with mode := (zjX u).2 } = c0) := by
  subst hm;have same : ∀ m, c0.mode = m -> ({ c0 with mode := m } : Frame) = c0 := fun m h => by rw [<- h]
  cases hmo : c0.mode with
  | run => exact .inr ⟨by simp [recoverD, hmo], rfl, same _ hmo⟩
  | returning => exact .inr ⟨by simp [recoverD, hmo], rfl, same _ hmo⟩
  | panicking ch =>
   cases ch with
   | nil => exact .inr ⟨by simp [recoverD, hmo], rfl, same _ hmo⟩
   | cons e older =>
    obtain ⟨v, r, g⟩ := e;cases r <;> cases g
    ·exact .inl (by simp [recoverD, hmo, zjX])
    ·exact .inr ⟨by simp [recoverD, hmo], rfl, same _ hmo⟩
    ·exact .inr ⟨by simp [recoverD, hmo], rfl, same _ hmo⟩
    ·exact .inr ⟨by simp [recoverD, hmo], rfl, same _ hmo⟩
 have main : wpOpsS P ops (Exit.thenS (rest.wpS P (bodyPostS P fn c0 cs fun e u' w' => ∃ v obs' nx' k', e = .returned v /\ In (.of own k nx w) k' w' /\ Sat k' own obs' w' /\ (∀ i, nx' <= i -> k'.hdr i = none) /\ nx <= nx' /\ post u' obs' nx'))
   (bodyPostS P fn c0 cs fun e u' w' => ∃ v obs' nx' k', e = .returned v /\ In (.of own k nx w) k' w' /\ Sat k' own obs' w' /\ (∀ i, nx' <= i -> k'.hdr i = none) /\ nx <= nx' /\ post u' obs' nx')) (List.range' (0 + 1) l.length)
   (Act.put { tmps := vs ++ Array.replicate (fn.ntmps - vs.size) undef, defers := [] } (some x) (zjX u).1) ({ c0 with mode := (zjX u).2 } :: cs) w := by
  refine zpL ops l (0 + 1) _ k _ w (fun j => by rw [<- hops]; simp [Nat.add_comm 1 j]) (h Γ rfl) hin (hs.put (by simpa [zaC, entry] using hx) (.u _ _ (.oth _))) (fun K' a' w' s' h1 h2 h3 => ?_) (fun ch K' a' w' s' _ _ h3 => h3.elim);refine wpS_of_wp (wp_mono (h3 K' a' w' h1 h2) ?_);rintro e a2 w2 (⟨K2, s2, g1, g2, g3⟩ | g3)
  ·have hd2 : a2.defers = [] := g2.defers;have fin : ztq Γ post (zjX u).2 e s2 -> a2.defers = [] /\ ∃ u', ({ c0 with mode := (zjX u).2 } :: cs : List Frame) = { c0 with mode := u' } :: cs /\ ∃ v, (results fn a2.tmps).run P w2 = .ok v w2 /\
     ∃ v' obs' nx' k', Ending.returned v = .returned v' /\ In (.of own k nx w) k' w2 /\ Sat k' own obs' w2 /\ (∀ i, nx' <= i -> k'.hdr i = none) /\ nx <= nx' /\ post u' obs' nx' := fun ⟨_, s3, hw, hnx, hp⟩ => by
    obtain ⟨K3, q1, q2⟩ := hw K2 a2 w2 g1 g2;exact ⟨hd2, _, rfl, .tuple #[], by simp [results, hres], _, s3.obs, s3.next, K3, rfl, q1, q2.sat, q2.hdr, hnx, hp⟩
   cases e with
   | normal => exact fin g3
   | ret => exact fin g3
   | panic ch => exact g3.elim
   | exit i => rcases g3.1 with h | h <;> cases h
   | goto i => rcases g3.1 with h | h <;> cases h
   | outgrown => rcases g3.1 with h | h <;> cases h
  ·exact g3.2.elim
 rcases hrec with hr | ⟨hr, h1, h2⟩
 ·rw [hr];exact main
 ·rw [hr];rw [h1, h2] at main;exact main
end Go.VL
namespace Go.VL
open Go
def zqC (P : Program) (Γ : Ctx) (s : St) (op : Op) : Prop :=
 ∀ s' : St, s'.n = s.n -> (∀ y, getK s'.obs y = getK s.obs y) -> (∀ x ∈ op.operands, opd s' x = opd s x) -> s.next <= s'.next -> ∀ o : Oper, o.op = op -> o.guard = none -> zaC o.dst s' -> EffP P Γ o s' fun _ => False
def zqL (P : Program) (N : Nat) (s : St) (op : Op) (d : D) (W : Wr) (R : List Nat) : Prop :=
 ∃ fop args f caps, ∃ (O O' : List (Nat × Ob)) (L : List Nat), zbN op = some (fop, args) /\ zaw (opd s fop) = some (f, caps) /\ zal P f = true /\ R = O.map (·.1) /\ (∀ y, y ∈ keys W ↔ L.contains y = true /\ y ∈ O.map (·.1)) /\ (∀ y, y ∈ keys W -> getK W y = some (getK O' y)) /\
  (∀ y, L.contains y = false -> getK O' y = getK O y) /\ (∀ p ∈ O, getK s.obs p.1 = some p.2) /\ (O.map (·.1)).Nodup /\ (d.under N = true /\ ∀ p ∈ O', p.2.under N = true) /\
  ∀ nx, s.next <= nx -> RetX P f (args.map (opd s) ++ caps) O nx fun r o n => r = .val d /\ (∀ y, getK o y = getK O' y) /\ n = nx
def zsF (P : Program) (N : Nat) (s : St) (op : Op) (d : D) (W : Wr) (cr : Option Nat) (R : List Nat) : Prop :=
 ∃ fop args f caps, ∃ (O : List (Nat × Ob)) (e : ERes) (nb : Ob) (x0 : Nat), zbN op = some (fop, args) /\ zaw (opd s fop) = some (f, caps) /\ zal P f = true /\ R = O.map (·.1) /\ (e.U = [] /\ e.nw = some nb /\ nb.under N = true) /\
  (cr = some x0 /\ W = (x0, some nb) :: e.U /\ d = mkD e.how x0) /\ (∀ p ∈ O, getK s.obs p.1 = some p.2) /\
  ∀ nx, s.next <= nx -> RetX P f (args.map (opd s) ++ caps) O nx fun r o n => r = .val (mkD e.how nx) /\ (∀ y, getK o y = getK ((nx, nb) :: O) y) /\ n = nx + 1
def zqE (P : Program) (N : Nat) (s : St) (op : Op) (dst : Option Tmp) (d : D) (W : Wr) (cr : Option Nat) (R : List Nat) : Prop :=
 Op1 P s op dst d W cr R \/ (zqL P N s op d W R /\ cr = none) \/ zsF P N s op d W cr R
def zru (P : Program) (N : Nat) (all : Array Oper) (s : St) (o : Oper) (d : D) (W : Wr) (cr : Option Nat) (R : List Nat) : Prop :=
 match o.guard with
 | none => zqE P N s o.op o.dst d W cr R
 | some (j, want) => ∃ t, zaQ all j = some t /\ ((∃ b, getK s.env t = some (.u (.bool b)) /\
  if b = want then zqE P N s o.op o.dst d W cr R else d = .un /\ W = [] /\ cr = none) \/ (getK s.env t = some .un /\ d = .un /\ W = [] /\ cr = none))
theorem zb6 {α : Type} (l : List (Nat × α)) (c : List Nat) (y : Nat) : getK (l.filter fun p => !c.contains p.1) y = if c.contains y = true then none else getK l y := by
 induction l with
 | nil => simp [getK]
 | cons p l ih =>
  obtain ⟨k, x⟩ := p;rw [List.filter_cons];by_cases hk : c.contains k = true
  ·rw [if_neg (by simpa using hk), ih, zaa];by_cases hy : y = k
   ·subst hy; rw [if_pos hk, if_pos hk]
   ·rw [if_neg hy]
  ·rw [if_pos (by simpa using hk), zaa, zaa, ih];by_cases hy : y = k
   ·subst hy; rw [if_pos rfl, if_pos rfl, if_neg hk]
   ·rw [if_neg hy, if_neg hy]
theorem zjm {α : Type} (l : List (Nat × α)) (c : List Nat) (y : Nat) : getK (l.filter fun p => c.contains p.1) y = if c.contains y = true then getK l y else none := by
 induction l with
 | nil => simp [getK]
 | cons p l ih =>
  obtain ⟨k, x⟩ := p;rw [List.filter_cons];by_cases hk : c.contains k = true
  ·rw [if_pos (by exact hk), zaa, zaa, ih];by_cases hy : y = k
   ·subst hy; rw [if_pos rfl, if_pos rfl, if_pos hk]
   ·rw [if_neg hy, if_neg hy]
  ·rw [if_neg (by exact hk), ih, zaa];by_cases hy : y = k
   ·subst hy; rw [if_neg hk, if_neg hk]
   ·rw [if_neg hy]
theorem zer {α : Type} {l : List (Nat × α)} {y : Nat} {x : α} (h : getK l y = some x) : (y, x) ∈ l := by
 induction l with
 | nil => cases h
 | cons p l ih =>
  obtain ⟨k, d⟩ := p;rw [zaa] at h;by_cases hyk : y = k
  ·rw [if_pos hyk] at h; cases h; subst hyk; simp
  ·rw [if_neg hyk] at h; exact List.mem_cons_of_mem _ (ih h)
theorem zcp {α : Type} {l : List (Nat × α)} {y : Nat} (h : y ∈ l.map (·.1)) : ∃ x, getK l y = some x := by
 induction l with
 | nil => cases h
 | cons p l ih =>
  obtain ⟨k, d⟩ := p;rw [zaa];by_cases hyk : y = k
  ·exact ⟨d, by rw [if_pos hyk]⟩
  ·rw [if_neg hyk];simp only [List.map_cons, List.mem_cons] at h;exact ih (h.resolve_left hyk)
theorem zii (O : List (Nat × Ob)) (y : Nat) : getK (O.map fun p => (p.1, some p.2) : Wr) y = (getK O y).map some := by
 induction O with
 | nil => rfl
 | cons p l ih =>
  obtain ⟨k, d⟩ := p;rw [List.map_cons, zaa, zaa, ih];split <;> rfl
theorem zct {ρ : Nat -> Nat} {N M : Nat} (hρ : ∀ y, y < N -> ρ y = y) (hNM : N <= M) : ∀ {d : D}, d.under N = true -> Good ρ M d
 | .u x, _ => ⟨by simp [D.ren], by simp [D.under]⟩
 | .any, _ => ⟨by simp [D.ren], by simp [D.under]⟩
 | .ptr i off, h => by simp [D.under] at h; exact ⟨by simp [D.ren, hρ i h], by simp [D.under]; omega⟩
 | .vec i len, h => by simp [D.under] at h; exact ⟨by simp [D.ren, hρ i h], by simp [D.under]; omega⟩
 | .mp i, h => by simp [D.under] at h; exact ⟨by simp [D.ren, hρ i h], by simp [D.under]; omega⟩
 | .elt i sz idx off, h => by simp [D.under] at h; exact ⟨by simp [D.ren, hρ i h], by simp [D.under]; omega⟩
 | .fnc f caps, h => by
  have hc : ∀ c ∈ caps, Good ρ M c := fun c hc => zct hρ hNM (by rw [D.under] at h; simp only [List.all_map, List.all_eq_true] at h; exact h c hc);refine ⟨by rw [D.ren]; congr 1; exact (List.map_congr_left fun c hc' => (hc c hc').1).trans (List.map_id _), ?_⟩;rw [D.under];simp only [List.all_map, List.all_eq_true];exact fun c hc' => (hc c hc').2
 | .bnd f caps, h => by
  have hc : ∀ c ∈ caps, Good ρ M c := fun c hc => zct hρ hNM (by rw [D.under] at h; simp only [List.all_map, List.all_eq_true] at h; exact h c hc);refine ⟨by rw [D.ren]; congr 1; exact (List.map_congr_left fun c hc' => (hc c hc').1).trans (List.map_id _), ?_⟩;rw [D.under];simp only [List.all_map, List.all_eq_true];exact fun c hc' => (hc c hc').2
 | .agg caps, h => by
  have hc : ∀ c ∈ caps, Good ρ M c := fun c hc => zct hρ hNM (by rw [D.under] at h; simp only [List.all_map, List.all_eq_true] at h; exact h c hc);refine ⟨by rw [D.ren]; congr 1; exact (List.map_congr_left fun c hc' => (hc c hc').1).trans (List.map_id _), ?_⟩;rw [D.under];simp only [List.all_map, List.all_eq_true];exact fun c hc' => (hc c hc').2
 | .tup caps, h => by
  have hc : ∀ c ∈ caps, Good ρ M c := fun c hc => zct hρ hNM (by rw [D.under] at h; simp only [List.all_map, List.all_eq_true] at h; exact h c hc);refine ⟨by rw [D.ren]; congr 1; exact (List.map_congr_left fun c hc' => (hc c hc').1).trans (List.map_id _), ?_⟩;rw [D.under];simp only [List.all_map, List.all_eq_true];exact fun c hc' => (hc c hc').2
theorem zfb {ρ : Nat -> Nat} {N M : Nat} (hρ : ∀ y, y < N -> ρ y = y) (hNM : N <= M) {ob : Ob} (h : ob.under N = true) : ob.all (Good ρ M) := by
 cases ob with
 | it => trivial
 | nw => trivial
 | sit => trivial
 | box cs => exact fun c hc => zct hρ hNM ((List.all_eq_true.1 h) c hc)
 | vec e sz rows => exact fun r hr c hc => zct hρ hNM ((List.all_eq_true.1 ((List.all_eq_true.1 h) r hr)) c hc)
 | map kk ag es => exact fun p hp c hc => zct hρ hNM ((List.all_eq_true.1 ((List.all_eq_true.1 h) p hp)) c hc)
theorem zn4 {ops : List Oper} (hord : zgv ops = true) : ∀ {i j : Nat} {y : Oper}, ops[j]? = some y -> zdX ops ops.length i j = true -> i < j := by
 have key : ∀ (n i j : Nat) (y : Oper), ops[j]? = some y -> zdX ops n i j = true -> i < j := by
  intro n
  induction n with
  | zero => intro i j y hj h; simp [zdX] at h
  | succ n ih =>
   intro i j y hj h;simp only [zdX, hj] at h;rw [List.any_eq_true] at h;obtain ⟨p, hp, h⟩ := h;have hlt := (zcR hord hj).1 p hp;simp only [Bool.or_eq_true, beq_iff_eq] at h;rcases h with rfl | h
   ·exact hlt
   ·have hpl : p < ops.length := by have := (lGE.1 hj).1; omega
    have := ih i p _ (List.getElem?_eq_getElem hpl) h;omega
 exact fun {i j y} hj h => key _ i j y hj h
theorem EffP.guard {P Γ s k} {dst op type pos after guard} (h : EffP P Γ { dst, op, type, pos, after, guard := none } s k) : EffP P Γ { dst, op, type, pos, after, guard } s k := h
def VA (P : Program) (Γ : Ctx) (ops : List Oper) (s : St) (R : Exit -> St -> Prop) : Prop :=
 ∀ K a w, In Γ K w -> Sim K Γ.own s a w -> wpAny P .any ops.toArray (VPost Γ R) ops.toArray.size (Array.replicate ops.toArray.size false) a { w with drawn := w.drawn + 1 }
set_option maxHeartbeats 4000000 in
theorem zpy {P Γ} {R0 : Exit -> St -> Prop} {ops : List Oper} {T : Nat -> D} {W : Nat -> Wr} {cr : Nat -> Option Nat} {R : Nat -> List Nat} {kd : Nat -> Nat} {s : St} {M : Nat}
  (hord : zgv ops = true) (hn0 : Γ.n0 <= s.next) (hM : s.next <= M)
  (hcr : ∀ i x, cr i = some x -> s.next <= x /\ x < M) (hcr1 : ∀ i j x, cr i = some x -> cr j = some x -> i = j)
  (hpair : ∀ i j, i < j -> j < ops.length -> zdX ops ops.length i j = false -> (∀ y ∈ keys (W i), y ∉ R j /\ y ∉ keys (W j)) /\ ∀ y ∈ keys (W j), y ∉ R i)
  (hkd : ∀ i, kd i ≠ 0 -> W i = [] /\ cr i = none) (hstop : ∀ p i, kd p = 1 -> i < ops.length -> W i ≠ [] -> zdX ops ops.length i p = true \/ zdX ops ops.length p i = true)
  (hval : ∀ i o, ops[i]? = some o -> zaC o.dst s /\ if kd i = 2 then ∃ p, kd p = 1 /\ p < ops.length /\ zdX ops ops.length p i = true else if kd i = 1 then o.guard = none /\ zqC P Γ (stW ops T W s M fun j => decide (j < i)) o.op else
    zru P s.next ops.toArray (stW ops T W s M fun j => decide (j < i)) o (T i) (W i) (cr i) (R i))
  (hfin : (∀ i, i < ops.length -> kd i ≠ 1) -> ∃ s', (stW ops T W s M fun _ => true).Eqo s' /\ R0 .normal s') : VA P Γ ops s R0 := by
 intro K a w hin hs;have hin0 : In Γ K { w with drawn := w.drawn + 1 } := ⟨hin.le, hin.none0, hin.memNew, hin.fresh, hin.os, hin.tape, hin.output, hin.size, hin.block⟩;have hs0 : Sim K Γ.own s a { w with drawn := w.drawn + 1 } := ⟨⟨hs.sat.mem, fun i ob hi => by
   obtain ⟨h, h1, h2, h3⟩ := hs.sat.ob i ob hi;exact ⟨h, h1, h2, h3.keep (.refl _) fun b e => rfl⟩, hs.sat.apart⟩, hs.defers, hs.size, hs.env, hs.hdr⟩
 generalize ({ w with drawn := w.drawn + 1 } : World) = w0 at hin0 hs0;have key : ∀ (fuel : Nat) (listed : Array Bool) (K : Kr) (a : Act) (w : World), listed.size = ops.length -> (listed.toList.filter (! ·)).length <= fuel ->
   (∀ j y, ops[j]? = some y -> listed.getD j false = true -> ∀ p ∈ zbM y, listed.getD p false = true) -> In Γ K w -> Sim K Γ.own (stW ops T W s M fun j => listed.getD j false) a w ->
   (∀ j x, j < ops.length -> listed.getD j false = false -> cr j = some x -> K.hdr x = none) -> (∀ p, kd p = 1 -> p < ops.length -> listed.getD p false = false) ->
   wpAny P .any ops.toArray (VPost Γ R0) fuel listed a w := by
  have allDone : ∀ (listed : Array Bool) (K : Kr) (a : Act) (w : World), (∀ p, kd p = 1 -> p < ops.length -> listed.getD p false = false) -> (∀ j, j < ops.length -> listed.getD j false = true) -> In Γ K w -> Sim K Γ.own (stW ops T W s M fun j => listed.getD j false) a w ->
    ∃ K' s', In Γ K' w /\ Sim K' Γ.own s' a w /\ R0 .normal s' := fun listed K a w hsp hall hin hs => by
   obtain ⟨s', he, hfin⟩ := hfin fun i hi hk => by have h1 := hsp i hk hi; rw [hall i hi] at h1; cases h1
   refine ⟨K, _, hin, Sim.eqo (hs.eqo ?_) he, hfin⟩;refine ⟨rfl, fun x => ?_, rfl, fun x => ?_⟩
   ·simp only [stW, zaA];rw [zbK W _ (fun _ => true) x ops.length fun j hj _ => hall j hj]
   ·exact zbr T _ _ x ops 0 s.env s.env rfl fun j o hj _ => by
     have hl := (lGE.1 hj).1;simp only [Nat.zero_add];exact hall j hl
  have least : ∀ (listed : Array Bool), listed.size = ops.length -> ∀ i, i < ops.length -> listed.getD i false = false -> ∃ i0, i0 ∈ Region.ready .any ops.toArray listed := fun listed hsz i hi hu => by
   induction i using Nat.strongRecOn with
   | _ i ih =>
    have ho : ops[i]? = some ops[i] := List.getElem?_eq_getElem hi;by_cases hp : ∀ p ∈ zbM ops[i], listed.getD p false = true
    ·refine ⟨i, mem_ready.2 ⟨?_, ops[i], by simp, fun e he hb => hp e.on ?_⟩⟩
     ·have hi' : i < listed.size := by omega
      simp [hi'] at hu ⊢;exact hu
     ·simp only [zbM, List.mem_map, List.mem_filter];exact ⟨e, ⟨by simpa using he, hb⟩, rfl⟩
    ·simp only [Classical.not_forall] at hp;obtain ⟨p, hpm, hpu⟩ := hp;have hlt := (zcR hord ho).1 p hpm;exact ih p hlt (by omega) (by simpa using hpu)
  intro fuel
  induction fuel with
  | zero =>
   intro listed K a w hsz hcnt hcl hin hs _ hsp;have hall : ∀ j, j < ops.length -> listed.getD j false = true := fun j hj => by
    have hj' : j < listed.size := by omega
    have h0 : (listed.toList.filter (! ·)) = [] := List.eq_nil_of_length_eq_zero (by omega);have := (List.filter_eq_nil_iff.1 h0) listed[j] (by simp);simp only [Bool.not_eq_true', Bool.not_eq_false] at this;simp [hj', this]
   refine ⟨?_, .inl (allDone listed K a w hsp hall hin hs)⟩;refine List.eq_nil_iff_forall_not_mem.2 fun i hi => ?_;obtain ⟨h1, o, ho, _⟩ := mem_ready.1 hi;have hl : i < ops.length := by
    have := (Array.getElem?_eq_some_iff.1 ho).1;simpa using this
   have := hall i hl;have hi' : i < listed.size := by omega
   simp [hi'] at h1 this;rw [h1] at this;cases this
  | succ fuel ih =>
   intro listed K a w hsz hcnt hcl hin hs hfr hsp;refine ⟨fun hnil => .inl (allDone listed K a w hsp (fun j hj => ?_) hin hs), fun i hi => ?_⟩
   ·cases hu : listed.getD j false with
    | true => rfl
    | false =>
     obtain ⟨i0, h0⟩ := least listed hsz j hj hu;rw [hnil] at h0;cases h0
   ·obtain ⟨hun, o, ho, hall⟩ := mem_ready.1 hi;have ho' : ops[i]? = some o := by simpa using ho
    have hil := (lGE.1 ho').1;have hil' : i < listed.size := by omega
    have hunf : listed.getD i false = false := by simp [hil'] at hun ⊢; exact hun
    have hpred : ∀ p ∈ zbM o, listed.getD p false = true := fun p hp => by
     simp only [zbM, List.mem_map, List.mem_filter] at hp;obtain ⟨e, ⟨he, hb⟩, rfl⟩ := hp;exact hall e (by simpa using he) hb
    obtain ⟨hpo, hv⟩ := hval i o ho';have bef1 : ∀ j, zdX ops ops.length j i = true -> listed.getD j false = true := fun j hb => zcP hcl _ j i o ho' hpred hb;have bef2 : ∀ j x, ops[j]? = some x -> zdX ops ops.length i j = true -> listed.getD j false = false := fun j x hj hb => by
     cases hu : listed.getD j false with
     | false => rfl
     | true =>
      have := zcP hcl _ i j x hj (hcl j x hj hu) hb;rw [hunf] at this;cases this
    have before : ∀ j x, ops[j]? = some x -> j < i -> zc5 ops.toArray x o = true \/ zc5 ops.toArray o x = true -> listed.getD j false = true := fun j x hj hlt hmm =>
     bef1 j ((zcR hord ho').2.2 j x hlt hj hmm)
    have behind : ∀ j x, ops[j]? = some x -> i < j -> zc5 ops.toArray x o = true \/ zc5 ops.toArray o x = true -> listed.getD j false = false := fun j x hj hlt hmm =>
     bef2 j x hj ((zcR hord hj).2.2 i o hlt ho' hmm.symm)
    have agree : ∀ t, t ∈ o.looksAt ops.toArray -> getK (zdg T (fun j => listed.getD j false) ops 0 s.env) t = getK (zdg T (fun j => decide (j < i)) ops 0 s.env) t := fun t ht => by
     refine zbr T _ _ t ops 0 s.env s.env rfl fun j x hj hx => ?_;simp only [Nat.zero_add];have hmm : zc5 ops.toArray x o = true := by simp [zc5, hx, ht]
     rcases Nat.lt_trichotomy j i with h | h | h
     ·rw [before j x hj h (.inl hmm)]; simp [h]
     ·subst h; rw [hunf]; simp
     ·rw [behind j x hj h (.inl hmm)]; simp; omega
    have hopd : ∀ x ∈ o.op.operands, opd (stW ops T W s M fun j => decide (j < i)) x = opd (stW ops T W s M fun j => listed.getD j false) x := fun x hx => by
     cases x with
     | tmp t =>
      simp only [opd, St.at, stW];rw [agree t (List.mem_append_left _ (List.mem_filterMap.2 ⟨.tmp t, by simpa using hx, rfl⟩))]
     | _ => rfl
    have hloc : ∀ y ∈ R i, getK (stW ops T W s M fun j => decide (j < i)).obs y = getK (stW ops T W s M fun j => listed.getD j false).obs y := fun y hy => by
     simp only [stW, zaA];rw [zbK W (fun j => decide (j < i)) (fun j => listed.getD j false) y ops.length fun j hj hk => ?_];rcases Nat.lt_trichotomy j i with h | h | h
     ·have hb : zdX ops ops.length j i = true := by
       cases hb : zdX ops ops.length j i with
       | true => rfl
       | false => exact absurd hy (((hpair j i h hil hb).1 y hk).1)
      rw [bef1 j hb];simp [h]
     ·subst h; rw [hunf]; simp
     ·have hb : zdX ops ops.length i j = true := by
       cases hb : zdX ops ops.length i j with
       | true => rfl
       | false => exact absurd hy ((hpair i j h hj hb).2 y hk)
      rw [bef2 j _ (List.getElem?_eq_getElem hj) hb];simp; omega
    have hlast : ∀ y ∈ keys (W i), ∀ j, j < ops.length -> i < j -> y ∈ keys (W j) -> listed.getD j false = false := fun y hy j hj hlt hk => by
     have hb : zdX ops ops.length i j = true := by
      cases hb : zdX ops ops.length i j with
      | true => rfl
      | false => exact absurd hk ((hpair i j hlt hj hb).1 y hy).2
     exact bef2 j _ (List.getElem?_eq_getElem hj) hb
    have hS : (fun j => (listed.setIfInBounds i true).getD j false) = fun j => listed.getD j false || j == i := funext fun j => by
     by_cases hji : j = i
     ·subst hji; simp [hil']
     ·simp [Array.getElem?_setIfInBounds_ne (Ne.symm hji), hji]
    have henv : ∀ (x : Nat), o.dst = some x -> getK (zdg T (fun j => listed.getD j false || j == i) ops 0 s.env) x = some (T i) := fun x hdx =>
     zf8 T _ i x ops 0 s.env i o ho' (by omega) hdx fun j o' hj hlt hd' => by
      rw [Nat.zero_add];exact behind j o' hj hlt (.inl (by simp [zc5, hd', hdx]))
    have henv' : ∀ (x : Nat), o.dst ≠ some x -> getK (zdg T (fun j => listed.getD j false || j == i) ops 0 s.env) x = getK (zdg T (fun j => listed.getD j false) ops 0 s.env) x := fun x hdx =>
     zbr T _ (fun j => listed.getD j false) x ops 0 s.env s.env rfl fun j o' hj hd' => by
      simp only [Nat.zero_add];have : j ≠ i := fun e => by subst e; rw [ho'] at hj; cases hj; exact hdx hd'
      simp [this]
    by_cases hk2 : kd i = 2
    ·rw [if_pos hk2] at hv;obtain ⟨p, hp1, hp2, hp3⟩ := hv;have := bef1 p hp3;rw [hsp p hp1 hp2] at this;cases this
    rw [if_neg hk2] at hv;by_cases hk1 : kd i = 1
    ·rw [if_pos hk1] at hv;obtain ⟨hg, hst⟩ := hv;unfold wpOp;rw [ho];simp only [Region.wanted, hg, if_true];refine .inl (hst (stW ops T W s M fun j => listed.getD j false) rfl (fun y => ?_) (fun x hx => (hopd x hx).symm) (Nat.le_refl _) o rfl hg hpo K a w hin hs _ _ (fun _ _ _ _ _ _ h => h.elim) fun ch K' a' w' s' h1 h2 h3 => .inl ⟨K', s', h1, h2, h3⟩);simp only [stW, zaA];rw [zbK W (fun j => listed.getD j false) (fun j => decide (j < i)) y ops.length fun j hj hk => ?_];have hne : W j ≠ [] := fun e => by rw [e] at hk; cases hk
     rcases hstop i j hk1 hj hne with hb | hb
     ·have h1 := bef1 j hb;have hji : j < i := by
       rcases Nat.lt_trichotomy j i with h | h | h
       ·exact h
       ·subst h; rw [hunf] at h1; cases h1
       ·have := zn4 hord ho' hb; omega
      rw [h1]; simp [hji]
     ·have h1 := bef2 j _ (List.getElem?_eq_getElem hj) hb;have hji : ¬ j < i := by have := zn4 hord (List.getElem?_eq_getElem hj) hb; omega
      rw [h1]; simp [hji]
    rw [if_neg hk1] at hv;have go : ∀ K' a' w', In Γ K' w' -> Sim K' Γ.own (stW ops T W s M fun j => listed.getD j false || j == i) a' w' ->
      (∀ j x, j < ops.length -> (listed.getD j false || j == i) = false -> cr j = some x -> K'.hdr x = none) ->
      wpAny P .any ops.toArray (VPost Γ R0) fuel (listed.setIfInBounds i true) a' w' := fun K' a' w' h1 h2 h3 => by
     have hS' : ∀ j, (listed.setIfInBounds i true).getD j false = (listed.getD j false || j == i) := fun j => congrFun hS j;refine ih (listed.setIfInBounds i true) K' a' w' (by simp [hsz]) ?_ (fun j y hj hSj p hp => ?_) h1 (by rw [hS]; exact h2) (fun j x hj hu => h3 j x hj (by rw [<- hS']; exact hu)) (fun p hp1 hp2 => by
      rw [hS', hsp p hp1 hp2];have : p ≠ i := fun e => hk1 (e ▸ hp1);simp [this])
     ·have cnt : ∀ (l : List Bool) (n : Nat), l[n]? = some false -> ((l.set n true).filter (! ·)).length + 1 = (l.filter (! ·)).length := by
       intro l
       induction l with
       | nil => intro n h; simp at h
       | cons b l ih =>
               intro n h;cases n with
               | zero => simp at h; subst h; simp
               | succ n =>
                have := ih n (by simpa using h);cases b <;> simp at this ⊢ <;> omega
      have := cnt listed.toList i (by
       rw [Array.getElem?_toList, Array.getElem?_eq_getElem hil'];simp [hil'] at hunf;rw [hunf])
      rw [Array.toList_setIfInBounds];omega
     ·rw [hS'] at hSj ⊢;simp only [Bool.or_eq_true, beq_iff_eq] at hSj ⊢;rcases hSj with hSj | rfl
      ·exact .inl (hcl j y hj hSj p hp)
      ·rw [ho'] at hj;cases hj;exact .inl (hpred p hp)
    have next : W i = [] -> ∀ K' v w', In Γ K' w' -> K.le K' -> K'.hdr = K.hdr -> Sat K' Γ.own (stW ops T W s M fun j => listed.getD j false).obs w' -> Rep K' (T i) v ->
      wpAny P .any ops.toArray (VPost Γ R0) fuel (listed.setIfInBounds i true) (a.put o.dst v) w' := fun hW K' v w' h1 h2 h3 h4 h5 => by
     refine go K' _ w' h1 ?_ fun j x hj hu hc => by
      rw [h3];simp only [Bool.or_eq_false_iff] at hu;exact hfr j x hj hu.1 hc
     have hdef : (a.put o.dst v).defers = Γ.own.dfr := by cases o.dst <;> exact hs.defers
     have hsize : (a.put o.dst v).tmps.size = s.n := by
      have hsz2 : a.tmps.size = s.n := hs.size;cases o.dst <;> simp [Act.put, hsz2]
     refine ⟨h4.eqo fun y => ?_, hdef, hsize, fun x d hx => ?_, fun j hj => by rw [h3]; exact hs.hdr j hj⟩
     ·simp only [stW, zaA];rw [zbK W (fun j => listed.getD j false) (fun j => listed.getD j false || j == i) y ops.length fun j hj hk => ?_];by_cases hji : j = i
      ·subst hji; rw [hW] at hk; cases hk
      ·simp [hji]
     ·simp only [stW] at hx;by_cases hdx : o.dst = some x
      ·rw [henv x hdx] at hx;cases hx;have hlt : x < s.n := by rw [hdx] at hpo; exact hpo
       refine ⟨hlt, ?_⟩;have hsz' : a.tmps.size = s.n := hs.size;rw [hdx];simpa [Act.put, hsz', hlt] using h5
      ·rw [henv' x hdx] at hx;obtain ⟨g1, g2⟩ := hs.env x d hx;refine ⟨g1, ?_⟩
       have e : (a.put o.dst v).tmps.getD x undef = a.tmps.getD x undef := by
               cases hd : o.dst with
               | none => rfl
               | some y =>
                have hne : y ≠ x := fun e => hdx (by rw [hd, e]);simp [Act.put, Array.getElem?_setIfInBounds_ne hne]
       rw [e];exact g2.mono h2
    unfold wpOp;rw [ho];simp only;have two : (Region.wanted o (yielded ops.toArray a.tmps) = true /\ zqE P s.next (stW ops T W s M fun j => decide (j < i)) o.op o.dst (T i) (W i) (cr i) (R i)) \/ (Region.wanted o (yielded ops.toArray a.tmps) = false /\ T i = .un /\ W i = []) := by
     unfold zru at hv;split at hv
     ·rename_i hg;exact .inl ⟨by simp [Region.wanted, hg], hv⟩
     ·rename_i j want hg;obtain ⟨t, ht, hv⟩ := hv;have lift : ∀ dd, getK (stW ops T W s M fun j => decide (j < i)).env t = some dd -> getK (stW ops T W s M fun j => listed.getD j false).env t = some dd := fun dd hb => by
       simp only [stW] at hb ⊢
       rw [agree t (by
               refine List.mem_append_right _ ?_;unfold zaQ at ht;simp only [hg];rw [ht];simp)]
       exact hb
      rcases hv with ⟨b, hb, hv⟩ | ⟨hb, hv⟩
      ·have hb' := lift _ hb;obtain ⟨hlt, hr⟩ := hs.getK hb';have hbv := zcl hr
       have hyd : yielded ops.toArray a.tmps j = some b := by
               unfold yielded;unfold zaQ at ht;rw [ht];simp only [Option.bind_some];have : a.tmps[t]? = some (.bool b) := by
                rw [Array.getElem?_eq_getElem hlt];simp [hlt] at hbv;rw [hbv]
               rw [this]
       by_cases hbw : b = want
       ·rw [if_pos hbw] at hv;exact .inl ⟨by simp [Region.wanted, hg, hyd, hbw], hv⟩
       ·rw [if_neg hbw] at hv;exact .inr ⟨by simp [Region.wanted, hg, hyd, hbw], hv.1, hv.2.1⟩
      ·have hb' := lift _ hb;obtain ⟨hlt, hr⟩ := hs.getK hb';have hbv := zcK hr
       have hyd : yielded ops.toArray a.tmps j = none := by
               unfold yielded;unfold zaQ at ht;rw [ht];simp only [Option.bind_some];have : a.tmps[t]? = some undef := by
                rw [Array.getElem?_eq_getElem hlt];simp [hlt] at hbv;rw [hbv]
               rw [this]
               try rfl
       exact .inr ⟨by simp [Region.wanted, hg, hyd], hv.1, hv.2.1⟩
    rcases two with ⟨hw, hv⟩ | ⟨hw, hv⟩
    ·rw [if_pos hw]
     let un : Nat -> Prop := fun y => ∃ j, j < ops.length /\ (listed.getD j false || j == i) = false /\ cr j = some y
     let ρ : Nat -> Nat := fun y => open Classical in if cr i = some y then M else if un y then M + 1 + y else y
     have hknown : ∀ y h, K.hdr y = some h -> ρ y = y /\ y < M := fun y h hy => by
      have h1 : cr i ≠ some y := fun e => by rw [hfr i y hil hunf e] at hy; cases hy
      have h2 : ¬ un y := fun ⟨j, hj, hu, hc⟩ => by
       simp only [Bool.or_eq_false_iff] at hu;rw [hfr j y hj hu.1 hc] at hy;cases hy
      refine ⟨by simp only [ρ]; rw [if_neg h1, if_neg h2], ?_⟩;rcases Nat.lt_or_ge y M with h | h
      ·exact h
      ·rw [hs.hdr y h] at hy; cases hy
     have hobs : ∀ y ob, getK (stW ops T W s M fun j => listed.getD j false).obs y = some ob -> (ρ y = y /\ y < M) /\ ob.all (Good ρ M) := fun y ob hy => by
      have hok := hs.sat.ob y ob hy;obtain ⟨h, h1, _⟩ := hok;exact ⟨hknown y h h1, (hs.sat.ob y ob hy).good hknown⟩
     have hρs0 : ∀ y, y < s.next -> ρ y = y := fun y hy => by
      have c1 : cr i ≠ some y := fun e => by have := (hcr i y e).1; omega
      have c2 : ¬ un y := fun ⟨j, _, _, hc⟩ => by have := (hcr j y hc).1; omega
      simp only [ρ];rw [if_neg c1, if_neg c2]
     have mk : ∀ e' : ERes, (∀ p ∈ e'.U, ∀ ob, p.2 = some ob -> ob.all (Good ρ M) /\ ∃ o, getK (stW ops T W s M fun j => listed.getD j false).obs p.1 = some o) -> (∀ ob, e'.nw = some ob -> ob.all (Good ρ M)) ->
       (match e'.nw with | none => o.dst = none /\ W i = e'.U /\ cr i = none | some ob => ∃ x, cr i = some x /\ W i = (x, some ob) :: e'.U /\ T i = mkD e'.how x) ->
       ∀ K' a' w', In Γ K' w' -> Sim K' Γ.own ((stW ops T W s M fun j => listed.getD j false).effS e' o.dst) a' w' -> wpAny P .any ops.toArray (VPost Γ R0) fuel (listed.setIfInBounds i true) a' w' := by
      intro e' hgU hgN hcase K' a' w' h1 h2;have hle : St.Le Γ.n0 ρ ((stW ops T W s M fun j => listed.getD j false).effS e' o.dst) (stW ops T W s M fun j => listed.getD j false || j == i) := by
       have hWi : ∀ y, y ∈ keys (W i) → getK (zdZ W (fun j => listed.getD j false || j == i) ops.length) y = getK (W i) y := fun y hy =>
               zfZ W _ i y hy ops.length hil fun j hj hlt hk => hlast y hy j hj hlt hk
       have hWn : ∀ y, y ∉ keys (W i) → getK (zdZ W (fun j => listed.getD j false || j == i) ops.length) y = getK (zdZ W (fun j => listed.getD j false) ops.length) y := fun y hy =>
               zbK W _ _ y ops.length fun j hj hk => by
                by_cases hji : j = i
                ·subst hji; exact absurd hk hy
                ·simp [hji]
       have hinj : ∀ y1 y2, y1 < M → y2 < M → ρ y1 = ρ y2 → y1 = y2 := fun y1 y2 g1 g2 hr => by
               simp only [ρ] at hr;by_cases c1 : cr i = some y1 <;> by_cases c2 : cr i = some y2
               ·rw [c1] at c2; cases c2; rfl
               ·rw [if_pos c1, if_neg c2] at hr;split at hr <;> omega
               ·rw [if_neg c1, if_pos c2] at hr;split at hr <;> omega
               ·rw [if_neg c1, if_neg c2] at hr;split at hr <;> split at hr <;> omega
       have hobs2 : ∀ y ob', getK (stW ops T W s M fun j => listed.getD j false || j == i).obs y = some ob' → y < M ∧
                ∃ ob, getK ((stW ops T W s M fun j => listed.getD j false).effS e' o.dst).obs (ρ y) = some ob /\ Ob.le ρ ob ob' /\ ob'.under M = true := fun y ob' hy => by
               simp only [stW, zaA] at hy;cases hn : e'.nw with
               | none =>
                rw [hn] at hcase;obtain ⟨hd0, hWU, hcn⟩ := hcase;have hob : ∀ z, getK ((stW ops T W s M fun j => listed.getD j false).effS e' o.dst).obs z = match getK (W i) z with | some x => x | none => getK (stW ops T W s M fun j => listed.getD j false).obs z := fun z => by
                 simp only [St.effS, hn, zaA, hWU]
                 try rfl
                by_cases hk : y ∈ keys (W i)
                ·rw [hWi y hk] at hy;obtain ⟨x, hx⟩ := zdl (W i) y hk;rw [hx] at hy;simp only at hy;subst hy;have hmem : (y, some ob') ∈ e'.U := by
                  rw [<- hWU];have : ∀ (l : Wr), getK l y = some (some ob') -> (y, some ob') ∈ l := by
                   intro l
                   induction l with
                   | nil => intro h; cases h
                   | cons p l ih =>
                    obtain ⟨k', d'⟩ := p;intro h;rw [zaa] at h;by_cases hyk : y = k'
                    ·rw [if_pos hyk] at h; cases h; subst hyk; simp
                    ·rw [if_neg hyk] at h; exact List.mem_cons_of_mem _ (ih h)
                  exact this _ hx
                 obtain ⟨hga, o0, ho0⟩ := hgU _ hmem ob' rfl;obtain ⟨⟨hr, hlt⟩, _⟩ := hobs y o0 ho0;refine ⟨hlt, ob', ?_, (Ob.zb3 hga).1, (Ob.zb3 hga).2⟩;rw [hr, hob, hx]
                ·rw [hWn y hk] at hy;obtain ⟨⟨hr, hlt⟩, hga⟩ := hobs y ob' (by simp only [stW, zaA]; exact hy);refine ⟨hlt, ob', ?_, (Ob.zb3 hga).1, (Ob.zb3 hga).2⟩;rw [hr, hob, zbu (W i) y hk];simp only [stW, zaA];exact hy
               | some nb =>
                rw [hn] at hcase;obtain ⟨x0, hcx, hWU, hTi⟩ := hcase;have hx0 := hcr i x0 hcx;have hob : ∀ z, z ≠ M -> getK ((stW ops T W s M fun j => listed.getD j false).effS e' o.dst).obs z = match getK e'.U z with | some x => x | none => getK (stW ops T W s M fun j => listed.getD j false).obs z := fun z hz => by
                 have : ∀ (q : St) (d : D), (q.put o.dst d).obs = q.obs := fun q d => by cases o.dst <;> rfl
                 simp only [St.effS, hn, this, zaa];rw [if_neg (by simpa [stW] using hz), zaA]
                 try rfl
                have hobM : getK ((stW ops T W s M fun j => listed.getD j false).effS e' o.dst).obs M = some nb := by
                 have : ∀ (q : St) (d : D), (q.put o.dst d).obs = q.obs := fun q d => by cases o.dst <;> rfl
                 simp only [St.effS, hn, this, zaa];rw [if_pos (by simp [stW])]
                by_cases hyx : y = x0
                ·subst hyx;have hk : y ∈ keys (W i) := by rw [hWU]; simp [keys]
                 rw [hWi y hk, hWU, zaa, if_pos rfl] at hy;simp only at hy;cases hy;have hga := hgN ob' hn;refine ⟨hx0.2, ob', ?_, (Ob.zb3 hga).1, (Ob.zb3 hga).2⟩;simp only [ρ];rw [if_pos hcx];exact hobM
                ·by_cases hk : y ∈ keys (W i)
                 ·rw [hWi y hk, hWU, zaa, if_neg hyx] at hy;have hk' : y ∈ e'.U.map (·.1) := by
                   rw [hWU] at hk;simp only [keys, List.map_cons, List.mem_cons] at hk;exact hk.resolve_left hyx
                  obtain ⟨x, hx⟩ := zdl e'.U y hk';rw [hx] at hy;simp only at hy;subst hy;have hmem : (y, some ob') ∈ e'.U := by
                   have : ∀ (l : Wr), getK l y = some (some ob') -> (y, some ob') ∈ l := by
                    intro l
                    induction l with
                    | nil => intro h; cases h
                    | cons p l ih =>
                     obtain ⟨k', d'⟩ := p;intro h;rw [zaa] at h;by_cases hyk : y = k'
                     ·rw [if_pos hyk] at h; cases h; subst hyk; simp
                     ·rw [if_neg hyk] at h; exact List.mem_cons_of_mem _ (ih h)
                   exact this _ hx
                  obtain ⟨hga, o0, ho0⟩ := hgU _ hmem ob' rfl;obtain ⟨⟨hr, hlt⟩, _⟩ := hobs y o0 ho0;refine ⟨hlt, ob', ?_, (Ob.zb3 hga).1, (Ob.zb3 hga).2⟩;rw [hr, hob y (by omega), hx]
                 ·rw [hWn y hk] at hy;obtain ⟨⟨hr, hlt⟩, hga⟩ := hobs y ob' (by simp only [stW, zaA]; exact hy);refine ⟨hlt, ob', ?_, (Ob.zb3 hga).1, (Ob.zb3 hga).2⟩;have hk' : y ∉ e'.U.map (·.1) := by
                   rw [hWU] at hk;simp only [keys, List.map_cons, List.mem_cons, not_or] at hk;exact hk.2
                  rw [hr, hob y (by omega), zbu e'.U y hk'];simp only [stW, zaA];exact hy
       have henv2 : ∀ x d', getK (stW ops T W s M fun j => listed.getD j false || j == i).env x = some d' →
                (D.le ρ (((stW ops T W s M fun j => listed.getD j false).effS e' o.dst).at x) d' /\ d'.under M = true) /\ x < s.n := fun x d' hx => by
               simp only [stW] at hx;by_cases hdx : o.dst = some x
               ·rw [henv x hdx] at hx;cases hx;have hlt : x < s.n := by rw [hdx] at hpo; exact hpo
                cases hn : e'.nw with
                | none =>
                 rw [hn] at hcase;rw [hcase.1] at hdx;cases hdx
                | some nb =>
                 rw [hn] at hcase;obtain ⟨x0, hcx, hWU, hTi⟩ := hcase;have hx0 := hcr i x0 hcx;have hρ : ρ x0 = M := by simp only [ρ]; rw [if_pos hcx]
                 refine ⟨⟨.inr (.inl ?_), ?_⟩, hlt⟩
                 ·rw [hTi];simp only [St.effS, hn, hdx, St.put, St.at, zaa, if_true, Option.getD_some];cases e'.how <;> simp [mkD, D.ren, hρ, stW]
                 ·rw [hTi];cases e'.how <;> simp [mkD, D.under, hx0.2]
               ·rw [henv' x hdx] at hx;obtain ⟨g1, g2⟩ := hs.env x d' hx;have hgd := g2.good hknown;have hat : ((stW ops T W s M fun j => listed.getD j false).effS e' o.dst).at x = d' := by
                 have : ∀ (q : St) (d : D), getK (q.put o.dst d).env x = getK q.env x := fun q d => by
                  cases hd : o.dst with
                  | none => rfl
                  | some y =>
                   have hne : ¬ x = y := fun e => hdx (by rw [hd, e]);simp only [St.put, zaa, if_neg hne]
                 simp only [St.at, St.effS];cases hn : e'.nw with
                 | none => simp only [stW, hx]; rfl
                 | some nb => simp only [this, stW, hx]; rfl
                rw [hat];exact ⟨⟨.inr (.inl hgd.1.symm), hgd.2⟩, g1⟩
       refine ⟨?_, fun x d' hx => (henv2 x d' hx).1, fun x d' hx => ?_, hobs2, fun y1 y2 o1 o2 g1 g2 hr => hinj y1 y2 (hobs2 y1 o1 g1).1 (hobs2 y2 o2 g2).1 hr, fun j hj => ?_⟩
       ·have : ∀ (q : St) (d : D), (q.put o.dst d).n = q.n := fun q d => by cases o.dst <;> rfl
        simp only [St.effS];cases e'.nw <;> simp only [this] <;> rfl
       ·have : ∀ (q : St) (d : D), (q.put o.dst d).n = q.n := fun q d => by cases o.dst <;> rfl
        have e2 : ((stW ops T W s M fun j => listed.getD j false).effS e' o.dst).n = s.n := by
         simp only [St.effS];cases e'.nw <;> simp only [this] <;> rfl
        rw [e2];exact (henv2 x d' hx).2
       ·have c1 : cr i ≠ some j := fun e => by have := (hcr i j e).1; omega
        have c2 : ¬ un j := fun ⟨q, _, _, hc⟩ => by have := (hcr q j hc).1; omega
        refine ⟨by simp only [ρ]; rw [if_neg c1, if_neg c2], ?_⟩;show j < M;omega
      obtain ⟨g1, g2⟩ := Sim.weak h1 h2 hle;refine go _ a' w' g1 g2 fun j x hj hu hc => ?_;simp only [Kr.ren];split
      ·have c1 : cr i ≠ some x := fun e => by
               have := hcr1 i j x e hc;subst this;simp at hu
       have c2 : un x := ⟨j, hj, hu, hc⟩;simp only [ρ];rw [if_neg c1, if_pos c2];refine h2.hdr _ ?_;have : ∀ (q : St) (d : D), (q.put o.dst d).next = q.next := fun q d => by cases o.dst <;> rfl
       simp only [St.effS];cases e'.nw <;> simp only [this, stW] <;> omega
      ·rfl
     rcases hv with (⟨hv, hW, hcn, hR⟩ | ⟨e, he, hR, hcase⟩) | ⟨⟨fop, args, f, caps, O, O', L, hco, hcf, hcb, hR, hkW, hWg, hsm, hO, hnd, ⟨hdu, hOu⟩, hret⟩, hcn⟩ | ⟨fop, args, f, caps, O, e, nb, x0, hco, hcf, hcb, hR, ⟨heU, heN, hnu⟩, hcx, hO, hret⟩
     ·replace hv := zf2 (s := stW ops T W s M fun j => decide (j < i)) (s' := stW ops T W s M fun j => listed.getD j false) (by rw [<- hR]; exact hloc) hopd hv
      exact .inl (zf1 hv hin hs fun K' v w' h1 h2 h3 h4 h5 => next hW K' v w' h1 h2 h3 h4 h5)
     ·
      replace he := zdE (s := stW ops T W s M fun j => decide (j < i)) (s' := stW ops T W s M fun j => listed.getD j false) (by rw [<- hR]; exact hloc) hopd he
      have hgood := zkY (g := Good ρ M) (fun _ => ⟨by simp [D.ren], by simp [D.under]⟩) (fun cs h => h.agg) he (fun x hx => (zaJ hs x).good hknown) (fun y ob hy => (hobs y ob hy).2);obtain ⟨e', he', ⟨rfl, hgU, hgN⟩⟩ := Lin.effD.2 _ hgood
      have he2 : effD P (stW ops T W s M fun j => listed.getD j false) o.op fun e => zaC o.dst (stW ops T W s M fun j => listed.getD j false) ∧ (e.nw = none → o.dst = none) ∧
               ((stW ops T W s M fun j => listed.getD j false).effS e o.dst) = (stW ops T W s M fun j => listed.getD j false).effS e' o.dst :=
       Lin.effD.1 _ _ (fun e hee => by
               subst hee;refine ⟨hpo, fun hn => ?_, rfl⟩;rw [hn] at hcase;exact hcase.1) he
      refine .inl (zeE (k := fun s' => s' = (stW ops T W s M fun j => listed.getD j false).effS e' o.dst) (zhE he2) K a w hin hs _ _ (fun K' a' w' s' h1 h2 h3 => ?_) fun ch K' a' w' s' h1 h2 h3 => .inl ⟨K', s', h1, h2, h3⟩);have h3' : s' = _ := h3;subst h3';exact mk e' hgU hgN hcase K' a' w' h1 h2
     ·
      let un : Nat -> Prop := fun y => ∃ j, j < ops.length /\ (listed.getD j false || j == i) = false /\ cr j = some y
      let ρ : Nat -> Nat := fun y => open Classical in if un y then M + 1 + y else y
      have hρs : ∀ y, y < s.next -> ρ y = y := fun y hy => by
       have : ¬ un y := fun ⟨j, _, _, hc⟩ => by have := (hcr j y hc).1; omega
       simp only [ρ]; rw [if_neg this]
      have hknown : ∀ y h, K.hdr y = some h -> ρ y = y /\ y < M := fun y h hy => by
       have h2 : ¬ un y := fun ⟨j, hj, hu, hc⟩ => by
               simp only [Bool.or_eq_false_iff] at hu;rw [hfr j y hj hu.1 hc] at hy;cases hy
       refine ⟨by simp only [ρ]; rw [if_neg h2], ?_⟩;rcases Nat.lt_or_ge y M with h | h
       ·exact h
       ·rw [hs.hdr y h] at hy; cases hy
      have hobs : ∀ y ob, getK (stW ops T W s M fun j => listed.getD j false).obs y = some ob -> (ρ y = y /\ y < M) /\ ob.all (Good ρ M) := fun y ob hy => by
       have hok := hs.sat.ob y ob hy;obtain ⟨h, h1, _⟩ := hok;exact ⟨hknown y h h1, (hs.sat.ob y ob hy).good hknown⟩
      have hOact : ∀ p ∈ O, getK (stW ops T W s M fun j => listed.getD j false).obs p.1 = some p.2 := fun p hp => by
       rw [<- hloc p.1 (by rw [hR]; exact List.mem_map.2 ⟨p, hp, rfl⟩)];exact hO p hp
      have hOget : ∀ y ob, getK O y = some ob -> getK (stW ops T W s M fun j => listed.getD j false).obs y = some ob := fun y ob h => hOact _ (zer h)
      let F := (stW ops T W s M fun j => listed.getD j false).obs.filter fun p => !(O.map (·.1)).contains p.1
      have hFg : ∀ y, getK F y = if (O.map (·.1)).contains y = true then none else getK (stW ops T W s M fun j => listed.getD j false).obs y := fun y => zb6 _ _ y;have hOn : ∀ y, ¬ (O.map (·.1)).contains y = true -> getK O y = none := fun y h => zbu O y (by simpa using h);have heq : ∀ y, getK (stW ops T W s M fun j => listed.getD j false).obs y = getK (F ++ O) y := fun y => by
       rw [zab, hFg];by_cases hy : (O.map (·.1)).contains y = true
       ·rw [if_pos hy];obtain ⟨x, hx⟩ := zcp (l := O) (y := y) (by simpa using hy);rw [hx, hOget y x hx]
       ·rw [if_neg hy, hOn y hy];cases getK (stW ops T W s M fun j => listed.getD j false).obs y <;> rfl
      have hF : ∀ y ob, getK F y = some ob -> getK O y = none := fun y ob h => by
       rw [hFg] at h;by_cases hy : (O.map (·.1)).contains y = true
       ·rw [if_pos hy] at h; cases h
       ·exact hOn y hy
      have hopdS : ∀ x, x ∈ fop :: args -> opd (stW ops T W s M fun j => listed.getD j false) x = opd (stW ops T W s M fun j => decide (j < i)) x := fun x hx => (hopd x (by
       rcases o with ⟨odst, oop, ot, opos, oaf, og⟩
       unfold zbN at hco;split at hco
       ·rename_i c hop;simp only at hop;subst hop;split at hco
        ·cases hco;rename_i f' hcal;simp only [Op.operands, Call.operands, hcal];simp only [List.mem_cons] at hx;simp;rcases hx with rfl | hx
         ·exact .inl rfl
         ·exact .inr (by simpa using hx)
        ·cases hco
       ·cases hco)).symm
      have hcall : CallP P Γ fop args o.dst (stW ops T W s M fun j => listed.getD j false) fun s' => ∃ o1, (∀ y, getK o1 y = getK O' y) /\ s' = (({ (stW ops T W s M fun j => listed.getD j false) with obs := F ++ o1, next := M } : St).put o.dst (T i)) :=
       CallP.xF F O (hret M (Nat.le_refl _)) heq hF (by rw [hopdS fop (by simp)]; exact hcf) hcb (by rw [List.map_congr_left fun x hx => hopdS x (by simp [hx])]) hpo
               (fun d o1 nx' _ ⟨h1, h2, h3⟩ => ⟨o1, h2, by cases h1; rw [h3]⟩) (fun ch o1 nx' _ ⟨h1, _⟩ => by cases h1)
      have heff : EffP P Γ o (stW ops T W s M fun j => listed.getD j false) fun s' => ∃ o1, (∀ y, getK o1 y = getK O' y) /\ s' = (({ (stW ops T W s M fun j => listed.getD j false) with obs := F ++ o1, next := M } : St).put o.dst (T i)) := by
       have e := hcall;rcases o with ⟨odst, oop, ot, opos, oaf, og⟩
       unfold zbN at hco;split at hco
       ·rename_i c hop;simp only at hop;subst hop;split at hco
        ·cases hco;rename_i f' hcal;obtain ⟨cal, cargs, cts⟩ := c;simp only at hcal;subst hcal;exact EffP.guard (e cts ot opos oaf)
        ·cases hco
       ·cases hco
      refine .inl (heff K a w hin hs _ _ (fun K' a' w' s' h1 h2 h3 => ?_) fun ch K' a' w' s' h1 h2 h3 => .inl ⟨K', s', h1, h2, h3⟩);obtain ⟨o1, ho1, rfl⟩ := h3;have hWi : ∀ y, y ∈ keys (W i) -> getK (zdZ W (fun j => listed.getD j false || j == i) ops.length) y = getK (W i) y := fun y hy =>
       zfZ W _ i y hy ops.length hil fun j hj hlt hk => hlast y hy j hj hlt hk
      have hWn : ∀ y, y ∉ keys (W i) -> getK (zdZ W (fun j => listed.getD j false || j == i) ops.length) y = getK (zdZ W (fun j => listed.getD j false) ops.length) y := fun y hy =>
       zbK W _ _ y ops.length fun j hj hk => by
               by_cases hji : j = i
               ·subst hji; exact absurd hk hy
               ·simp [hji]
      have pobs : ∀ (q : St) (d : D), (q.put o.dst d).obs = q.obs := fun q d => by cases o.dst <;> rfl
      have pn : ∀ (q : St) (d : D), (q.put o.dst d).n = q.n := fun q d => by cases o.dst <;> rfl
      have pnext : ∀ (q : St) (d : D), (q.put o.dst d).next = q.next := fun q d => by cases o.dst <;> rfl
      have hobs2 : ∀ y ob', getK (stW ops T W s M fun j => listed.getD j false || j == i).obs y = some ob' → y < M ∧
               ∃ ob, getK (({ (stW ops T W s M fun j => listed.getD j false) with obs := F ++ o1, next := M } : St).put o.dst (T i)).obs (ρ y) = some ob /\ Ob.le ρ ob ob' /\ ob'.under M = true := fun y ob' hy => by
       rw [pobs];simp only [stW, zaA] at hy;by_cases hk : y ∈ keys (W i)
       ·rw [hWi y hk, hWg y hk] at hy;have hyO : y ∈ O.map (·.1) := ((hkW y).1 hk).2;obtain ⟨x0, hx0⟩ := zcp (l := O) (y := y) hyO;obtain ⟨⟨hr, hlt⟩, _⟩ := hobs y x0 (hOget y x0 hx0);cases hq : getK O' y with
        | none =>
         rw [hq] at hy;simp at hy
        | some ob =>
         rw [hq] at hy;have hy : ob = ob' := by simpa using hy
         subst hy;have hga := zfb (M := M) hρs hM (hOu _ (zer hq));refine ⟨hlt, ob, ?_, (Ob.zb3 hga).1, (Ob.zb3 hga).2⟩;rw [hr, zab, hFg, if_pos (by simpa using hyO), ho1 y, hq]
       ·rw [hWn y hk] at hy;obtain ⟨⟨hr, hlt⟩, hga⟩ := hobs y ob' (by simp only [stW, zaA]; exact hy);refine ⟨hlt, ob', ?_, (Ob.zb3 hga).1, (Ob.zb3 hga).2⟩;by_cases hyO : (O.map (·.1)).contains y = true
        ·have hL : L.contains y = false := by
          cases hL : L.contains y with
          | false => rfl
          | true => exact absurd ((hkW y).2 ⟨hL, by simpa using hyO⟩) hk
         obtain ⟨x0, hx0⟩ := zcp (l := O) (y := y) (by simpa using hyO);have hx1 := hOget y x0 hx0;simp only [stW, zaA] at hx1;rw [hy] at hx1;rw [hr, zab, hFg, if_pos hyO, ho1 y, hsm y hL, hx0];exact hx1.symm
        ·rw [hr, zab, hFg, if_neg hyO];simp only [stW, zaA];rw [hy]
      have henv2 : ∀ x d', getK (stW ops T W s M fun j => listed.getD j false || j == i).env x = some d' →
               (D.le ρ ((({ (stW ops T W s M fun j => listed.getD j false) with obs := F ++ o1, next := M } : St).put o.dst (T i)).at x) d' /\ d'.under M = true) /\ x < s.n := fun x d' hx => by
       simp only [stW] at hx;by_cases hdx : o.dst = some x
       ·rw [henv x hdx] at hx;cases hx;have hlt : x < s.n := by rw [hdx] at hpo; exact hpo
        have hg := zct (M := M) hρs hM hdu;refine ⟨⟨.inr (.inl ?_), hg.2⟩, hlt⟩;simp only [hdx, St.put, St.at, zaa, if_true, Option.getD_some];exact hg.1.symm
       ·rw [henv' x hdx] at hx;obtain ⟨g1, g2⟩ := hs.env x d' hx;have hgd := g2.good hknown;have hat : (({ (stW ops T W s M fun j => listed.getD j false) with obs := F ++ o1, next := M } : St).put o.dst (T i)).at x = d' := by
         have : ∀ (q : St) (d : D), getK (q.put o.dst d).env x = getK q.env x := fun q d => by
          cases hd : o.dst with
          | none => rfl
          | some y =>
           have hne : ¬ x = y := fun e => hdx (by rw [hd, e]);simp only [St.put, zaa, if_neg hne]
         simp only [St.at, this, stW, hx]
         try rfl
        rw [hat];exact ⟨⟨.inr (.inl hgd.1.symm), hgd.2⟩, g1⟩
      have hinj : ∀ y1 y2, y1 < M -> y2 < M -> ρ y1 = ρ y2 -> y1 = y2 := fun y1 y2 g1 g2 hr => by
       simp only [ρ] at hr;split at hr <;> split at hr <;> omega
      have hle : St.Le Γ.n0 ρ (({ (stW ops T W s M fun j => listed.getD j false) with obs := F ++ o1, next := M } : St).put o.dst (T i)) (stW ops T W s M fun j => listed.getD j false || j == i) := by
       refine ⟨by rw [pn]; rfl, fun x d' hx => (henv2 x d' hx).1, fun x d' hx => by rw [pn]; exact (henv2 x d' hx).2, hobs2, fun y1 y2 o1 o2 g1 g2 hr => hinj y1 y2 (hobs2 y1 o1 g1).1 (hobs2 y2 o2 g2).1 hr, fun j hj => ⟨hρs j (by omega), ?_⟩⟩;show j < M;omega
      obtain ⟨g1, g2⟩ := Sim.weak h1 h2 hle;refine go _ a' w' g1 g2 fun j x hj hu hc => ?_;simp only [Kr.ren];split
      ·have c2 : un x := ⟨j, hj, hu, hc⟩;simp only [ρ];rw [if_pos c2];refine h2.hdr _ ?_;rw [pnext];show M <= M + 1 + x;omega
      ·rfl
     ·
      have hOact : ∀ p ∈ O, getK (stW ops T W s M fun j => listed.getD j false).obs p.1 = some p.2 := fun p hp => by
       rw [<- hloc p.1 (by rw [hR]; exact List.mem_map.2 ⟨p, hp, rfl⟩)];exact hO p hp
      have hOget : ∀ y ob, getK O y = some ob -> getK (stW ops T W s M fun j => listed.getD j false).obs y = some ob := fun y ob h => hOact _ (zer h)
      let F := (stW ops T W s M fun j => listed.getD j false).obs.filter fun p => !(O.map (·.1)).contains p.1
      have hFg : ∀ y, getK F y = if (O.map (·.1)).contains y = true then none else getK (stW ops T W s M fun j => listed.getD j false).obs y := fun y => zb6 _ _ y;have hOn : ∀ y, ¬ (O.map (·.1)).contains y = true -> getK O y = none := fun y h => zbu O y (by simpa using h);have heq : ∀ y, getK (stW ops T W s M fun j => listed.getD j false).obs y = getK (F ++ O) y := fun y => by
       rw [zab, hFg];by_cases hy : (O.map (·.1)).contains y = true
       ·rw [if_pos hy];obtain ⟨x, hx⟩ := zcp (l := O) (y := y) (by simpa using hy);rw [hx, hOget y x hx]
       ·rw [if_neg hy, hOn y hy];cases getK (stW ops T W s M fun j => listed.getD j false).obs y <;> rfl
      have hF : ∀ y ob, getK F y = some ob -> getK O y = none := fun y ob h => by
       rw [hFg] at h;by_cases hy : (O.map (·.1)).contains y = true
       ·rw [if_pos hy] at h; cases h
       ·exact hOn y hy
      have hopdS : ∀ x, x ∈ fop :: args -> opd (stW ops T W s M fun j => listed.getD j false) x = opd (stW ops T W s M fun j => decide (j < i)) x := fun x hx => (hopd x (by
       rcases o with ⟨odst, oop, ot, opos, oaf, og⟩
       unfold zbN at hco;split at hco
       ·rename_i c hop;simp only at hop;subst hop;split at hco
        ·cases hco;rename_i f' hcal;simp only [Op.operands, Call.operands, hcal];simp only [List.mem_cons] at hx;simp;rcases hx with rfl | hx
         ·exact .inl rfl
         ·exact .inr (by simpa using hx)
        ·cases hco
       ·cases hco)).symm
      have hMn : getK (stW ops T W s M fun j => listed.getD j false).obs M = none := by
       cases hq : getK (stW ops T W s M fun j => listed.getD j false).obs M with
       | none => rfl
       | some ob =>
               obtain ⟨h, h1, _⟩ := hs.sat.ob M ob hq;rw [hs.hdr M (Nat.le_refl _)] at h1;cases h1
      have hcall : CallP P Γ fop args o.dst (stW ops T W s M fun j => listed.getD j false) fun s' => ∃ o1, (∀ y, getK o1 y = getK ((M, nb) :: O) y) /\ s' = (({ (stW ops T W s M fun j => listed.getD j false) with obs := F ++ o1, next := M + 1 } : St).put o.dst (mkD e.how M)) :=
       CallP.xF F O (hret M (by first | exact Nat.le_refl _ | exact hM)) heq hF (by rw [hopdS fop (by simp)]; exact hcf) hcb (by rw [List.map_congr_left fun x hx => hopdS x (by simp [hx])]) hpo
               (fun d o1 nx' _ ⟨h1, h2, h3⟩ => ⟨o1, h2, by cases h1; rw [h3]⟩) (fun ch o1 nx' _ ⟨h1, _⟩ => by cases h1)
      have heff : EffP P Γ o (stW ops T W s M fun j => listed.getD j false) fun s' => ∃ o1, (∀ y, getK o1 y = getK ((M, nb) :: O) y) /\ s' = (({ (stW ops T W s M fun j => listed.getD j false) with obs := F ++ o1, next := M + 1 } : St).put o.dst (mkD e.how M)) := by
       have e := hcall;rcases o with ⟨odst, oop, ot, opos, oaf, og⟩
       unfold zbN at hco;split at hco
       ·rename_i c hop;simp only at hop;subst hop;split at hco
        ·cases hco;rename_i f' hcal;obtain ⟨cal, cargs, cts⟩ := c;simp only at hcal;subst hcal;exact EffP.guard (e cts ot opos oaf)
        ·cases hco
       ·cases hco
      refine .inl (heff K a w hin hs _ _ (fun K' a' w' s' h1 h2 h3 => ?_) fun ch K' a' w' s' h1 h2 h3 => .inl ⟨K', s', h1, h2, h3⟩);obtain ⟨o1, ho1, rfl⟩ := h3;refine mk e (by rw [heU]; simp) (fun ob h => by rw [heN] at h; cases h; exact zfb hρs0 hM hnu) (by rw [heN]; exact ⟨x0, hcx⟩) K' a' w' h1 (h2.eqo ?_);have pobs : ∀ (q : St) (d : D), (q.put o.dst d).obs = q.obs := fun q d => by cases o.dst <;> rfl
      have pn : ∀ (q : St) (d : D), (q.put o.dst d).n = q.n := fun q d => by cases o.dst <;> rfl
      have pnext : ∀ (q : St) (d : D), (q.put o.dst d).next = q.next := fun q d => by cases o.dst <;> rfl
      have penv : ∀ (q q' : St) (d : D) (x : Nat), q.env = q'.env -> getK (q.put o.dst d).env x = getK (q'.put o.dst d).env x := fun q q' d x e => by cases o.dst <;> simp [St.put, e]
      simp only [St.effS, heN];refine ⟨by rw [pn, pn], fun y => ?_, by rw [pnext, pnext]; rfl, fun x => penv _ _ _ x rfl⟩;rw [pobs, pobs];simp only [heU];rw [zab, ho1, zaa, zaa];show _ = if y = M then some nb else getK (zau [] (stW ops T W s M fun j => listed.getD j false).obs) y;have hap : zau [] (stW ops T W s M fun j => listed.getD j false).obs = (stW ops T W s M fun j => listed.getD j false).obs := rfl;rw [hap];by_cases hy : y = M
      ·subst hy;have hFM : getK F y = none := by rw [hFg, hMn]; split <;> rfl
       rw [hFM];simp
      ·rw [if_neg hy, if_neg hy, heq y, zab]
    ·rw [if_neg (by rw [hw]; simp)];exact next hv.2 K undef w hin (.refl _) rfl hs.sat (by rw [hv.1]; exact .u _ _ (.oth _))
 have h0 : (fun j => (Array.replicate ops.toArray.size false).getD j false) = fun _ => false := funext fun j => by
  by_cases hj : j < ops.length <;> simp [hj]
 refine key _ _ K a w0 (by simp) (by simp) (fun j y hj hS => ?_) hin0 ?_ (fun j x _ _ hc => hs.hdr x (hcr j x hc).1) (fun p _ _ => congrFun h0 p)
 ·have : (Array.replicate ops.toArray.size false).getD j false = false := congrFun h0 j;rw [this] at hS;cases hS
 ·rw [h0];have none : ∀ (l : List Oper) (i : Nat) (e : List (Nat × D)), zdg T (fun _ => false) l i e = e := by
   intro l
   induction l with
   | nil => intro i e; rfl
   | cons o l ih => intro i e; simp [zdg, ih]
  have wn : ∀ m, zdZ W (fun _ => false) m = [] := by
   intro m
   induction m with
   | zero => rfl
   | succ m ih => simp [zdZ, ih]
  refine ⟨hs0.sat.eqo fun y => ?_, hs0.defers, hs0.size, fun x d hx => hs0.env x d ?_, fun y hy => hs0.hdr y (Nat.le_trans hM hy)⟩
  ·simp only [stW, wn]; rfl
  ·simp only [stW, none] at hx; exact hx
abbrev zpU := Ent × Nat
abbrev Fp4 := List (List Nat × List Nat × Nat)
def eE (E : Nat -> zpU) (j : Nat) : Ent := (E j).1
def tF4 (E : Nat -> zpU) (n : Nat) : Fp4 := (List.range n).map fun j => (tR (eE E) j, keys (tW (eE E) j), (E j).2)
def ztp (P : Program) (N : Nat) (s : St) (o : O1) (e : Ent) : Prop :=
 match o.guard with
 | none => zqE P N s o.op o.dst e.1 e.2.1 e.2.2.1 e.2.2.2
 | some (t, want) => (∃ b, getK s.env t = some (.u (.bool b)) /\ if b = want then zqE P N s o.op o.dst e.1 e.2.1 e.2.2.1 e.2.2.2 else e.1 = .un /\ e.2.1 = [] /\ e.2.2.1 = none) \/
  (getK s.env t = some .un /\ e.1 = .un /\ e.2.1 = [] /\ e.2.2.1 = none)
def Op4 (P : Program) (Γ : Ctx) (N : Nat) (s : St) (o : O1) (e : zpU) : Prop :=
 if e.2 = 2 then e.1.2.1 = [] /\ e.1.2.2.1 = none else if e.2 = 1 then o.guard = none /\ zqC P Γ s o.op /\ e.1.2.1 = [] /\ e.1.2.2.1 = none else e.2 = 0 /\ ztp P N s o e.1
def zjC (P : Program) (Γ : Ctx) (N : Nat) : List O1 -> St -> Fp4 -> (St -> Fp4 -> Prop) -> Prop
 | [], s, fp, k => k s fp
 | o :: rest, s, fp, k => ∃ e : zpU, zaC o.dst s /\ Op4 P Γ N s o e /\ (∀ x, e.1.2.2.1 = some x -> x = s.next) /\ zjC P Γ N rest (s.app o.dst e.1) (fp ++ [(e.1.2.2.2, keys e.1.2.1, e.2)]) k
def HD4 (P : Program) (Γ : Ctx) (N : Nat) (l : List O1) (s : St) (fp : Fp4) (C : Fp4 -> Prop) (k : St -> Prop) : Prop :=
 ∀ s0 : St, s0.Eqo s -> zjC P Γ N l s0 fp fun s1 fp => C fp /\ ((∀ p ∈ fp, p.2.2 ≠ 1) -> ∃ s', s1.Eqo s' /\ k s')
def zmf (P : Program) (Γ : Ctx) (N : Nat) (o : O1) (rest : List O1) (s : St) (fp : Fp4) (C : Fp4 -> Prop) (k : St -> Prop) : Prop :=
 ∀ s0 : St, s0.Eqo s -> ∃ e : zpU, zaC o.dst s0 /\ Op4 P Γ N s0 o e /\ e.2 ≠ 1 /\ (∀ x, e.1.2.2.1 = some x -> x = s0.next) /\ zjC P Γ N rest (s0.app o.dst e.1) (fp ++ [(e.1.2.2.2, keys e.1.2.1, e.2)]) fun s1 fp => C fp /\ ((∀ p ∈ fp, p.2.2 ≠ 1) -> ∃ s', s1.Eqo s' /\ k s')
theorem HD4.of_h {P Γ N o rest s fp C k} (h : zmf P Γ N o rest s fp C k) : HD4 P Γ N (o :: rest) s fp C k := fun s0 e => by
 obtain ⟨en, h1, h2, _, h3, h4⟩ := h s0 e;exact ⟨en, h1, h2, h3, h4⟩
theorem za4 {P Γ N s fp C k} (hC : C fp) (h : k s) : HD4 P Γ N [] s fp C k := fun s0 e => ⟨hC, fun _ => ⟨s, e, h⟩⟩
theorem zdi {P Γ N s fp C k} (hC : C fp) (h : (fp.any fun p => p.2.2 == 1) = true) : HD4 P Γ N [] s fp C k := fun s0 e => ⟨hC, fun h1 => by
 obtain ⟨p, hp, hk⟩ := List.any_eq_true.1 h;exact absurd (by simpa using hk) (h1 p hp)⟩
theorem zcF {P Γ N s dst op rest fp C k} (_ : zbz op = false) (h : valD P s op fun d => zaC dst s /\ HD4 P Γ N rest (s.put dst d) (fp ++ [(zbw s op, [], 0)]) C k) : zmf P Γ N ⟨dst, op, none⟩ rest s fp C k := fun s0 e => by
 obtain ⟨d, hv, hp, hr⟩ := Lin.valD.2 _ h;refine ⟨((d, [], none, zbw s op), 0), by cases dst <;> simp_all [zaC, e.1], ?_, by simp, fun x hx => (by cases hx), hr _ (e.put dst d)⟩;unfold Op4;rw [if_neg (by simp), if_neg (by simp)];exact ⟨rfl, .inl (.inl ⟨by rw [zkA e]; exact hv, rfl, rfl, (zdO e op).symm⟩)⟩
theorem zpB {P Γ N s dst op rest fp C k} (_ : zbz op = true) (h : effD P s op fun e => zaC dst s /\ (e.nw = none -> dst = none) /\
  HD4 P Γ N rest (s.effS e dst) (fp ++ [(zbw s op, match e.nw with | none => (e.U.map (·.1), 0) | some _ => (s.next :: e.U.map (·.1), 0))]) C k) : zmf P Γ N ⟨dst, op, none⟩ rest s fp C k := fun s0 e0 => by
 obtain ⟨e, hv, hp, hd, hr⟩ := Lin.effD.2 _ h;have hp0 : zaC dst s0 := by cases dst <;> simp_all [zaC, e0.1]
 have hv0 : effD P s0 op (· = e) := by rw [zkX e0]; exact hv
 cases hn : e.nw with
 | none =>
  obtain rfl := hd hn;refine ⟨((.any, e.U, none, zbw s op), 0), hp0, ?_, by simp, fun x hx => (by cases hx), ?_⟩
  ·unfold Op4;rw [if_neg (by simp), if_neg (by simp)];exact ⟨rfl, .inl (.inr ⟨e, hv0, (zdO e0 op).symm, by rw [hn]; exact ⟨rfl, rfl, rfl⟩⟩)⟩
  rw [hn] at hr;refine hr _ ?_;simp only [St.app, St.effS, hn, St.put];exact ⟨e0.1, fun x => by simp only [zaA, e0.2.1 x], e0.2.2.1, e0.2.2.2⟩
 | some ob =>
  refine ⟨((mkD e.how s0.next, (s0.next, some ob) :: e.U, some s0.next, zbw s op), 0), hp0, ?_, by simp, fun x hx => (by cases hx; rfl), ?_⟩
  ·unfold Op4;rw [if_neg (by simp), if_neg (by simp)];exact ⟨rfl, .inl (.inr ⟨e, hv0, (zdO e0 op).symm, by rw [hn]; exact ⟨s0.next, rfl, rfl, rfl⟩⟩)⟩
  rw [hn] at hr;have h1 := hr (s0.app dst (mkD e.how s0.next, (s0.next, some ob) :: e.U, some s0.next, zbw s op)) (by
   simp only [St.app, St.effS, hn, e0.2.2.1];apply St.Eqo.put;refine ⟨e0.1, fun x => ?_, by simp, e0.2.2.2⟩;simp only [zau, zak, zaa, zaA, e0.2.1 x])
  simp only [keys, List.map_cons];rw [e0.2.2.1] at h1 ⊢;exact h1
theorem zaN {P Γ N s dst op rest fp C k} (h0 : zbz op = false) (h : valD P s op fun d => zaC dst s /\ HD4 P Γ N rest (s.put dst d) (fp ++ [(zbw s op, [], 0)]) C k) : HD4 P Γ N (⟨dst, op, none⟩ :: rest) s fp C k := .of_h (zcF h0 h)
theorem zci {P Γ N s dst op rest fp C k} (h0 : zbz op = true) (h : effD P s op fun e => zaC dst s /\ (e.nw = none -> dst = none) /\
  HD4 P Γ N rest (s.effS e dst) (fp ++ [(zbw s op, match e.nw with | none => (e.U.map (·.1), 0) | some _ => (s.next :: e.U.map (·.1), 0))]) C k) : HD4 P Γ N (⟨dst, op, none⟩ :: rest) s fp C k := .of_h (zpB h0 h)
theorem zbQ {P Γ N s dst op rest fp C k t want b} (hb : getK s.env t = some (.u (.bool b))) (hp : zaC dst s)
  (hy : b = want -> zmf P Γ N ⟨dst, op, none⟩ rest (s.put (some t) (.u (.bool want))) fp C k)
  (hn : b = !want -> HD4 P Γ N rest ((s.put (some t) (.u (.bool (!want)))).put dst .un) (fp ++ [([], [], 0)]) C k) : HD4 P Γ N (⟨dst, op, some (t, want)⟩ :: rest) s fp C k := fun s0 e => by
 have lit : ∀ b', b = b' -> s.Eqo (s.put (some t) (.u (.bool b'))) := fun b' e' => ⟨rfl, fun _ => rfl, rfl, fun x => by
  subst e';simp only [St.put, zaa];split
  ·rename_i hx; rw [hx, hb]
  ·rfl⟩
 have hp0 : zaC dst s0 := by cases dst <;> simp_all [zaC, e.1]
 by_cases hw : b = want
 ·have e1 := e.trans (lit want hw);obtain ⟨en, h1, h2, h5, h3, h4⟩ := hy hw s0 e1;refine ⟨en, h1, ?_, h3, h4⟩;unfold Op4 at h2 ⊢;by_cases h6 : en.2 = 2
  ·rw [if_pos h6] at h2 ⊢;exact h2
  ·rw [if_neg h6, if_neg h5] at h2 ⊢;exact ⟨h2.1, .inl ⟨b, by rw [e.2.2.2 t]; exact hb, by rw [if_pos hw]; exact h2.2⟩⟩
 ·have hw' : b = !want := by cases b <;> cases want <;> simp_all
  have e1 := e.trans (lit _ hw');refine ⟨((.un, [], none, []), 0), hp0, ?_, fun x hx => (by cases hx), hn hw' _ (e1.put dst .un)⟩;unfold Op4;rw [if_neg (by simp), if_neg (by simp)];exact ⟨rfl, .inl ⟨b, by rw [e.2.2.2 t]; exact hb, by rw [if_neg hw]; exact ⟨rfl, rfl, rfl⟩⟩⟩
theorem zmg {P Γ N s dst op rest fp C k t want} (hb : getK s.env t = some .un) (hp : zaC dst s) (hn : HD4 P Γ N rest (s.put dst .un) (fp ++ [([], [], 0)]) C k) :
  HD4 P Γ N (⟨dst, op, some (t, want)⟩ :: rest) s fp C k := fun s0 e => by
 refine ⟨((.un, [], none, []), 0), by cases dst <;> simp_all [zaC, e.1], ?_, fun x hx => (by cases hx), hn _ (e.put dst .un)⟩;unfold Op4;rw [if_neg (by simp), if_neg (by simp)];exact ⟨rfl, .inr ⟨by rw [e.2.2.2 t]; exact hb, rfl, rfl, rfl⟩⟩
theorem zla {P Γ N s dst op g rest fp C k} (hp : zaC dst s) (h : HD4 P Γ N rest (s.put dst .any) (fp ++ [([], [], 2)]) C k) : HD4 P Γ N (⟨dst, op, g⟩ :: rest) s fp C k := fun s0 e => by
 refine ⟨((.any, [], none, []), 2), by cases dst <;> simp_all [zaC, e.1], ?_, fun x hx => (by cases hx), h _ (e.put dst .any)⟩;unfold Op4;rw [if_pos rfl];exact ⟨rfl, rfl⟩
theorem zgT (W : Wr) {o o' : List (Nat × Ob)} (h : ∀ y, getK o y = getK o' y) : ∀ y, getK (zau W o) y = getK (zau W o') y := fun y => by rw [zaA, zaA, h y]
theorem zhG {O O' : List (Nat × Ob)} (L : List Nat) (hkeys : O'.map (·.1) = O.map (·.1)) (y : Nat) :
  y ∈ keys ((O'.filter fun p => L.contains p.1).map (fun p => (p.1, some p.2)) : Wr) ↔ L.contains y = true /\ y ∈ O.map (·.1) := by
 rw [<- hkeys];simp only [keys, List.map_map, List.mem_map, List.mem_filter, Function.comp];exact ⟨fun ⟨p, ⟨h1, h2⟩, h3⟩ => ⟨h3 ▸ h2, p, h1, h3⟩, fun ⟨h1, p, h2, h3⟩ => ⟨p, ⟨h2, by rw [h3]; exact h1⟩, h3⟩⟩
theorem zn2 {O O' : List (Nat × Ob)} (L : List Nat) (hkeys : O'.map (·.1) = O.map (·.1)) (y : Nat) (hy : y ∈ keys ((O'.filter fun p => L.contains p.1).map (fun p => (p.1, some p.2)) : Wr)) :
  getK ((O'.filter fun p => L.contains p.1).map (fun p => (p.1, some p.2)) : Wr) y = some (getK O' y) := by
 obtain ⟨h1, h2⟩ := (zhG L hkeys y).1 hy;rw [zii, zjm, if_pos h1];obtain ⟨x, hx⟩ := zcp (l := O') (y := y) (by rw [hkeys]; exact h2);rw [hx]; rfl
theorem zoe {P : Program} {Γ : Ctx} {N : Nat} {s : St} {dst : Option Tmp} {rest fp C k} {fop : Operand} {args : Array Operand} {ts : Array TypeId} {f caps} {ds : List D} {d : D} (O : List (Nat × Ob))
  (hret : ∀ nx, s.next <= nx -> RetX P f ds O nx fun r o n => r = .val d /\ (∀ y, getK o y = none) /\ n = nx)
  (hf : zaw (opd s fop) = some (f, caps)) (hc : zal P f = true) (hds : args.toList.map (opd s) ++ caps = ds) (hO : ∀ p ∈ O, getK s.obs p.1 = some p.2) (hnd : (O.map (·.1)).Nodup)
  (hu : d.under N = true) (hp : zaC dst s)
  (h : HD4 P Γ N rest (({ s with obs := zau (O.map fun p => (p.1, none)) s.obs } : St).put dst d) (fp ++ [(O.map (·.1), O.map (·.1), 0)]) C k) :
  HD4 P Γ N (⟨dst, .call { callee := .value fop, args, argTypes := ts }, none⟩ :: rest) s fp C k := fun s0 e => by
 have hk : keys (O.map (fun p => (p.1, none)) : Wr) = O.map (·.1) := by simp [keys, List.map_map, Function.comp_def]
 refine ⟨((d, O.map (fun p => (p.1, none)), none, O.map (·.1)), 0), by cases dst <;> simp_all [zaC, e.1], ?_, fun x hx => (by cases hx), ?_⟩
 ·unfold Op4;rw [if_neg (by simp), if_neg (by simp)];refine ⟨rfl, .inr (.inl ⟨⟨fop, args.toList, f, caps, O, [], O.map (·.1), rfl, by rw [zdp e]; exact hf, hc, rfl, fun y => by rw [hk]; simp, fun y hy => ?_, fun y hy => ?_, fun p hp => by rw [e.2.1]; exact hO p hp, hnd, ⟨hu, fun p hp => by cases hp⟩, fun nx hnx => ?_⟩, rfl⟩)⟩
  ·rw [hk] at hy;show getK (O.map fun p => (p.1, (none : Option Ob)) : Wr) y = some none;clear hO hnd hret h e hk
   induction O with
   | nil => simp at hy
   | cons q r ih =>
    simp only [List.map_cons, zaa];by_cases hq : y = q.1
    ·rw [if_pos hq]
    ·rw [if_neg hq];exact ih (by simpa [hq] using hy)
  ·rw [zbu O y (by simpa using hy)]; rfl
  ·have e1 : args.toList.map (opd s0) = args.toList.map (opd s) := List.map_congr_left fun x _ => zdp e x;rw [e1, hds];exact hret nx (by rw [e.2.2.1] at hnx; exact hnx)
 ·have := h (s0.app dst (d, O.map (fun p => (p.1, none)), none, O.map (·.1))) (by
   simp only [St.app];apply St.Eqo.put;exact ⟨e.1, zgT _ e.2.1, by simpa using e.2.2.1, e.2.2.2⟩)
  simpa [keys, List.map_map, Function.comp_def] using this
theorem zgZ {P : Program} {Γ : Ctx} {N : Nat} {s : St} {dst : Option Tmp} {rest fp C k} {fop : Operand} {args : Array Operand} {ts : Array TypeId} {f caps} {ds : List D} {d : D} (O O' : List (Nat × Ob)) (L : List Nat)
  (hret : ∀ nx, s.next <= nx -> RetX P f ds O nx fun r o n => r = .val d /\ (∀ y, getK o y = getK O' y) /\ n = nx)
  (hf : zaw (opd s fop) = some (f, caps)) (hc : zal P f = true) (hds : args.toList.map (opd s) ++ caps = ds) (hkeys : O'.map (·.1) = O.map (·.1)) (hsm : ∀ y, L.contains y = false -> getK O' y = getK O y) (hO : ∀ p ∈ O, getK s.obs p.1 = some p.2) (hnd : (O.map (·.1)).Nodup)
  (hu : d.under N = true /\ ∀ p ∈ O', p.2.under N = true) (hp : zaC dst s)
  (h : HD4 P Γ N rest (({ s with obs := zau ((O'.filter fun p => L.contains p.1).map fun p => (p.1, some p.2)) s.obs } : St).put dst d) (fp ++ [(O.map (·.1), (O'.filter fun p => L.contains p.1).map (·.1), 0)]) C k) :
  HD4 P Γ N (⟨dst, .call { callee := .value fop, args, argTypes := ts }, none⟩ :: rest) s fp C k := fun s0 e => by
 refine ⟨((d, (O'.filter fun p => L.contains p.1).map (fun p => (p.1, some p.2)), none, O.map (·.1)), 0), by cases dst <;> simp_all [zaC, e.1], ?_, fun x hx => (by cases hx), ?_⟩
 ·unfold Op4;rw [if_neg (by simp), if_neg (by simp)];refine ⟨rfl, .inr (.inl ⟨⟨fop, args.toList, f, caps, O, O', L, rfl, by rw [zdp e]; exact hf, hc, rfl, zhG L hkeys, zn2 L hkeys, hsm, fun p hp => by rw [e.2.1]; exact hO p hp, hnd, hu, fun nx hnx => ?_⟩, rfl⟩)⟩;have e1 : args.toList.map (opd s0) = args.toList.map (opd s) := List.map_congr_left fun x _ => zdp e x;rw [e1, hds];exact hret nx (by rw [e.2.2.1] at hnx; exact hnx)
 ·have := h (s0.app dst (d, (O'.filter fun p => L.contains p.1).map (fun p => (p.1, some p.2)), none, O.map (·.1))) (by
   simp only [St.app];apply St.Eqo.put;exact ⟨e.1, zgT _ e.2.1, by simpa using e.2.2.1, e.2.2.2⟩)
  simpa [keys, List.map_map, Function.comp_def] using this
theorem zl0 {O O' : List (Nat × Ob)} (hkeys : O'.map (·.1) = O.map (·.1)) : (O'.filter fun p => (O.map (·.1)).contains p.1) = O' := by
 refine List.filter_eq_self.2 fun p hp => ?_;rw [<- hkeys];simp only [List.contains_eq_mem, decide_eq_true_eq];exact List.mem_map.2 ⟨p, hp, rfl⟩
theorem zlb {P : Program} {Γ : Ctx} {N : Nat} {s : St} {dst : Option Tmp} {rest fp C k} {fop : Operand} {args : Array Operand} {ts : Array TypeId} {f caps} {ds : List D} {d : D} (O O' : List (Nat × Ob))
  (hret : ∀ nx, s.next <= nx -> RetX P f ds O nx fun r o n => r = .val d /\ (∀ y, getK o y = getK O' y) /\ n = nx)
  (hf : zaw (opd s fop) = some (f, caps)) (hc : zal P f = true) (hds : args.toList.map (opd s) ++ caps = ds) (hkeys : O'.map (·.1) = O.map (·.1)) (hO : ∀ p ∈ O, getK s.obs p.1 = some p.2) (hnd : (O.map (·.1)).Nodup)
  (hu : d.under N = true /\ ∀ p ∈ O', p.2.under N = true) (hp : zaC dst s)
  (h : HD4 P Γ N rest (({ s with obs := zau (O'.map fun p => (p.1, some p.2)) s.obs } : St).put dst d) (fp ++ [(O.map (·.1), O'.map (·.1), 0)]) C k) :
  HD4 P Γ N (⟨dst, .call { callee := .value fop, args, argTypes := ts }, none⟩ :: rest) s fp C k :=
 zgZ O O' (O.map (·.1)) hret hf hc hds hkeys (fun y hy => by
  rw [zbu O y (by simpa using hy), zbu O' y (by rw [hkeys]; simpa using hy)]) hO hnd hu hp (by rw [zl0 hkeys]; exact h)
theorem zk9 {P : Program} {Γ : Ctx} {N : Nat} {s : St} {dst : Option Tmp} {rest fp C k} {fop : Operand} {args : Array Operand} {ts : Array TypeId} {f caps} {ds : List D} {post : Out -> List (Nat × Ob) -> Nat -> Prop} (O : List (Nat × Ob))
  (hret : ∀ nx, s.next <= nx -> RetX P f ds O nx post) (hno : ∀ d o n, ¬ post (.val d) o n)
  (hf : zaw (opd s fop) = some (f, caps)) (hc : zal P f = true) (hds : args.toList.map (opd s) ++ caps = ds) (hO : ∀ p ∈ O, getK s.obs p.1 = some p.2) (hp : zaC dst s)
  (hx : ∀ env ch o n, s.next <= n -> post (.pan ch) o n -> ∃ s2, Wk Γ { n := s.n, env := env, obs := (s.obs.filter fun p => !(O.map (·.1)).contains p.1) ++ o, next := n } s2 /\ Γ.pan ch s2)
  (h : HD4 P Γ N rest (s.put dst .any) (fp ++ [([], [], 1)]) C k) :
  HD4 P Γ N (⟨dst, .call { callee := .value fop, args, argTypes := ts }, none⟩ :: rest) s fp C k := fun s0 e => by
 refine ⟨((.any, [], none, []), 1), by cases dst <;> simp_all [zaC, e.1], ?_, fun x hx => (by cases hx), h _ (e.put dst .any)⟩;unfold Op4;rw [if_neg (by simp), if_pos rfl];refine ⟨rfl, fun s' hn ho hopd hnx o hop hg hpo => ?_, rfl, rfl⟩;obtain ⟨odst, oop, ot, opos, oaf, og⟩ := o;simp only at hop hg hpo;subst hop;subst hg;have hopS : ∀ x ∈ fop :: args.toList, opd s' x = opd s x := fun x hx => by
  rw [hopd x (by
   simp only [Op.operands, Call.operands];simp only [List.mem_cons] at hx;simp;rcases hx with rfl | hx
   ·exact .inl rfl
   ·exact .inr (by simpa using hx)), zdp e]
 have hOget : ∀ y, getK s'.obs y = getK s.obs y := fun y => by rw [ho, e.2.1]
 have hcall : CallP P Γ fop args.toList odst s' fun _ => False :=
  CallP.xF (s'.obs.filter fun p => !(O.map (·.1)).contains p.1) O (hret s'.next (by rw [<- e.2.2.1]; exact hnx)) (fun y => by
   rw [zab, zb6];by_cases hy : (O.map (·.1)).contains y = true
   ·rw [if_pos hy];obtain ⟨x, hx⟩ := zcp (l := O) (y := y) (by simpa using hy);rw [hx, hOget y, hO _ (zer hx)]
   ·rw [if_neg hy, zbu O y (by simpa using hy)];cases getK s'.obs y <;> rfl) (fun y ob hy => by
   rw [zb6] at hy;by_cases hc : (O.map (·.1)).contains y = true
   ·rw [if_pos hc] at hy; cases hy
   ·exact zbu O y (by simpa using hc)) (by rw [hopS fop (by simp)]; exact hf) hc (by rw [List.map_congr_left fun x hx => hopS x (by simp [hx])]; exact hds) hpo
   (fun d o1 nx' _ hp => absurd hp (hno d o1 nx')) (fun ch o1 nx' hn' hp => by
     obtain ⟨s2, h1, h2⟩ := hx s'.env ch o1 nx' (by have := e.2.2.1; omega) hp;refine ⟨s2, fun K a w hin hs => h1 K a w hin (hs.eqo ⟨by simp [hn, e.1], fun y => ?_, rfl, fun _ => rfl⟩), h2⟩;simp only [zab, zb6, hOget])
 exact hcall ts ot opos oaf
theorem zk0 {P : Program} {Γ : Ctx} {N : Nat} {all : Array Oper} {s0 : St} {ops : List Oper} {k : St -> Fp4 -> Prop} : ∀ (l : List O1) (tail : List Oper) (i : Nat) (E : Nat -> zpU), zbm all tail = some l -> (∀ j, tail[j]? = ops[i + j]?) ->
  zjC P Γ N l (stE ops s0 (eE E) i) (tF4 E i) k -> ∃ E' : Nat -> zpU, (∀ j, j < i -> E' j = E j) /\
   (∀ j o, i <= j -> ops[j]? = some o -> zaC o.dst s0 /\ (if (E' j).2 = 2 then tW (eE E') j = [] /\ tC (eE E') j = none else if (E' j).2 = 1 then o.guard = none /\ zqC P Γ (stE ops s0 (eE E') j) o.op /\ tW (eE E') j = [] /\ tC (eE E') j = none else
     (E' j).2 = 0 /\ zru P N all (stE ops s0 (eE E') j) o (tT (eE E') j) (tW (eE E') j) (tC (eE E') j) (tR (eE E') j)) /\ ∀ x, tC (eE E') j = some x -> x = s0.next + cnt (eE E') j) /\
   k (stE ops s0 (eE E') (i + tail.length)) (tF4 E' (i + tail.length))
 | [], tail, i, E, hs, ht, h => by
  cases tail with
  | nil => exact ⟨E, fun _ _ => rfl, fun j o hj ho => by have := ht (j - i); rw [show i + (j - i) = j by omega, ho] at this; simp at this, by simpa [zjC] using h⟩
  | cons x l => simp only [zbm] at hs; split at hs <;> simp at hs
 | o1 :: l, tail, i, E, hs, ht, h => by
  obtain ⟨x, tl, rfl, hx, hr⟩ := zd1 hs;obtain ⟨e, hp, hv, hnx, hc⟩ := h;have hxi : ops[i]? = some x := by have := ht 0; simpa using this.symm
  have hdst : o1.dst = x.dst /\ o1.op = x.op := by
   unfold zcX at hx;split at hx
   ·simp at hx; subst hx; exact ⟨rfl, rfl⟩
   ·split at hx
    ·simp at hx; subst hx; exact ⟨rfl, rfl⟩
    ·cases hx
  let E1 : Nat -> zpU := fun j => if j = i then e else E j
  have h1 : ∀ j, j < i -> E j = E1 j := fun j hj => by simp only [E1]; rw [if_neg (by omega)]
  have h1' : ∀ j, j < i -> eE E j = eE E1 j := fun j hj => by simp only [eE, h1 j hj]
  have hi : E1 i = e := by simp [E1]
  have hi' : eE E1 i = e.1 := by simp only [eE, hi]
  have zb2 : (stE ops s0 (eE E) i).app o1.dst e.1 = stE ops s0 (eE E1) (i + 1) := by
   rw [ze9 h1', hdst.1];simp only [stE, St.app];rw [zfh (tT (eE E1)) i ops 0 s0.env x (Nat.zero_le _) (by simpa using hxi)];have hw : zdZ (tW (eE E1)) (fun _ => true) (i + 1) = e.1.2.1 ++ zdZ (tW (eE E1)) (fun _ => true) i := by
    rw [zdZ, if_pos rfl, show tW (eE E1) i = e.1.2.1 by simp only [tW, hi']]
   have hcn : cnt (eE E1) (i + 1) = cnt (eE E1) i + if e.1.2.2.1.isSome then 1 else 0 := by
    rw [cnt, show tC (eE E1) i = e.1.2.2.1 by simp only [tC, hi']]
   rw [hw, zdh, hcn];have hT : tT (eE E1) i = e.1.1 := by simp only [tT, hi']
   cases x.dst with
   | none => simp only [St.put, nAA]
   | some y => simp only [St.put, hT, nAA]
  have hfp : tF4 E i ++ [(e.1.2.2.2, keys e.1.2.1, e.2)] = tF4 E1 (i + 1) := by
   have hc1 : tF4 E i = tF4 E1 i := List.map_congr_left fun j hj => by
    have := h1 j (List.mem_range.1 hj);simp only [eE, tR, tW, this]
   rw [hc1];simp only [tF4, List.range_succ, List.map_append, List.map_cons, List.map_nil];rw [show tR (eE E1) i = e.1.2.2.2 by simp only [tR, hi'], show tW (eE E1) i = e.1.2.1 by simp only [tW, hi'], hi]
  rw [zb2, hfp] at hc;obtain ⟨E', g1, g2, g3⟩ := zk0 l tl (i + 1) E1 hr (fun j => by have := ht (j + 1); rw [show i + 1 + j = i + (j + 1) by omega, <- this]; simp) hc;refine ⟨E', fun j hj => by rw [g1 j (by omega), h1 j hj], fun j o hj ho => ?_, ?_⟩
  ·rcases Nat.lt_or_ge i j with h' | h'
   ·exact g2 j o h' ho
   ·obtain rfl : i = j := by omega
    rw [hxi] at ho;cases ho;have hEi : E' i = e := by rw [g1 i (by omega), hi]
    have hEi' : eE E' i = e.1 := by simp only [eE, hEi]
    have hst : stE ops s0 (eE E') i = stE ops s0 (eE E) i := ze9 fun j hj => by simp only [eE]; rw [g1 j (by omega), <- h1 j hj]
    refine ⟨by rw [hdst.1] at hp; exact hp, ?_, fun y hy => ?_⟩
    ·rw [hst];simp only [tT, tW, tC, tR, hEi, hEi'];unfold Op4 at hv;by_cases c2 : e.2 = 2
     ·rw [if_pos c2] at hv ⊢;exact hv
     ·rw [if_neg c2] at hv ⊢;by_cases c1 : e.2 = 1
      ·rw [if_pos c1] at hv ⊢;obtain ⟨v1, v2, v3⟩ := hv;refine ⟨?_, by rw [<- hdst.2]; exact v2, v3⟩;unfold zcX at hx;split at hx
       ·rename_i hg; exact hg
       ·split at hx
        ·simp at hx; subst hx; cases v1
        ·cases hx
      ·rw [if_neg c1] at hv ⊢;obtain ⟨v0, hv⟩ := hv;refine ⟨v0, ?_⟩;unfold zcX at hx;unfold zru;unfold ztp at hv;split at hx
       ·rename_i hg;simp at hx;subst hx
        try rw [hg]
        exact hv
       ·rename_i q want hg;split at hx
        ·rename_i t ht';simp at hx;subst hx
         try rw [hg]
         exact ⟨t, ht', hv⟩
        ·cases hx
    ·have : tC (eE E') i = e.1.2.2.1 := by simp only [tC, hEi']
     rw [this] at hy;have := hnx y hy;rw [this, zfm (eE E') (eE E) i fun j hj => by simp only [eE]; rw [g1 j (by omega), <- h1 j hj]]
     try rfl
  ·rw [show i + (x :: tl).length = i + 1 + tl.length by simp; omega];exact g3
def zp4 (ops : List Oper) (fp : Fp4) : Bool :=
 okP ops (fp.map fun p => (p.1, p.2.1)) &&
 (List.range ops.length).all fun j => ((fp.getD j ([], [], 0)).2.2 != 2 || (List.range ops.length).any fun p => (fp.getD p ([], [], 0)).2.2 == 1 && zdX ops ops.length p j) &&
   ((fp.getD j ([], [], 0)).2.2 != 1 || (List.range ops.length).all fun i => (fp.getD i ([], [], 0)).2.1.isEmpty || zdX ops ops.length i j || zdX ops ops.length j i)
theorem zpx {P Γ s} {R0 : Exit -> St -> Prop} {l : List Oper} (hord : zgv l = true) (hn0 : Γ.n0 <= s.next)
  (h : ∀ (C : Fp4 -> Prop) (k : St -> Prop), (∀ fp, zp4 l fp = true -> C fp) -> (∀ s', R0 .normal s' -> k s') -> match zbm l.toArray l with | some l' => HD4 P Γ s.next l' s [] C k | none => False) :
  VA P Γ l s R0 := by
 have := h (fun fp => zp4 l fp = true) _ (fun _ h => h) fun _ h => h;split at this
 ·rename_i l' hl;have h0 : stE l s (eE fun _ => default) 0 = s := by
   have hnone : ∀ (l : List Oper) (i : Nat) (e : List (Nat × D)), zdg (tT (eE fun _ => default)) (fun j => decide (j < 0)) l i e = e := by
    intro l
    induction l with
    | nil => intro i e; rfl
    | cons o l ih => intro i e; exact ih (i + 1) e
   simp only [stE, hnone]
   try rfl
  have hc := this s (.refl s);rw [<- h0] at hc;obtain ⟨E, _, h2, hok, hfin⟩ := zk0 l' l 0 (fun _ => default) hl (fun j => by rw [Nat.zero_add]) hc;rw [Nat.zero_add] at hok hfin;simp only [zp4, Bool.and_eq_true] at hok;obtain ⟨hok1, hok2⟩ := hok;have hlen4 : ∀ i, i < l.length -> (tF4 E l.length).getD i ([], [], 0) = (tR (eE E) i, keys (tW (eE E) i), (E i).2) := fun i hi => by
   simp [tF4, hi]
  have hlen : ∀ i, i < l.length -> ((tF4 E l.length).map fun p => (p.1, p.2.1)).getD i ([], []) = (tR (eE E) i, keys (tW (eE E) i)) := fun i hi => by
   simp [tF4, hi]
  have mono : ∀ i j, i <= j -> cnt (eE E) i <= cnt (eE E) j := fun i j hij => by
   induction hij with
   | refl => exact Nat.le_refl _
   | step _ ih => simp only [cnt]; omega
  have hcr : ∀ i x, i < l.length -> tC (eE E) i = some x -> x = s.next + cnt (eE E) i /\ cnt (eE E) (i + 1) = cnt (eE E) i + 1 := fun i x hi hx => by
   have := (h2 i _ (Nat.zero_le _) (List.getElem?_eq_getElem hi)).2.2 x hx;exact ⟨this, by simp only [cnt, hx]; rfl⟩
  let cr : Nat -> Option Nat := fun i => if i < l.length then tC (eE E) i else none
  let kd : Nat -> Nat := fun i => if i < l.length then (E i).2 else 0
  let W : Nat -> Wr := fun i => if i < l.length then tW (eE E) i else []
  have hWe : ∀ i, i < l.length -> W i = tW (eE E) i := fun i hi => by simp only [W]; rw [if_pos hi]
  refine zpy (T := tT (eE E)) (W := W) (cr := cr) (R := tR (eE E)) (kd := kd) (M := s.next + cnt (eE E) l.length) hord hn0 (by omega) (fun i x hx => ?_) (fun i j x hi hj => ?_) (fun i j hij hj hb => ?_) (fun i hk => ?_) (fun p i hp hi hw => ?_) (fun i o ho => ?_) (fun hnk => ?_)
  ·simp only [cr] at hx;split at hx
   ·rename_i hi;obtain ⟨e1, e2⟩ := hcr i x hi hx;have := mono (i + 1) l.length hi;omega
   ·cases hx
  ·simp only [cr] at hi hj;split at hi
   ·rename_i hil;split at hj
    ·rename_i hjl;obtain ⟨e1, e2⟩ := hcr i x hil hi;obtain ⟨e3, e4⟩ := hcr j x hjl hj;rcases Nat.lt_trichotomy i j with hlt | hlt | hlt
     ·have := mono (i + 1) j hlt;omega
     ·exact hlt
     ·have := mono (j + 1) i hlt;omega
    ·cases hj
   ·cases hi
  ·have := (List.all_eq_true.1 ((List.all_eq_true.1 hok1) j (List.mem_range.2 hj))) i (List.mem_range.2 hij);rw [hb, hlen i (by omega), hlen j hj] at this;simp only [Bool.false_or, Bool.and_eq_true] at this;rw [hWe i (by omega), hWe j hj];refine ⟨fun y hy => ?_, fun y hy => zfi this.2 y hy⟩;have := zfi this.1 y hy;rw [List.mem_append, not_or] at this;exact this
  ·simp only [kd] at hk;split at hk
   ·rename_i hi;obtain ⟨_, g2, _⟩ := h2 i _ (Nat.zero_le _) (List.getElem?_eq_getElem hi);have hci : cr i = tC (eE E) i := by simp only [cr]; rw [if_pos hi]
    rw [hWe i hi, hci];by_cases c2 : (E i).2 = 2
    ·rw [if_pos c2] at g2; exact g2
    ·rw [if_neg c2] at g2;by_cases c1 : (E i).2 = 1
     ·rw [if_pos c1] at g2; exact g2.2.2
     ·rw [if_neg c1] at g2; exact absurd g2.1 hk
   ·exact absurd rfl hk
  ·simp only [kd] at hp;split at hp
   ·rename_i hpl;have := (List.all_eq_true.1 hok2) p (List.mem_range.2 hpl);rw [Bool.and_eq_true, hlen4 p hpl] at this;have h3 := this.2;simp only [hp] at h3;have h4 : ((List.range l.length).all fun i => ((tF4 E l.length).getD i ([], [], 0)).2.1.isEmpty || zdX l l.length i p || zdX l l.length p i) = true := by simpa using h3
    have h5 := (List.all_eq_true.1 h4) i (List.mem_range.2 hi);rw [hlen4 i hi] at h5;simp only [Bool.or_eq_true] at h5;rcases h5 with (h5 | h5) | h5
    ·exfalso;apply hw;rw [hWe i hi];have : keys (tW (eE E) i) = [] := by simpa using h5
     simpa [keys] using this
    ·exact .inl h5
    ·exact .inr h5
   ·cases hp
  ·have hi := (lGE.1 ho).1;obtain ⟨g1, g2, g3⟩ := h2 i o (Nat.zero_le _) ho;refine ⟨g1, ?_⟩;have hwl : ∀ S m, m <= l.length -> zdZ W S m = zdZ (tW (eE E)) S m := fun S m hm => zdY W (tW (eE E)) S m fun j hj => hWe j (by omega);have hst : stW l (tT (eE E)) W s (s.next + cnt (eE E) l.length) (fun j => decide (j < i)) = { stE l s (eE E) i with next := s.next + cnt (eE E) l.length } := by
    simp only [stW, stE];rw [hwl _ _ (Nat.le_refl _), zgd (tW (eE E)) i l.length (by omega)]
   have hcri : cr i = tC (eE E) i := by simp only [cr]; rw [if_pos hi]
   have hkdi : kd i = (E i).2 := by simp only [kd]; rw [if_pos hi]
   rw [hst, hcri, hkdi, hWe i hi];have opo : ∀ x, opd { stE l s (eE E) i with next := s.next + cnt (eE E) l.length } x = opd (stE l s (eE E) i) x := fun x => by cases x <;> rfl
   have eqo : ∀ (op : Op) (r : D -> Prop), valD P { stE l s (eE E) i with next := s.next + cnt (eE E) l.length } op r = valD P (stE l s (eE E) i) op r := fun op r => zdj rfl fun x _ => by cases x <;> rfl
   have ero : ∀ (op : Op), zbw { stE l s (eE E) i with next := s.next + cnt (eE E) l.length } op = zbw (stE l s (eE E) i) op := fun op => by
    have e : opd { stE l s (eE E) i with next := s.next + cnt (eE E) l.length } = opd (stE l s (eE E) i) := funext fun x => by cases x <;> rfl
    unfold zbw zbD zbU;rw [e]
   have efo : ∀ (op : Op) (r : ERes -> Prop), effD P { stE l s (eE E) i with next := s.next + cnt (eE E) l.length } op r = effD P (stE l s (eE E) i) op r := fun op r =>
    propext ⟨zdE (fun _ _ => rfl) fun x _ => by cases x <;> rfl, zdE (fun _ _ => rfl) fun x _ => by cases x <;> rfl⟩
   have hle : (stE l s (eE E) i).next <= s.next + cnt (eE E) l.length := by
    have := mono i l.length (by omega);simp only [stE]; omega
   have cao : ∀ (op : Op) (d : D) (W : Wr) (R : List Nat), zqL P s.next (stE l s (eE E) i) op d W R -> zqL P s.next { stE l s (eE E) i with next := s.next + cnt (eE E) l.length } op d W R :=
    fun op d W R ⟨fop, args, f, caps, O, O', L, q1, q2, q3, q4, q5, q6, q6b, q7, q8, q9, q10⟩ => ⟨fop, args, f, caps, O, O', L, q1, by rw [opo]; exact q2, q3, q4, q5, q6, q6b, q7, q8, q9, fun nx hnx => by
     rw [List.map_congr_left fun x _ => opo x];exact q10 nx (Nat.le_trans hle hnx)⟩
   have c1x : ∀ (op : Op) (dst : Option Tmp) (d : D) (W : Wr) (cr : Option Nat) (R : List Nat), zqE P s.next (stE l s (eE E) i) op dst d W cr R -> zqE P s.next { stE l s (eE E) i with next := s.next + cnt (eE E) l.length } op dst d W cr R :=
    fun op dst d W cr R h => by
     rcases h with h | ⟨h, hc⟩ | ⟨fop, args, f, caps, O, e, nb, x0, q1, q2, q3, q4, q5, q6, q7, q8⟩
     ·left;unfold Op1 at h ⊢;simp only [eqo, ero, efo];exact h
     ·exact .inr (.inl ⟨cao _ _ _ _ h, hc⟩)
     ·exact .inr (.inr ⟨fop, args, f, caps, O, e, nb, x0, q1, by rw [opo]; exact q2, q3, q4, q5, q6, q7, fun nx hnx => by
       rw [List.map_congr_left fun x _ => opo x];exact q8 nx (Nat.le_trans hle hnx)⟩)
   by_cases k2 : (E i).2 = 2
   ·rw [if_pos k2];have := (List.all_eq_true.1 hok2) i (List.mem_range.2 hi);rw [Bool.and_eq_true, hlen4 i hi] at this;have h3 := this.1;simp only [k2] at h3;have h4 : ((List.range l.length).any fun p => ((tF4 E l.length).getD p ([], [], 0)).2.2 == 1 && zdX l l.length p i) = true := by simpa using h3
    obtain ⟨p, hp, h5⟩ := List.any_eq_true.1 h4;have hpl := List.mem_range.1 hp;rw [hlen4 p hpl, Bool.and_eq_true] at h5;exact ⟨p, by simp only [kd]; rw [if_pos hpl]; simpa using h5.1, hpl, h5.2⟩
   ·rw [if_neg k2] at g2 ⊢;by_cases k1 : (E i).2 = 1
    ·rw [if_pos k1] at g2 ⊢;refine ⟨g2.1, fun s' a1 a2 a3 a4 => g2.2.1 s' a1 a2 (fun x hx => by rw [a3 x hx, opo]) (Nat.le_trans hle a4)⟩
    ·rw [if_neg k1] at g2 ⊢;obtain ⟨_, g2⟩ := g2;unfold zru at g2 ⊢;split
     ·rename_i hg; rw [hg] at g2; exact c1x _ _ _ _ _ _ g2
     ·rename_i j want hg;rw [hg] at g2;obtain ⟨t, ht, g2⟩ := g2;refine ⟨t, ht, ?_⟩;rcases g2 with ⟨b, hb, g2⟩ | g2
      ·refine .inl ⟨b, hb, ?_⟩;split
       ·rename_i hbw; rw [if_pos hbw] at g2; exact c1x _ _ _ _ _ _ g2
       ·rename_i hbw; rw [if_neg hbw] at g2; exact g2
      ·exact .inr g2
  ·obtain ⟨s', h3, h4⟩ := hfin fun p hp => by
    obtain ⟨i, hi, rfl⟩ := List.mem_map.1 hp;have hil := List.mem_range.1 hi;have := hnk i hil;simp only [kd] at this;rw [if_pos hil] at this;exact this
   refine ⟨s', St.Eqo.trans (b := stE l s (eE E) l.length) ⟨rfl, fun x => ?_, rfl, fun x => ?_⟩ h3, h4⟩
   ·simp only [stW, stE];rw [zdY W (tW (eE E)) (fun _ => true) l.length fun j hj => hWe j hj]
   ·simp only [stW, stE];exact zbr (tT (eE E)) _ _ x l 0 s.env s.env rfl fun j o hj _ => by
     have := (lGE.1 hj).1;simp [this]
 ·exact this.elim
theorem zaM {P Γ s} {Q : Exit -> St -> Prop} {kt : Kt} {id : Nat} {l : List Oper} (hm : P.follows .mixedOrders = true) (hord : zgv l = true) (hn0 : Γ.n0 <= s.next)
  (h : ∀ (C : Fp4 -> Prop) (k : St -> Prop), (∀ fp, zp4 l fp = true -> C fp) -> (∀ s', zap P Γ Q kt .normal s' -> k s') -> match zbm l.toArray l with | some l' => HD4 P Γ s.next l' s [] C k | none => False) :
  V P Γ (.region id l.toArray true) s (zap P Γ Q kt) := fun K a w hin hs => by
 refine wp_region_any hm ?_;exact zpx (R0 := zap P Γ Q kt) hord hn0 h K a w hin hs
end Go.VL
namespace Go.VL
open Go
def ziW (ids : List Nat) (nx k : Nat) : Nat := match ids[k]? with | some x => x | none => nx + (k - ids.length)
theorem zoD {ids : List Nat} {nx : Nat} (hd : ids.Nodup) (hlt : ∀ x ∈ ids, x < nx) {a b : Nat} (h : ziW ids nx a = ziW ids nx b) : a = b := by
 unfold ziW at h;rcases ha : ids[a]? with _ | x <;> rcases hb : ids[b]? with _ | y <;> rw [ha, hb] at h <;> simp only at h
 ·have := List.getElem?_eq_none_iff.1 ha;have := List.getElem?_eq_none_iff.1 hb;omega
 ·have := hlt y (List.mem_of_getElem? hb);omega
 ·have := hlt x (List.mem_of_getElem? ha);omega
 ·obtain ⟨h1, h2⟩ := lGE.1 ha;obtain ⟨h3, h4⟩ := lGE.1 hb;rw [List.nodup_iff_pairwise_ne, List.pairwise_iff_getElem] at hd;rcases Nat.lt_trichotomy a b with hlt' | hlt' | hlt'
  ·exact absurd (h2.trans (h.trans h4.symm)) (hd a b h1 h3 hlt')
  ·exact hlt'
  ·exact absurd (h2.trans (h.trans h4.symm)).symm (hd b a h3 h1 hlt')
inductive KL (ids : List Nat) (nx : Nat) : List Nat -> List Nat -> Prop
 | nil : KL ids nx [] []
 | cons (k : Nat) {x l l0} (h : ziW ids nx k = x) (t : KL ids nx l l0) : KL ids nx (x :: l) (k :: l0)
theorem KL.map {ids nx l l0} (h : KL ids nx l l0) : l = l0.map (ziW ids nx) := by
 induction h with
 | nil => rfl
 | cons k h t ih => rw [List.map_cons, h, <- ih]
inductive KF (ids : List Nat) (nx : Nat) : Fp4 -> Fp4 -> Prop
 | nil : KF ids nx [] []
 | cons {a a0 b b0 k fp fp0} (h1 : KL ids nx a a0) (h2 : KL ids nx b b0) (h3 : KF ids nx fp fp0) : KF ids nx ((a, b, k) :: fp) ((a0, b0, k) :: fp0)
theorem KF.map {ids nx l l0} (h : KF ids nx l l0) : l = l0.map fun p => (p.1.map (ziW ids nx), p.2.1.map (ziW ids nx), p.2.2) := by
 induction h with
 | nil => rfl
 | cons h1 h2 _ ih => rw [List.map_cons, <- h1.map, <- h2.map, <- ih]
theorem znT {ρ : Nat -> Nat} (hρ : ∀ a b, ρ a = ρ b -> a = b) (a b : List Nat) : zl4 (a.map ρ) (b.map ρ) = zl4 a b := by
 unfold zl4;rw [List.all_map]
 congr 1
 funext y;simp only [Function.comp]
 congr 1
 rw [Bool.eq_iff_iff];simp only [List.contains_eq_mem, decide_eq_true_eq, List.mem_map];exact ⟨fun ⟨z, h1, h2⟩ => hρ _ _ h2 ▸ h1, fun h => ⟨y, h, rfl⟩⟩
theorem zbn {ops : List Oper} {fp : Fp4} (ids : List Nat) (nx : Nat) (hd : ids.Nodup) (hlt : ∀ x ∈ ids, x < nx) (h : ∃ fp0, KF ids nx fp fp0 /\ zp4 ops fp0 = true) : zp4 ops fp = true := by
 obtain ⟨fp0, hk, h⟩ := h;have hr := hk.map;subst hr;have hρ : ∀ a b, ziW ids nx a = ziW ids nx b -> a = b := fun a b => zoD hd hlt;have g4 : ∀ i, (fp0.map fun p => (p.1.map (ziW ids nx), p.2.1.map (ziW ids nx), p.2.2)).getD i ([], [], 0) = (((fp0.getD i ([], [], 0)).1.map (ziW ids nx), (fp0.getD i ([], [], 0)).2.1.map (ziW ids nx), (fp0.getD i ([], [], 0)).2.2)) := fun i => by
  simp only [List.getD_eq_getElem?_getD, List.getElem?_map];cases fp0[i]? <;> rfl
 have g2 : ∀ i, ((fp0.map fun p => (p.1.map (ziW ids nx), p.2.1.map (ziW ids nx), p.2.2)).map fun p => (p.1, p.2.1)).getD i ([], []) =
   ((((fp0.map fun p => (p.1, p.2.1)).getD i ([], [])).1.map (ziW ids nx), ((fp0.map fun p => (p.1, p.2.1)).getD i ([], [])).2.map (ziW ids nx))) := fun i => by
  simp only [List.getD_eq_getElem?_getD, List.getElem?_map];cases fp0[i]? <;> rfl
 unfold zp4 okP at h ⊢;simp only [g4, g2, <- List.map_append, znT hρ, List.isEmpty_map] at h ⊢;exact h
theorem zgY {P : Program} {Γ : Ctx} {N : Nat} {s : St} {dst : Option Tmp} {rest fp C k} {fop : Operand} {args : Array Operand} {ts : Array TypeId} {f caps} {ds : List D} {d : D} {j : Nat} {ob ob' : Ob}
  (hret : ∀ nx, s.next <= nx -> RetX P f ds [(j, ob)] nx fun r o n => r = .val d /\ o = [(j, ob')] /\ n = nx)
  (hj : getK s.obs j = some ob) (hf : zaw (opd s fop) = some (f, caps)) (hc : zal P f = true) (hds : args.toList.map (opd s) ++ caps = ds)
  (hu : d.under N = true /\ ob'.under N = true) (hp : zaC dst s)
  (h : HD4 P Γ N rest (({ s with obs := zau [(j, some ob')] s.obs } : St).put dst d) (fp ++ [([j], [j], 0)]) C k) :
  HD4 P Γ N (⟨dst, .call { callee := .value fop, args, argTypes := ts }, none⟩ :: rest) s fp C k :=
 zlb [(j, ob)] [(j, ob')] (fun nx hnx => (hret nx hnx).mono fun r o n ⟨h1, h2, h3⟩ => ⟨h1, fun y => by rw [h2], h3⟩) hf hc hds rfl (by simpa using hj) (by simp) ⟨hu.1, by simpa using hu.2⟩ hp h
theorem zfq {P : Program} {Γ : Ctx} {N : Nat} {s : St} {dst : Option Tmp} {rest fp C k} {fop : Operand} {args : Array Operand} {ts : Array TypeId} {f caps} {ds : List D} {j : Nat} {ob : Ob} {ch : List PanicEntry} {p : Ob -> Prop}
  (hret : ∀ nx, s.next <= nx -> RetX P f ds [(j, ob)] nx fun r o n => r = .pan ch /\ (∃ ob', p ob' /\ o = [(j, ob')]) /\ n = nx)
  (hj : getK s.obs j = some ob) (hf : zaw (opd s fop) = some (f, caps)) (hc : zal P f = true) (hds : args.toList.map (opd s) ++ caps = ds) (hp : zaC dst s)
  (hx : ∀ env ob' n, s.next <= n -> p ob' -> ∃ s2, Wk Γ { n := s.n, env := env, obs := del s.obs j ++ [(j, ob')], next := n } s2 /\ Γ.pan ch s2)
  (h : HD4 P Γ N rest (s.put dst .any) (fp ++ [([], [], 1)]) C k) :
  HD4 P Γ N (⟨dst, .call { callee := .value fop, args, argTypes := ts }, none⟩ :: rest) s fp C k := by
 have hfil : (s.obs.filter fun p => !(([(j, ob)] : List (Nat × Ob)).map (·.1)).contains p.1) = del s.obs j := by
  unfold del
  congr 1
  funext p;simp only [List.map_cons, List.map_nil, List.contains_cons, List.contains_nil, Bool.or_false]
 refine zk9 (post := fun r o _ => r = .pan ch /\ ∃ ob', p ob' /\ o = [(j, ob')]) [(j, ob)] (fun nx hnx => (hret nx hnx).mono fun r o n ⟨h1, h2, _⟩ => ⟨h1, h2⟩) (fun d o n h => by cases h.1) hf hc hds (by simpa using hj) hp (fun env ch' o n hn h => ?_) h;obtain ⟨h1, ob', h2, rfl⟩ := h;cases h1;rw [hfil];exact hx env ob' n hn h2
theorem zew {P Γ N s dst op g rest fp C k} (_ : (fp.any fun p => p.2.2 == 1) = true) (hp : zaC dst s) (h : HD4 P Γ N rest (s.put dst .any) (fp ++ [([], [], 2)]) C k) : HD4 P Γ N (⟨dst, op, g⟩ :: rest) s fp C k := zla hp h
theorem FinOK.cut {n0 : Nat} {post : D -> List (Nat × Ob) -> Nat -> Prop} {s : St} {d : D} (obs : List (Nat × Ob)) (N : Nat) (ho : ∀ p ∈ obs, getK s.obs p.1 = some p.2 /\ p.1 < N /\ p.2.under N = true) (hd : d.under N = true) (hn : n0 <= N)
  (h : post d obs N) : FinOK n0 post s d :=
 .inl ⟨{ s with env := [], obs := obs, next := N }, fun i => i, d, ⟨rfl, fun x d' hx => by simp [getK] at hx, fun x d' hx => by simp [getK] at hx,
  fun i ob hi => ⟨(ho _ (zeZ hi)).2.1, ob, (ho _ (zeZ hi)).1, Ob.le_id ob, (ho _ (zeZ hi)).2.2⟩, fun _ _ _ _ _ _ h => h, fun i hi => ⟨rfl, Nat.lt_of_lt_of_le hi hn⟩⟩, D.le_id d, hd, hn, h⟩
def zrN : D -> Bool
 | .vec .. => true
 | _ => false
theorem zaF {P : Program} {Γ : Ctx} {s : St} {k : St -> Prop} {dst : Option Tmp} {fop : Operand} {args : List Operand} (_ : (args.map (opd s)).any zrN = true) (h : CallP P Γ fop args dst (frzN 1 s) k) : CallP P Γ fop args dst s k :=
 ziB (Wk.frzN 1 _) h
end Go.VL
namespace Go.VL
open Go
def zbY {α : Type} (obs : List (Nat × α)) : List Nat -> List (Nat × α)
 | [] => obs
 | i :: l => zbY (del obs i) l
theorem zd9 {α : Type} : ∀ (l : List Nat) (obs : List (Nat × α)), zbY obs l = obs.filter fun p => !l.contains p.1
 | [], obs => by rw [zbY]; exact (List.filter_eq_self.2 (by simp)).symm
 | i :: l, obs => by
  rw [zbY, zd9 l, del, List.filter_filter]
  congr 1
  funext p;simp only [List.contains_cons];cases p.1 == i <;> cases l.contains p.1 <;> rfl
theorem zik {obs O : List (Nat × Ob)} (hO : ∀ p ∈ O, getK obs p.1 = some p.2) (i : Nat) : getK obs i = getK (zbY obs (O.map (·.1)) ++ O) i := by
 rw [zd9, zab, zb6];by_cases hy : (O.map (·.1)).contains i = true
 ·rw [if_pos hy];obtain ⟨x, hx⟩ := zcp (l := O) (y := i) (by simpa using hy);rw [hx, hO _ (zer hx)]
 ·rw [if_neg hy, zbu O i (by simpa using hy)];cases getK obs i <;> rfl
theorem zgO {obs O : List (Nat × Ob)} (i : Nat) (ob : Ob) (h : getK (zbY obs (O.map (·.1))) i = some ob) : getK O i = none := by
 rw [zd9, zb6] at h;by_cases hc : (O.map (·.1)).contains i = true
 ·rw [if_pos hc] at h; cases h
 ·exact zbu O i (by simpa using hc)
theorem CallP.okL {P : Program} {Γ : Ctx} {s : St} {k : St -> Prop} {dst : Option Tmp} {fop : Operand} {args : List Operand} {f caps} {ds : List D} {O O' : List (Nat × Ob)} {d : D} {N : Nat}
  (hret : RetX P f ds O s.next fun r o n => r = .val d /\ o = O' /\ n = N) (hO : ∀ p ∈ O, getK s.obs p.1 = some p.2)
  (hf : zaw (opd s fop) = some (f, caps)) (hds : args.map (opd s) ++ caps = ds)
  (hk : zal P f = true ∧ zaC dst s ∧ k (({ s with obs := zbY s.obs (O.map (·.1)) ++ O', next := N } : St).put dst d)) : CallP P Γ fop args dst s k :=
 CallP.xF (zbY s.obs (O.map (·.1))) O hret (zik hO) zgO hf hk.1 hds hk.2.1 (fun d' o1 nx' _ ⟨h1, h2, h3⟩ => by cases h1; subst h2; subst h3; exact hk.2.2) (fun ch o1 nx' _ ⟨h1, _⟩ => by cases h1)
theorem CallP.ziD {P : Program} {Γ : Ctx} {s : St} {k : St -> Prop} {dst : Option Tmp} {fop : Operand} {args : List Operand} {f caps} {ds : List D} {O O' : List (Nat × Ob)} {ch : List PanicEntry}
  (hret : RetX P f ds O s.next fun r o n => r = .pan ch /\ o = O' /\ n = s.next) (hO : ∀ p ∈ O, getK s.obs p.1 = some p.2)
  (hf : zaw (opd s fop) = some (f, caps)) (hc : zal P f = true) (hds : args.map (opd s) ++ caps = ds) (hp : zaC dst s)
  (hx : ∃ s2, Wk Γ { s with obs := zbY s.obs (O.map (·.1)) ++ O', next := s.next } s2 /\ Γ.pan ch s2) : CallP P Γ fop args dst s k :=
 CallP.xF (zbY s.obs (O.map (·.1))) O hret (zik hO) zgO hf hc hds hp (fun d' o1 nx' _ ⟨h1, _⟩ => by cases h1) (fun ch' o1 nx' _ ⟨h1, h2, h3⟩ => by cases h1; subst h2; subst h3; exact hx)
theorem ze3 {P : Program} {Γ : Ctx} {N : Nat} {s : St} {dst : Option Tmp} {rest fp C k} {fop : Operand} {args : Array Operand} {ts : Array TypeId} {f caps} {ds : List D} {d : D} {O O' : List (Nat × Ob)}
  (hret : ∀ nx, s.next <= nx -> RetX P f ds O nx fun r o n => r = .val d /\ o = O' /\ n = nx)
  (hO : ∀ p ∈ O, getK s.obs p.1 = some p.2) (hkeys : O'.map (·.1) = O.map (·.1)) (hnd : (O.map (·.1)).Nodup)
  (hf : zaw (opd s fop) = some (f, caps)) (hc : zal P f = true) (hds : args.toList.map (opd s) ++ caps = ds)
  (hu : d.under N = true /\ ∀ p ∈ O', p.2.under N = true) (hp : zaC dst s)
  (h : HD4 P Γ N rest (({ s with obs := zau (O'.map fun p => (p.1, some p.2)) s.obs } : St).put dst d) (fp ++ [(O.map (·.1), O'.map (·.1), 0)]) C k) :
  HD4 P Γ N (⟨dst, .call { callee := .value fop, args, argTypes := ts }, none⟩ :: rest) s fp C k :=
 zlb O O' (fun nx hnx => (hret nx hnx).mono fun r o n ⟨h1, h2, h3⟩ => ⟨h1, fun y => by rw [h2], h3⟩) hf hc hds hkeys hO hnd hu hp h
theorem zgX {P : Program} {Γ : Ctx} {N : Nat} {s : St} {dst : Option Tmp} {rest fp C k} {fop : Operand} {args : Array Operand} {ts : Array TypeId} {f caps} {ds : List D} {d : D} {j : Nat} {ob ob' : Ob} {F : List (Nat × Ob)}
  (hret : ∀ nx, s.next <= nx -> RetX P f ds ((j, ob) :: F) nx fun r o n => r = .val d /\ (∀ y, getK o y = getK ((j, ob') :: F) y) /\ n = nx)
  (hO : ∀ p ∈ (j, ob) :: F, getK s.obs p.1 = some p.2) (hnd : (((j, ob) :: F).map (·.1)).Nodup)
  (hf : zaw (opd s fop) = some (f, caps)) (hc : zal P f = true) (hds : args.toList.map (opd s) ++ caps = ds)
  (hu : d.under N = true /\ ∀ p ∈ (j, ob') :: F, p.2.under N = true) (hp : zaC dst s)
  (h : HD4 P Γ N rest (({ s with obs := zau [(j, some ob')] s.obs } : St).put dst d) (fp ++ [(j :: F.map (·.1), [j], 0)]) C k) :
  HD4 P Γ N (⟨dst, .call { callee := .value fop, args, argTypes := ts }, none⟩ :: rest) s fp C k := by
 have hj : ∀ p ∈ F, ¬ p.1 = j := fun p hp e => by
  rw [List.map_cons, List.nodup_cons] at hnd;exact hnd.1 (List.mem_map.2 ⟨p, hp, e⟩)
 have hfl : (((j, ob') :: F).filter fun p => [j].contains p.1) = [(j, ob')] := by
  rw [List.filter_cons, if_pos (by simp)]
  congr 1
  refine List.filter_eq_nil_iff.2 fun p hp => ?_;have := hj p hp;simp only [List.contains_cons, List.contains_nil, Bool.or_false, beq_iff_eq];exact this
 refine zgZ ((j, ob) :: F) ((j, ob') :: F) [j] hret hf hc hds rfl (fun y hy => ?_) hO hnd hu hp ?_
 ·have : ¬ y = j := fun e => by subst e; simp at hy
  rw [zaa, zaa, if_neg this, if_neg this]
 ·rw [hfl];exact h
theorem zqG {P : Program} {Γ : Ctx} {N : Nat} {s : St} {dst : Option Tmp} {rest fp C k} {fop : Operand} {args : Array Operand} {ts : Array TypeId} {f caps} {ds : List D} {d : D} {O : List (Nat × Ob)}
  (hret : ∀ nx, s.next <= nx -> RetX P f ds O nx fun r o n => r = .val d /\ o = O /\ n = nx)
  (hO : ∀ p ∈ O, getK s.obs p.1 = some p.2) (hnd : (O.map (·.1)).Nodup)
  (hf : zaw (opd s fop) = some (f, caps)) (hc : zal P f = true) (hds : args.toList.map (opd s) ++ caps = ds)
  (hu : d.under N = true /\ ∀ p ∈ O, p.2.under N = true) (hp : zaC dst s)
  (h : HD4 P Γ N rest (s.put dst d) (fp ++ [(O.map (·.1), [], 0)]) C k) :
  HD4 P Γ N (⟨dst, .call { callee := .value fop, args, argTypes := ts }, none⟩ :: rest) s fp C k := by
 refine zgZ O O [] (fun nx hnx => (hret nx hnx).mono fun r o n ⟨h1, h2, h3⟩ => ⟨h1, fun y => by rw [h2], h3⟩) hf hc hds rfl (fun y hy => rfl) hO hnd hu hp ?_;have hfl : (O.filter fun p => ([] : List Nat).contains p.1) = [] := List.filter_eq_nil_iff.2 fun p hp => by simp
 rw [hfl];exact h
theorem zqH {P : Program} {Γ : Ctx} {N : Nat} {s : St} {dst : Option Tmp} {rest fp C k} {fop : Operand} {args : Array Operand} {ts : Array TypeId} {f caps} {ds : List D} {d : D} {O : List (Nat × Ob)}
  (hret : ∀ nx, s.next <= nx -> RetX P f ds O nx fun r o n => r = .val d /\ o = [] /\ n = nx)
  (hO : ∀ p ∈ O, getK s.obs p.1 = some p.2) (hnd : (O.map (·.1)).Nodup)
  (hf : zaw (opd s fop) = some (f, caps)) (hc : zal P f = true) (hds : args.toList.map (opd s) ++ caps = ds)
  (hu : d.under N = true) (hp : zaC dst s)
  (h : HD4 P Γ N rest (({ s with obs := zau (O.map fun p => (p.1, none)) s.obs } : St).put dst d) (fp ++ [(O.map (·.1), O.map (·.1), 0)]) C k) :
  HD4 P Γ N (⟨dst, .call { callee := .value fop, args, argTypes := ts }, none⟩ :: rest) s fp C k :=
 zoe O (fun nx hnx => (hret nx hnx).mono fun r o n ⟨h1, h2, h3⟩ => ⟨h1, fun y => by rw [h2]; rfl, h3⟩) hf hc hds hO hnd hu hp h
theorem zgb {P : Program} {Γ : Ctx} {N : Nat} {s : St} {dst : Option Tmp} {rest fp C k} {fop : Operand} {args : Array Operand} {ts : Array TypeId} {f caps} {ds : List D} {O O' : List (Nat × Ob)} {ch : List PanicEntry}
  (hret : ∀ nx, s.next <= nx -> RetX P f ds O nx fun r o n => r = .pan ch /\ o = O' /\ n = nx)
  (hO : ∀ p ∈ O, getK s.obs p.1 = some p.2)
  (hf : zaw (opd s fop) = some (f, caps)) (hc : zal P f = true) (hds : args.toList.map (opd s) ++ caps = ds) (hp : zaC dst s)
  (hx : ∀ env n, s.next <= n -> ∃ s2, Wk Γ { n := s.n, env := env, obs := zbY s.obs (O.map (·.1)) ++ O', next := n } s2 /\ Γ.pan ch s2)
  (h : HD4 P Γ N rest (s.put dst .any) (fp ++ [([], [], 1)]) C k) :
  HD4 P Γ N (⟨dst, .call { callee := .value fop, args, argTypes := ts }, none⟩ :: rest) s fp C k := by
 refine zk9 (post := fun r o _ => r = .pan ch /\ o = O') O (fun nx hnx => (hret nx hnx).mono fun r o n ⟨h1, h2, _⟩ => ⟨h1, h2⟩) (fun d o n h => by cases h.1) hf hc hds hO hp (fun env ch' o n hn h => ?_) h;obtain ⟨h1, rfl⟩ := h;cases h1;rw [<- zd9];exact hx env n hn
theorem zjK {P Γ N s dst c g rest fp C k} (_ : (fp.any fun p => p.2.2 == 1) = true) (hp : zaC dst s) (h : HD4 P Γ N rest (s.put dst .any) (fp ++ [([], [], 2)]) C k) : HD4 P Γ N (⟨dst, .call c, g⟩ :: rest) s fp C k := zla hp h
theorem LeaveD.of {P : Program} {Γb : Ctx} {fn : Func} {post : Out -> List (Nat × Ob) -> Nat -> Prop} {g : FuncId} {caps : List D} {u : FrameMode} {s : St} (O : List (Nat × Ob)) {O' : List (Nat × Ob)} (hO : ∀ p ∈ O, getK s.obs p.1 = some p.2)
  (h : RetDf P g caps O s.next u fun u' o n => settle u' = .returning /\ n = s.next /\ o = O') (hk : EndW P Γb fn Γb.n0 (fun d o n => post (.val d) o n) .ret { s with obs := zbY s.obs (O.map (·.1)) ++ O', next := s.next }) :
  LeaveD P Γb fn post g caps u s :=
 ((h.frame (zbY s.obs (O.map (·.1))) zgO).congr (zik hO)).mono fun u' o n ⟨o1, ho, hs, hn, ho1⟩ => ⟨hs, by subst ho; subst ho1; subst hn; exact hk⟩
theorem nef {i nx : Nat} (h : i < nx) : ¬ i = nx /\ ¬ nx = i /\ (∀ k, ¬ i = nx + k) /\ ∀ k, ¬ nx + k = i := ⟨by omega, by omega, fun k => by omega, fun k => by omega⟩
end Go.VL
namespace Go.VL
open Go
open Go.ChangeShapes Go.WideShapes Go.ChangeAt Go.WideMaps Go.WideElems Go.RowKit
theorem zoY {H : Type} {enc : TypeId × Value -> H} {C : Checked} {os : Os} {f : FuncId} {fn : Func} {s : ChangeSpec} {conds : List PathCond} {apart fresh handsOn again : Bool} {tb : TypeId} {laid : List (String × DataW Unit)}
  (own : ownKnob C.prog.godebug = none) (started : os.Started) (noInit : C.prog.inits.idxOf? f = none) (hfn : C.prog.funcs[f]? = some fn)
  (witness : ∃ (w : World) (tape : Tape) (i : Input), w.os = os /\ (w.forCall tape i).Shaped C.prog /\ i.vars = [] /\ Input.okWide C.prog (w.forCall tape i) .any w.heap.size f i /\
    ((s.pre enc C.prog fn conds apart (w.forCall tape i).memory i.args /\ laidMetH C.prog laid (w.forCall tape i).memory) /\ sizedMet enc C.prog fn (OpenSpec.ofChange s) apart (w.forCall tape i).memory i.args) /\ (({} : Assume)).holds C.prog (lone (Frame.enter C.prog f i.args .normal) [] (w.forCall tape i)))
  (hl : laidOutB C.prog = true) (hseq : zhn C.prog = true) (hpar : (fn.params.toList.all fun t => C.prog.readableRec t && decide (t < C.prog.types.size)) = true)
  (hvars : s.vars = []) (hspec : ∀ ds : List (DataW H), ds.length = fn.params.size -> s.fn H ds = { results := [.lit (.bool true)], args := ds })
  (hres : fn.resultTypes = #[tb]) (htb : C.prog.underlying tb = some .bool)
  (hfun : ∀ us : List U, zpE C.prog fn.params.toList us -> Fun C.prog f (us.map .u) (· = .u (.bool true))) (hglob : ∀ W : World, laidMetH C.prog laid W -> GlobIn (ziI W)) :
  ReturnsInHanded {} C os f .any (fun w args => (s.pre enc C.prog fn conds apart w args /\ laidMetH C.prog laid w) /\ sizedMet enc C.prog fn (OpenSpec.ofChange s) apart w args) (s.post enc C.prog fn apart fresh handsOn again) := by
 refine returnsInHanded_of_change_and (X := fun w _ => laidMetH C.prog laid w) (fun _ _ _ hh h => h.of_heap hh) own started noInit hfn witness ?_;intro W base args ds gs before hval hW _ _ hL _;have hpar' : ∀ t ∈ fn.params.toList, C.prog.readableRec t = true /\ t < C.prog.types.size := by
  intro t ht;have := List.all_eq_true.1 hpar t ht;simpa using this
 have hW' := hW;obtain ⟨p, q, hA, hV, rfl, hfz, hnd⟩ := hW;rw [hvars] at hV;obtain ⟨rfl, rfl⟩ := trodVars_none hV;have hlt : ∀ x ∈ p, x.block < W.heap.size := fun x hx => hW'.lt x (by simp [hx]);obtain ⟨us, h1, h2, _⟩ := zk5 hseq hA (fun t ht => (hpar' t ht).2) (fun j t v ht hv => hval j t v (by simpa using ht) (by simpa using hv));refine (zjD (hfun us h1) (hglob W hL) h2).mono ?_;rintro e W' ⟨rfl, hb⟩;have hdl : ds.length = fn.params.size := by
  have : ∀ {ts : List TypeId} {vs : List Value} {ds : List (DataW H)} {p : List MemPlace}, DataW.TrodAll enc C.prog W 0 (fun _ => true) true ts vs ds p -> ds.length = ts.length := by
   intro ts
   induction ts with
   | nil => intro vs ds p h; cases vs <;> cases ds <;> simp_all [DataW.TrodAll]
   | cons t ts ih =>
    intro vs ds p h;cases vs <;> cases ds <;> simp only [DataW.TrodAll] at h;obtain ⟨p, q, _, h2, _⟩ := h;simp [ih h2]
  simpa using this hA
 have hs := hspec ds hdl;refine ⟨_, rfl, zlv (pa := p) (pv := []) hW' (fun b sp hd => ?_) (fun sp hsp => ?_) (fun sp _ => ?_) rfl hb (fun j t r ht hr => ?_)⟩
 ·rw [List.append_nil, hs, hres];exact trodAll_mk1 ⟨1, by simp [DataW.trod, Value.cells, htb]⟩
 ·rw [List.append_nil, hs];exact ze7 hl hb hpar' hA hlt fun x hx => hsp x (by simp [hx])
 ·rw [List.append_nil, hs, hvars]
  try rfl
 ·rw [hres] at ht hr;cases j with
  | zero =>
   simp at ht;subst ht;simp [Value.resultList] at hr;subst hr;simp [Value.okWide, htb, Cell.okWide, Cell.ok]
  | succ j => simp at ht
theorem zit {P : Program} {w : World} {n : String} {g : Nat} {t e : TypeId} {cs : Array Value} {L : List (List UInt8)} {fuel : Nat} {H : Type} {enc : TypeId × Value -> H} {base : Nat} {spare : Nat -> Bool} {held : Bool} {q : List MemPlace}
  (hg : P.globalNamed n = some g) (hv : w.var? P n = some cs) (ht : P.underlying t = some (.array L.length e)) (he : P.underlying e = some .string) (hc : P.cellsOf e = 1)
  (hd : DataW.trod enc P w base spare held fuel t cs.toList = some (.agg (L.map fun b => .lit (.string b)), q)) : ∀ (j : Nat) (b : List UInt8), L[j]? = some b -> w.cell? ⟨g, j, none⟩ = some (.string ⟨b.toArray⟩) := by
 intro j b hj;obtain ⟨xs, m1, rfl, hx1, hlen, hn3, hel⟩ := DataW.trod_array ht hd;have hjl := (lGE.1 hj).1;have h := hel j hjl;rw [hc, Nat.mul_one] at h;simp only [Prod.mk.injEq, DataW.agg.injEq] at hx1;obtain ⟨x, hx⟩ : ∃ x, xs[j]? = some x := ⟨_, List.getElem?_eq_getElem (by omega)⟩;rw [hx] at h;obtain ⟨s, h1, h2, _⟩ := DataW.trod_string he h;have h3 : (L.map fun b => (DataW.lit (.string b) : DataW H))[j]? = (xs.map (·.1))[j]? := by rw [hx1.1]
 rw [List.getElem?_map, List.getElem?_map, hj, hx, h2] at h3;simp only [Option.map_some, Option.some.injEq, DataW.lit.injEq, Lit.string.injEq] at h3;have h4 : (cs.toList.drop j)[0]? = some (.string s) := by
  have : ((cs.toList.drop j).take 1)[0]? = some (.string s) := by rw [h1]; rfl
  simpa [List.getElem?_take] using this
 rw [List.getElem?_drop, Nat.add_zero] at h4;rw [World.var?_cell hg hv j];rw [Array.getElem?_toList] at h4;rw [h4, h3]
end Go.VL
namespace Go.Proofs.YtepiegcjnaohjaaGreatDoor
open Go Go.VL
@[simp] theorem ld3 : zeP Tryz.prog 3 = some none := by kernel_rfl
@[simp] theorem ts3 : tsz Tryz.prog 3 = some 1 := by kernel_rfl
@[simp] theorem na3 : zfc Tryz.prog 3 = true := by kernel_rfl
@[simp] theorem sf3 : stT Tryz.prog 3 = none := by kernel_rfl
@[simp] theorem io3 : zjh Tryz.prog 3 = some .i64 := by kernel_rfl
@[simp] theorem zc3 : zdG Tryz.prog 3 = some [.int .i64 0] := by kernel_rfl
@[simp] theorem sl3 : zog Tryz.prog 3 = false := by kernel_rfl
@[simp] theorem ld4 : zeP Tryz.prog 4 = some none := by kernel_rfl
@[simp] theorem ts4 : tsz Tryz.prog 4 = some 1 := by kernel_rfl
@[simp] theorem sl4 : zog Tryz.prog 4 = false := by kernel_rfl
@[simp] theorem ld9 : zeP Tryz.prog 9 = some none := by kernel_rfl
@[simp] theorem ts9 : tsz Tryz.prog 9 = some 1 := by kernel_rfl
@[simp] theorem na9 : zfc Tryz.prog 9 = true := by kernel_rfl
@[simp] theorem st9 : zid Tryz.prog 9 = true := by kernel_rfl
@[simp] theorem zc9 : zdG Tryz.prog 9 = some [.string ⟨#[]⟩] := by kernel_rfl
@[simp] theorem sl9 : zog Tryz.prog 9 = false := by kernel_rfl
@[simp] theorem zwY : zkd Tryz.prog 20 = true := by kernel_rfl
@[simp] theorem zwl : zeP Tryz.prog 26 = some none := by kernel_rfl
@[simp] theorem zv7 : tsz Tryz.prog 26 = some 1 := by kernel_rfl
@[simp] theorem zwa : zfc Tryz.prog 26 = true := by kernel_rfl
@[simp] theorem zv8 : zog Tryz.prog 26 = true := by kernel_rfl
@[simp] theorem zwq : zhD Tryz.prog 26 = some (3, 1) := by kernel_rfl
@[simp] theorem zww : zei Tryz.prog 26 = some (3, 1, 8, [.int .i64 0]) := by kernel_rfl
@[simp] theorem zwk : zeP Tryz.prog 34 = some none := by kernel_rfl
@[simp] theorem zv6 : tsz Tryz.prog 34 = some 1 := by kernel_rfl
@[simp] theorem zvY : zdG Tryz.prog 34 = some [.int .i64 0] := by kernel_rfl
@[simp] theorem zwp : zhD Tryz.prog 47 = some (49, 4) := by kernel_rfl
@[simp] theorem zwv : zei Tryz.prog 47 = some (49, 4, 32, [.int .i64 0, .int .i64 0, .bool false, .int .i64 0]) := by kernel_rfl
@[simp] theorem zwj : zeP Tryz.prog 49 = some (some 4) := by kernel_rfl
@[simp] theorem zv5 : tsz Tryz.prog 49 = some 4 := by kernel_rfl
@[simp] theorem zvX : zdG Tryz.prog 49 = some [.int .i64 0, .int .i64 0, .bool false, .int .i64 0] := by kernel_rfl
@[simp] theorem ztm : zaT Tryz.prog 49 1 = some (1, 1, none) := by kernel_rfl
@[simp] theorem ztl : zaT Tryz.prog 49 2 = some (2, 1, none) := by kernel_rfl
@[simp] theorem ztk : zaT Tryz.prog 49 3 = some (3, 1, none) := by kernel_rfl
@[simp] theorem zvR : zp Tryz.prog 49 = some ([.int .i64 0, .int .i64 0, .bool false, .int .i64 0], [(0, 1), (1, 1), (2, 1), (3, 1)]) := by kernel_rfl
@[simp] theorem zwi : zeP Tryz.prog 52 = some none := by kernel_rfl
@[simp] theorem zv4 : tsz Tryz.prog 52 = some 1 := by kernel_rfl
@[simp] theorem zv9 : zfc Tryz.prog 52 = true := by kernel_rfl
@[simp] theorem zua : zhD Tryz.prog 52 = some (137, 6) := by kernel_rfl
@[simp] theorem zwu : zei Tryz.prog 52 = some (137, 6, 80, [.string ⟨#[]⟩, .int .i64 0, .int .i64 0, .int .i64 0, .string ⟨#[]⟩, .slice none 0 0]) := by kernel_rfl
@[simp] theorem zwh : zeP Tryz.prog 53 = some none := by kernel_rfl
@[simp] theorem zt9 : zhD Tryz.prog 53 = some (55, 5) := by kernel_rfl
@[simp] theorem zwt : zei Tryz.prog 53 = some (55, 5, 64, [.int .i64 0, .int .i64 0, .int .i64 0, .string ⟨#[]⟩, .slice none 0 0]) := by kernel_rfl
@[simp] theorem zwg : zeP Tryz.prog 55 = some (some 5) := by kernel_rfl
@[simp] theorem zv3 : tsz Tryz.prog 55 = some 5 := by kernel_rfl
@[simp] theorem ztP : stT Tryz.prog 55 = some [3, 3, 3, 9, 53] := by kernel_rfl
@[simp] theorem zvW : zdG Tryz.prog 55 = some [.int .i64 0, .int .i64 0, .int .i64 0, .string ⟨#[]⟩, .slice none 0 0] := by kernel_rfl
@[simp] theorem ztj : zaT Tryz.prog 55 0 = some (0, 1, none) := by kernel_rfl
@[simp] theorem zti : zaT Tryz.prog 55 1 = some (1, 1, none) := by kernel_rfl
@[simp] theorem zth : zaT Tryz.prog 55 2 = some (2, 1, none) := by kernel_rfl
@[simp] theorem ztg : zaT Tryz.prog 55 3 = some (3, 1, none) := by kernel_rfl
@[simp] theorem ztf : zaT Tryz.prog 55 4 = some (4, 1, none) := by kernel_rfl
@[simp] theorem zvQ : zp Tryz.prog 55 = some ([.int .i64 0, .int .i64 0, .int .i64 0, .string ⟨#[]⟩, .slice none 0 0], [(0, 1), (1, 1), (2, 1), (3, 1), (4, 1)]) := by kernel_rfl
@[simp] theorem zwf : zeP Tryz.prog 57 = some (some 37) := by kernel_rfl
@[simp] theorem zv2 : tsz Tryz.prog 57 = some 37 := by kernel_rfl
@[simp] theorem zsH : stT Tryz.prog 57 = some [3, 3, 3, 3, 3, 3, 4, 3, 3, 3, 3, 52, 55, 55, 55, 55, 55] := by kernel_rfl
@[simp] theorem zvV : zdG Tryz.prog 57 = some [.int .i64 0, .int .i64 0, .int .i64 0, .int .i64 0, .int .i64 0, .int .i64 0, .bool false, .int .i64 0, .int .i64 0, .int .i64 0, .int .i64 0, .slice none 0 0, .int .i64 0, .int .i64 0, .int .i64 0, .string ⟨#[]⟩, .slice none 0 0, .int .i64 0, .int .i64 0, .int .i64 0, .string ⟨#[]⟩, .slice none 0 0, .int .i64 0, .int .i64 0, .int .i64 0, .string ⟨#[]⟩, .slice none 0 0, .int .i64 0, .int .i64 0, .int .i64 0, .string ⟨#[]⟩, .slice none 0 0, .int .i64 0, .int .i64 0, .int .i64 0, .string ⟨#[]⟩, .slice none 0 0] := by kernel_rfl
@[simp] theorem zte : zaT Tryz.prog 57 0 = some (0, 1, none) := by kernel_rfl
@[simp] theorem ztd : zaT Tryz.prog 57 1 = some (1, 1, none) := by kernel_rfl
@[simp] theorem ztc : zaT Tryz.prog 57 2 = some (2, 1, none) := by kernel_rfl
@[simp] theorem ztb : zaT Tryz.prog 57 3 = some (3, 1, none) := by kernel_rfl
@[simp] theorem zta : zaT Tryz.prog 57 4 = some (4, 1, none) := by kernel_rfl
@[simp] theorem zs9 : zaT Tryz.prog 57 5 = some (5, 1, none) := by kernel_rfl
@[simp] theorem zs8 : zaT Tryz.prog 57 6 = some (6, 1, none) := by kernel_rfl
@[simp] theorem zs7 : zaT Tryz.prog 57 7 = some (7, 1, none) := by kernel_rfl
@[simp] theorem zs6 : zaT Tryz.prog 57 8 = some (8, 1, none) := by kernel_rfl
@[simp] theorem zs5 : zaT Tryz.prog 57 9 = some (9, 1, none) := by kernel_rfl
@[simp] theorem zr0 : zaT Tryz.prog 57 10 = some (10, 1, none) := by kernel_rfl
@[simp] theorem zrZ : zaT Tryz.prog 57 11 = some (11, 1, none) := by kernel_rfl
@[simp] theorem zrY : zaT Tryz.prog 57 12 = some (12, 5, some 5) := by kernel_rfl
@[simp] theorem zrX : zaT Tryz.prog 57 13 = some (17, 5, some 5) := by kernel_rfl
@[simp] theorem zrW : zaT Tryz.prog 57 14 = some (22, 5, some 5) := by kernel_rfl
@[simp] theorem zrV : zaT Tryz.prog 57 15 = some (27, 5, some 5) := by kernel_rfl
@[simp] theorem zrU : zaT Tryz.prog 57 16 = some (32, 5, some 5) := by kernel_rfl
@[simp] theorem zvP : zp Tryz.prog 57 = some ([.int .i64 0, .int .i64 0, .int .i64 0, .int .i64 0, .int .i64 0, .int .i64 0, .bool false, .int .i64 0, .int .i64 0, .int .i64 0, .int .i64 0, .slice none 0 0, .int .i64 0, .int .i64 0, .int .i64 0, .string ⟨#[]⟩, .slice none 0 0, .int .i64 0, .int .i64 0, .int .i64 0, .string ⟨#[]⟩, .slice none 0 0, .int .i64 0, .int .i64 0, .int .i64 0, .string ⟨#[]⟩, .slice none 0 0, .int .i64 0, .int .i64 0, .int .i64 0, .string ⟨#[]⟩, .slice none 0 0, .int .i64 0, .int .i64 0, .int .i64 0, .string ⟨#[]⟩, .slice none 0 0], [(0, 1), (1, 1), (2, 1), (3, 1), (4, 1), (5, 1), (6, 1), (7, 1), (8, 1), (9, 1), (10, 1), (11, 1), (12, 5), (17, 5), (22, 5), (27, 5), (32, 5)]) := by kernel_rfl
@[simp] theorem zwo : zhD Tryz.prog 68 = some (9, 1) := by kernel_rfl
@[simp] theorem zws : zei Tryz.prog 68 = some (9, 1, 16, [.string ⟨#[]⟩]) := by kernel_rfl
@[simp] theorem zwn : zhD Tryz.prog 70 = some (73, 3) := by kernel_rfl
@[simp] theorem zwr : zei Tryz.prog 70 = some (73, 3, 32, [.string ⟨#[]⟩, .int .i64 0, .int .i64 0]) := by kernel_rfl
@[simp] theorem zwe : zeP Tryz.prog 73 = some (some 3) := by kernel_rfl
@[simp] theorem zv1 : tsz Tryz.prog 73 = some 3 := by kernel_rfl
@[simp] theorem zvU : zdG Tryz.prog 73 = some [.string ⟨#[]⟩, .int .i64 0, .int .i64 0] := by kernel_rfl
@[simp] theorem zs4 : zaT Tryz.prog 73 0 = some (0, 1, none) := by kernel_rfl
@[simp] theorem zs3 : zaT Tryz.prog 73 1 = some (1, 1, none) := by kernel_rfl
@[simp] theorem zs2 : zaT Tryz.prog 73 2 = some (2, 1, none) := by kernel_rfl
@[simp] theorem zvO : zp Tryz.prog 73 = some ([.string ⟨#[]⟩, .int .i64 0, .int .i64 0], [(0, 1), (1, 1), (2, 1)]) := by kernel_rfl
@[simp] theorem zwd : zeP Tryz.prog 82 = some none := by kernel_rfl
@[simp] theorem zwm : zhD Tryz.prog 82 = some (279, 3) := by kernel_rfl
@[simp] theorem zwc : zeP Tryz.prog 84 = some (some 13) := by kernel_rfl
@[simp] theorem zv0 : tsz Tryz.prog 84 = some 13 := by kernel_rfl
@[simp] theorem zvT : zdG Tryz.prog 84 = some [.int .i64 0, .int .i64 0, .int .i64 0, .slice none 0 0, .int .i64 0, .int .i64 0, .int .i64 0, .int .i64 0, .int .i64 0, .int .i64 0, .slice none 0 0, .slice none 0 0, .string ⟨#[]⟩] := by kernel_rfl
@[simp] theorem zs1 : zaT Tryz.prog 84 0 = some (0, 1, none) := by kernel_rfl
@[simp] theorem zs0 : zaT Tryz.prog 84 1 = some (1, 1, none) := by kernel_rfl
@[simp] theorem zsZ : zaT Tryz.prog 84 2 = some (2, 1, none) := by kernel_rfl
@[simp] theorem zsY : zaT Tryz.prog 84 3 = some (3, 1, none) := by kernel_rfl
@[simp] theorem zsX : zaT Tryz.prog 84 4 = some (4, 1, none) := by kernel_rfl
@[simp] theorem zsW : zaT Tryz.prog 84 5 = some (5, 1, none) := by kernel_rfl
@[simp] theorem zsV : zaT Tryz.prog 84 6 = some (6, 1, none) := by kernel_rfl
@[simp] theorem zsU : zaT Tryz.prog 84 7 = some (7, 1, none) := by kernel_rfl
@[simp] theorem zsT : zaT Tryz.prog 84 8 = some (8, 1, none) := by kernel_rfl
@[simp] theorem zsS : zaT Tryz.prog 84 9 = some (9, 1, none) := by kernel_rfl
@[simp] theorem zrT : zaT Tryz.prog 84 10 = some (10, 1, none) := by kernel_rfl
@[simp] theorem zrS : zaT Tryz.prog 84 11 = some (11, 1, none) := by kernel_rfl
@[simp] theorem zrR : zaT Tryz.prog 84 12 = some (12, 1, none) := by kernel_rfl
@[simp] theorem zvN : zp Tryz.prog 84 = some ([.int .i64 0, .int .i64 0, .int .i64 0, .slice none 0 0, .int .i64 0, .int .i64 0, .int .i64 0, .int .i64 0, .int .i64 0, .int .i64 0, .slice none 0 0, .slice none 0 0, .string ⟨#[]⟩], [(0, 1), (1, 1), (2, 1), (3, 1), (4, 1), (5, 1), (6, 1), (7, 1), (8, 1), (9, 1), (10, 1), (11, 1), (12, 1)]) := by kernel_rfl
@[simp] theorem zwb : zeP Tryz.prog 89 = some (some 12) := by kernel_rfl
@[simp] theorem zvZ : tsz Tryz.prog 89 = some 12 := by kernel_rfl
@[simp] theorem zvS : zdG Tryz.prog 89 = some [.int .i64 0, .int .i64 0, .int .i64 0, .int .i64 0, .int .i64 0, .int .i64 0, .int .i64 0, .slice none 0 0, .slice none 0 0, .int .i64 0, .int .i64 0, .int .i64 0] := by kernel_rfl
@[simp] theorem zsR : zaT Tryz.prog 89 0 = some (0, 1, none) := by kernel_rfl
@[simp] theorem zsQ : zaT Tryz.prog 89 2 = some (2, 1, none) := by kernel_rfl
@[simp] theorem zsP : zaT Tryz.prog 89 3 = some (3, 1, none) := by kernel_rfl
@[simp] theorem zsO : zaT Tryz.prog 89 6 = some (6, 1, none) := by kernel_rfl
@[simp] theorem zsN : zaT Tryz.prog 89 7 = some (7, 1, none) := by kernel_rfl
@[simp] theorem zsM : zaT Tryz.prog 89 8 = some (8, 1, none) := by kernel_rfl
@[simp] theorem zsL : zaT Tryz.prog 89 9 = some (9, 1, none) := by kernel_rfl
@[simp] theorem zrQ : zaT Tryz.prog 89 10 = some (10, 1, none) := by kernel_rfl
@[simp] theorem zrP : zaT Tryz.prog 89 11 = some (11, 1, none) := by kernel_rfl
@[simp] theorem zvM : zp Tryz.prog 89 = some ([.int .i64 0, .int .i64 0, .int .i64 0, .int .i64 0, .int .i64 0, .int .i64 0, .int .i64 0, .slice none 0 0, .slice none 0 0, .int .i64 0, .int .i64 0, .int .i64 0], [(0, 1), (1, 1), (2, 1), (3, 1), (4, 1), (5, 1), (6, 1), (7, 1), (8, 1), (9, 1), (10, 1), (11, 1)]) := by kernel_rfl
@[simp] theorem zt8 : zeP Tryz.prog 114 = some none := by kernel_rfl
@[simp] theorem zt7 : zeP Tryz.prog 137 = some (some 6) := by kernel_rfl
@[simp] theorem ztO : tsz Tryz.prog 137 = some 6 := by kernel_rfl
@[simp] theorem zrI : stT Tryz.prog 137 = some [9, 55] := by kernel_rfl
@[simp] theorem ztH : zdG Tryz.prog 137 = some [.string ⟨#[]⟩, .int .i64 0, .int .i64 0, .int .i64 0, .string ⟨#[]⟩, .slice none 0 0] := by kernel_rfl
@[simp] theorem zsp : zaT Tryz.prog 137 0 = some (0, 1, none) := by kernel_rfl
@[simp] theorem zso : zaT Tryz.prog 137 1 = some (1, 5, some 5) := by kernel_rfl
@[simp] theorem ztA : zp Tryz.prog 137 = some ([.string ⟨#[]⟩, .int .i64 0, .int .i64 0, .int .i64 0, .string ⟨#[]⟩, .slice none 0 0], [(0, 1), (1, 5)]) := by kernel_rfl
@[simp] theorem ztV : zdq Tryz.prog 157 = some (.s, true, [.int .i64 0, .int .i64 0, .int .i64 0, .str [], .nil]) := by kernel_rfl
@[simp] theorem zt6 : zeP Tryz.prog 182 = some none := by kernel_rfl
@[simp] theorem zud : zhD Tryz.prog 182 = some (201, 4) := by kernel_rfl
@[simp] theorem zug : zei Tryz.prog 182 = some (201, 4, 40, [.int .i64 0, .string ⟨#[]⟩, .int .i64 0, .int .i64 0]) := by kernel_rfl
@[simp] theorem ztU : zdq Tryz.prog 190 = some ((.i .i64), false, [.bool false]) := by kernel_rfl
@[simp] theorem zsn : zaT Tryz.prog 192 0 = some (0, 1, none) := by kernel_rfl
@[simp] theorem zsm : zaT Tryz.prog 192 1 = some (1, 1, none) := by kernel_rfl
@[simp] theorem ztz : zp Tryz.prog 192 = some ([.slice none 0 0, .int .i64 0], [(0, 1), (1, 1)]) := by kernel_rfl
@[simp] theorem ztN : tsz Tryz.prog 194 = some 2 := by kernel_rfl
@[simp] theorem ztR : zj7 Tryz.prog 194 = true := by kernel_rfl
@[simp] theorem ztG : zdG Tryz.prog 194 = some [.int .i64 0, .int .i64 0] := by kernel_rfl
@[simp] theorem zsl : zaT Tryz.prog 194 0 = some (0, 1, none) := by kernel_rfl
@[simp] theorem zsk : zaT Tryz.prog 194 1 = some (1, 1, none) := by kernel_rfl
@[simp] theorem zty : zp Tryz.prog 194 = some ([.int .i64 0, .int .i64 0], [(0, 1), (1, 1)]) := by kernel_rfl
@[simp] theorem zt5 : zeP Tryz.prog 201 = some (some 4) := by kernel_rfl
@[simp] theorem ztM : tsz Tryz.prog 201 = some 4 := by kernel_rfl
@[simp] theorem ztF : zdG Tryz.prog 201 = some [.int .i64 0, .string ⟨#[]⟩, .int .i64 0, .int .i64 0] := by kernel_rfl
@[simp] theorem zsj : zaT Tryz.prog 201 0 = some (0, 1, none) := by kernel_rfl
@[simp] theorem zsi : zaT Tryz.prog 201 1 = some (1, 1, none) := by kernel_rfl
@[simp] theorem zsh : zaT Tryz.prog 201 2 = some (2, 1, none) := by kernel_rfl
@[simp] theorem zsg : zaT Tryz.prog 201 3 = some (3, 1, none) := by kernel_rfl
@[simp] theorem ztx : zp Tryz.prog 201 = some ([.int .i64 0, .string ⟨#[]⟩, .int .i64 0, .int .i64 0], [(0, 1), (1, 1), (2, 1), (3, 1)]) := by kernel_rfl
@[simp] theorem zt4 : zeP Tryz.prog 209 = some (some 3) := by kernel_rfl
@[simp] theorem ztL : tsz Tryz.prog 209 = some 3 := by kernel_rfl
@[simp] theorem ztE : zdG Tryz.prog 209 = some [.string ⟨#[]⟩, .int .i64 0, .int .i64 0] := by kernel_rfl
@[simp] theorem zsf : zaT Tryz.prog 209 0 = some (0, 1, none) := by kernel_rfl
@[simp] theorem zse : zaT Tryz.prog 209 1 = some (1, 1, none) := by kernel_rfl
@[simp] theorem zsd : zaT Tryz.prog 209 2 = some (2, 1, none) := by kernel_rfl
@[simp] theorem ztw : zp Tryz.prog 209 = some ([.string ⟨#[]⟩, .int .i64 0, .int .i64 0], [(0, 1), (1, 1), (2, 1)]) := by kernel_rfl
@[simp] theorem zuc : zhD Tryz.prog 210 = some (209, 3) := by kernel_rfl
@[simp] theorem zuf : zei Tryz.prog 210 = some (209, 3, 32, [.string ⟨#[]⟩, .int .i64 0, .int .i64 0]) := by kernel_rfl
@[simp] theorem zt3 : zeP Tryz.prog 219 = some none := by kernel_rfl
@[simp] theorem zt2 : zeP Tryz.prog 220 = some none := by kernel_rfl
@[simp] theorem zub : zhD Tryz.prog 220 = some (332, 3) := by kernel_rfl
@[simp] theorem zue : zei Tryz.prog 220 = some (332, 3, 24, [.int .i64 0, .int .i64 0, .bool false]) := by kernel_rfl
@[simp] theorem zt1 : zeP Tryz.prog 221 = some none := by kernel_rfl
@[simp] theorem ztT : zdq Tryz.prog 221 = some (.s, false, [.int .i64 0]) := by kernel_rfl
@[simp] theorem zsc : zaT Tryz.prog 223 0 = some (0, 1, none) := by kernel_rfl
@[simp] theorem zsb : zaT Tryz.prog 223 1 = some (1, 1, none) := by kernel_rfl
@[simp] theorem zsa : zaT Tryz.prog 223 2 = some (2, 1, none) := by kernel_rfl
@[simp] theorem ztv : zp Tryz.prog 223 = some ([.slice none 0 0, .slice none 0 0, .map none], [(0, 1), (1, 1), (2, 1)]) := by kernel_rfl
@[simp] theorem ztK : tsz Tryz.prog 270 = some 1 := by kernel_rfl
@[simp] theorem ztQ : zj7 Tryz.prog 270 = true := by kernel_rfl
@[simp] theorem ztD : zdG Tryz.prog 270 = some [.int .i64 0] := by kernel_rfl
@[simp] theorem zr9 : zaT Tryz.prog 270 0 = some (0, 1, none) := by kernel_rfl
@[simp] theorem ztu : zp Tryz.prog 270 = some ([.int .i64 0], [(0, 1)]) := by kernel_rfl
@[simp] theorem zvI : zqu Tryz.prog 275 = some 21 := by kernel_rfl
@[simp] theorem ztJ : tsz Tryz.prog 276 = some 8 := by kernel_rfl
@[simp] theorem zvH : zqu Tryz.prog 276 = some 8 := by kernel_rfl
@[simp] theorem ztC : zdG Tryz.prog 276 = some [.bool false, .bool false, .bool false, .bool false, .bool false, .bool false, .bool false, .bool false] := by kernel_rfl
@[simp] theorem zt0 : zeP Tryz.prog 281 = some none := by kernel_rfl
@[simp] theorem ztS : zdq Tryz.prog 281 = some (.s, true, [.int .i64 0, .int .i64 0, .bool false]) := by kernel_rfl
@[simp] theorem zr8 : zaT Tryz.prog 283 0 = some (0, 1, none) := by kernel_rfl
@[simp] theorem zr7 : zaT Tryz.prog 283 1 = some (1, 1, none) := by kernel_rfl
@[simp] theorem zts : zp Tryz.prog 283 = some ([.map none, .map none], [(0, 1), (1, 1)]) := by kernel_rfl
@[simp] theorem ztI : tsz Tryz.prog 285 = some 3 := by kernel_rfl
@[simp] theorem ztB : zdG Tryz.prog 285 = some [.int .i64 0, .int .i64 0, .bool false] := by kernel_rfl
@[simp] theorem zr6 : zaT Tryz.prog 285 0 = some (0, 1, none) := by kernel_rfl
@[simp] theorem zr5 : zaT Tryz.prog 285 1 = some (1, 1, none) := by kernel_rfl
@[simp] theorem zr4 : zaT Tryz.prog 285 2 = some (2, 1, none) := by kernel_rfl
@[simp] theorem ztr : zp Tryz.prog 285 = some ([.int .i64 0, .int .i64 0, .bool false], [(0, 1), (1, 1), (2, 1)]) := by kernel_rfl
@[simp] theorem ztZ : zeP Tryz.prog 291 = some (some 11) := by kernel_rfl
@[simp] theorem zvG : zqu Tryz.prog 291 = some 11 := by kernel_rfl
@[simp] theorem zr3 : zaT Tryz.prog 332 0 = some (0, 1, none) := by kernel_rfl
@[simp] theorem zr2 : zaT Tryz.prog 332 1 = some (1, 1, none) := by kernel_rfl
@[simp] theorem zr1 : zaT Tryz.prog 332 2 = some (2, 1, none) := by kernel_rfl
@[simp] theorem ztt : zp Tryz.prog 276 = some ([.bool false, .bool false, .bool false, .bool false, .bool false, .bool false, .bool false, .bool false], [(0, 1), (1, 1), (2, 1), (3, 1), (4, 1), (5, 1), (6, 1), (7, 1)]) := by kernel_rfl
@[simp] theorem zwX : zal Tryz.prog 25 = true := by kernel_rfl
@[simp] theorem zwW : zal Tryz.prog 33 = true := by kernel_rfl
@[simp] theorem zwV : zal Tryz.prog 37 = true := by kernel_rfl
@[simp] theorem zwU : zal Tryz.prog 38 = true := by kernel_rfl
@[simp] theorem zwT : zal Tryz.prog 40 = true := by kernel_rfl
@[simp] theorem zwS : zal Tryz.prog 41 = true := by kernel_rfl
@[simp] theorem zwR : zal Tryz.prog 42 = true := by kernel_rfl
@[simp] theorem zwQ : zal Tryz.prog 43 = true := by kernel_rfl
@[simp] theorem zwP : zal Tryz.prog 45 = true := by kernel_rfl
@[simp] theorem zwO : zal Tryz.prog 46 = true := by kernel_rfl
@[simp] theorem zwN : zal Tryz.prog 49 = true := by kernel_rfl
@[simp] theorem zwM : zal Tryz.prog 50 = true := by kernel_rfl
@[simp] theorem zwL : zal Tryz.prog 51 = true := by kernel_rfl
@[simp] theorem zwK : zal Tryz.prog 58 = true := by kernel_rfl
@[simp] theorem zwJ : zal Tryz.prog 60 = true := by kernel_rfl
@[simp] theorem zwI : zal Tryz.prog 61 = true := by kernel_rfl
@[simp] theorem zwH : zal Tryz.prog 64 = true := by kernel_rfl
@[simp] theorem zwG : zal Tryz.prog 72 = true := by kernel_rfl
@[simp] theorem zwF : zal Tryz.prog 74 = true := by kernel_rfl
@[simp] theorem zwE : zal Tryz.prog 82 = true := by kernel_rfl
@[simp] theorem zwD : zal Tryz.prog 87 = true := by kernel_rfl
@[simp] theorem zwC : zal Tryz.prog 89 = true := by kernel_rfl
@[simp] theorem zwB : zal Tryz.prog 90 = true := by kernel_rfl
@[simp] theorem zwA : zal Tryz.prog 96 = true := by kernel_rfl
@[simp] theorem zwz : zal Tryz.prog 97 = true := by kernel_rfl
@[simp] theorem zwy : zal Tryz.prog 98 = true := by kernel_rfl
@[simp] theorem zwx : zal Tryz.prog 99 = true := by kernel_rfl
@[simp] theorem zvB : zal Tryz.prog 100 = true := by kernel_rfl
@[simp] theorem zvA : zal Tryz.prog 101 = true := by kernel_rfl
@[simp] theorem zvz : zal Tryz.prog 102 = true := by kernel_rfl
@[simp] theorem zvy : zal Tryz.prog 103 = true := by kernel_rfl
@[simp] theorem zvx : zal Tryz.prog 104 = true := by kernel_rfl
@[simp] theorem zvw : zal Tryz.prog 105 = true := by kernel_rfl
@[simp] theorem zvv : zal Tryz.prog 107 = true := by kernel_rfl
@[simp] theorem zvu : zal Tryz.prog 120 = true := by kernel_rfl
@[simp] theorem zvt : zal Tryz.prog 121 = true := by kernel_rfl
@[simp] theorem zvs : zal Tryz.prog 122 = true := by kernel_rfl
@[simp] theorem zvr : zal Tryz.prog 123 = true := by kernel_rfl
@[simp] theorem zvq : zal Tryz.prog 124 = true := by kernel_rfl
@[simp] theorem zvp : zal Tryz.prog 125 = true := by kernel_rfl
@[simp] theorem zvo : zal Tryz.prog 126 = true := by kernel_rfl
@[simp] theorem zvn : zal Tryz.prog 127 = true := by kernel_rfl
@[simp] theorem zvm : zal Tryz.prog 128 = true := by kernel_rfl
@[simp] theorem zvl : zal Tryz.prog 129 = true := by kernel_rfl
@[simp] theorem zvk : zal Tryz.prog 130 = true := by kernel_rfl
@[simp] theorem zvj : zal Tryz.prog 131 = true := by kernel_rfl
@[simp] theorem zvi : zal Tryz.prog 139 = true := by kernel_rfl
@[simp] theorem zvh : zal Tryz.prog 140 = true := by kernel_rfl
@[simp] theorem zvg : zal Tryz.prog 147 = true := by kernel_rfl
@[simp] theorem zvf : zal Tryz.prog 149 = true := by kernel_rfl
@[simp] theorem zve : zal Tryz.prog 150 = true := by kernel_rfl
@[simp] theorem zvd : zal Tryz.prog 151 = true := by kernel_rfl
@[simp] theorem zvc : zal Tryz.prog 165 = true := by kernel_rfl
@[simp] theorem zvb : zal Tryz.prog 166 = true := by kernel_rfl
@[simp] theorem zva : zal Tryz.prog 167 = true := by kernel_rfl
@[simp] theorem zu9 : zal Tryz.prog 168 = true := by kernel_rfl
@[simp] theorem zu8 : zal Tryz.prog 169 = true := by kernel_rfl
@[simp] theorem zu7 : zal Tryz.prog 170 = true := by kernel_rfl
@[simp] theorem zu6 : zal Tryz.prog 171 = true := by kernel_rfl
@[simp] theorem zu5 : zal Tryz.prog 172 = true := by kernel_rfl
@[simp] theorem zu4 : zal Tryz.prog 173 = true := by kernel_rfl
@[simp] theorem zu3 : zal Tryz.prog 174 = true := by kernel_rfl
@[simp] theorem zu2 : zal Tryz.prog 177 = true := by kernel_rfl
@[simp] theorem zu1 : zal Tryz.prog 178 = true := by kernel_rfl
@[simp] theorem zu0 : zal Tryz.prog 179 = true := by kernel_rfl
@[simp] theorem zuZ : zal Tryz.prog 180 = true := by kernel_rfl
@[simp] theorem zuY : zal Tryz.prog 196 = true := by kernel_rfl
@[simp] theorem zuX : zal Tryz.prog 197 = true := by kernel_rfl
@[simp] theorem zuW : zal Tryz.prog 198 = true := by kernel_rfl
@[simp] theorem zuV : zal Tryz.prog 199 = true := by kernel_rfl
@[simp] theorem zuU : zal Tryz.prog 200 = true := by kernel_rfl
@[simp] theorem zuT : zal Tryz.prog 201 = true := by kernel_rfl
@[simp] theorem zuS : zal Tryz.prog 202 = true := by kernel_rfl
@[simp] theorem zuR : zal Tryz.prog 203 = true := by kernel_rfl
@[simp] theorem zuQ : zal Tryz.prog 204 = true := by kernel_rfl
@[simp] theorem zuP : zal Tryz.prog 212 = true := by kernel_rfl
@[simp] theorem zuO : zal Tryz.prog 213 = true := by kernel_rfl
@[simp] theorem zuN : zal Tryz.prog 214 = true := by kernel_rfl
@[simp] theorem zuM : zal Tryz.prog 215 = true := by kernel_rfl
@[simp] theorem zuL : zal Tryz.prog 220 = true := by kernel_rfl
@[simp] theorem zuK : zal Tryz.prog 221 = true := by kernel_rfl
@[simp] theorem zuJ : zal Tryz.prog 222 = true := by kernel_rfl
@[simp] theorem zuI : zal Tryz.prog 223 = true := by kernel_rfl
@[simp] theorem zuH : zal Tryz.prog 224 = true := by kernel_rfl
@[simp] theorem zuG : zal Tryz.prog 226 = true := by kernel_rfl
@[simp] theorem zuF : zal Tryz.prog 227 = true := by kernel_rfl
@[simp] theorem zuE : zal Tryz.prog 228 = true := by kernel_rfl
@[simp] theorem zuD : zal Tryz.prog 229 = true := by kernel_rfl
@[simp] theorem zuC : zal Tryz.prog 244 = true := by kernel_rfl
@[simp] theorem zuB : zal Tryz.prog 245 = true := by kernel_rfl
@[simp] theorem zuA : zal Tryz.prog 246 = true := by kernel_rfl
@[simp] theorem zuz : zal Tryz.prog 247 = true := by kernel_rfl
@[simp] theorem zuy : zal Tryz.prog 267 = true := by kernel_rfl
@[simp] theorem zux : zal Tryz.prog 268 = true := by kernel_rfl
@[simp] theorem zuw : zal Tryz.prog 269 = true := by kernel_rfl
@[simp] theorem zuv : zal Tryz.prog 270 = true := by kernel_rfl
@[simp] theorem zuu : zal Tryz.prog 271 = true := by kernel_rfl
@[simp] theorem zut : zal Tryz.prog 272 = true := by kernel_rfl
@[simp] theorem zus : zal Tryz.prog 275 = true := by kernel_rfl
@[simp] theorem zur : zal Tryz.prog 276 = true := by kernel_rfl
@[simp] theorem zuq : zal Tryz.prog 277 = true := by kernel_rfl
@[simp] theorem zup : zal Tryz.prog 282 = true := by kernel_rfl
@[simp] theorem zuo : zal Tryz.prog 283 = true := by kernel_rfl
@[simp] theorem zun : zal Tryz.prog 294 = true := by kernel_rfl
@[simp] theorem zum : zal Tryz.prog 295 = true := by kernel_rfl
@[simp] theorem zul : zal Tryz.prog 296 = true := by kernel_rfl
@[simp] theorem zuk : zal Tryz.prog 303 = true := by kernel_rfl
end Go.Proofs.YtepiegcjnaohjaaGreatDoor
namespace Go.Proofs
open Go.Shelf
def Tryz.zkr : Go.Shelf.Ren := ⟨fun | 151 => 224 | 152 => 274 | 137 => 298 | 119 => 299 | 224 => 300 | 225 => 301 | 217 => 307 | 266 => 308 | n => n, fun | 9 => 9 | 21 => 21 | 4 => 4 | 3 => 3 | 5 => 5 | 0 => 0 | 46 => 264 | n => n, fun | n => n⟩
theorem Tryz.zqA : Go.Proofs.Lays.n151 Tryz.prog Tryz.zkr := {
 mixed := by kernel_rfl
 f119 := Tryz.func299.trans (congrArg some (by kernel_rfl))
 f137 := Tryz.func298.trans (congrArg some (by kernel_rfl))
 f151 := Tryz.func224.trans (congrArg some (by kernel_rfl))
 f152 := Tryz.func274.trans (congrArg some (by kernel_rfl))
 f217 := Tryz.func307.trans (congrArg some (by kernel_rfl))
 f224 := Tryz.func300.trans (congrArg some (by kernel_rfl))
 f225 := Tryz.func301.trans (congrArg some (by kernel_rfl))
 f266 := Tryz.func308.trans (congrArg some (by kernel_rfl))
 t0 := Tryz.underlying0
 a0 := Tryz.isAgg0
 z0 := Tryz.sizeOf0
 v0 := Tryz.zeroValue0
 t3 := Tryz.underlying3
 a3 := Tryz.isAgg3
 z3 := Tryz.sizeOf3
 v3 := Tryz.zeroValue3
 t4 := Tryz.underlying4
 a4 := Tryz.isAgg4
 z4 := Tryz.sizeOf4
 v4 := Tryz.zeroValue4
 t5 := Tryz.underlying5
 a5 := Tryz.isAgg5
 z5 := Tryz.sizeOf5
 v5 := Tryz.zeroValue5
 t9 := Tryz.underlying9
 a9 := Tryz.isAgg9
 z9 := Tryz.sizeOf9
 v9 := Tryz.zeroValue9
 t21 := Tryz.underlying21
 a21 := Tryz.isAgg21
 z21 := Tryz.sizeOf21
 v21 := Tryz.zeroValue21
 t46 := Tryz.underlying264
 a46 := Tryz.isAgg264
 z46 := Tryz.sizeOf264
 v46 := Tryz.zeroValue264 }
open Go.RowKit Go.Lib in
theorem Tryz.strings_ContainsRune_ascii (s : ByteArray) (r : Int) (w : World) (h0 : 0 <= r) (h1 : r < 128) :
  Calls Tryz.prog 224 #[.string s, .int .i32 r] w fun e w' => e = .returned (.bool (decide (0 <= Lib.indexByte s.data.toList r.toNat.toUInt8))) /\ w' = w := Any.strings_ContainsRune_ascii Tryz.zqA s r w h0 h1
end Go.Proofs
namespace Go.VL
open Go
theorem zn1 {P : Program} {k own s a w} (hs : Sim k own s a w) {fop : Operand} {args : Array Operand} {ts : Array TypeId} {ty : TypeId} {f first} (hf : opd s fop = .bnd (.func f) first) (hc : zal P f = true)
  (dst : Option Tmp) (pos : String) (after : Array Edge) (g : Option (Nat × Bool)) :
  ∃ vs, RepL k (first ++ args.toList.map (opd s)) vs /\ (execOp a.eval { dst, op := .call { callee := .value fop, args, argTypes := ts }, type := ty, pos, after, guard := g }).run P w = .ok (.enter f vs) w := by
 have hr := zaJ hs fop;rw [hf] at hr;obtain ⟨cv, hl, hv, hcap⟩ := zmJ hr;refine ⟨cv.toArray ++ args.map a.eval, ⟨by simp [hl], fun j d hj => ?_⟩, ?_⟩
 ·by_cases hlt : j < first.length
  ·rw [List.getElem?_append_left hlt] at hj;have := hcap j d hj;have e : (cv.toArray ++ args.map a.eval).getD j undef = cv.getD j undef := by
    have hlt2 : j < cv.length := by omega
    simp [Array.getElem?_append, hlt2]
   rw [e];exact this
  ·rw [List.getElem?_append_right (Nat.le_of_not_lt hlt)] at hj;have := zep hs args.toList (j - first.length) d hj;have e : (cv.toArray ++ args.map a.eval).getD j undef = (args.toList.map a.eval).getD (j - first.length) undef := by
    have hlt2 : ¬ j < cv.length := by omega
    simp [Array.getElem?_append, hlt2, hl]
   rw [e];exact this
 ·unfold zal at hc;split at hc
  ·rename_i fn hfn;simp at hc;obtain ⟨hb, hname⟩ := hc;have hb' : fn.body.isNone = false := by cases hbb : fn.body <;> simp_all
   have hname' : (fn.name == "runtime.NumGoroutine") = false := by simpa using hname
   simp only [execOp];simp [resolve, hv, Deferred.ofValue, invoke, callFunc, hfn, hname', hb', hname];intro h0;rw [h0] at hb;simp at hb
  ·cases hc
theorem EffP.zsE {P Γ s k} {fop : Operand} {args : Array Operand} {ts : Array TypeId} {ty : TypeId} {f first dst pos after} {ds : List D} {post : Out -> List (Nat × Ob) -> Nat -> Prop}
  (hf : opd s fop = .bnd (.func f) first) (hc : zal P f = true) (hds : first ++ args.toList.map (opd s) = ds) (hret : RetX P f ds s.obs s.next post) (hp : zaC dst s)
  (hk : ∀ d obs' nx', s.next <= nx' -> post (.val d) obs' nx' -> k (({ s with obs := obs', next := nx' } : St).put dst d))
  (hx : ∀ ch obs' nx', s.next <= nx' -> post (.pan ch) obs' nx' -> ∃ s2, Wk Γ { s with obs := obs', next := nx' } s2 /\ Γ.pan ch s2) :
  EffP P Γ { dst, op := .call { callee := .value fop, args, argTypes := ts }, type := ty, pos, after, guard := none } s k := by
 intro K a w hin hs Kont Q hK hP;obtain ⟨vs, hrep, hrun⟩ := zn1 hs (args := args) (ts := ts) (ty := ty) hf hc dst pos after none;rw [hds] at hrep;unfold Oper.wp;rw [hrun];refine Calls.mono (hret K Γ.own w vs hs.sat hs.hdr (fun b hb => hin.own_of_ge hb) hrep) ?_;rintro e w' ⟨r, obs', nx', k', hr, hin', hsat', hhdr', hnx, hpost⟩;have hle : K.le k' := hin'.le;have hin2 : In Γ k' w' := hin.step hle (fun b o v e => hin'.memNew b o v e) hin'.os hin'.tape hin'.output hin'.size hin'.block;have hsim : Sim k' Γ.own ({ s with obs := obs', next := nx' } : St) a w' := ⟨hsat', hs.defers, hs.size, fun x d hx => ⟨(hs.env x d hx).1, (hs.env x d hx).2.mono hle⟩, hhdr'⟩;cases r with
 | val d =>
  obtain ⟨v, rfl, hr⟩ := hr;exact hK k' _ w' _ hin2 (hsim.put (by cases dst <;> simp_all [zaC]) hr) (hk d obs' nx' hnx hpost)
 | pan ch =>
  obtain rfl := hr;obtain ⟨s2, hw, hpn⟩ := hx ch obs' nx' hnx hpost;obtain ⟨k2, g1, g2⟩ := hw k' a w' hin2 hsim;exact hP ch k2 a w' s2 g1 g2 hpn
theorem CallP.b_ {P : Program} {Γ : Ctx} {s : St} {k : St -> Prop} {dst : Option Tmp} {fop : Operand} {args : List Operand} {f first} {ds : List D} {post : Out -> List (Nat × Ob) -> Nat -> Prop} (hret : RetX P f ds s.obs s.next post)
  (hf : opd s fop = .bnd (.func f) first) (hc : zal P f = true) (hds : first ++ args.map (opd s) = ds) (hp : zaC dst s)
  (hk : ∀ d obs' nx', s.next <= nx' -> post (.val d) obs' nx' -> k (({ s with obs := obs', next := nx' } : St).put dst d))
  (hx : ∀ ch obs' nx', s.next <= nx' -> post (.pan ch) obs' nx' -> ∃ s2, Wk Γ { s with obs := obs', next := nx' } s2 /\ Γ.pan ch s2) : CallP P Γ fop args dst s k :=
 fun _ _ _ _ => EffP.zsE hf hc hds hret hp hk hx
theorem CallP.bok {P : Program} {Γ : Ctx} {s : St} {k : St -> Prop} {dst : Option Tmp} {fop : Operand} {args : List Operand} {f first} {ds : List D} {j : Nat} {ob ob' : Ob} {d : D}
  (hret : RetX P f ds [(j, ob)] s.next fun r o n => r = .val d /\ o = [(j, ob')] /\ n = s.next) (hobs : s.obs = [(j, ob)])
  (hf : opd s fop = .bnd (.func f) first) (hc : zal P f = true) (hds : first ++ args.map (opd s) = ds) (hp : zaC dst s)
  (hk : k (({ s with obs := [(j, ob')], next := s.next } : St).put dst d)) : CallP P Γ fop args dst s k :=
 CallP.b_ (hobs ▸ hret) hf hc hds hp (fun d' o1 nx' _ ⟨h1, h2, h3⟩ => by cases h1; subst h2; subst h3; exact hk) (fun ch o1 nx' _ ⟨h1, _⟩ => by cases h1)
end Go.VL
namespace Go.VL
open Go
theorem znt {P : Program} {Γ : Ctx} {s : St} {f : FuncId} {ds ds0 : List D} {L : List Nat} {post : D -> Prop} {K : Kr} {a : Act} {w : World} {vs : Array Value}
  (hds : zbU s ds0 = some (ds, L)) (hret : Fun P f ds post) (hin : In Γ K w) (hs : Sim K Γ.own s a w) (hrep : RepL K ds0 vs) :
  Calls P f vs w fun e w' => ∃ v d K', e = .returned v /\ In Γ K' w' /\ K.le K' /\ K'.hdr = K.hdr /\ Sat K' Γ.own (if zaR d then s.obs else delAll s.obs L) w' /\ Rep K' d v /\ post d := by
 obtain ⟨h1, h2, hLo⟩ := zgS hs L (fun _ => none) (vs := vs.toList) hds (by simpa using hrep.1.symm) (fun j d hj => by simpa using hrep.2 j d hj) (fun _ h => h);have hmem1 : K.mem.le (lentMem K L w) := fun b o x hx => by
  unfold lentMem;split
  ·exact hs.sat.mem b o x hx
  ·exact hx
 have hsat1 : Sat ⟨lentMem K L w, fun _ => none, zdU hs L⟩ (fun b => w.heap.size <= b) [] w := ⟨fun b o v hv => by
   simp only [lentMem] at hv;split at hv
   ·exact hv
   ·exact hs.sat.mem b o v hv, fun i ob hi => by simp [VL.getK] at hi, fun i j x y h g b hx => by simp [VL.getK] at hx⟩
 refine Calls.mono (hret ⟨lentMem K L w, fun _ => none, zdU hs L⟩ (fun b => w.heap.size <= b) w vs hsat1 (fun _ _ => rfl) (fun b hb => hb) ⟨by simpa using h1.symm, fun j d hj => by simpa using h2 j d hj⟩) ?_;rintro e w' ⟨v, d, obs', nx', k', rfl, hin', hsat', hhdr', hnx, hr, hpure, hpost⟩;have hheap : ∀ b, b < w.heap.size -> w'.heap[b]? = w.heap[b]? := fun b hb => hin'.block b (by simpa [Ctx.of] using hb);have hlentOwn : ∀ b, zpz K L b -> Γ.own b /\ b < w.heap.size := fun b ⟨i, hi, c, hh⟩ => by
  obtain ⟨ob, hob⟩ := hLo i hi;obtain ⟨g, h3, h4, _⟩ := hs.sat.ob i ob hob;rw [hh] at h3;cases h3;exact ⟨(h4 b rfl).1, hs.sat.lt ⟨i, ob, _, hob, hh, rfl⟩⟩
 by_cases hsc : zaR d = true
 ·have hin2 : In Γ K w' := hin.step (.refl _) (fun b o v e => .inl e) hin'.os hin'.tape hin'.output hin'.size fun b hb => by
   rcases Nat.lt_or_ge b w.heap.size with h | h
   ·exact hheap b h
   ·exact absurd (hin.own_of_ge h) hb
  have hsat2 : Sat K Γ.own s.obs w' := hs.sat.keep (.refl _) (fun b hb => hheap b (hs.sat.lt hb)) (fun b o v hv => by
   rw [zdF (hheap b (hs.sat.memLt hv))];exact hs.sat.mem b o v hv) (fun b ⟨i, ob, g, h3, h4, h5⟩ o => by
   obtain ⟨g', h6, h7, _⟩ := hs.sat.ob i ob h3;rw [h4] at h6;cases h6;exact (h7 b h5).2 o)
  exact ⟨v, d, K, rfl, hin2, .refl _, rfl, (by rw [if_pos hsc]; exact hsat2), (hr.scalar hsc), hpost⟩
 ·have hmemk : K.mem.le k'.mem := hmem1.trans hin'.le.mem;have hleK : K.le ⟨k'.mem, K.hdr, k'.glob⟩ := ⟨hmemk, fun _ _ h => h⟩;have hnew : ∀ b o v, k'.mem b o = some v -> K.mem b o = some v \/ zpz K L b \/ w.heap.size <= b := fun b o v hv => by
   rcases hin'.memNew b o v hv with h | h
   ·simp only [Ctx.of, lentMem] at h;split at h
    ·rename_i hl; exact .inr (.inl hl)
    ·exact .inl h
   ·exact .inr (.inr h)
  have hin2 : In Γ ⟨k'.mem, K.hdr, k'.glob⟩ w' := hin.step hleK (fun b o v e => (hnew b o v e).imp id fun h => h.elim (fun h => (hlentOwn b h).1) fun h => hin.own_of_ge h) hin'.os hin'.tape hin'.output hin'.size fun b hb => by
   rcases Nat.lt_or_ge b w.heap.size with h | h
   ·exact hheap b h
   ·exact absurd (hin.own_of_ge h) hb
  have hd := Sat.delAll L hs.sat;have hsat2 : Sat ⟨k'.mem, K.hdr, k'.glob⟩ Γ.own (delAll s.obs L) w' := hd.keep hleK (fun b hb => hheap b (hd.lt hb)) (fun b o v hv => hsat'.mem b o v hv) (fun b ⟨i, ob, g, h3, h4, h5⟩ o => by
   cases hm : k'.mem b o with
   | none => rfl
   | some v =>
    exfalso;rw [ze0] at h3;split at h3
    ·cases h3
    ·rename_i hiL;obtain ⟨g', h6, h7, _⟩ := hs.sat.ob i ob h3;rw [show K.hdr i = some g from h4] at h6;cases h6;rcases hnew b o v hm with h | ⟨j, hj, c, hh⟩ | h
     ·rw [(h7 b h5).2 o] at h; cases h
     ·obtain ⟨oj, hoj⟩ := hLo j hj;exact hs.sat.apart j i oj ob _ g b hoj h3 (fun e => hiL (e ▸ hj)) hh h4 rfl h5
     ·exact absurd (hs.sat.lt ⟨i, ob, g, h3, h4, h5⟩) (by omega))
  have hfin : Rep ⟨k'.mem, K.hdr, k'.glob⟩ d v := Rep.pure (k := k') (k' := ⟨k'.mem, K.hdr, k'.glob⟩) (fun _ _ _ e => e) hr hpure;exact ⟨v, d, _, rfl, hin2, hleK, rfl, (by rw [if_neg hsc]; exact hsat2), hfin, hpost⟩
theorem RetX.zsy {P : Program} {f : FuncId} {ds ds0 : List D} {L : List Nat} {d : D} {obs : List (Nat × Ob)} {nx : Nat} (h : Fun P f ds (· = d)) (ha : zbU ⟨0, [], obs, nx⟩ ds0 = some (ds, L)) :
  RetX P f ds0 obs nx fun r o n => r = .val d /\ o = (if zaR d then obs else delAll obs L) /\ n = nx := by
 intro k own w vs hsat hhdr hown hrep;have hin : In (.of own k nx w) k w := ⟨.refl _, hhdr, fun _ _ _ e => .inl e, hown, rfl, rfl, rfl, Nat.le_refl _, fun _ _ => rfl⟩;have hs : Sim k (Ctx.of own k nx w).own ⟨0, [], obs, nx⟩ ⟨#[], []⟩ w := ⟨hsat, rfl, rfl, fun x d hx => by simp [getK] at hx, hhdr⟩;refine (znt ha h hin hs hrep).mono ?_;rintro e w' ⟨v, d', K', rfl, h1, _, h3, h4, h5, rfl⟩;exact ⟨.val d', _, nx, K', ⟨v, rfl, h5⟩, h1, h4, fun i hi => by rw [h3]; exact hhdr i hi, Nat.le_refl _, rfl, rfl, rfl⟩
theorem RetX.norm {P : Program} {f : FuncId} {ds : List D} {obs : List (Nat × Ob)} {nx : Nat} {p : Out -> List (Nat × Ob) -> Nat -> Prop} (h : RetX P f (ds.map zbG) obs nx p) : RetX P f ds obs nx p :=
 fun k own w vs h1 h2 h3 h4 => h k own w vs h1 h2 h3 ⟨by simpa using h4.1, fun j d hj => by
  rw [List.getElem?_map] at hj;obtain ⟨d0, e, rfl⟩ := Option.map_eq_some_iff.1 hj;exact zgw (h4.2 j d0 e)⟩
end Go.VL
namespace Go.Proofs.YtepiegcjnaohjaaGreatDoor
open Go Go.VL
abbrev zny : List (String × DataW Unit) := [("stokvel/lex.signs", Rows.laid_stokvel_lex_signs), ("stokvel/entry.uses", Rows.laid_stokvel_entry_uses)]
theorem zpc (os : Os) (args : Array Value) : laidMetH Tryz.prog zny ((World.doorLaid Tryz.prog 400 os).forCall (fun _ _ => 0) ⟨#[], args, []⟩).memory :=
 laidMetH_of_parts3 (fuel := 8) (laidMet_of_run' 8 (by kernel_rfl) (by kernel_rfl)) (by kernel_rfl) (by kernel_rfl)
theorem znL {P : Program} {w : World} {n : String} {g : Nat} {cs : Array Value} (hg : P.globalNamed n = some g) (hv : w.var? P n = some cs) :
  (∀ j, j < cs.toList.length -> VL.look w g j = some (.val (cs.toList.getD j undef))) /\ VL.look w g cs.toList.length = some .fin := by
 unfold World.var? at hv;rw [hg, Option.bind_some] at hv;split at hv
 ·rename_i cs0 t fr hh;cases hv;refine ⟨fun j hj => zdr ?_, ?_⟩
  ·have hj' : j < cs.size := by simpa using hj
   simp [World.cell?, hh, hj', List.getD]
  ·have := zoR hh;simpa using this
 ·cases hv
theorem zmG {P : Program} {w : World} {n : String} {g : Nat} {t e : TypeId} {cs : Array Value} {L : List (List UInt8)} {fuel : Nat} {H : Type} {enc : TypeId × Value -> H} {base : Nat} {spare : Nat -> Bool} {held : Bool} {q : List MemPlace}
  (hg : P.globalNamed n = some g) (hv : w.var? P n = some cs) (ht : P.underlying t = some (.array L.length e)) (he : P.underlying e = some .string) (hc : P.cellsOf e = 1) (hct : P.cellsOf t = L.length)
  (hd : DataW.trod enc P w base spare held fuel t cs.toList = some (.agg (L.map fun b => .lit (.string b)), q)) : cs.toList = L.map fun b => .string ⟨b.toArray⟩ := by
 obtain ⟨xs, m1, rfl, hx1, hlen, hn3, hel⟩ := DataW.trod_array ht hd;have hcell := zit hg hv ht he hc hd;apply List.ext_getElem?;intro j;cases hb : L[j]? with
 | none =>
  have := List.getElem?_eq_none_iff.1 hb;rw [List.getElem?_eq_none (by omega), List.getElem?_map, hb]; rfl
 | some b =>
  have h := hcell j b hb;rw [World.var?_cell hg hv j] at h;rw [List.getElem?_map, hb, Array.getElem?_toList, h]; rfl
def zq2 : List (List UInt8) := [[61, 61], [59], [44], [61], [60], [43], [45], [42], [47], [40], [41]]
def zrH : List (List UInt8) := [[107, 116], [99], [99], [99, 119, 110, 109], [110, 114], [119, 115], [119, 109, 115], [99, 119, 109, 114, 115], [99, 110, 109, 114], [110, 114], [99, 110, 109, 116], [114, 116], [110, 114], [114], [99, 116], [119, 110], [99, 109], [99, 107], [110, 109, 114], [110, 109, 114], [110, 109, 114]]
theorem znK (W : World) (h : laidMetH Tryz.prog zny W) : GlobIn (ziI W) := by
 rw [MakeChecks.laidMetH_plain _ _ _ (by kernel_rfl)] at h;obtain ⟨ps, ⟨gc, tc, cc, fc, pc, qc, hgc, htc, hvc, hdc, ⟨gd, td, cd, fd, pd, qd, hgd, htd, hvd, hdd, _⟩, _⟩, _⟩ := h;obtain rfl : gc = 1 := Option.some.inj (hgc.symm.trans (by kernel_rfl));obtain rfl : gd = 0 := Option.some.inj (hgd.symm.trans (by kernel_rfl));obtain rfl : tc = 291 := Option.some.inj (htc.symm.trans (by kernel_rfl));obtain rfl : td = 275 := Option.some.inj (htd.symm.trans (by kernel_rfl));have ec := zmG (q := pc) (L := zq2) hgc hvc (by kernel_rfl) (e := 9) (by kernel_rfl) (by kernel_rfl) (by kernel_rfl) (hdc.trans (by kernel_rfl));have ed := zmG (q := pd) (L := zrH) hgd hvd (by kernel_rfl) (e := 9) (by kernel_rfl) (by kernel_rfl) (by kernel_rfl) (hdd.trans (by kernel_rfl));have fc := znL hgc hvc;have fd := znL hgd hvd;rw [ec] at fc;rw [ed] at fd;intro p hp;unfold globs at hp;simp only [List.mem_cons, List.not_mem_nil, or_false] at hp;rcases hp with rfl | rfl
 ·first | exact fc | exact fd
 ·first | exact fc | exact fd
end Go.Proofs.YtepiegcjnaohjaaGreatDoor
