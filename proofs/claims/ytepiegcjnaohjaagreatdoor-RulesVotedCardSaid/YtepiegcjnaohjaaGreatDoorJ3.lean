import Derived.Test.YtepiegcjnaohjaaGreatDoorJ2
import Derived.Test.YtepiegcjnaohjaaGreatDoorRows
import Derived.ProofKit
import Derived.Below
import Derived.ChangeSame
import Derived.Deep.Slices
import Derived.Sort.OwnSortedInts
import Derived.Recover
set_option linter.all false
set_option maxRecDepth 100000
set_option maxHeartbeats 8000000
namespace Go.VL
open Go Go.ChangeShapes Go.WideShapes Go.ChangeAt Go.RowKit Go.Deep
open Go.Proofs.YtepiegcjnaohjaaGreatDoor.Rows (uptoBulk uptoBulkAll)
def zid (w : World) : Mem := fun b o => look w b o
inductive HasRow (P : Program) : TypeId -> List U -> Prop
 | bool {t b} (h : P.underlying t = some .bool) : HasRow P t [.bool b]
 | int {t k n} (h : P.underlying t = some (.int k)) (h1 : k.min <= n) (h2 : n <= k.max) : HasRow P t [.int k n]
 | str {t l} (h : P.underlying t = some .string) (h1 : l.length <= maxLen) : HasRow P t [.str l]
 | slice {t e rows} (h : P.underlying t = some (.slice e)) (h1 : rows.length <= maxLen) (h2 : ∀ r ∈ rows, HasRow P e r) : HasRow P t [.sl rows]
 | struct {t fs} (rs : List (List U)) (h : P.underlying t = some (.struct fs)) (h1 : rs.length = fs.size) (h2 : ∀ (i : Nat) (f : Field) (r : List U), fs[i]? = some f -> rs[i]? = some r -> HasRow P f.type r) : HasRow P t rs.flatten
 | other {t r} (h : match P.underlying t with | some .bool | some (.int _) | some .string | some (.struct _) => False | some (.slice e) => P.cellsOf e = 0 | _ => True) : HasRow P t r
def zsd (P : Program) : Nat -> List Field -> Nat -> Bool
 | o, [], n => o == n
 | o, f :: l, n => f.offset == o && zsd P (o + P.cellsOf f.type) l n
def zik (P : Program) : Bool := (List.range P.types.size).all fun t => match P.underlying t with
 | some (.struct fs) => zsd P 0 fs.toList (P.cellsOf t) && fs.toList.all fun f => decide (f.type < P.types.size)
 | some (.slice e) => decide (e < P.types.size)
 | _ => true
theorem zi3 {P : Program} (h : zik P = true) {t fs} (hlt : t < P.types.size) (ht : P.underlying t = some (.struct fs)) : zsd P 0 fs.toList (P.cellsOf t) = true /\ ∀ f ∈ fs.toList, f.type < P.types.size := by
 have := List.all_eq_true.1 h t (List.mem_range.2 hlt);simp only [ht, Bool.and_eq_true, List.all_eq_true, decide_eq_true_eq] at this;exact this
theorem zjN {P : Program} (h : zik P = true) {t e} (hlt : t < P.types.size) (ht : P.underlying t = some (.slice e)) : e < P.types.size := by
 have := List.all_eq_true.1 h t (List.mem_range.2 hlt);simp only [ht, decide_eq_true_eq] at this;exact this
def RepRow (m : Mem) (r : List U) (cs : List Value) : Prop := r.length = cs.length /\ ∀ (j : Nat) (u : U), r[j]? = some u -> RepU m u (cs.getD j undef)
theorem RepRow.one {m : Mem} {u : U} {v : Value} (h : RepU m u v) : RepRow m [u] [v] := ⟨rfl, fun j w hj => by
 cases j with
 | zero => simp at hj; subst hj; exact h
 | succ j => simp at hj⟩
theorem RepRow.append {m : Mem} {a b : List U} {x y : List Value} (h : RepRow m a x) (g : RepRow m b y) : RepRow m (a ++ b) (x ++ y) := by
 refine ⟨by simp [h.1, g.1], fun j u hj => ?_⟩;rw [List.getElem?_append] at hj;rw [List.getD_eq_getElem?_getD, List.getElem?_append, <- h.1];by_cases hl : j < a.length
 ·rw [if_pos hl] at hj ⊢;rw [<- List.getD_eq_getElem?_getD];exact h.2 j u hj
 ·rw [if_neg hl] at hj ⊢;rw [<- List.getD_eq_getElem?_getD];exact g.2 _ u hj
theorem RepRow.flatten {m : Mem} : ∀ {rs : List (List U)} {xs : List (List Value)}, rs.length = xs.length -> (∀ (i : Nat) r x, rs[i]? = some r -> xs[i]? = some x -> RepRow m r x) -> RepRow m rs.flatten xs.flatten
 | [], [], _, _ => ⟨rfl, by simp⟩
 | r :: rs, x :: xs, hl, h => by
  rw [List.flatten_cons, List.flatten_cons];exact (h 0 r x rfl rfl).append (RepRow.flatten (by simpa using hl) fun i r x h1 h2 => h (i + 1) r x (by simpa using h1) (by simpa using h2))
 | [], _ :: _, hl, _ => by simp at hl
 | _ :: _, [], hl, _ => by simp at hl
theorem zij {P : Program} {cs : List Value} : ∀ (l : List Field) (o : Nat), zsd P o l cs.length = true -> cs.drop o = (l.map fun f => (cs.drop f.offset).take (P.cellsOf f.type)).flatten
 | [], o, h => by
  simp [zsd] at h;subst h;simp
 | f :: l, o, h => by
  simp only [zsd, Bool.and_eq_true, beq_iff_eq] at h;obtain ⟨h1, h2⟩ := h;rw [List.map_cons, List.flatten_cons, <- zij l _ h2, h1]
  conv => lhs; rw [<- List.take_append_drop (P.cellsOf f.type) (cs.drop o)]
  rw [List.drop_drop]
theorem zfB {α : Type} {p : Nat -> α -> Prop} : ∀ (n : Nat), (∀ i, i < n -> ∃ x, p i x) -> ∃ l : List α, l.length = n /\ ∀ i x, l[i]? = some x -> p i x
 | 0, _ => ⟨[], rfl, by simp⟩
 | n + 1, h => by
  obtain ⟨l, hl, hp⟩ := zfB n fun i hi => h i (by omega);obtain ⟨x, hx⟩ := h n (by omega);refine ⟨l ++ [x], by simp [hl], fun i y hy => ?_⟩;rw [List.getElem?_append] at hy;by_cases hi : i < l.length
  ·rw [if_pos hi] at hy; exact hp i y hy
  ·rw [if_neg hi] at hy;have hi2 := (lGE.1 hy).1;simp at hi2;have : i = n := by omega
   subst this;rw [hl] at hy;simp at hy;subst hy;exact hx
theorem znb {w : World} {base : Nat} {a : Addr} {n : Nat} {cs : List Value} (h : w.cells? base a n = some cs) (hn : 0 < n) : a.spot = none := by
 obtain ⟨_, hl, hc⟩ := World.cells?_some h;have h0 := hc 0 hn;have hlt : 0 < cs.length := by omega
 rw [List.getElem?_eq_getElem hlt] at h0;simp only [Addr.add, if_true] at h0;unfold World.cell? at h0;cases hs : a.spot with
 | none => rfl
 | some x =>
  exfalso;split at h0
  ·simp [hs] at h0
  ·simp at h0
def szU : U -> Nat
 | .str l => l.length
 | .sl rows => (rows.map fun r => 1 + (r.map fun u => szU u).sum).sum
 | .agg cs => (cs.map fun u => szU u).sum
 | _ => 0
termination_by u => SizeOf.sizeOf u
decreasing_by
 ·rename_i h1 h2;have h1 := List.sizeOf_lt_of_mem h1;have h2 := List.sizeOf_lt_of_mem h2
  simp_wf
  omega
 ·rename_i h2;have h2 := List.sizeOf_lt_of_mem h2
  simp_wf
  omega
theorem zsn (rows : List (List U)) : szU (.sl rows) = (rows.map fun r => 1 + (r.map szU).sum).sum := by rw [szU]
theorem zrh (cs : List U) : szU (.agg cs) = (cs.map szU).sum := by rw [szU]
theorem zso (v : Value) : szU (.oth v) = 0 := by simp [szU]
open Go.Proofs.YtepiegcjnaohjaaGreatDoor.Rows (uptoBulk uptoBulkAll)
theorem zjv {H : Type} (d : DataW H) : 1 <= uptoBulk d := by
 cases d with
 | lit l => cases l <;> simp [uptoBulk]
 | _ => simp [uptoBulk]
theorem zgA {H : Type} : ∀ {l : List (DataW H)} {ns : List Nat}, ns.length = l.length -> (∀ (i n : Nat) (d : DataW H), ns[i]? = some n -> l[i]? = some d -> n <= uptoBulk d) -> ns.sum <= uptoBulkAll l
 | [], [], _, _ => by simp
 | d :: l, n :: ns, hl, h => by
  have h1 := h 0 n d rfl rfl;have h2 := zgA (l := l) (ns := ns) (by simpa using hl) fun i n d hn hd => h (i + 1) n d (by simpa using hn) (by simpa using hd);simp only [uptoBulkAll, List.sum_cons];omega
 | [], _ :: _, hl, _ => by simp at hl
 | _ :: _, [], hl, _ => by simp at hl
theorem zkS (cs : List Value) : ((cs.map U.oth).map szU).sum = 0 := by
 induction cs with
 | nil => rfl
 | cons c cs ih => simp only [List.map_cons, List.sum_cons, ih, zso]
theorem zhd (f : U -> Nat) : ∀ (rs : List (List U)), (rs.flatten.map f).sum = (rs.map fun r => (r.map f).sum).sum
 | [] => rfl
 | r :: rs => by rw [List.flatten_cons, List.map_append, List.sum_append, List.map_cons, List.sum_cons, zhd f rs]
theorem zi0 {H : Type} {enc : TypeId × Value -> H} {P : Program} (hseq : zik P = true) {w : World} {base : Nat} {spare : Nat -> Bool} {held : Bool} : ∀ (fuel : Nat) {t : TypeId} {cs : List Value} {x : DataW H × List MemPlace}, t < P.types.size ->
  DataW.trod enc P w base spare held fuel t cs = some x -> ∃ r, HasRow P t r /\ RepRow (zid w) r cs /\ 1 + (r.map szU).sum <= uptoBulk x.1
 | 0, t, cs, x, _, h => by simp [DataW.trod] at h
 | fuel + 1, t, cs, x, hts, h => by
  have h0 := h;have hb1 := zjv x.1;have oth : ∀ cs : List Value, RepRow (zid w) (cs.map .oth) cs := fun cs => ⟨by simp, fun j u hj => by
   rw [List.getElem?_map] at hj;cases hc : cs[j]? with
   | none => rw [hc] at hj; cases hj
   | some v => rw [hc] at hj; cases hj; rw [List.getD_eq_getElem?_getD, hc]; exact .oth v⟩
  cases hu : P.underlying t with
  | none => exact ⟨_, .other (by rw [hu]; trivial), oth cs, by rw [zkS]; exact hb1⟩
  | some td =>
   cases td with
   | bool =>
    unfold DataW.trod at h;rw [hu] at h;split at h <;> simp_all;exact ⟨_, .bool hu, .one (.bool _), by simp [szU]; omega⟩
   | int k =>
    unfold DataW.trod at h;rw [hu] at h;split at h <;> simp_all [Lit.wf];rename_i hk;obtain ⟨⟨hk1, h1, h2⟩, _⟩ := h;subst hk1;exact ⟨_, .int hu h1 h2, .one (.int _ _), by simp [szU]; omega⟩
   | string =>
    unfold DataW.trod at h;rw [hu] at h;split at h <;> simp_all;rename_i s;refine ⟨[.str s.data.toList], .str hu (by simpa using h.1), .one ?_, ?_⟩
    ·have h := RepU.str (m := zid w) s.data.toList;simpa using h
    ·rw [<- h.2];simp [szU, uptoBulk, uptoBulk, ByteArray.toList_eq];omega
   | slice e =>
    rcases DataW.trod_slice hu h with ⟨rfl, rfl⟩ | ⟨a, len, cap, elems, rest, n, hn, rfl, rfl, hb, hl, hm, hlen, hel, _, _⟩
    ·exact ⟨[.sl []], .slice hu (by simp) (by simp), .one (.slE none 0 fun _ => rfl), by simp [szU]; exact zjv _⟩
    ·have hnf : n = fuel := by omega
     subst hnf;by_cases h0 : len = 0
     ·subst h0;exact ⟨[.sl []], .slice hu (by simp) (by simp), .one (.slE (some a) cap fun e => by cases e), by simp [szU]; exact zjv _⟩
     ·have hrow : ∀ i, i < len -> ∃ q, ∃ cs', w.cells? base (a.add (i * P.cellsOf e)) (P.cellsOf e) = some cs' /\ HasRow P e q /\ RepRow (zid w) q cs' /\ ∀ d, elems[i]? = some d -> 1 + (q.map szU).sum <= uptoBulk d.1 := fun i hi => by
       have h1 := hel i hi;rw [List.getElem?_eq_getElem (by omega)] at h1;cases hc : w.cells? base (a.add (i * P.cellsOf e)) (P.cellsOf e) with
       | none => rw [hc] at h1; cases h1
       | some cs' =>
        rw [hc] at h1;obtain ⟨q, h2, h3, h4⟩ := zi0 hseq n (zjN hseq hts hu) (by simpa using h1);exact ⟨q, cs', rfl, h2, h3, fun d hd => by rw [List.getElem?_eq_getElem (by omega)] at hd; cases hd; exact h4⟩
      obtain ⟨rows, hrl, hrows⟩ := zfB len hrow;by_cases hz : P.cellsOf e = 0
      ·exact ⟨_, .other (by rw [hu]; exact hz), oth _, by rw [zkS]; exact hb1⟩
      ·have hsp : a.spot = none := by
        obtain ⟨cs', h1, _⟩ := hrows 0 rows[0] (List.getElem?_eq_getElem (by omega));have := znb h1 (by omega);simpa [Addr.add] using this
       obtain ⟨b, o, sp⟩ := a;simp only at hsp;subst hsp;refine ⟨[.sl rows], .slice hu (by omega) fun r hr => ?_, .one ?_, ?_⟩
       ·obtain ⟨i, hi⟩ := List.getElem?_of_mem hr;obtain ⟨_, _, h2, _⟩ := hrows i r hi;exact h2
       ·have hat : ∀ i r, rows[i]? = some r -> r.length = P.cellsOf e /\ ∀ j, j < P.cellsOf e -> ∃ v, w.cell? ⟨b, o + i * P.cellsOf e + j, none⟩ = some v /\ ∀ u, r[j]? = some u -> RepU (zid w) u v := fun i r hi => by
         obtain ⟨cs', h1, _, h3, _⟩ := hrows i r hi;obtain ⟨_, h4, h5⟩ := World.cells?_some h1;refine ⟨by rw [h3.1, h4], fun j hj => ?_⟩;have h6 := h5 j hj;rw [zc0, zc0, List.getElem?_eq_getElem (by omega)] at h6;refine ⟨_, h6, fun u hu => ?_⟩;have := h3.2 j u hu;rw [List.getD_eq_getElem?_getD, List.getElem?_eq_getElem (by omega)] at this;exact this
        have := RepU.sl (m := zid w) rows b o (P.cellsOf e) cap (fun i j => (w.cell? ⟨b, o + i * P.cellsOf e + j, none⟩).getD undef) (by omega) hm (fun r hr => by
          obtain ⟨i, hi⟩ := List.getElem?_of_mem hr;exact (hat i r hi).1)
         (fun i hi j hj => by
           obtain ⟨v, hv, _⟩ := (hat i rows[i] (List.getElem?_eq_getElem hi)).2 j hj;exact zdS (by simp [hv]))
         (fun i r hi j u hj => by
           have hl := (hat i r hi).1;obtain ⟨v, hv, hr⟩ := (hat i r hi).2 j (by have := (lGE.1 hj).1; omega);rw [hv];exact hr u hj)
        rw [hrl] at this;exact this
       ·have := zgA (l := elems.map (·.1)) (ns := rows.map fun r => 1 + (r.map szU).sum) (by simp [hrl, hlen]) fun i n' d hn' hd => by
         rw [List.getElem?_map] at hn' hd;cases hr : rows[i]? with
         | none => rw [hr] at hn'; cases hn'
         | some r =>
          cases he : elems[i]? with
          | none => rw [he] at hd; cases hd
          | some y =>
           rw [hr] at hn';rw [he] at hd;cases hn';cases hd;obtain ⟨_, _, _, _, h7⟩ := hrows i r hr;exact h7 y he
        simp only [List.map_cons, List.map_nil, List.sum_cons, List.sum_nil, zsn, uptoBulk];omega
   | struct fs =>
    obtain ⟨xs, n, hn, rfl, hcl, hxl, hf⟩ := DataW.trod_struct hu h;have hnf : n = fuel := by omega
    subst hnf;obtain ⟨hs, hfl⟩ := zi3 hseq hts hu;rw [<- hcl] at hs;have hp := zij fs.toList 0 hs;rw [List.drop_zero] at hp;have hrow : ∀ i, i < fs.size -> ∃ q, ∃ f, fs[i]? = some f /\ HasRow P f.type q /\ RepRow (zid w) q ((cs.drop f.offset).take (P.cellsOf f.type)) /\ ∀ d, xs[i]? = some d -> (q.map szU).sum <= uptoBulk d.1 := fun i hi => by
     have h1 := hf i fs[i] (Array.getElem?_eq_getElem hi);rw [List.getElem?_eq_getElem (by omega)] at h1;obtain ⟨q, h2, h3, h4⟩ := zi0 hseq n (hfl _ (by rw [<- Array.getElem_toList]; exact List.getElem_mem _)) h1;exact ⟨q, fs[i], Array.getElem?_eq_getElem hi, h2, h3, fun d hd => by rw [List.getElem?_eq_getElem (by omega)] at hd; cases hd; omega⟩
    obtain ⟨rs, hrl, hrs⟩ := zfB fs.size hrow;refine ⟨rs.flatten, .struct rs hu hrl fun i f r hi hr => ?_, ?_, ?_⟩
    ·obtain ⟨f', h1, h2, _⟩ := hrs i r hr;rw [hi] at h1;cases h1;exact h2
    ·rw [hp];refine RepRow.flatten (by simp [hrl]) fun i r x hr hx => ?_;obtain ⟨f', h1, _, h3, _⟩ := hrs i r hr;rw [List.getElem?_map, Array.getElem?_toList, h1] at hx;cases hx;exact h3
    ·have := zgA (l := xs.map (·.1)) (ns := rs.map fun r => (r.map szU).sum) (by simp [hrl, hxl]) fun i n' d hn' hd => by
      rw [List.getElem?_map] at hn' hd;cases hr : rs[i]? with
      | none => rw [hr] at hn'; cases hn'
      | some r =>
       cases he : xs[i]? with
       | none => rw [he] at hd; cases hd
       | some y =>
        rw [hr] at hn';rw [he] at hd;cases hn';cases hd;obtain ⟨_, _, _, _, h7⟩ := hrs i r hr;exact h7 y he
     rw [zhd];simp only [uptoBulk];omega
   | _ => exact ⟨_, .other (by rw [hu]; trivial), oth cs, by rw [zkS]; exact hb1⟩
end Go.VL
namespace Go.VL
open Go Go.ChangeShapes Go.WideShapes Go.ChangeAt Go.RowKit Go.Deep
open Go.Proofs.YtepiegcjnaohjaaGreatDoor.Rows (uptoBulk uptoBulkAll)
def zlx (P : Program) : List TypeId -> List (List U) -> Prop
 | [], [] => True
 | t :: ts, r :: rs => HasRow P t r /\ zlx P ts rs
 | _, _ => False
section
variable {P : Program} {t : TypeId} {r : List U}
theorem HasRow.of_int {k : IntKind} (h : HasRow P t r) (ht : ziB P t = some k) : ∃ n, r = [.int k n] /\ k.min <= n /\ n <= k.max := by
 have hu := zhx ht;cases h with
 | int h h1 h2 => rw [hu] at h; cases h; exact ⟨_, rfl, h1, h2⟩
 | other h => rw [hu] at h; exact h.elim
 | struct rs h => rw [hu] at h; cases h
 | _ h => rw [hu] at h; cases h
theorem HasRow.of_str (h : HasRow P t r) (ht : zke P t = true) : ∃ l, r = [.str l] /\ l.length <= maxLen := by
 have hu := zek ht;cases h with
 | str h h1 => exact ⟨_, rfl, h1⟩
 | other h => rw [hu] at h; exact h.elim
 | struct rs h => rw [hu] at h; cases h
 | _ h => rw [hu] at h; cases h
theorem HasRow.of_slice {e sz : Nat} (h : HasRow P t r) (ht : zhF P t = some (e, sz + 1)) : ∃ rows, r = [.sl rows] /\ rows.length <= maxLen /\ ∀ q ∈ rows, HasRow P e q := by
 obtain ⟨hu, hs⟩ := ze7 ht;cases h with
 | slice h h1 h2 => rw [hu] at h; cases h; exact ⟨_, rfl, h1, h2⟩
 | other h =>
  rw [hu] at h;unfold tsz at hs;unfold Program.cellsOf at h;simp only at h;rw [hs] at h;simp at h
 | struct rs h => rw [hu] at h; cases h
 | _ h => rw [hu] at h; cases h
theorem HasRow.of_struct {ts : List TypeId} (h : HasRow P t r) (ht : stT P t = some ts) : ∃ rs, r = rs.flatten /\ zlx P ts rs := by
 unfold stT at ht;split at ht
 ·rename_i fs hu;cases ht;cases h with
  | struct rs h h1 h2 =>
   rw [hu] at h;cases h;refine ⟨rs, rfl, ?_⟩;have key : ∀ (l : List Field) (rs : List (List U)), rs.length = l.length -> (∀ (i : Nat) (f : Field) (r : List U), l[i]? = some f -> rs[i]? = some r -> HasRow P f.type r) -> zlx P (l.map (·.type)) rs := by
    intro l
    induction l with
    | nil => intro rs hl _; simp at hl; subst hl; trivial
    | cons f l ih =>
     intro rs hl h;cases rs with
     | nil => simp at hl
     | cons r rs => exact ⟨h 0 f r rfl rfl, ih rs (by simpa using hl) fun i f r h1 h2 => h (i + 1) f r (by simpa using h1) (by simpa using h2)⟩
   exact key fs.toList rs (by simpa using h1) fun i f r hf hr => h2 i f r (by simpa using hf) hr
  | other h => rw [hu] at h; exact h.elim
  | _ h => rw [hu] at h; cases h
 ·cases ht
end
theorem rows_list {α : Type} (f : α -> List U) (Q : α -> Prop) : ∀ {rows : List (List U)}, (∀ r ∈ rows, ∃ x, r = f x /\ Q x) -> ∃ l : List α, rows = l.map f /\ ∀ x ∈ l, Q x
 | [], _ => ⟨[], rfl, by simp⟩
 | r :: rows, h => by
  obtain ⟨x, rfl, hx⟩ := h r (by simp);obtain ⟨l, rfl, hl⟩ := rows_list f Q (rows := rows) fun r hr => h r (by simp [hr]);exact ⟨x :: l, rfl, by simpa using ⟨hx, hl⟩⟩
def ArgU (P : Program) (t : TypeId) (u : U) : Prop := match P.underlying t with
 | some (.struct _) => ∃ r, u = .agg r /\ HasRow P t r
 | some (.array _ _) => True
 | _ => HasRow P t [u]
theorem ArgU.one {P : Program} {t u} (h : ArgU P t u) (hn : stT P t = none) (ha : zfv P t = true) : HasRow P t [u] := by
 unfold ArgU at h;unfold stT at hn;unfold zfv at ha;split at h <;> simp_all
theorem ArgU.agg {P : Program} {t u ts} (h : ArgU P t u) (hn : stT P t = some ts) : ∃ r, u = .agg r /\ HasRow P t r := by
 unfold ArgU at h;unfold stT at hn;split at h <;> simp_all
def zqQ (P : Program) : List TypeId -> List U -> Prop
 | [], [] => True
 | t :: ts, u :: us => ArgU P t u /\ zqQ P ts us
 | _, _ => False
theorem zmz {P : Program} {w r b t v} (h : Value.okWide P w r b t v) (h1 : ∀ fs, P.underlying t ≠ some (.struct fs)) (h2 : ∀ n e, P.underlying t ≠ some (.array n e)) : v.cells = #[v] := by
 unfold Value.okWide at h;split at h
 ·rename_i fs hu; exact absurd hu (h1 fs)
 ·rename_i n e hu; exact absurd hu (h2 n e)
 ·cases v <;> first | rfl | (exfalso; unfold Cell.okWide at h; split at h <;> simp_all [Cell.ok])
theorem zl9 {H : Type} {enc : TypeId × Value -> H} {P : Program} (hseq : zik P = true) {w : World} {spare : Nat -> Bool} {held : Bool} {r : Reach} {b : Nat} : ∀ {ts : List TypeId} {vs : List Value} {ds : List (DataW H)} {p : List MemPlace},
  DataW.TrodAll enc P w 0 spare held ts vs ds p -> (∀ t ∈ ts, t < P.types.size) -> (∀ (j : Nat) t v, ts[j]? = some t -> vs[j]? = some v -> Value.okWide P w r b t v) -> ∃ us, zqQ P ts us /\ RepRow (zid w) us vs /\ (us.map szU).sum <= uptoBulkAll ds
 | [], [], [], _, _, _, _ => ⟨[], trivial, ⟨rfl, by simp⟩, by simp⟩
 | t :: ts, v :: vs, d :: ds, p, h, hlt, hok => by
  obtain ⟨p1, q1, ⟨fuel, h1⟩, h2, _⟩ := h;obtain ⟨us, h3, h4, hsz⟩ := zl9 hseq h2 (fun t ht => hlt t (by simp [ht])) fun j t v ht hv => hok (j + 1) t v (by simpa using ht) (by simpa using hv);have hv := hok 0 t v rfl rfl;obtain ⟨row, h5, h6, h6s⟩ := zi0 hseq fuel (hlt t (by simp)) h1;simp only at h6s;have hone : ∀ (_ : ∀ fs, P.underlying t ≠ some (.struct fs)) (_ : ∀ n e, P.underlying t ≠ some (.array n e)), ∃ u, HasRow P t [u] /\ RepU (zid w) u v /\ szU u <= uptoBulk d := fun n1 n2 => by
   have hc := zmz hv n1 n2;rw [hc] at h6;have hl := h6.1
   match row, hl with
   | [u], _ => exact ⟨u, h5, by simpa using h6.2 0 u rfl, by simp at h6s; omega⟩
  have zdf : ∀ u, ArgU P t u -> RepU (zid w) u v -> szU u <= uptoBulk d -> ∃ us, zqQ P (t :: ts) us /\ RepRow (zid w) us (v :: vs) /\ (us.map szU).sum <= uptoBulkAll (d :: ds) := fun u hu hr hz => ⟨u :: us, ⟨hu, h3⟩, (RepRow.one hr).append h4, by
   simp only [List.map_cons, List.sum_cons, uptoBulkAll];omega⟩
  cases hu : P.underlying t with
  | none =>
   obtain ⟨u, h7, h8, h9⟩ := hone (fun fs e => by rw [hu] at e; cases e) (fun n x e => by rw [hu] at e; cases e);exact zdf u (by unfold ArgU; rw [hu]; exact h7) h8 h9
  | some td =>
   cases td with
   | struct fs =>
    unfold Value.okWide at hv;rw [hu] at hv;obtain ⟨cs, rfl, _⟩ := hv;refine zdf (.agg row) (by unfold ArgU; rw [hu]; exact ⟨row, rfl, h5⟩) ?_ (by rw [zrh]; omega);have := RepU.agg (m := zid w) row cs.toList (by simpa [Value.cells] using h6.1) (by simpa [Value.cells] using h6.2);simpa using this
   | array n e => exact zdf (.oth v) (by unfold ArgU; rw [hu]; trivial) (.oth v) (by rw [zso]; exact Nat.zero_le _)
   | _ =>
    obtain ⟨u, h7, h8, h9⟩ := hone (fun fs e => by rw [hu] at e; cases e) (fun n x e => by rw [hu] at e; cases e);exact zdf u (by unfold ArgU; rw [hu]; exact h7) h8 h9
theorem zkB {P : Program} {f : FuncId} {us : List U} {b : Bool} (h : Fun P f (us.map .u) (· = .u (.bool b))) {W : World} {args : Array Value} (hg : GlobIn (zid W)) (ha : RepRow (zid W) us args.toList) :
  Calls P f args W fun e W' => e = .returned (.bool b) /\ Below W.heap.size W W' := by
 have := h ⟨zid W, fun _ => none, hg⟩ (W.heap.size <= ·) W args ⟨fun _ _ _ h => h, by simp [getK], by simp [getK]⟩ (fun _ _ => rfl) (fun _ h => h)
  ⟨by simpa using ha.1.symm, fun j d hj => by
   rw [List.getElem?_map] at hj;cases hu : us[j]? with
   | none => rw [hu] at hj; cases hj
   | some u =>
      rw [hu] at hj;cases hj;have := ha.2 j u hu;have e : args.getD j undef = args.toList.getD j undef := by simp
      rw [e];exact Rep.u _ _ this⟩
 refine this.mono ?_;rintro e W' ⟨v, d, o, n, k', rfl, hin, _, _, _, hr, _, rfl⟩;exact ⟨by rw [zcK hr], ⟨hin.os, hin.tape, hin.output, hin.size, fun k hk => hin.block k (by omega)⟩⟩
theorem zfQ {H : Type} {enc : TypeId × Value -> H} {P : Program} (hl : laidOutB P = true) {W W' : World} (hb : Below W.heap.size W W') {sp : Nat -> Bool} : ∀ {ts : List TypeId} {vs : List Value} {ds : List (DataW H)} {ps : List MemPlace},
  (∀ t ∈ ts, P.readableRec t = true /\ t < P.types.size) -> DataW.TrodAll enc P W 0 (fun _ => true) true ts vs ds ps -> (∀ x ∈ ps, x.block < W.heap.size) -> (∀ x ∈ ps, sp x.block = true) -> DataW.TrodAll enc P W' 0 sp true ts vs ds ps
 | [], [], [], _, _, h, _, _ => h
 | t :: ts, v :: vs, d :: ds, ps, hr, h, hlt, hsp => by
  obtain ⟨p, q, h1, h2, rfl⟩ := h;obtain ⟨h3, h4⟩ := hr t (by simp);refine ⟨p, q, WideElems.Trod_stays hl h3 h4 h1 (fun x hx => hb.same (hlt x (by simp [hx]))) (fun x hx => hsp x (by simp [hx])), zfQ hl hb (fun t ht => hr t (by simp [ht])) h2 (fun x hx => hlt x (by simp [hx])) (fun x hx => hsp x (by simp [hx])), rfl⟩
theorem zmv {H : Type} {enc : TypeId × Value -> H} {P : Program} {f : Func} {s : ChangeSpec} {apart fresh handsOn again : Bool} {W W' : World} {args : Array Value} {v : Value} {ds gs : List (DataW H)} {before pa pv : List MemPlace}
  (hW : DataW.Whole enc P f.params.toList s.vars apart W args.toList ds gs before)
  (hres : ∀ (b : Nat) (sp : Nat -> Bool) (hd : Bool), DataW.TrodAll enc P W' b sp hd f.resultTypes.toList (v.resultList f.resultTypes.size) (s.fn H (ds ++ gs)).results [])
  (hargs : ∀ sp : Nat -> Bool, (∀ p ∈ before, sp p.block = true) -> DataW.TrodAll enc P W' 0 sp true f.params.toList args.toList (s.fn H (ds ++ gs)).args pa)
  (hvars : ∀ sp : Nat -> Bool, (∀ p ∈ before, sp p.block = true) -> DataW.TrodVars enc P W' sp s.vars (s.fn H (ds ++ gs)).vars pv)
  (hps : before = pa ++ pv) (hb : Below W.heap.size W W')
  (hok : ∀ (j : Nat) (t : TypeId) (r : Value), f.resultTypes[j]? = some t -> (v.resultList f.resultTypes.size)[j]? = some r -> Value.okWide P W' .any 0 t r) :
  s.post enc P f apart fresh handsOn again W args v W' := by
 have hlt : ∀ p ∈ before, p.block < W.heap.size := fun p hp => hW.lt p hp;have hold : ∀ p ∈ before, (fun b => decide (b < W.heap.size)) p.block = true := fun p hp => by simpa using hlt p hp
 refine ⟨ds, gs, before, [], pa, pv, hW, hres _ _ _, hargs _ hold, hvars _ hold, World.keptBut_mono (fun p hp => ⟨hp, ?_⟩) (hb.frame (· ∈ before)), fun _ => ?_⟩
 ·rw [hps, List.mem_append] at hp;exact Or.inr hp
 ·obtain ⟨_, _, _, _, _, hz, hn⟩ := hW;refine ⟨hok, _, _, ([] ++ pa) ++ pv, ⟨[] ++ pa, pv, trodAll_append (hargs _ (fun _ _ => rfl)) (hres _ _ _), hvars _ (fun _ _ => rfl), rfl, ?_, ?_⟩, ?_⟩
  ·intro b off hp;have hin : MemPlace.cell b off ∈ before := by rw [hps]; simpa using hp
   rw [hb.frozen (hlt _ hin)];exact hz b off hin
  ·intro ha;have := hn ha;rw [hps] at this;simpa using this
  ·intro p hp _;rw [hps];simpa using hp
end Go.VL
namespace Go.VL
open Go
theorem zki (obs : List (Nat × Ob)) (i : Nat) (σ : D -> Option U) (js : List Nat) (x : Nat) : getK ((del obs i).map fun p => if js.contains p.1 then (p.1, frzObS σ p.2) else p) x =
  if x = i then none else (getK obs x).map fun ob => if js.contains x then frzObS σ ob else ob := by
 have e : ((del obs i).map fun p => if js.contains p.1 then (p.1, frzObS σ p.2) else p) = (del obs i).map fun p => (p.1, if js.contains p.1 then frzObS σ p.2 else p.2) := by
  apply List.map_congr_left;intro p _;split <;> rfl
 rw [e, zdK (fun x (o : Ob) => if js.contains x then frzObS σ o else o), zac];by_cases h : x = i <;> simp [h]
theorem zaC (s : St) (i : Nat) (σ : D -> Option U) (js : List Nat) (x : Nat) : getK (s.frzS i σ js).obs x = if x = i then none else (getK s.obs x).map fun ob => if js.contains x then frzObS σ ob else ob := zki s.obs i σ js x
theorem zaD (s : St) (i : Nat) (σ : D -> Option U) (js : List Nat) (x : Nat) : getK (s.frzS i σ js).env x = (getK s.env x).map (VL.frzS σ) := zdK (fun _ d => VL.frzS σ d) s.env x
def zce : U -> U
 | .nil => .sl []
 | x => x
def zcd : U -> U
 | .nil => .sl []
 | .agg cs => .agg (cs.map zce)
 | x => x
def zbZ : D -> D
 | .u x => .u (zcd x)
 | d => d
def zbg : Ob -> Ob
 | .box cs => .box (cs.map zbZ)
 | ob => ob
def St.norm (s : St) : St := { s with env := s.env.map fun p => (p.1, zbZ p.2), obs := s.obs.map fun p => (p.1, zbg p.2) }
theorem zm0 (obs : List (Nat × Ob)) (x : Nat) : getK (obs.map fun p => (p.1, zbg p.2)) x = (getK obs x).map zbg := zdK (fun _ o => zbg o) obs x
theorem zch (s : St) (x : Nat) : getK s.norm.obs x = (getK s.obs x).map zbg := zm0 s.obs x
theorem zci (s : St) (x : Nat) : getK s.norm.env x = (getK s.env x).map zbZ := zdK (fun _ d => zbZ d) s.env x
theorem znX {m : Mem} {x : U} {v : Value} (h : RepU m x v) : RepU m (zce x) v := by
 cases h with
 | nil => exact .slE none 0 fun _ => rfl
 | int k n => exact .int k n
 | bool b => exact .bool b
 | str l => exact .str l
 | oth v => exact .oth v
 | slE a c h => exact .slE a c h
 | sl rows b o sz c f h1 h2 h3 h4 h5 => exact .sl rows b o sz c f h1 h2 h3 h4 h5
 | row cells off b o f h1 h2 => exact .row cells off b o f h1 h2
 | agg cells vs h1 h2 => exact .agg cells vs h1 h2
 | map kk ag es0 es hp b ents clock f h1 h2 h3 h4 => exact .map kk ag es0 es hp b ents clock f h1 h2 h3 h4
theorem znW {m : Mem} {x : U} {v : Value} (h : RepU m x v) : RepU m (zcd x) v := by
 cases h with
 | map kk ag es0 es hp b ents clock f h1 h2 h3 h4 => exact .map kk ag es0 es hp b ents clock f h1 h2 h3 h4
 | nil => exact .slE none 0 fun _ => rfl
 | int k n => exact .int k n
 | bool b => exact .bool b
 | str l => exact .str l
 | oth v => exact .oth v
 | slE a c h => exact .slE a c h
 | sl rows b o sz c f h1 h2 h3 h4 h5 => exact .sl rows b o sz c f h1 h2 h3 h4 h5
 | row cells off b o f h1 h2 => exact .row cells off b o f h1 h2
 | agg cells vs h1 h2 =>
  refine .agg _ vs (by simpa using h1) fun j u hj => ?_;rw [List.getElem?_map] at hj;cases hc : cells[j]? with
  | none => rw [hc] at hj; cases hj
  | some e => rw [hc] at hj; cases hj; exact znX (h2 j e hc)
theorem zj5 {k : Kr} {d : D} {v : Value} (h : Rep k d v) : Rep k (zbZ d) v := by
 cases h with
 | u x v h => exact .u _ _ (znW h)
 | any v => exact .any v
 | ptr i off b c h => exact .ptr i off b c h
 | vec i len h hh => exact .vec i len h hh
 | mp i b c h => exact .mp i b c h
 | elt i sz idx off b c h => exact .elt i sz idx off b c h
 | fnc f caps vs hl hr => exact .fnc f caps vs hl hr
 | bnd f caps vs hl hr => exact .bnd f caps vs hl hr
 | agg cells vs hl hr => exact .agg cells vs hl hr
 | tup cells vs hl hr => exact .tup cells vs hl hr
theorem Wk.norm {Γ : Ctx} (s : St) : Wk Γ s s.norm := by
 intro k a w hin hs;have ho : ∀ i ob, getK s.norm.obs i = some ob -> ∃ ob0, getK s.obs i = some ob0 /\ ob = zbg ob0 := fun i ob hi => by
  have : getK (s.obs.map fun p => (p.1, zbg p.2)) i = some ob := hi;rw [zdK (fun _ o => zbg o)] at this;cases hc : getK s.obs i with
  | none => rw [hc] at this; cases this
  | some o => rw [hc] at this; cases this; exact ⟨o, rfl, rfl⟩
 refine ⟨k, hin, ⟨⟨hs.sat.mem, fun i ob hi => ?_, fun i j x y g g' b hx hy hij => ?_⟩, hs.defers, hs.size, fun x d hx => ?_, hs.hdr⟩⟩
 ·obtain ⟨ob0, h1, rfl⟩ := ho i ob hi;obtain ⟨g, h2, h3, h4⟩ := hs.sat.ob i ob0 h1;refine ⟨g, h2, h3, ?_⟩;cases ob0 with
  | box cs =>
   obtain ⟨b, vs, t, e, h5, h6, h7⟩ := h4;refine ⟨b, vs, t, e, h5, by simpa using h6, fun j d hj => ?_⟩;rw [List.getElem?_map] at hj;cases hc : cs[j]? with
   | none => rw [hc] at hj; cases hj
   | some e => rw [hc] at hj; cases hj; exact ⟨(h7 j e hc).1, zj5 (h7 j e hc).2⟩
  | vec e sz rows => exact h4
  | map kk ag es => exact h4
  | it => exact h4
  | nw => exact h4
 ·obtain ⟨o1, h1, _⟩ := ho i x hx;obtain ⟨o2, h2, _⟩ := ho j y hy;exact hs.sat.apart i j o1 o2 g g' b h1 h2 hij
 ·have hx' : getK (s.env.map fun p => (p.1, zbZ p.2)) x = some d := hx;rw [zdK (fun _ d => zbZ d)] at hx';cases hc : getK s.env x with
  | none => rw [hc] at hx'; cases hx'
  | some e => rw [hc] at hx'; cases hx'; exact ⟨(hs.env x e hc).1, zj5 (hs.env x e hc).2⟩
end Go.VL
namespace Go.VL
open Go
def frz1 (s : St) : List Nat -> Option St
 | [] => none
 | i :: l => match getK s.obs i with
  | some (.vec _ _ rows) => match zcg rows with
   | some us => some (s.frz i us (s.obs.map (·.1)))
   | none => frz1 s l
  | some (.map kk ag es) => match zda es with
   | some us => some (s.frzS i (za8 i kk ag us) (s.obs.map (·.1)))
   | none => frz1 s l
  | _ => frz1 s l
def frzN : Nat -> St -> St
 | 0, s => s
 | n + 1, s => match frz1 s (s.obs.map (·.1)) with
  | some s' => frzN n s'
  | none => s
theorem Wk.frz1 {Γ : Ctx} {s s' : St} : ∀ {l : List Nat}, frz1 s l = some s' -> Wk Γ s s'
 | [], h => by cases h
 | i :: l, h => by
  rw [VL.frz1] at h;split at h
  ·rename_i e sz rows hg;split at h
   ·rename_i us hu;cases h;exact Wk.frz i _ hg hu
   ·exact Wk.frz1 h
  ·rename_i kk ag es hg;split at h
   ·rename_i us hu;cases h;exact Wk.zwy i _ hg hu
   ·exact Wk.frz1 h
  ·exact Wk.frz1 h
theorem Wk.frzN {Γ : Ctx} : ∀ (n : Nat) (s : St), Wk Γ s (frzN n s)
 | 0, s => .refl s
 | n + 1, s => by
  rw [VL.frzN];split
  ·rename_i s' h;exact (Wk.frz1 h).trans (Wk.frzN n s')
  ·exact .refl s
theorem EndW.frzN {P Γ fn n0 post e s} (n : Nat) (h : EndW P Γ fn n0 post e (frzN n s)) : EndW P Γ fn n0 post e s := .wk _ (Wk.frzN n s) h
theorem EndW.norm {P Γ fn n0 post e s} (h : EndW P Γ fn n0 post e s.norm) : EndW P Γ fn n0 post e s := .wk _ (Wk.norm s) h
def frzB (i : Nat) (s : St) : St := match getK s.obs i with
 | some (.box cs) => match zeI cs with
  | some us => s.frzS i (za9 i us) (s.obs.map (·.1))
  | none => s
 | _ => s
theorem Wk.ztP {Γ : Ctx} (i : Nat) (s : St) : Wk Γ s (VL.frzB i s) := by
 unfold VL.frzB;split
 ·rename_i cs hg;split
  ·rename_i us hu;exact Wk.frzB i _ hg hu
  ·exact .refl s
 ·exact .refl s
theorem EndW.frzB {P Γ fn n0 post e s} (i : Nat) (h : EndW P Γ fn n0 post e (VL.frzB i s)) : EndW P Γ fn n0 post e s := .wk _ (Wk.ztP i s) h
end Go.VL
namespace Go.VL
open Go
theorem zvn {P Γ l s s' k} (h : s = s') : H P Γ l s k = H P Γ l s' k := by rw [h]
theorem zql {P Γ o r s s' k} (h : s = s') : zdf P Γ o r s k = zdf P Γ o r s' k := by rw [h]
theorem ztK {P l s s' k} (h : s = s') : HD P l s k = HD P l s' k := by rw [h]
theorem zsG {P l s s' fp fp' C k} (h : s = s') (h' : fp = fp') : HD2 P l s fp C k = HD2 P l s' fp' C k := by rw [h, h']
theorem zvm {P Γ c s s' Q} (h : s = s') : V P Γ c s Q = V P Γ c s' Q := by rw [h]
theorem zrI {P Γ Q k e s s'} (h : s = s') : zan P Γ Q k e s = zan P Γ Q k e s' := by rw [h]
theorem zqm {α : Type} {Γ : Ctx} {S : α -> St} {μ : α -> Nat} {x : α} {s s' : St} (h : s = s') : LoopW Γ S μ x s = LoopW Γ S μ x s' := by rw [h]
theorem zqn {α : Type} {n0 : Nat} {S : α -> St} {μ : α -> Nat} {x : α} {s s' : St} (h : s = s') : LoopI n0 S μ x s = LoopI n0 S μ x s' := by rw [h]
attribute [congr] zvn zql ztK zsG zvm zrI zqm zqn
theorem zc7 {P Γ Q b k s} : zan P Γ Q (.seq b k) .normal s = V P Γ b s (zan P Γ Q k) := rfl
theorem zbi {P Γ Q b k s} : zan P Γ Q (.seq b k) .ret s = zan P Γ Q k .ret s := rfl
theorem za3 {P Γ Q b k s i} : zan P Γ Q (.seq b k) (.exit i) s = zan P Γ Q k (.exit i) s := rfl
theorem zc8 {P Γ Q i k s} : zan P Γ Q (.blk i k) .normal s = zan P Γ Q k .normal s := rfl
theorem zbj {P Γ Q i k s} : zan P Γ Q (.blk i k) .ret s = zan P Γ Q k .ret s := rfl
theorem za5 {P Γ Q i j k s} : zan P Γ Q (.blk i k) (.exit j) s = if j = i then zan P Γ Q k .normal s else zan P Γ Q k (.exit j) s := rfl
theorem zcn {P Γ Q I k s} : zan P Γ Q (.loop I k) .normal s = I s := rfl
theorem za4 {P Γ Q I k s} : zan P Γ Q (.loop I k) .ret s = zan P Γ Q k .ret s := rfl
theorem zaT {P Γ Q I k s i} : zan P Γ Q (.loop I k) (.exit i) s = zan P Γ Q k (.exit i) s := rfl
theorem zco {P Γ Q e s} : zan P Γ Q .done e s = Q e s := rfl
def zcw (P : Program) (Γ : Ctx) (Q : Exit -> St -> Prop) : Code -> Kt -> St -> Prop
 | .seq a b, k, s => zcw P Γ Q a (.seq b k) s
 | .block id c, k, s => zcw P Γ Q c (.blk id k) s
 | .skip, k, s => zan P Γ Q k .normal s
 | .label _, k, s => zan P Γ Q k .normal s
 | .exit id, k, s => zan P Γ Q k (.exit id) s
 | .ret, k, s => zan P Γ Q k .ret s
 | .cond c x y, k, s => match opd s c with
  | .u (.bool t) => (t = true -> V P Γ x s (zan P Γ Q k)) /\ (t = false -> V P Γ y s (zan P Γ Q k))
  | _ => False
 | .region _ l false, k, s => match zbm l l.toList with | some l' => H P Γ l' s (zan P Γ Q k .normal) | none => False
 | c, k, s => V P Γ c s (zan P Γ Q k)
theorem ziP {P Γ Q} : ∀ {c : Code} {k : Kt} {s : St}, zcw P Γ Q c k s -> V P Γ c s (zan P Γ Q k)
 | .seq a b, k, s, h => zsN (ziP (c := a) (by rw [zcw] at h; exact h))
 | .block id c, k, s, h => zpd (ziP (c := c) (by rw [zcw] at h; exact h))
 | .skip, k, s, h => zap (by rw [zcw] at h; exact h)
 | .label _, k, s, h => zrR (by rw [zcw] at h; exact h)
 | .exit id, k, s, h => zaZ (by rw [zcw] at h; exact h)
 | .ret, k, s, h => zar (by rw [zcw] at h; exact h)
 | .cond c x y, k, s, h => by
  rw [zcw] at h;split at h
  ·rename_i t ht;exact zsQ ht h.1 h.2
  ·exact h.elim
 | .region id l false, k, s, h => by
  rw [zcw] at h;have := zo9 (P := P) (Γ := Γ) (s := s) (Q := Q) (kt := k) (id := id) (l := l.toList) fun K hK => by
   split at h
   ·rename_i l' hl;simp only [Array.toArray_toList];rw [hl];exact fun all ops e K' a w h1 h2 Q' hQ => h all ops e K' a w h1 h2 Q' fun K2 a2 w2 s2 h3 h4 h5 => hQ K2 a2 w2 s2 h3 h4 (hK _ h5)
   ·exact h.elim
  simpa using this
 | .region _ _ true, k, s, h => by rw [zcw] at h; exact h; all_goals simp
 | .loop c, k, s, h => by rw [zcw] at h; exact h; all_goals simp
 | .rangeFunc .., k, s, h => by rw [zcw] at h; exact h; all_goals simp
 | .scope .., k, s, h => by rw [zcw] at h; exact h; all_goals simp
 | .goto .., k, s, h => by rw [zcw] at h; exact h; all_goals simp
 | .refuse .., k, s, h => by rw [zcw] at h; exact h; all_goals simp
theorem zqk {P Γ Q c k s s'} (h : s = s') : zcw P Γ Q c k s = zcw P Γ Q c k s' := by rw [h]
attribute [congr] zqk
section
variable {P : Program} {Γ : Ctx} {Q : Exit -> St -> Prop} {k : Kt} {s : St}
theorem zc4 {a b : Code} : zcw P Γ Q (.seq a b) k s = zcw P Γ Q a (.seq b k) s := by rw [zcw]
theorem zbM {i} {a : Code} : zcw P Γ Q (.block i a) k s = zcw P Γ Q a (.blk i k) s := by rw [zcw]
theorem zcl {c x y} : zcw P Γ Q (.cond c x y) k s = match opd s c with
  | .u (.bool t) => (t = true -> V P Γ x s (zan P Γ Q k)) /\ (t = false -> V P Γ y s (zan P Γ Q k))
  | _ => False := by rw [zcw]
theorem zbw {i} {l : List Oper} : zcw P Γ Q (.region i l.toArray false) k s = match zbm l.toArray l with | some l' => H P Γ l' s (zan P Γ Q k .normal) | none => False := by rw [zcw]
theorem zcj {c} : zcw P Γ Q (.loop c) k s = V P Γ (.loop c) s (zan P Γ Q k) := by rw [zcw] <;> simp
theorem zck {i l} : zcw P Γ Q (.region i l true) k s = V P Γ (.region i l true) s (zan P Γ Q k) := by rw [zcw] <;> simp
theorem zah {a b : Code} (h : zcw P Γ Q a (.seq b k) s) : V P Γ (.seq a b) s (zan P Γ Q k) := zsN (ziP h)
theorem zaA {i} {a : Code} (h : zcw P Γ Q a (.blk i k) s) : V P Γ (.block i a) s (zan P Γ Q k) := zpd (ziP h)
theorem zai {c x y} (h : zcw P Γ Q (.cond c x y) k s) : V P Γ (.cond c x y) s (zan P Γ Q k) := ziP h
theorem zaq {i} {l : List Oper} (h : zcw P Γ Q (.region i l.toArray false) k s) : V P Γ (.region i l.toArray false) s (zan P Γ Q k) := ziP h
end
def wkO (s : St) (nx : Nat) : List (Nat × Ob) -> Prop
 | [] => True
 | p :: l => (p.1 < nx /\ getK s.obs p.1 = some p.2 /\ p.2.under nx = true) /\ wkO s nx l
def wkU (nx : Nat) : List (Nat × D) -> Prop
 | [] => True
 | p :: l => p.2.under nx = true /\ wkU nx l
theorem znn {s nx} : ∀ {l : List (Nat × Ob)} {x ob}, wkO s nx l -> getK l x = some ob -> x < nx /\ getK s.obs x = some ob /\ ob.under nx = true
 | [], x, ob, _, h => by simp [getK] at h
 | (y, e) :: l, x, ob, hw, h => by
  rw [zaa] at h;by_cases hx : x = y
  ·rw [if_pos hx] at h; cases h; subst hx; exact hw.1
  ·rw [if_neg hx] at h; exact znn hw.2 h
theorem znj {nx} : ∀ {l : List (Nat × D)} {x d}, wkU nx l -> getK l x = some d -> d.under nx = true
 | [], x, d, _, h => by simp [getK] at h
 | (y, e) :: l, x, d, hw, h => by
  rw [zaa] at h;by_cases hx : x = y
  ·rw [if_pos hx] at h; cases h; subst hx; exact hw.1
  ·rw [if_neg hx] at h; exact znj hw.2 h
theorem Wk.cut {Γ : Ctx} {s s' : St} (hn : s'.n = s.n) (hx : Γ.n0 <= s'.next) (ho : wkO s s'.next s'.obs) (hu : wkU s'.next s'.env) (he : wkE s s'.env) : Wk Γ s s' := by
 intro K0 a w hin0 hs0
 let s1 : St := { s with env := s'.env }
 obtain ⟨K1, hin1, hs1⟩ := (Wk.env (s := s) (s' := s1) (Γ := Γ) rfl rfl rfl he) K0 a w hin0 hs0;refine ⟨_, Sim.weak (ρ := fun i => i) hin1 hs1 ⟨hn, fun x d' h => ⟨?_, znj hu h⟩, fun x d' h => (hs1.env x d' h).1, fun i ob' h => ?_, fun i j ob ob' _ _ e => e, fun i hi => ⟨rfl, by omega⟩⟩⟩
 ·have : s1.at x = d' := by show (getK s'.env x).getD .any = d'; rw [h]; rfl
  rw [this];exact D.le_id d'
 ·obtain ⟨h1, h2, h3⟩ := znn ho h;exact ⟨h1, ob', h2, Ob.le_id ob', h3⟩
theorem zad (n : Nat) (us : List (List U)) : ((rowsD us).all fun r => r.all (·.under n)) = true := by
 simp [rowsD, List.all_eq_true, D.under]
theorem zae (n : Nat) (us : List (Key × List U)) : ((zg1 us).all fun p => p.2.all (·.under n)) = true := by
 simp [zg1, List.all_eq_true, D.under]
def zbR : List D -> Prop
 | [] => True
 | .u _ :: l => zbR l
 | _ => False
def zaX : List (List D) -> Prop
 | [] => True
 | r :: l => zbR r /\ zaX l
theorem zhk : ∀ {r : List D}, zbR r -> ∀ c ∈ r, ∃ x, c = D.u x
 | [], _, c, hc => by cases hc
 | d :: l, h, c, hc => by
  cases d <;> simp only [zbR] at h;rcases List.mem_cons.1 hc with rfl | hc
  ·exact ⟨_, rfl⟩
  ·exact zhk h c hc
theorem zeV : ∀ {r : List (List D)}, zaX r -> zkR r
 | [], _ => znt
 | r :: l, h => zmh (zhk h.1) (zeV h.2)
@[simp] theorem zrk (l : List U) : zbR (l.map .u) = True := by
 induction l with
 | nil => simp [zbR]
 | cons a l ih => simpa [zbR] using ih
@[simp] theorem zpl (l : List (List U)) : zaX (rowsD l) = True := by
 induction l with
 | nil => simp [zaX]
 | cons a l ih => simpa [zaX] using ih
@[simp] theorem znH (a b : List (List D)) : zaX (a ++ b) = (zaX a /\ zaX b) := by
 induction a with
 | nil => simp [zaX]
 | cons r l ih => simp [zaX, ih, and_assoc]
def zqV (es : List (Key × List D)) : Prop := ∃ us, es = zg1 us
@[simp] theorem zrl (us : List (Key × List U)) : zqV (zg1 us) = True := by simp only [eq_iff_iff, iff_true]; exact ⟨us, rfl⟩
def leU (ρ : Nat -> Nat) (nx : Nat) : List D -> List D -> Prop
 | [], [] => True
 | a :: az, b :: bs => (D.le ρ a b /\ b.under nx = true) /\ leU ρ nx az bs
 | _, _ => False
def zrz (ρ : Nat -> Nat) (nx : Nat) (B : List (List D)) : Prop := ∀ r ∈ B, ∀ c ∈ r, c = c.ren ρ /\ c.under nx = true
def obR (ρ : Nat -> Nat) (nx : Nat) : Ob -> Ob -> Prop
 | .box cs, .box cs' => leU ρ nx cs cs'
 | .vec e sz A, .vec e' sz' B => e = e' /\ sz = sz' /\ A = B /\ (zaX B \/ zrz ρ nx B)
 | .map kk ag es, .map kk' ag' es' => kk = kk' /\ ag = ag' /\ es = es' /\ zqV es'
 | .it kk ag es left cur, .it kk' ag' es' left' cur' => kk = kk' /\ ag = ag' /\ es = es' /\ left = left' /\ cur = cur'
 | .nw t, .nw t' => t = t'
 | _, _ => False
def wkR (s : St) (ρ : Nat -> Nat) (nx : Nat) : List (Nat × Ob) -> Prop
 | [] => True
 | p :: l => (p.1 < nx /\ (match getK s.obs (ρ p.1) with | some ob => obR ρ nx ob p.2 | none => False)) /\ wkR s ρ nx l
def zhW (s : St) (ρ : Nat -> Nat) (nx : Nat) : List (Nat × D) -> Prop
 | [] => True
 | p :: l => ((match getK s.env p.1 with | some d => D.le ρ d p.2 | none => False) /\ p.2.under nx = true) /\ zhW s ρ nx l
theorem zol {ρ nx} : ∀ {a b : List D}, leU ρ nx a b -> leL ρ a b /\ b.all (·.under nx) = true
 | [], [], _ => ⟨trivial, rfl⟩
 | a :: az, b :: bs, h => by
  obtain ⟨h1, h2⟩ := zol h.2;exact ⟨⟨h.1.1, h1⟩, by simp [h.1.2, h2]⟩
 | [], b :: bs, h => h.elim
 | a :: az, [], h => h.elim
theorem zro {ρ nx ob ob'} (h : obR ρ nx ob ob') : Ob.le ρ ob ob' /\ ob'.under nx = true := by
 cases ob <;> cases ob' <;> simp only [obR] at h
 ·obtain ⟨h1, h2⟩ := zol h;exact ⟨Ob.zsW h1, h2⟩
 ·obtain ⟨rfl, rfl, rfl, h⟩ := h;rcases h with h | h
  ·have hu := zeV h;exact ⟨Ob.zlw hu, Ob.zkI hu⟩
  ·refine ⟨⟨rfl, rfl, Nat.le_refl _, fun i r r' hi hi' => ?_⟩, ?_⟩
   ·rw [hi] at hi';cases hi';refine ⟨rfl, fun j c c' hj hj' => ?_⟩;rw [hj] at hj';cases hj';exact .inr (.inl (h r (List.mem_of_getElem? hi) c (List.mem_of_getElem? hj)).1)
   ·simp only [Ob.under, List.all_eq_true];exact fun r hr c hc => (h r hr c hc).2
 ·obtain ⟨rfl, rfl, rfl, us, rfl⟩ := h;refine ⟨⟨rfl, rfl, rfl, fun i p p' hi hi' => ?_⟩, zae _ _⟩;rw [hi] at hi';cases hi';refine ⟨rfl, fun j c c' hj hj' => ?_⟩;rw [hj] at hj';cases hj';rw [zg1, List.getElem?_map] at hi;cases hq : us[i]? with
  | none => rw [hq] at hi; cases hi
  | some q =>
   rw [hq] at hi;cases hi;simp only [List.getElem?_map] at hj;cases hx : q.2[j]? with
   | none => rw [hx] at hj; cases hj
   | some x => rw [hx] at hj; cases hj; exact .inr (.inl (by simp [D.ren]))
 ·exact ⟨h, rfl⟩
 ·exact ⟨h, rfl⟩
theorem zkN {s ρ nx} : ∀ {l : List (Nat × Ob)}, wkR s ρ nx l -> ∀ x ob', getK l x = some ob' -> x < nx /\ ∃ ob, getK s.obs (ρ x) = some ob /\ Ob.le ρ ob ob' /\ ob'.under nx = true
 | [], _, x, d', h => by simp [getK] at h
 | (y, d) :: l, h, x, d', hx => by
  rw [zaa] at hx;by_cases e : x = y
  ·rw [if_pos e] at hx;cases hx;subst e;obtain ⟨⟨h1, h2⟩, _⟩ := h;refine ⟨h1, ?_⟩;split at h2
   ·rename_i ob hg;exact ⟨ob, hg, zro h2⟩
   ·exact h2.elim
  ·rw [if_neg e] at hx; exact zkN h.2 x d' hx
theorem zfL {s ρ nx} : ∀ {l : List (Nat × D)}, zhW s ρ nx l -> ∀ x d', getK l x = some d' -> (∃ d, getK s.env x = some d /\ D.le ρ d d') /\ d'.under nx = true
 | [], _, x, d', h => by simp [getK] at h
 | (y, d) :: l, h, x, d', hx => by
  rw [zaa] at hx;by_cases e : x = y
  ·rw [if_pos e] at hx;cases hx;subst e;obtain ⟨⟨h1, h2⟩, _⟩ := h;refine ⟨?_, h2⟩;split at h1
   ·rename_i d0 hg;exact ⟨d0, hg, h1⟩
   ·exact h1.elim
  ·rw [if_neg e] at hx; exact zfL h.2 x d' hx
theorem Wk.ren {Γ : Ctx} {s s' : St} (ρ : Nat -> Nat) (hn : s'.n = s.n) (hx : ∀ i, i < Γ.n0 -> ρ i = i /\ i < s'.next) (he : zhW s ρ s'.next s'.env) (ho : wkR s ρ s'.next s'.obs)
  (hi : ∀ i ∈ s'.obs.map (·.1), ∀ j ∈ s'.obs.map (·.1), ρ i = ρ j -> i = j) : Wk Γ s s' := by
 intro K0 a w hin0 hs0;refine ⟨_, Sim.weak (ρ := ρ) hin0 hs0 ⟨hn, fun x d' h => ?_, fun x d' h => ?_, fun i ob h => zkN ho i ob h, fun i j ob ob' hi' hj' e => hi i (zfk hi') j (zfk hj') e, hx⟩⟩
 ·obtain ⟨⟨d, h1, h2⟩, h3⟩ := zfL he x d' h;have : s.at x = d := by show (getK s.env x).getD .any = d; rw [h1]; rfl
  rw [this];exact ⟨h2, h3⟩
 ·obtain ⟨⟨d, h1, h2⟩, h3⟩ := zfL he x d' h;exact (hs0.env x d h1).1
theorem zay (σ : D -> Option U) (us : List (Key × List U)) : (zg1 us).map (fun p => (p.1, p.2.map (frzS σ))) = zg1 us := by
 simp only [zg1, List.map_map];apply List.map_congr_left;intro p _;have : (p.2.map D.u).map (frzS σ) = p.2.map D.u := by
  rw [List.map_map];apply List.map_congr_left;intro x _;simp [frzS]
 simp [Function.comp, frzS]
theorem zat (σ : D -> Option U) (us : List (List U)) : (rowsD us).map (fun r => r.map (frzS σ)) = rowsD us := by
 simp only [rowsD, List.map_map];apply List.map_congr_left;intro p _;simp [Function.comp, frzS]
end Go.VL
namespace Go.VL
open Go
abbrev zd3 := Nat × Key × List D
def zs5 (o : List (Nat × Ob)) (e : zd3) : List (Nat × Ob) := match getK o e.1 with | some (.map kk ag es) => zcJ o e.1 (.map kk ag (zdm es e.2.1 e.2.2)) | _ => o
def zp0 : List zd3 -> List (Nat × Ob) -> List (Nat × Ob)
 | [], o => o
 | e :: L, o => zp0 L (zs5 o e)
def obE (e : zd3) (x : Option Ob) : Option Ob := match x with | some (.map kk ag es) => some (.map kk ag (zdm es e.2.1 e.2.2)) | x => x
def zkM : List zd3 -> Nat -> Option Ob -> Option Ob
 | [], _, x => x
 | e :: L, z, x => zkM L z (if z = e.1 then obE e x else x)
theorem zf3 {α β : Type} {f g : α -> Option β} : ∀ {l : List α}, (∀ x ∈ l, f x = g x) -> l.filterMap f = l.filterMap g
 | [], _ => rfl
 | a :: l, h => by rw [List.filterMap_cons, List.filterMap_cons, h a (by simp), zf3 fun x hx => h x (by simp [hx])]
theorem zca : ∀ (L : List zd3) (o : List (Nat × Ob)) (z : Nat), getK (zp0 L o) z = zkM L z (getK o z)
 | [], _, _ => rfl
 | e :: L, o, z => by
  rw [zp0, zca L, zkM]
  congr 1
  unfold zs5 obE;by_cases hz : z = e.1
  ·subst hz;rw [if_pos rfl];cases hg : getK o e.1 with
   | none => exact hg
   | some ob => cases ob <;> simp [hg, zam, zaa]
  ·rw [if_neg hz];cases hg : getK o e.1 with
   | none => rfl
   | some ob => cases ob <;> simp [zam, zaa, hz]
theorem zdV : ∀ {L : List zd3} {z : Nat} {x : Option Ob}, (∀ e ∈ L, e.1 ≠ z) -> zkM L z x = x
 | [], _, _, _ => rfl
 | e :: L, z, x, h => by
  rw [zkM, if_neg (fun q => h e (by simp) q.symm)];exact zdV fun e he => h e (by simp [he])
theorem zhy : ∀ (L : List zd3) (e : zd3) (z : Nat) (x : Option Ob), zkM (L ++ [e]) z x = zkM [e] z (zkM L z x)
 | [], _, _, _ => rfl
 | a :: L, e, z, x => by rw [List.cons_append, zkM, zhy L e]; rfl
theorem zjg : ∀ (L : List zd3) (z : Nat) (kk : KK) (ag : Bool) (es : List (Key × List D)), ∃ es', zkM L z (some (.map kk ag es)) = some (.map kk ag es')
 | [], _, _, _, es => ⟨es, rfl⟩
 | e :: L, z, kk, ag, es => by
  rw [zkM];split
  ·exact zjg L z kk ag _
  ·exact zjg L z kk ag es
def zsD (z : Nat) (L : List zd3) : List (Key × List D) := L.filterMap fun e => if e.1 = z then some (e.2.1, e.2.2) else none
theorem zg0 {z : Nat} {kk : KK} {ag : Bool} : ∀ (L : List zd3) (es : List (Key × List D)), L.Pairwise (fun a b => a.1 = b.1 -> a.2.1 ≠ b.2.1) -> (∀ e ∈ L, e.1 = z -> ∀ p ∈ es, p.1 ≠ e.2.1) -> zkM L z (some (.map kk ag es)) = some (.map kk ag (es ++ zsD z L))
 | [], es, _, _ => by simp [zkM, zsD]
 | e :: L, es, hp, h => by
  rw [List.pairwise_cons] at hp;rw [zkM];by_cases hz : z = e.1
  ·rw [if_pos hz];unfold obE;simp only;rw [zfO (h e (by simp) hz.symm), zg0 L _ hp.2 fun a ha haz p hp' => ?_]
   ·simp [zsD, hz]
   ·rcases List.mem_append.1 hp' with hp' | hp'
    ·exact h a (by simp [ha]) haz p hp'
    ·simp at hp';subst hp';exact hp.1 a ha (by rw [<- hz, haz])
  ·rw [if_neg hz, zg0 L _ hp.2 fun a ha haz p hp' => h a (by simp [ha]) haz p hp'];simp [zsD, Ne.symm hz]
def stX (ops : List Oper) (T : Nat -> D) (W : Nat -> Wr) (s : St) (M : Nat) (S : Nat -> Bool) (L : List zd3) : St :=
 { stW ops T W s M S with obs := zp0 L (stW ops T W s M S).obs }
def InsOK (P : Program) (st : St) (op : Op) (e : zd3) : Prop :=
 ∃ t x ki v kk ag z ku, (op = .mapUpdate t x ki v \/ op = .insert t x ki v) /\ zdz P t = some (kk, ag, z) /\ opd st x = .mp e.1 /\ opd st ki = .u ku /\ zfX ku = some e.2.1 /\ e.2.1.kk = kk /\ zfI ag (opd st v) = some e.2.2 /\ getK st.obs e.1 = some (.map kk ag [])
theorem InsOK.base {P st op e} (h : InsOK P st op e) : ∃ kk ag, getK st.obs e.1 = some (.map kk ag []) := by
 obtain ⟨t, x, ki, v, kk, ag, z, ku, _, _, _, _, _, _, _, h⟩ := h;exact ⟨kk, ag, h⟩
theorem Sat.permO {k own o o' w} (h : Sat k own o w) (e : ∀ z, getK o' z = getK o z \/ ∃ kk ag es es', getK o z = some (.map kk ag es) /\ getK o' z = some (.map kk ag es') /\ es.Perm es') : Sat k own o' w := by
 have conv : ∀ z ob, getK o' z = some ob -> ∃ ob0, getK o z = some ob0 := fun z ob hz => by
  rcases e z with h1 | ⟨kk, ag, es, es', h1, h2, h3⟩
  ·exact ⟨ob, by rw [<- h1]; exact hz⟩
  ·exact ⟨_, h1⟩
 refine ⟨h.mem, fun i ob hi => ?_, fun i j x y g g' b hi hj => ?_⟩
 ·rcases e i with h1 | ⟨kk, ag, es, es', h1, h2, h3⟩
  ·exact h.ob i ob (by rw [<- h1]; exact hi)
  ·rw [h2] at hi;cases hi;obtain ⟨g, g1, g2, b, ents, clock, es0, g3, g4, g5, g6⟩ := h.ob i _ h1;exact ⟨g, g1, g2, b, ents, clock, es0, g3, g4, g5.trans h3, g6⟩
 ·obtain ⟨x', hx⟩ := conv i x hi;obtain ⟨y', hy⟩ := conv j y hj;exact h.apart i j x' y' g g' b hx hy
theorem zed {L L' : List zd3} (hp : L.Perm L') (h : L.Pairwise fun a b => a.1 = b.1 -> a.2.1 ≠ b.2.1) : L'.Pairwise fun a b => a.1 = b.1 -> a.2.1 ≠ b.2.1 :=
 hp.pairwise h fun q e => (q e.symm).symm
theorem Sat.permL {k own w} {L L' : List zd3} {o : List (Nat × Ob)} (h : Sat k own (zp0 L o) w) (hp : L.Perm L') (hd : L.Pairwise fun a b => a.1 = b.1 -> a.2.1 ≠ b.2.1) (hb : ∀ e ∈ L, ∃ kk ag, getK o e.1 = some (.map kk ag [])) : Sat k own (zp0 L' o) w := by
 refine h.permO fun z => ?_;rw [zca, zca];by_cases hz : ∃ e ∈ L, e.1 = z
 ·obtain ⟨e, he, rfl⟩ := hz;obtain ⟨kk, ag, hg⟩ := hb e he;rw [hg, zg0 L [] hd (by simp), zg0 L' [] (zed hp hd) (by simp)];exact .inr ⟨kk, ag, _, _, rfl, rfl, by simpa [zsD] using hp.filterMap _⟩
 ·have h1 : ∀ e ∈ L, e.1 ≠ z := fun e he q => hz ⟨e, he, q⟩;rw [zdV h1, zdV fun e he => h1 e (hp.mem_iff.2 he)];exact .inl rfl
theorem zk8 {P : Program} {Γ : Ctx} {o : Oper} {s : St} {t : TypeId} {x i v : Operand} {m : Nat} {kk : KK} {ag : Bool} {z : List U} {ku : U} {ky : Key} {cells : List D} {es : List (Key × List D)} (ho : o.op = .mapUpdate t x i v \/ o.op = .insert t x i v) (hd : o.dst = none)
  (hinf : zdz P t = some (kk, ag, z)) (hx : opd s x = .mp m) (hi : opd s i = .u ku) (hg : getK s.obs m = some (.map kk ag es)) (hky : zfX ku = some ky) (hkk2 : ky.kk = kk) (hvm : zfI ag (opd s v) = some cells) {K : Kr} {a : Act} {w : World} (hin : In Γ K w) (hs : Sim K Γ.own s a w) :
  ∃ w', (execOp a.eval o).run P w = .ok .skip w' /\ In Γ K w' /\ Sim K Γ.own { s with obs := zcJ s.obs m (.map kk ag (zdm es ky cells)) } (a.put o.dst undef) w' := by
 obtain ⟨kt, e, hu, hkk, _⟩ := zdR hinf;obtain ⟨b, c, ents, clock, es0, hh, hown, hheap, hpm, hm, hno⟩ := (hs.sat.ob m _ hg).map;have hrx := zaM hs x;rw [hx] at hrx;obtain ⟨b', c', hh', hxv⟩ := zim hrx;rw [hh] at hh';cases hh';have hri := zaM hs i;rw [hi] at hri;have hiv : a.eval i = ky.val := by cases hri with | u _ _ hri => exact zgZ hky hri
 obtain ⟨ents', clock', hrun, hm'⟩ := zir (w := w) hu hkk hkk2 hm hheap (zlD hvm (zaM hs v));have hrun' : (execOp a.eval o).run P w = .ok .skip (w.putMap b ents' clock') := by
  obtain ⟨dst, op, type, pos, after, guard⟩ := o;simp only at ho;rcases ho with rfl | rfl
  ·simp [execOp, hxv, hiv, hrun]
  ·simp [execOp, hxv, hiv, hrun]
 have hsame := MapKept.heap_set (o' := .map ents' clock') hheap;have hin' : In Γ K (w.putMap b ents' clock') := hin.step (.refl K) (fun _ _ _ e => .inl e) rfl rfl rfl (by simp [World.putMap]) (fun b' hb' => hsame.2 b' fun e => hb' (by rw [e]; exact hown));refine ⟨_, hrun', hin', ?_⟩;rw [hd];exact ⟨Sat.congr (Sat.set (h := (some b, c)) hs.sat hg hh (fun b' hb' => hsame.2 b' fun e => hb' (by rw [e])) (ob' := .map kk ag (zdm es ky cells)) ⟨b, ents', clock', _, rfl, hsame.1, zjE hpm hm.once, hm'⟩) (zam _ _ _), hs.defers, hs.size, hs.env, hs.hdr⟩
theorem zo1 {ops : List Oper} (hord : zfx ops = true) : ∀ {n i j : Nat}, zdE ops n i j = true -> i < j
 | 0, _, _, h => by cases h
 | n + 1, i, j, h => by
  unfold zdE at h;split at h
  ·rename_i o ho;rw [List.any_eq_true] at h;obtain ⟨p, hp, hpi⟩ := h;have hlt := (zcA hord ho).1 p hp;simp only [Bool.or_eq_true, beq_iff_eq] at hpi;rcases hpi with rfl | hpi
   ·exact hlt
   ·have := zo1 hord hpi; omega
  ·cases h
theorem zh6 {n i : Nat} {N : Nat -> Option zd3} {S : Nat -> Bool} (h : N i = none) : ((List.range n).filterMap fun j => if (S j || j == i) = true then N j else none) = (List.range n).filterMap fun j => if S j = true then N j else none :=
 zf3 fun j _ => by
  by_cases hj : j = i
  ·subst hj; simp [h]
  ·simp [hj]
theorem zjj {n i : Nat} {N : Nat -> Option zd3} {S : Nat -> Bool} {L : List zd3} {e : zd3} (hp : L.Perm ((List.range n).filterMap fun j => if S j = true then N j else none)) (hi : i < n) (hS : S i = false) (h : N i = some e) :
  (L ++ [e]).Perm ((List.range n).filterMap fun j => if (S j || j == i) = true then N j else none) := by
 have : ∀ (l : List Nat), l.Nodup -> i ∈ l -> ((l.filterMap fun j => if S j = true then N j else none) ++ [e]).Perm (l.filterMap fun j => if (S j || j == i) = true then N j else none) := by
  intro l
  induction l with
  | nil => intro _ hm; cases hm
  | cons a l ih =>
   intro hnd hm;rw [List.nodup_cons] at hnd;by_cases ha : a = i
   ·subst ha;have hsame : (l.filterMap fun j => if (S j || j == a) = true then N j else none) = l.filterMap fun j => if S j = true then N j else none :=
     zf3 fun j hj => by
           have : j ≠ a := fun q => hnd.1 (q ▸ hj);simp [this]
    simp only [List.filterMap_cons, hS, Bool.false_eq_true, if_false, Bool.false_or, beq_self_eq_true, if_true, h];rw [hsame];exact List.perm_append_comm
   ·have hm' : i ∈ l := by rcases List.mem_cons.1 hm with rfl | hm; exact absurd rfl ha; exact hm
    have := ih hnd.2 hm';have hai : (a == i) = false := by simp [ha]
    simp only [List.filterMap_cons, hai, Bool.or_false];split
    ·exact this
    ·exact this.cons _
 exact (hp.append_right [e]).trans (this _ List.nodup_range (List.mem_range.2 hi))
set_option maxHeartbeats 4000000 in
theorem zqE {P Γ} {Q : Exit -> St -> Prop} {kt : Kt} {id : Nat} {ops : List Oper} {T : Nat -> D} {W : Nat -> Wr} {cr : Nat -> Option Nat} {R : Nat -> List Nat} {N : Nat -> Option zd3} {s : St} {M : Nat}
  (hm : P.follows .mixedOrders = true) (hord : zfx ops = true) (hn0 : Γ.n0 <= s.next) (hM : s.next <= M)
  (hcr : ∀ i x, cr i = some x -> s.next <= x /\ x < M) (hcr1 : ∀ i j x, cr i = some x -> cr j = some x -> i = j)
  (hpair : ∀ i j, i < j -> j < ops.length -> zdE ops ops.length i j = false -> (∀ y ∈ zcx (W i), y ∉ R j /\ y ∉ zcx (W j)) /\ ∀ y ∈ zcx (W j), y ∉ R i)
  (hins : ∀ i o e, ops[i]? = some o -> N i = some e -> W i = [] /\ cr i = none /\ o.guard = none /\ o.dst = none /\ InsOK P (stW ops T W s M fun j => decide (j < i)) o.op e)
  (hNR : ∀ i j e, i < ops.length -> j < ops.length -> N i = none -> N j = some e -> e.1 ∉ R i /\ (e.1 ∈ zcx (W i) -> zdE ops ops.length i j = true))
  (hdist : ∀ i j e e', i ≠ j -> N i = some e -> N j = some e' -> e.1 = e'.1 -> e.2.1 ≠ e'.2.1)
  (hval : ∀ i o, ops[i]? = some o -> N i = none -> zaI o.dst s /\ OpG P ops.toArray (stW ops T W s M fun j => decide (j < i)) o (T i) (W i) (cr i) (R i))
  (hfin : ∃ s', (stX ops T W s M (fun _ => true) ((List.range ops.length).filterMap N)).Eqo s' /\ zan P Γ Q kt .normal s') : V P Γ (.region id ops.toArray true) s (zan P Γ Q kt) := by
 intro K a w hin hs;refine wp_region_any hm ?_;have hin0 : In Γ K { w with drawn := w.drawn + 1 } := ⟨hin.le, hin.none0, hin.memNew, hin.fresh, hin.os, hin.tape, hin.output, hin.size, hin.block⟩;have hs0 : Sim K Γ.own s a { w with drawn := w.drawn + 1 } := ⟨⟨hs.sat.mem, fun i ob hi => by
   obtain ⟨h, h1, h2, h3⟩ := hs.sat.ob i ob hi;exact ⟨h, h1, h2, h3.keep (.refl _) fun b e => rfl⟩, hs.sat.apart⟩, hs.defers, hs.size, hs.env, hs.hdr⟩
 generalize ({ w with drawn := w.drawn + 1 } : World) = w0 at hin0 hs0;have hLdist : ∀ L : List zd3, L.Perm ((List.range ops.length).filterMap N) -> L.Pairwise fun a b => a.1 = b.1 -> a.2.1 ≠ b.2.1 := fun L hp => by
  refine zed hp.symm ?_;rw [List.pairwise_filterMap];refine List.nodup_range.imp fun {a b} hab e he e' he' hid => ?_;exact hdist a b e e' hab he he' hid
 have key : ∀ (fuel : Nat) (listed : Array Bool) (L : List zd3) (K : Kr) (a : Act) (w : World), listed.size = ops.length -> (listed.toList.filter (! ·)).length <= fuel ->
   (∀ j y, ops[j]? = some y -> listed.getD j false = true -> ∀ p ∈ zbP y, listed.getD p false = true) -> In Γ K w -> Sim K Γ.own (stX ops T W s M (fun j => listed.getD j false) L) a w ->
   L.Perm ((List.range ops.length).filterMap fun j => if listed.getD j false = true then N j else none) ->
   (∀ j x, j < ops.length -> listed.getD j false = false -> cr j = some x -> K.hdr x = none) ->
   wpAny P .any ops.toArray (VPost Γ (zan P Γ Q kt)) fuel listed a w := by
  have allDone : ∀ (listed : Array Bool) (L : List zd3) (K : Kr) (a : Act) (w : World), (∀ j, j < ops.length -> listed.getD j false = true) -> In Γ K w -> Sim K Γ.own (stX ops T W s M (fun j => listed.getD j false) L) a w ->
    L.Perm ((List.range ops.length).filterMap fun j => if listed.getD j false = true then N j else none) ->
    ∃ K' s', In Γ K' w /\ Sim K' Γ.own s' a w /\ zan P Γ Q kt .normal s' := fun listed L K a w hall hin hs hLp => by
   obtain ⟨s', he, hfin⟩ := hfin;have hLc : ((List.range ops.length).filterMap fun j => if listed.getD j false = true then N j else none) = (List.range ops.length).filterMap N :=
    zf3 fun j hj => by rw [if_pos (hall j (List.mem_range.1 hj))]
   rw [hLc] at hLp;have h1 : Sim K Γ.own (stX ops T W s M (fun _ => true) L) a w := by
    refine hs.eqo ⟨rfl, fun x => ?_, rfl, fun x => ?_⟩
    ·simp only [stX, stW, zca, zax];rw [zbv W _ (fun _ => true) x ops.length fun j hj _ => hall j hj]
    ·exact zbp T _ _ x ops 0 s.env s.env rfl fun j o hj _ => by
      have hl := (lGE.1 hj).1;simp only [Nat.zero_add];exact hall j hl
   ·refine ⟨K, _, hin, Sim.eqo (⟨h1.sat.permL hLp ?_ ?_, h1.defers, h1.size, h1.env, h1.hdr⟩ : Sim K Γ.own (stX ops T W s M (fun _ => true) ((List.range ops.length).filterMap N)) a w) he, hfin⟩
    ·exact hLdist _ hLp
    ·intro e he;obtain ⟨j, hj, hNj⟩ := List.mem_filterMap.1 (hLp.mem_iff.1 he);have hjl := List.mem_range.1 hj;obtain ⟨g1, g2, g3, g4, g5⟩ := hins j _ e (List.getElem?_eq_getElem hjl) hNj;obtain ⟨kk, ag, g6⟩ := g5.base;refine ⟨kk, ag, ?_⟩;rw [<- g6];simp only [stW, zax];rw [zbv W (fun _ => true) (fun q => decide (q < j)) e.1 ops.length fun q hq hk => ?_];have hqn : N q = none := by
      cases hN : N q with
      | none => rfl
      | some e' =>
       rw [(hins q _ e' (List.getElem?_eq_getElem hq) hN).1] at hk;cases hk
     have := zo1 hord ((hNR q j e hq hjl hqn hNj).2 hk);simp [this]
  have least : ∀ (listed : Array Bool), listed.size = ops.length -> ∀ i, i < ops.length -> listed.getD i false = false -> ∃ i0, i0 ∈ Region.ready .any ops.toArray listed := fun listed hsz i hi hu => by
   induction i using Nat.strongRecOn with
   | _ i ih =>
    have ho : ops[i]? = some ops[i] := List.getElem?_eq_getElem hi;by_cases hp : ∀ p ∈ zbP ops[i], listed.getD p false = true
    ·refine ⟨i, mem_ready.2 ⟨?_, ops[i], by simp, fun e he hb => hp e.on ?_⟩⟩
     ·have hi' : i < listed.size := by omega
      simp [hi'] at hu ⊢;exact hu
     ·simp only [zbP, List.mem_map, List.mem_filter];exact ⟨e, ⟨by simpa using he, hb⟩, rfl⟩
    ·simp only [Classical.not_forall] at hp;obtain ⟨p, hpm, hpu⟩ := hp;have hlt := (zcA hord ho).1 p hpm;exact ih p hlt (by omega) (by simpa using hpu)
  intro fuel
  induction fuel with
  | zero =>
   intro listed L K a w hsz hcnt hcl hin hs hLp _;have hall : ∀ j, j < ops.length -> listed.getD j false = true := fun j hj => by
    have hj' : j < listed.size := by omega
    have h0 : (listed.toList.filter (! ·)) = [] := List.eq_nil_of_length_eq_zero (by omega);have := (List.filter_eq_nil_iff.1 h0) listed[j] (by simp);simp only [Bool.not_eq_true', Bool.not_eq_false] at this;simp [hj', this]
   refine ⟨?_, .inl (allDone listed L K a w hall hin hs hLp)⟩;refine List.eq_nil_iff_forall_not_mem.2 fun i hi => ?_;obtain ⟨h1, o, ho, _⟩ := mem_ready.1 hi;have hl : i < ops.length := by
    have := (Array.getElem?_eq_some_iff.1 ho).1;simpa using this
   have := hall i hl;have hi' : i < listed.size := by omega
   simp [hi'] at h1 this;rw [h1] at this;cases this
  | succ fuel ih =>
   intro listed L K a w hsz hcnt hcl hin hs hLp hfr;refine ⟨fun hnil => .inl (allDone listed L K a w (fun j hj => ?_) hin hs hLp), fun i hi => ?_⟩
   ·cases hu : listed.getD j false with
    | true => rfl
    | false =>
     obtain ⟨i0, h0⟩ := least listed hsz j hj hu;rw [hnil] at h0;cases h0
   ·obtain ⟨hun, o, ho, hall⟩ := mem_ready.1 hi;have ho' : ops[i]? = some o := by simpa using ho
    have hil := (lGE.1 ho').1;have hil' : i < listed.size := by omega
    have hunf : listed.getD i false = false := by simp [hil'] at hun ⊢; exact hun
    have hpred : ∀ p ∈ zbP o, listed.getD p false = true := fun p hp => by
     simp only [zbP, List.mem_map, List.mem_filter] at hp;obtain ⟨e, ⟨he, hb⟩, rfl⟩ := hp;exact hall e (by simpa using he) hb
    have bef1 : ∀ j, zdE ops ops.length j i = true -> listed.getD j false = true := fun j hb => zcO hcl _ j i o ho' hpred hb;have bef2 : ∀ j x, ops[j]? = some x -> zdE ops ops.length i j = true -> listed.getD j false = false := fun j x hj hb => by
     cases hu : listed.getD j false with
     | false => rfl
     | true =>
      have := zcO hcl _ i j x hj (hcl j x hj hu) hb;rw [hunf] at this;cases this
    have hLm : ∀ e ∈ L, ∃ j, j < ops.length /\ listed.getD j false = true /\ N j = some e := fun e he => by
     obtain ⟨j, hj, hNj⟩ := List.mem_filterMap.1 (hLp.mem_iff.1 he);split at hNj
     ·rename_i hl; exact ⟨j, List.mem_range.1 hj, hl, hNj⟩
     ·cases hNj
    -- who writes a slot that this operation looks at, or writes
    have before : ∀ j x, ops[j]? = some x -> j < i -> zcW ops.toArray x o = true \/ zcW ops.toArray o x = true -> listed.getD j false = true := fun j x hj hlt hmm =>
     bef1 j ((zcA hord ho').2.2 j x hlt hj hmm)
    have behind : ∀ j x, ops[j]? = some x -> i < j -> zcW ops.toArray x o = true \/ zcW ops.toArray o x = true -> listed.getD j false = false := fun j x hj hlt hmm =>
     bef2 j x hj ((zcA hord hj).2.2 i o hlt ho' hmm.symm)
    have agree : ∀ t, t ∈ o.looksAt ops.toArray -> getK (zdj T (fun j => listed.getD j false) ops 0 s.env) t = getK (zdj T (fun j => decide (j < i)) ops 0 s.env) t := fun t ht => by
     refine zbp T _ _ t ops 0 s.env s.env rfl fun j x hj hx => ?_;simp only [Nat.zero_add];have hmm : zcW ops.toArray x o = true := by simp [zcW, hx, ht]
     rcases Nat.lt_trichotomy j i with h | h | h
     ·rw [before j x hj h (.inl hmm)]; simp [h]
     ·subst h; rw [hunf]; simp
     ·rw [behind j x hj h (.inl hmm)]; simp; omega
    have hopd : ∀ x ∈ o.op.operands, opd (stW ops T W s M fun j => decide (j < i)) x = opd (stX ops T W s M (fun j => listed.getD j false) L) x := fun x hx => by
     cases x with
     | tmp t =>
      simp only [opd, St.at, stX, stW];rw [agree t (List.mem_append_left _ (List.mem_filterMap.2 ⟨.tmp t, by simpa using hx, rfl⟩))]
     | _ => rfl
    have hNn : ∀ j y, j < ops.length -> y ∈ zcx (W j) -> N j = none := fun j y hj hk => by
     cases hN : N j with
     | none => rfl
     | some e => rw [(hins j _ e (List.getElem?_eq_getElem hj) hN).1] at hk; cases hk
    -- who changes an object that this operation looks at
    have hloc0 : ∀ y, (y ∈ R i \/ (∃ e, N i = some e /\ y = e.1)) -> getK (stW ops T W s M fun j => decide (j < i)).obs y = getK (stW ops T W s M fun j => listed.getD j false).obs y := fun y hy => by
     simp only [stW, zax];rw [zbv W (fun j => decide (j < i)) (fun j => listed.getD j false) y ops.length fun j hj hk => ?_];rcases Nat.lt_trichotomy j i with h | h | h
     ·have hb : zdE ops ops.length j i = true := by
       cases hb : zdE ops ops.length j i with
       | true => rfl
       | false =>
               rcases hy with hy | ⟨e, hNe, rfl⟩
               ·exact absurd hy (((hpair j i h hil hb).1 y hk).1)
               ·have := (hNR j i e hj hil (hNn j _ hj hk) hNe).2 hk;rw [hb] at this;exact this
      rw [bef1 j hb];simp [h]
     ·subst h; rw [hunf]; simp
     ·have hb : zdE ops ops.length i j = true := by
       cases hb : zdE ops ops.length i j with
       | true => rfl
       | false =>
               rcases hy with hy | ⟨e, hNe, rfl⟩
               ·exact absurd hy ((hpair i j h hj hb).2 y hk)
               ·have := zo1 hord ((hNR j i e hj hil (hNn j _ hj hk) hNe).2 hk);omega
      rw [bef2 j _ (List.getElem?_eq_getElem hj) hb];simp; omega
    have hlast : ∀ y ∈ zcx (W i), ∀ j, j < ops.length -> i < j -> y ∈ zcx (W j) -> listed.getD j false = false := fun y hy j hj hlt hk => by
     have hb : zdE ops ops.length i j = true := by
      cases hb : zdE ops ops.length i j with
      | true => rfl
      | false => exact absurd hk ((hpair i j hlt hj hb).1 y hy).2
     exact bef2 j _ (List.getElem?_eq_getElem hj) hb
    have hS : (fun j => (listed.setIfInBounds i true).getD j false) = fun j => listed.getD j false || j == i := funext fun j => by
     by_cases hji : j = i
     ·subst hji; simp [hil']
     ·simp [Array.getElem?_setIfInBounds_ne (Ne.symm hji), hji]
    -- the slots behind this operation
    have henv : ∀ (x : Nat), o.dst = some x -> getK (zdj T (fun j => listed.getD j false || j == i) ops 0 s.env) x = some (T i) := fun x hdx =>
     zf4 T _ i x ops 0 s.env i o ho' (by omega) hdx fun j o' hj hlt hd' => by
      rw [Nat.zero_add];exact behind j o' hj hlt (.inl (by simp [zcW, hd', hdx]))
    have henv' : ∀ (x : Nat), o.dst ≠ some x -> getK (zdj T (fun j => listed.getD j false || j == i) ops 0 s.env) x = getK (zdj T (fun j => listed.getD j false) ops 0 s.env) x := fun x hdx =>
     zbp T _ (fun j => listed.getD j false) x ops 0 s.env s.env rfl fun j o' hj hd' => by
      simp only [Nat.zero_add];have : j ≠ i := fun e => by subst e; rw [ho'] at hj; cases hj; exact hdx hd'
      simp [this]
    have go : ∀ K' a' w' (L : List zd3), In Γ K' w' -> Sim K' Γ.own (stX ops T W s M (fun j => listed.getD j false || j == i) L) a' w' ->
      L.Perm ((List.range ops.length).filterMap fun j => if (listed.getD j false || j == i) = true then N j else none) ->
      (∀ j x, j < ops.length -> (listed.getD j false || j == i) = false -> cr j = some x -> K'.hdr x = none) ->
      wpAny P .any ops.toArray (VPost Γ (zan P Γ Q kt)) fuel (listed.setIfInBounds i true) a' w' := fun K' a' w' L h1 h2 hLq h3 => by
     have hS' : ∀ j, (listed.setIfInBounds i true).getD j false = (listed.getD j false || j == i) := fun j => congrFun hS j;refine ih (listed.setIfInBounds i true) L K' a' w' (by simp [hsz]) ?_ (fun j y hj hSj p hp => ?_) h1 (by rw [hS]; exact h2) (by simp only [hS']; exact hLq) (fun j x hj hu => h3 j x hj (by rw [<- hS']; exact hu))
     ·have cnt : ∀ (l : List Bool) (n : Nat), l[n]? = some false -> ((l.set n true).filter (! ·)).length + 1 = (l.filter (! ·)).length := by
       intro l
       induction l with
       | nil => intro n h; simp at h
       | cons b l ih =>
               intro n h;cases n with
               | zero => simp at h; subst h; simp
               | succ n =>
                have := ih n (by simpa using h);cases b <;> simp at this ⊢ <;> omega
      have := cnt listed.toList i (by
       rw [Array.getElem?_toList, Array.getElem?_eq_getElem hil'];simp [hil'] at hunf;rw [hunf])
      rw [Array.toList_setIfInBounds];omega
     ·rw [hS'] at hSj ⊢;simp only [Bool.or_eq_true, beq_iff_eq] at hSj ⊢;rcases hSj with hSj | rfl
      ·exact .inl (hcl j y hj hSj p hp)
      ·rw [ho'] at hj;cases hj;exact .inl (hpred p hp)
    cases hNi : N i with
    | some e0 =>
     obtain ⟨hW, hcn, hg, hd0, hok⟩ := hins i o e0 ho' hNi;obtain ⟨tt, x, ki, v, kk, ag, z, ku, hop, hinf, hx, hki, hkey, hkk, hvm, hg0⟩ := hok;rw [hopd x (by rcases hop with hop | hop <;> simp [hop, Op.operands])] at hx;rw [hopd ki (by rcases hop with hop | hop <;> simp [hop, Op.operands])] at hki;rw [hopd v (by rcases hop with hop | hop <;> simp [hop, Op.operands])] at hvm;have hcur : ∃ es, getK (stX ops T W s M (fun j => listed.getD j false) L).obs e0.1 = some (.map kk ag es) := by
      have h1 := hloc0 e0.1 (.inr ⟨e0, hNi, rfl⟩);rw [hg0] at h1;obtain ⟨es, h2⟩ := zjg L e0.1 kk ag [];refine ⟨es, ?_⟩;simp only [stX, zca];rw [<- h2];exact congrArg _ h1.symm
     obtain ⟨es, hes⟩ := hcur;obtain ⟨w1, hrun, h1, h2⟩ := zk8 hop hd0 hinf hx hki hes hkey hkk hvm hin hs;unfold wpOp;rw [ho];simp only;have hw : Region.wanted o (yielded ops.toArray a.tmps) = true := by simp [Region.wanted, hg]
     rw [if_pos hw];refine .inl ?_;unfold Oper.wp;rw [hrun];refine go K _ w1 (L ++ [e0]) h1 (h2.eqo ⟨rfl, fun y => ?_, rfl, fun y => ?_⟩) (zjj hLp hil hunf hNi) fun j x hj hu hc => ?_
     ·have hsame : getK (zdI W (fun j => listed.getD j false || j == i) ops.length) y = getK (zdI W (fun j => listed.getD j false) ops.length) y := zbv W _ _ y ops.length fun j hj hk => by
       by_cases hji : j = i
       ·subst hji; rw [hW] at hk; cases hk
       ·simp [hji]
      simp only [zam, zaa];simp only [stX, stW, zca, zax, hsame, zhy] at hes ⊢;by_cases hy : y = e0.1
      ·subst hy;rw [if_pos rfl, hes];simp [zkM, obE]
      ·rw [if_neg hy];simp [zkM, hy]
     ·simp only [stX, stW];exact (henv' y (by rw [hd0]; simp)).symm
     ·simp only [Bool.or_eq_false_iff] at hu;exact hfr j x hj hu.1 hc
    | none =>
    obtain ⟨hpo, hv⟩ := hval i o ho' hNi;have hloc : ∀ y ∈ R i, getK (stW ops T W s M fun j => decide (j < i)).obs y = getK (stX ops T W s M (fun j => listed.getD j false) L).obs y := fun y hy => by
     rw [hloc0 y (.inl hy)];simp only [stX, zca];rw [zdV fun e he => ?_];obtain ⟨j, hj, _, hNj⟩ := hLm e he;exact fun h => (hNR i j e hil hj hNi hNj).1 (h ▸ hy)
    have hLi : ∀ y ∈ zcx (W i), ∀ e ∈ L, e.1 ≠ y := fun y hy e he h => by
     obtain ⟨j, hj, hl, hNj⟩ := hLm e he;have hb := (hNR i j e hil hj hNi hNj).2 (by rw [h]; exact hy);have := bef2 j _ (List.getElem?_eq_getElem hj) hb;rw [hl] at this;cases this
    have hLp' : L.Perm ((List.range ops.length).filterMap fun j => if (listed.getD j false || j == i) = true then N j else none) := by
     rw [zh6 hNi];exact hLp
    -- an operation that changes nothing
    have next : W i = [] -> ∀ K' v w', In Γ K' w' -> K.le K' -> K'.hdr = K.hdr -> Sat K' Γ.own (stX ops T W s M (fun j => listed.getD j false) L).obs w' -> Rep K' (T i) v ->
      wpAny P .any ops.toArray (VPost Γ (zan P Γ Q kt)) fuel (listed.setIfInBounds i true) (a.put o.dst v) w' := fun hW K' v w' h1 h2 h3 h4 h5 => by
     refine go K' _ w' L h1 ?_ hLp' fun j x hj hu hc => by
      rw [h3];simp only [Bool.or_eq_false_iff] at hu;exact hfr j x hj hu.1 hc
     have hdef : (a.put o.dst v).defers = Γ.own.dfr := by cases o.dst <;> exact hs.defers
     have hsize : (a.put o.dst v).tmps.size = s.n := by
      have hsz2 : a.tmps.size = s.n := hs.size;cases o.dst <;> simp [Act.put, hsz2]
     refine ⟨h4.eqo fun y => ?_, hdef, hsize, fun x d hx => ?_, fun j hj => by rw [h3]; exact hs.hdr j hj⟩
     ·simp only [stX, stW, zca, zax];rw [zbv W (fun j => listed.getD j false) (fun j => listed.getD j false || j == i) y ops.length fun j hj hk => ?_];by_cases hji : j = i
      ·subst hji; rw [hW] at hk; cases hk
      ·simp [hji]
     ·simp only [stX, stW] at hx;by_cases hdx : o.dst = some x
      ·rw [henv x hdx] at hx;cases hx;have hlt : x < s.n := by rw [hdx] at hpo; exact hpo
       refine ⟨hlt, ?_⟩;have hsz' : a.tmps.size = s.n := hs.size;rw [hdx];simpa [Act.put, hsz', hlt] using h5
      ·rw [henv' x hdx] at hx;obtain ⟨g1, g2⟩ := hs.env x d hx;refine ⟨g1, ?_⟩
       have e : (a.put o.dst v).tmps.getD x undef = a.tmps.getD x undef := by
               cases hd : o.dst with
               | none => rfl
               | some y =>
                have hne : y ≠ x := fun e => hdx (by rw [hd, e]);simp [Act.put, Array.getElem?_setIfInBounds_ne hne]
       rw [e];exact g2.mono h2
    unfold wpOp;rw [ho];simp only;have two : (Region.wanted o (yielded ops.toArray a.tmps) = true /\ Op1 P (stW ops T W s M fun j => decide (j < i)) o.op o.dst (T i) (W i) (cr i) (R i)) \/ (Region.wanted o (yielded ops.toArray a.tmps) = false /\ T i = .un /\ W i = []) := by
     unfold OpG at hv;split at hv
     ·rename_i hg;exact .inl ⟨by simp [Region.wanted, hg], hv⟩
     ·rename_i j want hg;obtain ⟨t, ht, hv⟩ := hv;have lift : ∀ dd, getK (stW ops T W s M fun j => decide (j < i)).env t = some dd -> getK (stX ops T W s M (fun j => listed.getD j false) L).env t = some dd := fun dd hb => by
       simp only [stX, stW] at hb ⊢
       rw [agree t (by
               refine List.mem_append_right _ ?_;unfold zaN at ht;simp only [hg];rw [ht];simp)]
       exact hb
      rcases hv with ⟨b, hb, hv⟩ | ⟨hb, hv⟩
      ·have hb' := lift _ hb;obtain ⟨hlt, hr⟩ := hs.getK hb';have hbv := zcK hr
       have hyd : yielded ops.toArray a.tmps j = some b := by
               unfold yielded;unfold zaN at ht;rw [ht];simp only [Option.bind_some];have : a.tmps[t]? = some (.bool b) := by
                rw [Array.getElem?_eq_getElem hlt];simp [hlt] at hbv;rw [hbv]
               rw [this]
       by_cases hbw : b = want
       ·rw [if_pos hbw] at hv;exact .inl ⟨by simp [Region.wanted, hg, hyd, hbw], hv⟩
       ·rw [if_neg hbw] at hv;exact .inr ⟨by simp [Region.wanted, hg, hyd, hbw], hv.1, hv.2.1⟩
      ·have hb' := lift _ hb;obtain ⟨hlt, hr⟩ := hs.getK hb';have hbv := zdc hr
       have hyd : yielded ops.toArray a.tmps j = none := by
               unfold yielded;unfold zaN at ht;rw [ht];simp only [Option.bind_some];have : a.tmps[t]? = some undef := by
                rw [Array.getElem?_eq_getElem hlt];simp [hlt] at hbv;rw [hbv]
               rw [this]
               try rfl
       exact .inr ⟨by simp [Region.wanted, hg, hyd], hv.1, hv.2.1⟩
    rcases two with ⟨hw, hv⟩ | ⟨hw, hv⟩
    ·rw [if_pos hw];rcases hv with ⟨hv, hW, hcn, hR⟩ | ⟨e, he, hR, hcase⟩
     ·replace hv := zfN (s := stW ops T W s M fun j => decide (j < i)) (s' := stX ops T W s M (fun j => listed.getD j false) L) (by rw [<- hR]; exact hloc) hopd hv
      exact .inl (zfM hv hin hs fun K' v w' h1 h2 h3 h4 h5 => next hW K' v w' h1 h2 h3 h4 h5)
     ·
      replace he := zdg (s := stW ops T W s M fun j => decide (j < i)) (s' := stX ops T W s M (fun j => listed.getD j false) L) (by rw [<- hR]; exact hloc) hopd he
      let un : Nat -> Prop := fun y => ∃ j, j < ops.length /\ (listed.getD j false || j == i) = false /\ cr j = some y
      let ρ : Nat -> Nat := fun y => open Classical in if cr i = some y then M else if un y then M + 1 + y else y
      have hknown : ∀ y h, K.hdr y = some h -> ρ y = y /\ y < M := fun y h hy => by
       have h1 : cr i ≠ some y := fun e => by rw [hfr i y hil hunf e] at hy; cases hy
       have h2 : ¬ un y := fun ⟨j, hj, hu, hc⟩ => by
               simp only [Bool.or_eq_false_iff] at hu;rw [hfr j y hj hu.1 hc] at hy;cases hy
       refine ⟨by simp only [ρ]; rw [if_neg h1, if_neg h2], ?_⟩;rcases Nat.lt_or_ge y M with h | h
       ·exact h
       ·rw [hs.hdr y h] at hy; cases hy
      have hobs : ∀ y ob, getK (stX ops T W s M (fun j => listed.getD j false) L).obs y = some ob -> (ρ y = y /\ y < M) /\ ob.all (Good ρ M) := fun y ob hy => by
       have hok := hs.sat.ob y ob hy;obtain ⟨h, h1, _⟩ := hok;exact ⟨hknown y h h1, (hs.sat.ob y ob hy).good hknown⟩
      have hgood := zjn (g := Good ρ M) (fun _ => ⟨by simp [D.ren], by simp [D.under]⟩) (fun cs h => h.agg) he (fun x hx => (zaM hs x).good hknown) (fun y ob hy => (hobs y ob hy).2);obtain ⟨e', he', ⟨rfl, hgU, hgN⟩⟩ := Lin.effD.2 _ hgood
      have he2 : effD P (stX ops T W s M (fun j => listed.getD j false) L) o.op fun e => zaI o.dst (stX ops T W s M (fun j => listed.getD j false) L) ∧ (e.nw = none → o.dst = none) ∧
               ((stX ops T W s M (fun j => listed.getD j false) L).effS e o.dst) = (stX ops T W s M (fun j => listed.getD j false) L).effS e' o.dst :=
       Lin.effD.1 _ _ (fun e hee => by
               subst hee;refine ⟨hpo, fun hn => ?_, rfl⟩;rw [hn] at hcase;exact hcase.1) he
      refine .inl (zel (k := fun s' => s' = (stX ops T W s M (fun j => listed.getD j false) L).effS e' o.dst) (zgw he2) K a w hin hs _ _ (fun K' a' w' s' h1 h2 h3 => ?_) fun ch K' a' w' s' h1 h2 h3 => .inl ⟨K', s', h1, h2, h3⟩);subst h3;have hle : St.Le Γ.n0 ρ ((stX ops T W s M (fun j => listed.getD j false) L).effS e' o.dst) (stX ops T W s M (fun j => listed.getD j false || j == i) L) := by
       have hWi : ∀ y, y ∈ zcx (W i) → getK (zdI W (fun j => listed.getD j false || j == i) ops.length) y = getK (W i) y := fun y hy =>
               zfK W _ i y hy ops.length hil fun j hj hlt hk => hlast y hy j hj hlt hk
       have hWn : ∀ y, y ∉ zcx (W i) → getK (zdI W (fun j => listed.getD j false || j == i) ops.length) y = getK (zdI W (fun j => listed.getD j false) ops.length) y := fun y hy =>
               zbv W _ _ y ops.length fun j hj hk => by
                by_cases hji : j = i
                ·subst hji; exact absurd hk hy
                ·simp [hji]
       have hinj : ∀ y1 y2, y1 < M → y2 < M → ρ y1 = ρ y2 → y1 = y2 := fun y1 y2 g1 g2 hr => by
               simp only [ρ] at hr;by_cases c1 : cr i = some y1 <;> by_cases c2 : cr i = some y2
               ·rw [c1] at c2; cases c2; rfl
               ·rw [if_pos c1, if_neg c2] at hr;split at hr <;> omega
               ·rw [if_neg c1, if_pos c2] at hr;split at hr <;> omega
               ·rw [if_neg c1, if_neg c2] at hr;split at hr <;> split at hr <;> omega
       have hobs2 : ∀ y ob', getK (stX ops T W s M (fun j => listed.getD j false || j == i) L).obs y = some ob' → y < M ∧
                ∃ ob, getK ((stX ops T W s M (fun j => listed.getD j false) L).effS e' o.dst).obs (ρ y) = some ob /\ Ob.le ρ ob ob' /\ ob'.under M = true := fun y ob' hy => by
               simp only [stX, stW, zca, zax] at hy;cases hn : e'.nw with
               | none =>
                rw [hn] at hcase;obtain ⟨hd0, hWU, hcn⟩ := hcase;have hob : ∀ z, getK ((stX ops T W s M (fun j => listed.getD j false) L).effS e' o.dst).obs z = match getK (W i) z with | some x => x | none => getK (stX ops T W s M (fun j => listed.getD j false) L).obs z := fun z => by
                 simp only [St.effS, hn, zax, hWU]
                 try rfl
                by_cases hk : y ∈ zcx (W i)
                ·rw [hWi y hk, zdV (hLi y hk)] at hy;obtain ⟨x, hx⟩ := zc6 (W i) y hk;rw [hx] at hy;simp only at hy;subst hy;have hmem : (y, some ob') ∈ e'.U := by
                  rw [<- hWU];have : ∀ (l : Wr), getK l y = some (some ob') -> (y, some ob') ∈ l := by
                   intro l
                   induction l with
                   | nil => intro h; cases h
                   | cons p l ih =>
                    obtain ⟨k', d'⟩ := p;intro h;rw [zaa] at h;by_cases hyk : y = k'
                    ·rw [if_pos hyk] at h; cases h; subst hyk; simp
                    ·rw [if_neg hyk] at h; exact List.mem_cons_of_mem _ (ih h)
                  exact this _ hx
                 obtain ⟨hga, o0, ho0⟩ := hgU _ hmem ob' rfl;obtain ⟨⟨hr, hlt⟩, _⟩ := hobs y o0 ho0;refine ⟨hlt, ob', ?_, (Ob.zbO hga).1, (Ob.zbO hga).2⟩;rw [hr, hob, hx]
                ·rw [hWn y hk] at hy;obtain ⟨⟨hr, hlt⟩, hga⟩ := hobs y ob' (by simp only [stX, stW, zca, zax]; exact hy);refine ⟨hlt, ob', ?_, (Ob.zbO hga).1, (Ob.zbO hga).2⟩;rw [hr, hob, zbK (W i) y hk];simp only [stX, stW, zca, zax];exact hy
               | some nb =>
                rw [hn] at hcase;obtain ⟨x0, hcx, hWU, hTi⟩ := hcase;have hx0 := hcr i x0 hcx;have hob : ∀ z, z ≠ M -> getK ((stX ops T W s M (fun j => listed.getD j false) L).effS e' o.dst).obs z = match getK e'.U z with | some x => x | none => getK (stX ops T W s M (fun j => listed.getD j false) L).obs z := fun z hz => by
                 have : ∀ (q : St) (d : D), (q.put o.dst d).obs = q.obs := fun q d => by cases o.dst <;> rfl
                 simp only [St.effS, hn, this, zaa];rw [if_neg (by simpa [stX, stW] using hz), zax]
                 try rfl
                have hobM : getK ((stX ops T W s M (fun j => listed.getD j false) L).effS e' o.dst).obs M = some nb := by
                 have : ∀ (q : St) (d : D), (q.put o.dst d).obs = q.obs := fun q d => by cases o.dst <;> rfl
                 simp only [St.effS, hn, this, zaa];rw [if_pos (by simp [stX, stW])]
                by_cases hyx : y = x0
                ·subst hyx;have hk : y ∈ zcx (W i) := by rw [hWU]; simp [zcx]
                 rw [zdV (hLi y hk), hWi y hk, hWU, zaa, if_pos rfl] at hy;simp only at hy;cases hy;have hga := hgN ob' hn;refine ⟨hx0.2, ob', ?_, (Ob.zbO hga).1, (Ob.zbO hga).2⟩;simp only [ρ];rw [if_pos hcx];exact hobM
                ·by_cases hk : y ∈ zcx (W i)
                 ·rw [zdV (hLi y hk), hWi y hk, hWU, zaa, if_neg hyx] at hy;have hk' : y ∈ e'.U.map (·.1) := by
                   rw [hWU] at hk;simp only [zcx, List.map_cons, List.mem_cons] at hk;exact hk.resolve_left hyx
                  obtain ⟨x, hx⟩ := zc6 e'.U y hk';rw [hx] at hy;simp only at hy;subst hy;have hmem : (y, some ob') ∈ e'.U := by
                   have : ∀ (l : Wr), getK l y = some (some ob') -> (y, some ob') ∈ l := by
                    intro l
                    induction l with
                    | nil => intro h; cases h
                    | cons p l ih =>
                     obtain ⟨k', d'⟩ := p;intro h;rw [zaa] at h;by_cases hyk : y = k'
                     ·rw [if_pos hyk] at h; cases h; subst hyk; simp
                     ·rw [if_neg hyk] at h; exact List.mem_cons_of_mem _ (ih h)
                   exact this _ hx
                  obtain ⟨hga, o0, ho0⟩ := hgU _ hmem ob' rfl;obtain ⟨⟨hr, hlt⟩, _⟩ := hobs y o0 ho0;refine ⟨hlt, ob', ?_, (Ob.zbO hga).1, (Ob.zbO hga).2⟩;rw [hr, hob y (by omega), hx]
                 ·rw [hWn y hk] at hy;obtain ⟨⟨hr, hlt⟩, hga⟩ := hobs y ob' (by simp only [stX, stW, zca, zax]; exact hy);refine ⟨hlt, ob', ?_, (Ob.zbO hga).1, (Ob.zbO hga).2⟩;have hk' : y ∉ e'.U.map (·.1) := by
                   rw [hWU] at hk;simp only [zcx, List.map_cons, List.mem_cons, not_or] at hk;exact hk.2
                  rw [hr, hob y (by omega), zbK e'.U y hk'];simp only [stX, stW, zca, zax];exact hy
       have henv2 : ∀ x d', getK (stX ops T W s M (fun j => listed.getD j false || j == i) L).env x = some d' →
                (D.le ρ (((stX ops T W s M (fun j => listed.getD j false) L).effS e' o.dst).at x) d' /\ d'.under M = true) /\ x < s.n := fun x d' hx => by
               simp only [stX, stW] at hx;by_cases hdx : o.dst = some x
               ·rw [henv x hdx] at hx;cases hx;have hlt : x < s.n := by rw [hdx] at hpo; exact hpo
                cases hn : e'.nw with
                | none =>
                 rw [hn] at hcase;rw [hcase.1] at hdx;cases hdx
                | some nb =>
                 rw [hn] at hcase;obtain ⟨x0, hcx, hWU, hTi⟩ := hcase;have hx0 := hcr i x0 hcx;have hρ : ρ x0 = M := by simp only [ρ]; rw [if_pos hcx]
                 refine ⟨⟨.inr (.inl ?_), ?_⟩, hlt⟩
                 ·rw [hTi];simp only [St.effS, hn, hdx, St.put, St.at, zaa, if_true, Option.getD_some];cases e'.how <;> simp [mkD, D.ren, hρ, stX, stW]
                 ·rw [hTi];cases e'.how <;> simp [mkD, D.under, hx0.2]
               ·rw [henv' x hdx] at hx;obtain ⟨g1, g2⟩ := hs.env x d' hx;have hgd := g2.good hknown;have hat : ((stX ops T W s M (fun j => listed.getD j false) L).effS e' o.dst).at x = d' := by
                 have : ∀ (q : St) (d : D), getK (q.put o.dst d).env x = getK q.env x := fun q d => by
                  cases hd : o.dst with
                  | none => rfl
                  | some y =>
                   have hne : ¬ x = y := fun e => hdx (by rw [hd, e]);simp only [St.put, zaa, if_neg hne]
                 simp only [St.at, St.effS];cases hn : e'.nw with
                 | none => simp only [stX, stW, hx]; rfl
                 | some nb => simp only [this, stX, stW, hx]; rfl
                rw [hat];exact ⟨⟨.inr (.inl hgd.1.symm), hgd.2⟩, g1⟩
       refine ⟨?_, fun x d' hx => (henv2 x d' hx).1, fun x d' hx => ?_, hobs2, fun y1 y2 o1 o2 g1 g2 hr => hinj y1 y2 (hobs2 y1 o1 g1).1 (hobs2 y2 o2 g2).1 hr, fun j hj => ?_⟩
       ·have : ∀ (q : St) (d : D), (q.put o.dst d).n = q.n := fun q d => by cases o.dst <;> rfl
        simp only [St.effS];cases e'.nw <;> simp only [this] <;> rfl
       ·have : ∀ (q : St) (d : D), (q.put o.dst d).n = q.n := fun q d => by cases o.dst <;> rfl
        have e2 : ((stX ops T W s M (fun j => listed.getD j false) L).effS e' o.dst).n = s.n := by
         simp only [St.effS];cases e'.nw <;> simp only [this] <;> rfl
        rw [e2];exact (henv2 x d' hx).2
       ·have c1 : cr i ≠ some j := fun e => by have := (hcr i j e).1; omega
        have c2 : ¬ un j := fun ⟨q, _, _, hc⟩ => by have := (hcr q j hc).1; omega
        refine ⟨by simp only [ρ]; rw [if_neg c1, if_neg c2], ?_⟩;show j < M;omega
      obtain ⟨g1, g2⟩ := Sim.weak h1 h2 hle;refine go _ a' w' L g1 g2 hLp' fun j x hj hu hc => ?_;simp only [Kr.ren];split
      ·have c1 : cr i ≠ some x := fun e => by
               have := hcr1 i j x e hc;subst this;simp at hu
       have c2 : un x := ⟨j, hj, hu, hc⟩;simp only [ρ];rw [if_neg c1, if_pos c2];refine h2.hdr _ ?_;have : ∀ (q : St) (d : D), (q.put o.dst d).next = q.next := fun q d => by cases o.dst <;> rfl
       simp only [St.effS];cases e'.nw <;> simp only [this, stX, stW] <;> omega
      ·rfl
    ·rw [if_neg (by rw [hw]; simp)];exact next hv.2 K undef w hin (.refl _) rfl hs.sat (by rw [hv.1]; exact .u _ _ (.oth _))
 have h0 : (fun j => (Array.replicate ops.toArray.size false).getD j false) = fun _ => false := funext fun j => by
  by_cases hj : j < ops.length <;> simp [hj]
 refine key _ _ [] K a w0 (by simp) (by simp) (fun j y hj hS => ?_) hin0 ?_ ?_ fun j x _ _ hc => hs.hdr x (hcr j x hc).1
 ·have : (Array.replicate ops.toArray.size false).getD j false = false := congrFun h0 j;rw [this] at hS;cases hS
 ·rw [h0];have none : ∀ (l : List Oper) (i : Nat) (e : List (Nat × D)), zdj T (fun _ => false) l i e = e := by
   intro l
   induction l with
   | nil => intro i e; rfl
   | cons o l ih => intro i e; simp [zdj, ih]
  have wn : ∀ m, zdI W (fun _ => false) m = [] := by
   intro m
   induction m with
   | zero => rfl
   | succ m ih => simp [zdI, ih]
  refine ⟨hs0.sat.eqo fun y => ?_, hs0.defers, hs0.size, fun x d hx => hs0.env x d ?_, fun y hy => hs0.hdr y (Nat.le_trans hM hy)⟩
  ·simp only [stX, stW, wn, zp0]; rfl
  ·simp only [stX, stW, none] at hx; exact hx
 ·have : ((List.range ops.length).filterMap fun j => if (Array.replicate ops.toArray.size false).getD j false = true then N j else none) = [] := by
   rw [List.filterMap_eq_nil_iff];intro j _;rw [congrFun h0 j];simp
  rw [this]
end Go.VL
namespace Go.VL
open Go
def tN (N : Nat -> Option zd3) (n : Nat) : List (Option zd3) := (List.range n).map N
abbrev Ent.no : Ent := (.un, [], none, [])
def Op3 (P : Program) (s : St) (o : O1) (e : Ent) : Option zd3 -> Prop
 | none => zaI o.dst s /\ Op2 P s o e
 | some q => e = Ent.no /\ o.guard = none /\ o.dst = none /\ InsOK P s o.op q
def zl6 (P : Program) : List O1 -> St -> Fp -> List (Option zd3) -> (St -> Fp -> List (Option zd3) -> Prop) -> Prop
 | [], s, fp, ins, k => k s fp ins
 | o :: rest, s, fp, ins, k => ∃ (e : Ent) (q : Option zd3), Op3 P s o e q /\ (∀ x, e.2.2.1 = some x -> x = s.next) /\ zl6 P rest (s.app o.dst e) (fp ++ [(e.2.2.2, zcx e.2.1)]) (ins ++ [q]) k
def St.ins (s : St) (ins : List (Option zd3)) : St := { s with obs := zp0 (ins.filterMap id) s.obs }
def HD3 (P : Program) (l : List O1) (s : St) (fp : Fp) (ins : List (Option zd3)) (C : Fp -> List (Option zd3) -> Prop) (k : St -> Prop) : Prop :=
 ∀ s0 : St, s0.Eqo s -> zl6 P l s0 fp ins fun s1 fp ins => C fp ins /\ ∃ s', (s1.ins ins).Eqo s' /\ k s'
theorem St.Eqo.ins {s s' : St} (h : s.Eqo s') (L : List (Option zd3)) : (s.ins L).Eqo (s'.ins L) :=
 ⟨h.1, fun x => by simp only [St.ins, zca, h.2.1 x], h.2.2.1, h.2.2.2⟩
theorem InsOK.eqo {P : Program} {s s' : St} {op : Op} {q : zd3} (e : s'.Eqo s) (h : InsOK P s op q) : InsOK P s' op q := by
 obtain ⟨t, x, ki, v, kk, ag, z, ku, h1, h2, h3, h4, h5, h6, h7, h8⟩ := h;have ho : ∀ x, opd s' x = opd s x := fun x => by cases x <;> simp [opd, St.at, e.2.2.2]
 exact ⟨t, x, ki, v, kk, ag, z, ku, h1, h2, by rw [ho]; exact h3, by rw [ho]; exact h4, h5, h6, by rw [ho]; exact h7, by rw [e.2.1]; exact h8⟩
theorem zr5 {P s fp ins C k} (hC : C fp ins) (h : k (s.ins ins)) : HD3 P [] s fp ins C k := fun _ e => ⟨hC, s.ins ins, e.ins ins, h⟩
theorem zr6 {P s op rest fp ins C k} {q : zd3} (hq : InsOK P s op q) (h : HD3 P rest s (fp ++ [([], [])]) (ins ++ [some q]) C k) : HD3 P (⟨none, op, none⟩ :: rest) s fp ins C k := fun s0 e =>
 ⟨Ent.no, some q, ⟨rfl, rfl, rfl, hq.eqo e⟩, fun x hx => (by cases hx), h _ (show (s0.app none Ent.no).Eqo s by simpa [St.app, St.put, zaY] using e)⟩
theorem zqM {P s dst op rest fp ins C k} (h : valD P s op fun d => zaI dst s /\ HD3 P rest (s.put dst d) (fp ++ [(zbq s op, [])]) (ins ++ [none]) C k) : HD3 P (⟨dst, op, none⟩ :: rest) s fp ins C k := fun s0 e => by
 obtain ⟨d, hv, hp, hr⟩ := Lin.valD.2 _ h;refine ⟨(d, [], none, zbq s op), none, ⟨by cases dst <;> simp_all [zaI, e.1], .inl ⟨?_, rfl, rfl, (zdd e op).symm⟩⟩, fun x hx => (by cases hx), ?_⟩
 ·rw [ziU e]; exact hv
 ·exact hr _ (e.put dst d)
theorem zr7 {P s dst op rest fp ins C k} (h : effD P s op fun e => zaI dst s /\ (e.nw = none -> dst = none) /\
  HD3 P rest (s.effS e dst) (fp ++ [(zbq s op, match e.nw with | none => e.U.map (·.1) | some _ => s.next :: e.U.map (·.1))]) (ins ++ [none]) C k) : HD3 P (⟨dst, op, none⟩ :: rest) s fp ins C k := by
 intro s0 e0;obtain ⟨e, hv, hp, hd, hr⟩ := Lin.effD.2 _ h;have h2 : HD2 P (⟨dst, op, none⟩ :: []) s fp (fun _ => True) (fun _ => True) := zpj (Lin.effD.1 _ _ (fun e' he => by subst he; exact ⟨hp, hd, zgD trivial trivial⟩) hv);have hp0 : zaI dst s0 := by cases dst <;> simp_all [zaI, e0.1]
 have hv0 : effD P s0 op (· = e) := by rw [zjm e0]; exact hv
 cases hn : e.nw with
 | none =>
  rw [hn] at hr;obtain rfl := hd hn;refine ⟨(.un, e.U, none, zbq s op), none, ⟨hp0, .inr ⟨e, hv0, (zdd e0 op).symm, ?_⟩⟩, fun x hx => (by cases hx), ?_⟩
  ·rw [hn]; exact ⟨rfl, rfl, rfl⟩
  ·have : (s0.app none (.un, e.U, none, zbq s op)).Eqo (s.effS e none) := by
    refine ⟨?_, fun x => ?_, ?_, fun x => ?_⟩
    ·simp only [St.app, St.effS, hn, St.put, e0.1]
    ·simp only [St.app, St.effS, hn, St.put, zax, e0.2.1]
    ·simp only [St.app, St.effS, hn, St.put, e0.2.2.1]; simp
    ·simp only [St.app, St.effS, hn, St.put, e0.2.2.2]
   exact hr _ this
 | some ob =>
  rw [hn] at hr;refine ⟨(mkD e.how s0.next, (s0.next, some ob) :: e.U, some s0.next, zbq s op), none, ⟨hp0, .inr ⟨e, hv0, (zdd e0 op).symm, ?_⟩⟩, fun x hx => (by cases hx; rfl), ?_⟩
  ·rw [hn]; exact ⟨s0.next, rfl, rfl, rfl⟩
  ·have hobs : ∀ (q : St) (d : D), (q.put dst d).obs = q.obs := fun q d => by cases dst <;> rfl
   have hnx : ∀ (q : St) (d : D), (q.put dst d).next = q.next := fun q d => by cases dst <;> rfl
   have hnn : ∀ (q : St) (d : D), (q.put dst d).n = q.n := fun q d => by cases dst <;> rfl
   have henv : ∀ (q q' : St) (d : D), (∀ x, getK q.env x = getK q'.env x) -> ∀ x, getK (q.put dst d).env x = getK (q'.put dst d).env x := fun q q' d hq x => by
    cases dst with
    | none => exact hq x
    | some y => simp only [St.put, zaa, hq x]
   have : (s0.app dst (mkD e.how s0.next, (s0.next, some ob) :: e.U, some s0.next, zbq s op)).Eqo (s.effS e dst) := by
    refine ⟨?_, fun x => ?_, ?_, fun x => ?_⟩
    ·simp only [St.app, St.effS, hn, hnn, e0.1]
    ·simp only [St.app, St.effS, hn, hobs, zaa, zax, e0.2.1, e0.2.2.1];by_cases hx : x = s.next <;> simp [hx]
    ·simp only [St.app, St.effS, hn, hnx, e0.2.2.1]; rfl
    ·simp only [St.app, St.effS, hn, e0.2.2.1];refine henv _ _ _ ?_ x;intro x;exact e0.2.2.2 x
   have hk : zcx ((s0.next, some ob) :: e.U) = s.next :: e.U.map (·.1) := by simp [zcx, e0.2.2.1]
   rw [hk];exact hr _ this
def zsz : Op -> Bool
 | .mapUpdate .. | .insert .. => true
 | _ => false
theorem zpu {N N' : Nat -> Option zd3} {i : Nat} (h : ∀ j, j < i -> N j = N' j) : tN N i = tN N' i :=
 List.map_congr_left fun j hj => h j (List.mem_range.1 hj)
theorem zl5 {P : Program} {all : Array Oper} {s0 : St} {ops : List Oper} {k : St -> Fp -> List (Option zd3) -> Prop} : ∀ (l : List O1) (tail : List Oper) (i : Nat) (E : Nat -> Ent) (N : Nat -> Option zd3), zbm all tail = some l -> (∀ j, tail[j]? = ops[i + j]?) ->
  zl6 P l (stE ops s0 E i) (tF E i) (tN N i) k -> ∃ (E' : Nat -> Ent) (N' : Nat -> Option zd3), (∀ j, j < i -> E' j = E j /\ N' j = N j) /\
   (∀ j o, i <= j -> ops[j]? = some o -> (N' j = none -> zaI o.dst s0 /\ OpG P all (stE ops s0 E' j) o (tT E' j) (tW E' j) (tC E' j) (tR E' j)) /\ (∀ e, N' j = some e -> E' j = Ent.no /\ o.guard = none /\ o.dst = none /\ InsOK P (stE ops s0 E' j) o.op e) /\ ∀ x, tC E' j = some x -> x = s0.next + cnt E' j) /\
   k (stE ops s0 E' (i + tail.length)) (tF E' (i + tail.length)) (tN N' (i + tail.length))
 | [], tail, i, E, N, hs, ht, h => by
  cases tail with
  | nil => exact ⟨E, N, fun _ _ => ⟨rfl, rfl⟩, fun j o hj ho => by have := ht (j - i); rw [show i + (j - i) = j by omega, ho] at this; simp at this, by simpa [zl6] using h⟩
  | cons x l => simp only [zbm] at hs; split at hs <;> simp at hs
 | o1 :: l, tail, i, E, N, hs, ht, h => by
  obtain ⟨x, tl, rfl, hx, hr⟩ := zdM hs;obtain ⟨e, q, hv, hnx, hc⟩ := h;have hxi : ops[i]? = some x := by have := ht 0; simpa using this.symm
  have hdst : o1.dst = x.dst := by
   unfold zcS at hx;split at hx
   ·simp at hx; subst hx; rfl
   ·split at hx
    ·simp at hx; subst hx; rfl
    ·cases hx
  let E1 : Nat -> Ent := fun j => if j = i then e else E j
  let N1 : Nat -> Option zd3 := fun j => if j = i then q else N j
  have h1 : ∀ j, j < i -> E j = E1 j := fun j hj => by simp only [E1]; rw [if_neg (by omega)]
  have n1 : ∀ j, j < i -> N j = N1 j := fun j hj => by simp only [N1]; rw [if_neg (by omega)]
  have hi : E1 i = e := by simp [E1]
  have ni : N1 i = q := by simp [N1]
  have zcf : (stE ops s0 E i).app o1.dst e = stE ops s0 E1 (i + 1) := by
   rw [zec h1, hdst];simp only [stE, St.app];rw [ze5 (tT E1) i ops 0 s0.env x (Nat.zero_le _) (by simpa using hxi)];have hw : zdI (tW E1) (fun _ => true) (i + 1) = e.2.1 ++ zdI (tW E1) (fun _ => true) i := by
    rw [zdI, if_pos rfl, show tW E1 i = e.2.1 by simp only [tW, hi]]
   have hcn : cnt E1 (i + 1) = cnt E1 i + if e.2.2.1.isSome then 1 else 0 := by
    rw [cnt, show tC E1 i = e.2.2.1 by simp only [tC, hi]]
   rw [hw, zdh, hcn];have hT : tT E1 i = e.1 := by simp only [tT, hi]
   cases x.dst with
   | none => simp only [St.put, nAA]
   | some y => simp only [St.put, hT, nAA]
  have hfp : tF E i ++ [(e.2.2.2, zcx e.2.1)] = tF E1 (i + 1) := by
   rw [zlG h1];simp only [tF, List.range_succ, List.map_append, List.map_cons, List.map_nil];rw [show tR E1 i = e.2.2.2 by simp only [tR, hi], show tW E1 i = e.2.1 by simp only [tW, hi]]
  have hin : tN N i ++ [q] = tN N1 (i + 1) := by
   rw [zpu n1];simp only [tN, List.range_succ, List.map_append, List.map_cons, List.map_nil, ni]
  rw [zcf, hfp, hin] at hc;obtain ⟨E', N', g1, g2, g3⟩ := zl5 l tl (i + 1) E1 N1 hr (fun j => by have := ht (j + 1); rw [show i + 1 + j = i + (j + 1) by omega, <- this]; simp) hc;refine ⟨E', N', fun j hj => ⟨by rw [(g1 j (by omega)).1, h1 j hj], by rw [(g1 j (by omega)).2, n1 j hj]⟩, fun j o hj ho => ?_, ?_⟩
  ·rcases Nat.lt_or_ge i j with h' | h'
   ·exact g2 j o h' ho
   ·obtain rfl : i = j := by omega
    rw [hxi] at ho;cases ho;have hEi : E' i = e := by rw [(g1 i (by omega)).1, hi]
    have hNi : N' i = q := by rw [(g1 i (by omega)).2, ni]
    have hst : stE ops s0 E' i = stE ops s0 E i := zec fun j hj => by rw [(g1 j (by omega)).1, <- h1 j hj]
    refine ⟨fun hN => ?_, fun e' hN => ?_, fun y hy => ?_⟩
    ·rw [hNi] at hN;subst hN;obtain ⟨hp, hv⟩ := hv;refine ⟨by rw [hdst] at hp; exact hp, ?_⟩;rw [hst];simp only [tT, tW, tC, tR, hEi];unfold zcS at hx;unfold OpG;unfold Op2 at hv;split at hx
     ·rename_i hg;simp at hx;subst hx
      try rw [hg]
      exact hv
     ·rename_i q want hg;split at hx
      ·rename_i t ht';simp at hx;subst hx
       try rw [hg]
       exact ⟨t, ht', hv⟩
      ·cases hx
    ·rw [hNi] at hN;subst hN;obtain ⟨rfl, hg, hd, hok⟩ := hv;rw [hst];unfold zcS at hx;split at hx
     ·rename_i hg';simp at hx;subst hx;exact ⟨hEi, hg', hd, hok⟩
     ·split at hx
      ·simp at hx; subst hx; cases hg
      ·cases hx
    ·have : tC E' i = e.2.2.1 := by simp only [tC, hEi]
     rw [this] at hy;have := hnx y hy;rw [this, zfb E' E i fun j hj => by rw [(g1 j (by omega)).1, <- h1 j hj]]
     try rfl
  ·rw [show i + (x :: tl).length = i + 1 + tl.length by simp; omega];exact g3
def okI (ops : List Oper) (fp : Fp) (ins : List (Option zd3)) : Bool :=
 (List.range ops.length).all fun j => match ins.getD j none with
   | none => true
   | some e => (List.range ops.length).all fun i => match ins.getD i none with
    | none => !(fp.getD i ([], [])).1.contains e.1 && (!(fp.getD i ([], [])).2.contains e.1 || zdE ops ops.length i j)
    | some e' => i == j || !(e'.1 == e.1) || !decide (e'.2.1 = e.2.1)
theorem zqD {P Γ s} {Q : Exit -> St -> Prop} {kt : Kt} {id : Nat} {l : List Oper} (hm : P.follows .mixedOrders = true) (hord : zfx l = true) (hn0 : Γ.n0 <= s.next)
  (h : ∀ (C : Fp -> List (Option zd3) -> Prop) (k : St -> Prop), (∀ fp ins, okP l fp = true -> okI l fp ins = true -> C fp ins) -> (∀ s', zan P Γ Q kt .normal s' -> k s') -> match zbm l.toArray l with | some l' => HD3 P l' s [] [] C k | none => False) :
  V P Γ (.region id l.toArray true) s (zan P Γ Q kt) := by
 have := h (fun fp ins => okP l fp = true /\ okI l fp ins = true) _ (fun _ _ h g => ⟨h, g⟩) fun _ h => h;split at this
 ·rename_i l' hl;have h0 : stE l s (fun _ => default) 0 = s := by
   have hnone : ∀ (l : List Oper) (i : Nat) (e : List (Nat × D)), zdj (tT fun _ => default) (fun j => decide (j < 0)) l i e = e := by
    intro l
    induction l with
    | nil => intro i e; rfl
    | cons o l ih => intro i e; exact ih (i + 1) e
   simp only [stE, hnone]
   try rfl
  have hc := this s (.refl s);rw [<- h0] at hc;obtain ⟨E, N, _, h2, ⟨hok, hoi⟩, s', h3, h4⟩ := zl5 l' l 0 (fun _ => default) (fun _ => none) hl (fun j => by rw [Nat.zero_add]) hc;rw [Nat.zero_add] at hok hoi h3;have hlen : ∀ i, i < l.length -> (tF E l.length).getD i ([], []) = (tR E i, zcx (tW E i)) := fun i hi => by
   simp [tF, hi]
  have hlenN : ∀ i, i < l.length -> (tN N l.length).getD i none = N i := fun i hi => by
   simp [tN, hi]
  have mono : ∀ i j, i <= j -> cnt E i <= cnt E j := fun i j hij => by
   induction hij with
   | refl => exact Nat.le_refl _
   | step _ ih => simp only [cnt]; omega
  have hcr : ∀ i x, i < l.length -> tC E i = some x -> x = s.next + cnt E i /\ cnt E (i + 1) = cnt E i + 1 := fun i x hi hx => by
   have := (h2 i _ (Nat.zero_le _) (List.getElem?_eq_getElem hi)).2.2 x hx;exact ⟨this, by simp only [cnt, hx]; rfl⟩
  let cr : Nat -> Option Nat := fun i => if i < l.length then tC E i else none
  have hN' : ∀ i e, (if i < l.length then N i else none) = some e -> i < l.length /\ N i = some e := fun i e hh => by
   split at hh
   ·rename_i hi; exact ⟨hi, hh⟩
   ·cases hh
  have hst : ∀ i, i < l.length -> stW l (tT E) (tW E) s (s.next + cnt E l.length) (fun j => decide (j < i)) = { stE l s E i with next := s.next + cnt E l.length } := fun i hi => by
   simp only [stW, stE];rw [zfJ (tW E) i l.length (by omega)]
  refine zqE (T := tT E) (W := tW E) (cr := cr) (R := tR E) (N := fun i => if i < l.length then N i else none) (M := s.next + cnt E l.length) hm hord hn0 (by omega) (fun i x hx => ?_) (fun i j x hi hj => ?_) (fun i j hij hj hb => ?_) (fun i o e ho he => ?_) (fun i j e hi hj hni hnj => ?_) (fun i j e e' hij hni hnj hid => ?_) (fun i o ho hni => ?_) ⟨s', ?_, h4⟩
  ·simp only [cr] at hx;split at hx
   ·rename_i hi;obtain ⟨e1, e2⟩ := hcr i x hi hx;have := mono (i + 1) l.length hi;omega
   ·cases hx
  ·simp only [cr] at hi hj;split at hi
   ·rename_i hil;split at hj
    ·rename_i hjl;obtain ⟨e1, e2⟩ := hcr i x hil hi;obtain ⟨e3, e4⟩ := hcr j x hjl hj;rcases Nat.lt_trichotomy i j with hlt | hlt | hlt
     ·have := mono (i + 1) j hlt;omega
     ·exact hlt
     ·have := mono (j + 1) i hlt;omega
    ·cases hj
   ·cases hi
  ·have := (List.all_eq_true.1 ((List.all_eq_true.1 hok) j (List.mem_range.2 hj))) i (List.mem_range.2 hij);rw [hb, hlen i (by omega), hlen j hj] at this;simp only [Bool.false_or, Bool.and_eq_true] at this;refine ⟨fun y hy => ?_, fun y hy => zeo this.2 y hy⟩;have := zeo this.1 y hy;rw [List.mem_append, not_or] at this;exact this
  ·have hi := (lGE.1 ho).1;obtain ⟨_, he⟩ := hN' i e he;obtain ⟨g1, g2, g3, g4⟩ := (h2 i o (Nat.zero_le _) ho).2.1 e he;refine ⟨by simp only [tW, g1], by simp only [cr, tC, g1]; simp, g2, g3, ?_⟩;rw [hst i hi];exact g4
  ·simp only [if_pos hi] at hni;obtain ⟨_, hnj⟩ := hN' j e hnj;have := (List.all_eq_true.1 hoi) j (List.mem_range.2 hj);rw [hlenN j hj, hnj] at this;have := (List.all_eq_true.1 this) i (List.mem_range.2 hi);rw [hlenN i hi, hni, hlen i hi] at this;simp only [Bool.and_eq_true, Bool.not_eq_true', Bool.or_eq_true] at this;refine ⟨fun h => ?_, fun h => ?_⟩
   ·have h1 := this.1;simp [h] at h1
   ·rcases this.2 with h1 | h1
    ·simp [h] at h1
    ·exact h1
  ·obtain ⟨hi, hni⟩ := hN' i e hni;obtain ⟨hj, hnj⟩ := hN' j e' hnj;have := (List.all_eq_true.1 hoi) j (List.mem_range.2 hj);rw [hlenN j hj, hnj] at this;have := (List.all_eq_true.1 this) i (List.mem_range.2 hi);rw [hlenN i hi, hni] at this;simp only [Bool.or_eq_true, beq_iff_eq, Bool.not_eq_true', decide_eq_false_iff_not] at this;rcases this with (h1 | h1) | h1
   ·exact absurd h1 hij
   ·simp [hid] at h1
   ·exact h1
  ·have hi := (lGE.1 ho).1;simp only [if_pos hi] at hni;obtain ⟨g1, g2⟩ := (h2 i o (Nat.zero_le _) ho).1 hni;refine ⟨g1, ?_⟩;have hcri : cr i = tC E i := by simp only [cr]; rw [if_pos hi]
   rw [hst i hi, hcri];have eqo : ∀ (op : Op) (r : D -> Prop), valD P { stE l s E i with next := s.next + cnt E l.length } op r = valD P (stE l s E i) op r := fun op r => zdl rfl fun x _ => by cases x <;> rfl
   have ero : ∀ (op : Op), zbq { stE l s E i with next := s.next + cnt E l.length } op = zbq (stE l s E i) op := fun op => by
    have e : opd { stE l s E i with next := s.next + cnt E l.length } = opd (stE l s E i) := funext fun x => by cases x <;> rfl
    unfold zbq zbG zcb;rw [e]
   have efo : ∀ (op : Op) (r : ERes -> Prop), effD P { stE l s E i with next := s.next + cnt E l.length } op r = effD P (stE l s E i) op r := fun op r =>
    propext ⟨zdg (fun _ _ => rfl) fun x _ => by cases x <;> rfl, zdg (fun _ _ => rfl) fun x _ => by cases x <;> rfl⟩
   unfold OpG at g2 ⊢;unfold Op1 at g2 ⊢;simp only [eqo, ero, efo];exact g2
  ·have hfm : ((List.range l.length).filterMap fun i => if i < l.length then N i else none) = (tN N l.length).filterMap _root_.id := by
    rw [tN, List.filterMap_map];exact zf3 fun j hj => by rw [if_pos (List.mem_range.1 hj)]; rfl
   rw [hfm];refine St.Eqo.trans (b := (stE l s E l.length).ins (tN N l.length)) ⟨rfl, fun x => ?_, rfl, fun x => ?_⟩ h3
   ·simp only [stX, stW, stE, St.ins]
   ·simp only [stX, stW, stE, St.ins];exact zbp (tT E) _ _ x l 0 s.env s.env rfl fun j o hj _ => by
     have := (lGE.1 hj).1;simp [this]
 ·exact this.elim
theorem zr3 {P s dst op rest fp ins C k} (_ : zby op = false) (h : valD P s op fun d => zaI dst s /\ HD3 P rest (s.put dst d) (fp ++ [(zbq s op, [])]) (ins ++ [none]) C k) : HD3 P (⟨dst, op, none⟩ :: rest) s fp ins C k := zqM h
theorem zr4 {P s t x i v rest fp ins C k} (h : match zdz P t, opd s x, opd s i with
  | some (kk, ag, _), .mp m, .u ku => match zfX ku, zfI ag (opd s v), getK s.obs m with
   | some ky, some cells, some (.map kk' ag' []) => ky.kk = kk /\ kk = kk' /\ ag = ag' /\ HD3 P rest s (fp ++ [([], [])]) (ins ++ [some (m, ky, cells)]) C k
   | _, _, _ => False
  | _, _, _ => False) : HD3 P (⟨none, .insert t x i v, none⟩ :: rest) s fp ins C k := by
 split at h
 ·rename_i kk ag z m ku h1 h2 h3;split at h
  ·rename_i ky cells kk' ag' h4 h5 h6;obtain ⟨g1, rfl, rfl, g2⟩ := h;exact zr6 ⟨t, x, i, v, kk, ag, z, ku, .inr rfl, h1, h2, h3, h4, g1, h5, h6⟩ g2
  ·exact h.elim
 ·exact h.elim
theorem zr8 {P s dst op rest fp ins C k} (_ : zby op = true) (_ : zsz op = false) (h : effD P s op fun e => zaI dst s /\ (e.nw = none -> dst = none) /\
  HD3 P rest (s.effS e dst) (fp ++ [(zbq s op, match e.nw with | none => e.U.map (·.1) | some _ => s.next :: e.U.map (·.1))]) (ins ++ [none]) C k) : HD3 P (⟨dst, op, none⟩ :: rest) s fp ins C k := zr7 h
def zuR (l : List Oper) : Nat := (l.filter fun o => zsz o.op).length
theorem zrS {P Γ s} {Q : Exit -> St -> Prop} {kt : Kt} {id : Nat} {l : List Oper} (_ : decide (1 < zuR l) = true) (hm : P.follows .mixedOrders = true) (hord : zfx l = true) (hn0 : Γ.n0 <= s.next)
  (h : ∀ (C : Fp -> List (Option zd3) -> Prop) (k : St -> Prop), (∀ fp ins, okP l fp = true -> okI l fp ins = true -> C fp ins) -> (∀ s', zan P Γ Q kt .normal s' -> k s') -> match zbm l.toArray l with | some l' => HD3 P l' s [] [] C k | none => False) :
  V P Γ (.region id l.toArray true) s (zan P Γ Q kt) := zqD hm hord hn0 h
theorem zsF {P l s s' fp fp' ins ins' C k} (h : s = s') (h' : fp = fp') (h'' : ins = ins') : HD3 P l s fp ins C k = HD3 P l s' fp' ins' C k := by rw [h, h', h'']
attribute [congr] zsF
end Go.VL
namespace Go.VL
open Go
end Go.VL
namespace Go.VL
open Go Go.Sort Go.Proofs
def zbs (zs : List Int) : List (List D) := zs.map fun z => [.u (.int .i64 z)]
theorem zkf (zs : List Int) : rowsD (zs.map fun z => [U.int .i64 z]) = zbs zs := by simp [rowsD, zbs]
theorem Ret.zrY {P : Program} {f : FuncId} {t : Nat} {zs zs' : List Int} {d : D} {ret : Option Addr -> Nat -> Value} {j nx : Nat} (hj : j < nx) (hl : zs'.length = zs.length) (hmax : zs.length <= maxLen)
  (hc : ∀ (blk cap : Nat) (w : World), Holds (Value.int .i64) w blk 0 zs.toArray -> blk < w.heap.size -> zs.length <= cap -> zs ≠ [] -> Calls P f #[.slice (some ⟨blk, 0, none⟩) zs.length cap] w fun e w' =>
    e = .returned (ret (some ⟨blk, 0, none⟩) cap) /\ ∃ n os, w' = grow (putRow (Value.int .i64) (Sort.ahead w n) blk 0 zs'.toArray) os)
  (h0 : zs = [] -> ∀ (p : Option Addr) (cap : Nat) (w : World), Calls P f #[.slice p 0 cap] w fun e w' => e = .returned (ret p cap) /\ w' = w)
  (hret : (d = .tup [] /\ ∀ a c, ret a c = .tuple #[]) \/ ∃ m, d = .vec j m /\ ∀ a c, ret a c = .slice a m c) :
  Ret P f [.vec j zs.length] [(j, .vec t 1 (zbs zs))] nx fun d' obs nx' => d' = d /\ obs = [(j, .vec t 1 (zbs zs'))] /\ nx' = nx := by
 intro k own w vs hsat hhdr hown hrep;obtain ⟨h, xs, hh, hrow, _, _, hcell, hblk⟩ := (hsat.ob j (.vec t 1 (zbs zs)) (by simp [getK])).vec;have hlen : (zbs zs).length = zs.length := by simp [zbs]
 rw [hlen] at hrow;have hvs : vs = #[zaU h zs.length] := by
  obtain ⟨h1, h2⟩ := hrep;have h3 := h2 0 _ rfl;obtain ⟨h', hh', e⟩ := zey h3;rw [hh] at hh';cases hh';have hs1 : vs.size = 1 := by simpa using h1
  apply Array.ext_getElem?;intro i
  match i with
  | 0 =>
   have h4 : 0 < vs.size := by omega
   rw [<- e];simp [h4]
  | i + 1 => rw [Array.getElem?_eq_none (by omega), Array.getElem?_eq_none (by simp)]
 have hd : ∀ h', k.hdr j = some h' -> Rep k d (ret (h'.1.map fun b => ⟨b, 0, none⟩) h'.2) := fun h' e => by
  rcases hret with ⟨rfl, hr⟩ | ⟨m, rfl, hr⟩
  ·rw [hr]; exact .tup [] [] rfl (fun j d hj => by simp at hj)
  ·rw [hr]; exact .vec j m h' e
 subst hvs;by_cases hz : zs = []
 ·subst hz;obtain rfl : zs' = [] := List.eq_nil_of_length_eq_zero (by simpa using hl);refine (h0 rfl _ _ w).mono ?_;rintro e w' ⟨rfl, rfl⟩;exact ⟨_, d, _, nx, k, rfl, ⟨.refl _, hhdr, fun _ _ _ e => .inl e, hown, rfl, rfl, rfl, Nat.le_refl _, fun _ _ => rfl⟩, hsat, hhdr, Nat.le_refl _, hd h hh, rfl, rfl, rfl⟩
 ·rcases hrow with ⟨hxl, ⟨hv, hn⟩ | ⟨g, cap, cur, hv, hb, hg, hn, hcap, hsz, htk⟩⟩
  ·exact absurd (List.eq_nil_of_length_eq_zero hn) hz
  ·have hh1 : h.1 = some g /\ h.2 = cap := by
    simp only [zaU, Value.slice.injEq, Option.map_eq_some_iff] at hv;obtain ⟨⟨b, hb, e⟩, _, e2⟩ := hv;simp only [Addr.mk.injEq] at e;exact ⟨by rw [hb, e.1], e2⟩
   rw [hv];have hxs : xs = zs.map (Value.int .i64) := by
    apply List.ext_getElem?;intro i;by_cases hj : i < zs.length
    ·have h1 := (hcell i [.u (.int .i64 zs[i])] (by simp [zbs, hj]) 0 (.u (.int .i64 zs[i])) rfl).2;have h2 := zbF h1;have h3 : i < xs.length := by omega
     simp [h3] at h2;simp [h3, hj, h2]
    ·rw [List.getElem?_eq_none (by omega), List.getElem?_eq_none (by simpa using hj)]
   rw [hxs] at htk;have hgl : g < w.heap.size := (Array.getElem?_eq_some_iff.1 hg).1;refine (hc g cap w (holds_of_blockI hg (by simpa using htk)) hgl hn hz).mono ?_;rintro e w' ⟨rfl, n, os, rfl⟩;have hgr : w.grownBy (grow (putRow (Value.int .i64) (Sort.ahead w n) g 0 zs'.toArray) os) (some g) := grownBy_sortedI _;have hin0 : In (.of own k nx w) k w := ⟨.refl _, hhdr, fun _ _ _ e => .inl e, hown, rfl, rfl, rfl, Nat.le_refl _, fun _ _ => rfl⟩;have hin := hin0.grown hgr (fun b e => by cases e; exact (hblk g hh1.1).1);have hold : ∀ b, b < w.heap.size -> b ≠ g -> (grow (putRow (Value.int .i64) (Sort.ahead w n) g 0 zs'.toArray) os).heap[b]? = w.heap[b]? := fun b hb hne => hgr.block b hb (fun e => hne (by cases e; rfl));refine ⟨_, d, [(j, .vec t 1 (zbs zs'))], nx, k, rfl, hin, ?_, hhdr, Nat.le_refl _, ?_, rfl, rfl, rfl⟩
   ·have hown2 := ownsRow_sortedI (w := w) (n := n) (os := os) hl hb hg hn hcap hsz;refine ⟨fun b o v hm => ?_, fun i ob hi => ?_, fun i i' x y g1 g2 b hi hj hij => ?_⟩
    ·have hlt := hsat.memLt hm;have hne : b ≠ g := fun e => by subst e; have := (hblk b hh1.1).2 o; rw [hm] at this; cases this
     rw [zdD (hold b hlt hne)];exact hsat.mem b o v hm
    ·simp only [getK] at hi;split at hi
     ·rename_i hi0;subst hi0;cases hi;refine ⟨h, hh, hblk, _, (?_ : World.ownsRow _ 0 t 1 (zaU h (zbs zs').length) (zbs zs').length (zs'.map (Value.int .i64))), Nat.one_pos, fun r hr => ?_, fun i r hi q d hq => ?_⟩
      ·have e : (zbs zs').length = zs.length := by simp [zbs, hl]
       rw [e, hv];exact hown2
      ·obtain ⟨z, _, rfl⟩ := List.mem_map.1 hr
       try rfl
      ·simp only [zbs, List.getElem?_map, Option.map_eq_some_iff] at hi;obtain ⟨z, hz', rfl⟩ := hi
       match q, hq with
       | 0, hq =>
        cases hq;have h3 : i < zs'.length := (lGE.1 hz').1;have h4 : zs'[i] = z := (lGE.1 hz').2;have : (zs'.map (Value.int .i64)).getD (i * 1 + 0) undef = .int .i64 z := by simp [h3, h4]
        rw [this];exact ⟨rfl, .u _ _ (.int _ _)⟩
     ·cases hi
    ·simp only [getK] at hi hj;split at hi
     ·split at hj
      ·omega
      ·cases hj
     ·cases hi
   ·have := hd h hh;rw [hh1.1, hh1.2] at this;exact this
theorem CallP.zut {P : Program} {Γ : Ctx} {s : St} {k : St -> Prop} {dst : Option Tmp} {fop : Operand} {args : List Operand} {f caps} {ds : List D} {post : D -> List (Nat × Ob) -> Nat -> Prop} (hret : Ret P f ds [] s.next post)
  (hf : zaz (opd s fop) = some (f, caps)) (hc : zak P f = true) (hds : args.map (opd s) ++ caps = ds) (hp : zaI dst s)
  (hk : ∀ d o1 nx', s.next <= nx' -> post d o1 nx' -> k (({ s with obs := s.obs ++ o1, next := nx' } : St).put dst d)) : CallP P Γ fop args dst s k :=
 CallP.zus s.obs [] hret (fun i => by simp) (fun i ob _ => rfl) hf hc hds hp hk
theorem CallP.ztX {P : Program} {Γ : Ctx} {s : St} {k : St -> Prop} {dst : Option Tmp} {fop : Operand} {args : List Operand} {f caps} {ds : List D} {post : D -> List (Nat × Ob) -> Nat -> Prop} {j : Nat} {ob : Ob} (hret : Ret P f ds [(j, ob)] s.next post)
  (hj : getK s.obs j = some ob) (hf : zaz (opd s fop) = some (f, caps)) (hc : zak P f = true) (hds : args.map (opd s) ++ caps = ds) (hp : zaI dst s)
  (hk : ∀ d o1 nx', s.next <= nx' -> post d o1 nx' -> k (({ s with obs := del s.obs j ++ o1, next := nx' } : St).put dst d)) : CallP P Γ fop args dst s k :=
 CallP.zus (del s.obs j) [(j, ob)] hret (fun i => by
  rw [zab, zac];by_cases h : i = j
  ·subst h; simp [hj, getK]
  ·simp only [if_neg h, getK];cases getK s.obs i <;> rfl) (fun i o hi => by
  rw [zac] at hi;by_cases h : i = j
  ·rw [if_pos h] at hi; cases hi
  ·simp [getK, h]) hf hc hds hp hk
end Go.VL
namespace Go.VL
open Go
def fam (b : Nat) : List Ob -> List (Nat × Ob)
 | [] => []
 | o :: l => (b, o) :: fam (b + 1) l
theorem zfl : ∀ (b : Nat) (l : List Ob) (j : Nat), getK (fam b l) j = if b <= j then l[j - b]? else none
 | b, [], j => by simp [fam, getK]
 | b, o :: l, j => by
  rw [fam, zaa, zfl (b + 1) l j];by_cases h : j = b
  ·subst h; simp
  ·rw [if_neg h];by_cases h2 : b <= j
   ·rw [if_pos (show b + 1 <= j by omega), if_pos h2, show j - b = (j - (b + 1)) + 1 by omega, List.getElem?_cons_succ]
   ·rw [if_neg (by omega), if_neg h2]
theorem ze4 (b : Nat) (l : List Ob) (i : Nat) : getK (fam b l) (i + b) = l[i]? := by rw [zfl, if_pos (by omega), Nat.add_sub_cancel]
theorem zlZ : ∀ (b : Nat) (l : List Ob) (p : Nat × Ob), p ∈ fam b l -> b <= p.1 /\ p.1 < b + l.length
 | b, [], p, h => by simp [fam] at h
 | b, o :: l, p, h => by
  rcases List.mem_cons.1 h with rfl | h
  ·simp
  ·have := zlZ (b + 1) l p h;simp only [List.length_cons];omega
theorem zm3 {b : Nat} {l : List Ob} {j : Nat} (h : j < b \/ l.length + b <= j) : (fam b l).filter (fun p => !(p.1 == j)) = fam b l := by
 refine List.filter_eq_self.2 fun p hp => ?_;have := zlZ b l p hp;simp;omega
theorem zeE {b : Nat} {l : List Ob} {j : Nat} (h : j < b \/ l.length + b <= j) : del (fam b l) j = fam b l := zm3 h
theorem zcN {p : Nat × Ob} {l : List (Nat × Ob)} {j : Nat} : del (p :: l) j = if p.1 = j then del l j else p :: del l j := by
 unfold del;by_cases h : p.1 = j <;> simp [h]
theorem znm (s : St) (nx : Nat) : ∀ (l : List (Nat × Ob)), wkO s nx l ↔ ∀ p ∈ l, p.1 < nx /\ getK s.obs p.1 = some p.2 /\ p.2.under nx = true
 | [] => by simp [wkO]
 | p :: l => by simp [wkO, znm s nx l]
theorem zhm : ∀ (b : Nat) (l : List Ob) (p : Nat × Ob), p ∈ fam b l ↔ ∃ i o, l[i]? = some o /\ p = (i + b, o)
 | b, [], p => by simp [fam]
 | b, o :: l, p => by
  rw [fam, List.mem_cons, zhm (b + 1) l p];constructor
  ·rintro (rfl | ⟨i, o', h, rfl⟩)
   ·exact ⟨0, o, rfl, by simp⟩
   ·exact ⟨i + 1, o', h, by rw [nAA, Nat.add_comm 1 b]⟩
  ·rintro ⟨i, o', h, rfl⟩;cases i with
   | zero => left; simp at h; simp [h]
   | succ i => right; exact ⟨i, o', h, by rw [nAA, Nat.add_comm 1 b]⟩
theorem zrc (s : St) (nx b : Nat) (l : List Ob) : wkO s nx (fam b l) ↔ ∀ i o, l[i]? = some o -> i + b < nx /\ getK s.obs (i + b) = some o /\ o.under nx = true := by
 rw [znm];constructor
 ·intro h i o hi;exact h (i + b, o) ((zhm _ _ _).2 ⟨i, o, hi, rfl⟩)
 ·intro h p hp;obtain ⟨i, o, hi, rfl⟩ := (zhm _ _ _).1 hp;exact h i o hi
theorem zkO (s : St) (ρ : Nat -> Nat) (nx : Nat) : ∀ (l : List (Nat × Ob)), wkR s ρ nx l ↔ ∀ p ∈ l, p.1 < nx /\ (match getK s.obs (ρ p.1) with | some ob => obR ρ nx ob p.2 | none => False)
 | [] => by simp [wkR]
 | p :: l => by
  rw [wkR, zkO s ρ nx l];exact ⟨fun h q hq => (List.mem_cons.1 hq).elim (fun e => by subst e; exact h.1) (h.2 q), fun h => ⟨h p (by simp), fun q hq => h q (by simp [hq])⟩⟩
theorem znl (s : St) (ρ : Nat -> Nat) (nx b : Nat) (l : List Ob) : wkR s ρ nx (fam b l) ↔ ∀ i o, l[i]? = some o -> i + b < nx /\ (match getK s.obs (ρ (i + b)) with | some ob => obR ρ nx ob o | none => False) := by
 rw [zkO];constructor
 ·intro h i o hi;exact h (i + b, o) ((zhm _ _ _).2 ⟨i, o, hi, rfl⟩)
 ·intro h p hp;obtain ⟨i, o, hi, rfl⟩ := (zhm _ _ _).1 hp;exact h i o hi
def zeU (a c : Nat) (i : Nat) : Nat := if i = a then c else i
theorem Wk.eqo {Γ : Ctx} {s s' : St} (h : s.Eqo s') : Wk Γ s s' := fun K _ _ h1 h2 => ⟨K, h1, h2.eqo h⟩
def zqX (b : Nat) : D -> Prop
 | .u _ => True
 | .any => True
 | .vec j _ => j < b
 | .ptr j _ => j < b
 | _ => False
theorem zp5 {b i : Nat} {us : List (List U)} {d : D} (h : zqX b d) (hi : b <= i) : VL.frz i us d = d := by
 cases d with
 | vec j n =>
  simp only [zqX] at h;simp only [VL.frz, frzS, fv, zaV];rw [if_neg (by omega)]
 | ptr j n => simp [VL.frz, VL.frzS, fv, zaV]
 | u x => simp [VL.frz, VL.frzS]
 | any => simp [VL.frz, VL.frzS]
 | _ => exact h.elim
theorem znP {b : Nat} {d : D} (h : zqX b d) : zqX (b + 1) d := by
 cases d <;> simp only [zqX] at h ⊢ <;> omega
theorem zjd {α : Type} {f : α -> α} {l : List α} (h : ∀ x ∈ l, f x = x) : l.map f = l := by
 conv => rhs; rw [<- List.map_id l]
 exact List.map_congr_left h
def EndsIn (T : List (Nat × Ob)) (b k : Nat) : List (Nat × Ob) -> Prop
 | [] => T = []
 | p :: l => (p :: l = T) \/ ((p.1 < b \/ k + b <= p.1) /\ EndsIn T b k l)
theorem zcs (T b k) : EndsIn T b k T = True := eq_true (by cases T <;> simp [EndsIn])
theorem zct {T b k p l} : EndsIn T b k (p :: l) = ((p :: l = T) \/ ((p.1 < b \/ k + b <= p.1) /\ EndsIn T b k l)) := rfl
theorem EndsIn.out {T b k} : ∀ {obs}, EndsIn T b k obs -> ∃ A, obs = A ++ T /\ ∀ p ∈ A, p.1 < b \/ k + b <= p.1
 | [], h => ⟨[], by rw [show T = [] from h]; rfl, by simp⟩
 | p :: l, h => by
  rcases h with h | ⟨h1, h2⟩
  ·exact ⟨[], by rw [h]; rfl, by simp⟩
  ·obtain ⟨A, e, h3⟩ := EndsIn.out h2;exact ⟨p :: A, by rw [e]; rfl, fun q hq => (List.mem_cons.1 hq).elim (fun e => by rw [e]; exact h1) (h3 q)⟩
theorem EndsIn.get {L : List Ob} {b obs} (h : EndsIn (fam b L) b L.length obs) {i : Nat} (hi : i < L.length) : getK obs (i + b) = L[i]? := by
 obtain ⟨A, rfl, h2⟩ := h.out;rw [zab];have : getK A (i + b) = none := by
  cases hq : getK A (i + b) with
  | none => rfl
  | some o =>
   obtain ⟨p, hp, e⟩ := List.mem_map.1 (zfk hq);have := h2 p hp;omega
 rw [this, ze4]
def famPure (L : List Ob) : Prop := ∀ o ∈ L, ∃ e sz B, o = .vec e sz B /\ zaX B
theorem famPure.under {L : List Ob} (h : famPure L) {o : Ob} (ho : o ∈ L) (nx : Nat) : o.under nx = true := by
 obtain ⟨e, sz, B, rfl, hB⟩ := h o ho;exact Ob.zkI (zeV hB)
theorem zgS {s : St} {nx b : Nat} {L : List Ob} (h : EndsIn (fam b L) b L.length s.obs) (hp : famPure L) (hx : L.length + b <= nx) : wkO s nx (fam b L) = True := by
 refine eq_true ((zrc s nx b L).2 fun i o hi => ?_);have hlt := (lGE.1 hi).1;exact ⟨by omega, by rw [h.get hlt, hi], hp.under (List.mem_of_getElem? hi) nx⟩
theorem zpo {s : St} {ρ : Nat -> Nat} {nx b : Nat} {L : List Ob} (h : EndsIn (fam b L) b L.length s.obs) (hp : famPure L) (hx : L.length + b <= nx) (hρ : ∀ i, i < L.length -> ρ (i + b) = i + b) : wkR s ρ nx (fam b L) := by
 refine (znl s ρ nx b L).2 fun i o hi => ?_;have hlt := (lGE.1 hi).1;refine ⟨by omega, ?_⟩;rw [hρ i hlt, h.get hlt, hi];obtain ⟨e, sz, B, rfl, hB⟩ := hp o (List.mem_of_getElem? hi);exact ⟨rfl, rfl, rfl, .inl hB⟩
theorem zeQ {s : St} {a c nx b : Nat} {L : List Ob} (h : EndsIn (fam b L) b L.length s.obs) (hp : famPure L) (hx : L.length + b <= nx) (ha : a < b \/ L.length + b <= a) : wkR s (zeU a c) nx (fam b L) = True :=
 eq_true (zpo h hp hx fun i hi => by rw [zeU, if_neg (by omega)])
theorem Wk.zsL {Γ : Ctx} {s s' : St} (a c : Nat) (hn : s'.n = s.n) (h0 : Γ.n0 <= a) (h1 : Γ.n0 <= s'.next) (hc : s'.next <= c) (he : zhW s (zeU a c) s'.next s'.env) (ho : wkR s (zeU a c) s'.next s'.obs) : Wk Γ s s' := by
 refine Wk.ren (zeU a c) hn (fun i hi => ⟨by rw [zeU, if_neg (by omega)], by omega⟩) he ho fun i hi j hj e => ?_;have key : ∀ i ∈ s'.obs.map (·.1), i < s'.next := fun i hi => by
  obtain ⟨p, hp, rfl⟩ := List.mem_map.1 hi;exact ((zkO _ _ _ _).1 ho p hp).1
 have h2 := key i hi;have h3 := key j hj;unfold zeU at e;split at e <;> split at e <;> omega
theorem Ret.re {P : Program} {f : FuncId} {ds : List D} {obs : List (Nat × Ob)} {nx : Nat} {p q : D -> List (Nat × Ob) -> Nat -> Prop} (h : Ret P f ds obs nx p) (hq : ∀ d o n, p d o n -> ∃ o', (∀ j, getK o' j = getK o j) /\ q d o' n) : Ret P f ds obs nx q :=
 fun k own w vs h1 h2 h3 h4 => (h k own w vs h1 h2 h3 h4).mono fun e w' ⟨v, d, o, nx', k', a1, a2, a3, a4, a5, a6, a7⟩ =>
  let ⟨o', b1, b2⟩ := hq d o nx' a7
  ⟨v, d, o', nx', k', a1, a2, a3.congr b1, a4, a5, a6, b2⟩
end Go.VL
namespace Go.VL
open Go
theorem zmc {P : Program} {Γ : Ctx} {s s' : St} {k : St -> Prop} {dst : Option Tmp} {fop : Operand} {args : List Operand} (hw : Wk Γ s s') (h : CallP P Γ fop args dst s' k) : CallP P Γ fop args dst s k := fun ts ty pos after K a w hin hs =>
 let ⟨K', h1, h2⟩ := hw K a w hin hs
 h ts ty pos after K' a w h1 h2
end Go.VL
namespace Go.VL
open Go
def idF (b : Nat) : List Nat -> List (List D)
 | [] => []
 | m :: ms => [D.vec b m] :: idF (b + 1) ms
theorem zgs : ∀ (b : Nat) (ms : List Nat), (idF b ms).length = ms.length
 | _, [] => rfl
 | b, m :: ms => by simp [idF, zgs (b + 1) ms]
theorem zjh : ∀ (b : Nat) (ms : List Nat) (i m : Nat), ms[i]? = some m -> (idF b ms)[i]? = some [D.vec (i + b) m]
 | b, [], i, m, h => by simp at h
 | b, k :: ms, 0, m, h => by simp at h; simp [idF, h]
 | b, k :: ms, i + 1, m, h => by
  rw [idF, List.getElem?_cons_succ, zjh (b + 1) ms i m (by simpa using h), Nat.add_right_comm, nAA]
theorem zoz : ∀ (b : Nat) (ms : List Nat) (i m : Nat), (idF b ms).set i [D.vec (i + b) m] = idF b (ms.set i m)
 | b, [], i, m => rfl
 | b, k :: ms, 0, m => by simp [idF]
 | b, k :: ms, i + 1, m => by
  rw [idF, List.set_cons_succ, List.set_cons_succ, idF, <- zoz (b + 1) ms i m, Nat.add_right_comm, nAA]
theorem zle {b : Nat} {ms : List Nat} {r : List D} (h : r ∈ idF b ms) : ∃ i m, i < ms.length /\ r = [D.vec (i + b) m] := by
 obtain ⟨i, hi⟩ := List.getElem?_of_mem h;have hl := (lGE.1 hi).1;rw [zgs] at hl;rw [zjh b ms i ms[i] (List.getElem?_eq_getElem hl)] at hi;cases hi;exact ⟨i, _, hl, rfl⟩
theorem zgr {b nx : Nat} {ms : List Nat} (h : ms.length + b <= nx) : (∀ x ∈ idF b ms, ∀ y ∈ x, D.under nx y = true) = True := eq_true fun r hr c hc => by
 obtain ⟨i, m, hi, rfl⟩ := zle hr;simp at hc;subst hc;simp only [D.under, decide_eq_true_eq];omega
theorem Wk.zwx {Γ : Ctx} {s : St} (j i e2 e sz : Nat) (rows : List (List D)) (hsz : 0 < sz) (hj : getK s.obs j = some (.vec e2 1 rows)) (hi : rows[i]? = some [.u .nil]) :
  Wk Γ s { s with obs := (s.next, .vec e sz []) :: zcJ s.obs j (.vec e2 1 (rows.set i [.vec s.next 0])), next := s.next + 1 } := by
 intro k a w hin hs;obtain ⟨h1, h2⟩ := zo7 e sz hsz hin hs;have hne : j ≠ s.next := fun h => by
  obtain ⟨g, h3, _⟩ := hs.sat.ob j _ hj;rw [h, hs.hdr s.next (Nat.le_refl _)] at h3;cases h3
 refine ⟨_, h1, ⟨?_, h2.defers, h2.size, h2.env, h2.hdr⟩⟩;have hj' : getK ((s.next, Ob.vec e sz []) :: s.obs) j = some (.vec e2 1 rows) := by rw [zaa, if_neg hne]; exact hj
 obtain ⟨g, hg, hg1, xs, h3, h4, h5, h6⟩ := h2.sat.ob j _ hj';have hlt := (lGE.1 hi).1;refine Sat.congr (Sat.set h2.sat hj' hg (fun _ _ => rfl) (ob' := .vec e2 1 (rows.set i [.vec s.next 0])) ⟨xs, by simpa using h3, h4, fun r hr => ?_, fun y r hy q d hq => ?_⟩) fun y => ?_
 ·rcases List.mem_or_eq_of_mem_set hr with h | rfl
  ·exact h5 r h
  ·rfl
 ·rw [List.getElem?_set] at hy;by_cases hyi : i = y
  ·subst hyi;rw [if_pos rfl, if_pos hlt] at hy;cases hy;cases q with
   | zero =>
    simp at hq;subst hq;obtain ⟨h7, h8⟩ := h6 i _ hi 0 (.u .nil) rfl;refine ⟨h7, ?_⟩;rw [zdo h8];exact .vec s.next 0 (none, 0) (by simp [Kr.add])
   | succ q => simp at hq
  ·rw [if_neg hyi] at hy;exact h6 y r hy q d hq
 ·simp only [zaa, zam];by_cases hy : y = j
  ·subst hy; simp [hne]
  ·simp [hy]
theorem zfw (A : List (List D)) (n : Nat) : (A ++ List.replicate (n + 1) [D.u .nil])[A.length]? = some [.u .nil] := by simp [List.replicate_succ]
theorem Wk.zq5 {Γ : Ctx} (j e2 e sz : Nat) (hsz : 0 < sz) (rest : List (Nat × Ob)) : ∀ (n : Nat) (A : List (List D)) (s : St), (∀ i ob, getK rest i = some ob -> i < s.next) -> j < s.next ->
  s.obs = (j, .vec e2 1 (A ++ List.replicate n [.u .nil])) :: rest ->
  Wk Γ s { s with obs := (j, .vec e2 1 (A ++ idF s.next (List.replicate n 0))) :: (fam s.next (List.replicate n (.vec e sz [])) ++ rest), next := s.next + n }
 | 0, A, s, _, _, h => by
  have : s = { s with obs := (j, .vec e2 1 (A ++ idF s.next (List.replicate 0 0))) :: (fam s.next (List.replicate 0 (.vec e sz [])) ++ rest), next := s.next + 0 } := by
   cases s;simp only at h;simp [h, idF, fam]
  rw [<- this];exact .refl s
 | n + 1, A, s, hr, hj, h => by
  have h1 := Wk.zwx (Γ := Γ) (s := s) j A.length e2 e sz _ hsz (by rw [h, zaa, if_pos rfl]) (zfw A n);have hset : (A ++ List.replicate (n + 1) [D.u .nil]).set A.length [D.vec s.next 0] = (A ++ [[D.vec s.next 0]]) ++ List.replicate n [D.u .nil] := by
   rw [List.set_append_right _ _ (Nat.le_refl _), Nat.sub_self, List.replicate_succ, List.set_cons_zero];simp
  rw [hset] at h1;have h2 := Wk.zq5 (Γ := Γ) j e2 e sz hsz ((s.next, .vec e sz []) :: rest) n (A ++ [[D.vec s.next 0]]) { s with obs := (j, .vec e2 1 ((A ++ [[D.vec s.next 0]]) ++ List.replicate n [D.u .nil])) :: (s.next, .vec e sz []) :: rest, next := s.next + 1 }
   (fun i ob hi => by
     rw [zaa] at hi;by_cases hi2 : i = s.next
     ·simp only; omega
     ·rw [if_neg hi2] at hi;have := hr i ob hi;simp only; omega) (by simp only; omega) rfl
  refine h1.trans (Wk.trans (Wk.eqo (s' := { s with obs := (j, .vec e2 1 ((A ++ [[D.vec s.next 0]]) ++ List.replicate n [D.u .nil])) :: (s.next, .vec e sz []) :: rest, next := s.next + 1 }) ⟨rfl, fun x => ?_, rfl, fun x => rfl⟩) (h2.trans (Wk.eqo ⟨rfl, fun x => ?_, ?_, fun x => rfl⟩)))
  ·rw [h];simp only [zaa, zam];by_cases hx : x = s.next
   ·subst hx;rw [if_pos rfl, if_neg (by omega), if_pos rfl]
   ·rw [if_neg hx];by_cases hxj : x = j
    ·subst hxj; simp
    ·simp [hxj, hx]
  ·simp only [List.replicate_succ, idF, fam, List.append_assoc, List.cons_append, List.nil_append, zaa, zab];by_cases hxj : x = j
   ·simp [hxj]
   ·simp only [if_neg hxj];by_cases hx : x = s.next
    ·subst hx;rw [if_pos rfl, zfl, if_neg (by omega)];simp
    ·rw [if_neg hx];simp [hx]
  ·simp only;omega
theorem Wk.zrP {Γ : Ctx} {s : St} (j e2 e sz n : Nat) (hsz : 0 < sz) (rest : List (Nat × Ob)) (hr : ∀ p ∈ rest, p.1 < s.next) (hj : j < s.next) (h : s.obs = (j, .vec e2 1 (List.replicate n [.u .nil])) :: rest) :
  Wk Γ s { s with obs := (j, .vec e2 1 (idF s.next (List.replicate n 0))) :: (rest ++ fam s.next (List.replicate n (.vec e sz []))), next := s.next + n } := by
 have hr2 : ∀ i ob, getK rest i = some ob -> i < s.next := fun i ob hi => by
  obtain ⟨p, hp, e⟩ := List.mem_map.1 (zfk hi);have := hr p hp;omega
 refine (Wk.zq5 j e2 e sz hsz rest n [] s hr2 hj h).trans (Wk.eqo ⟨rfl, fun x => ?_, rfl, fun x => rfl⟩);simp only [List.nil_append, zaa, zab];by_cases hx : x = j
 ·simp [hx]
 ·rw [if_neg hx, if_neg hx];cases hq : getK rest x with
  | none => cases getK (fam s.next (List.replicate n (Ob.vec e sz []))) x <;> rfl
  | some ob =>
   have := hr2 x ob hq;rw [zfl, if_neg (by omega)]
theorem zfn (a b : List (Nat × Ob)) (j : Nat) : del (a ++ b) j = del a j ++ del b j := by simp [del]
theorem znk {s : St} {c nx b : Nat} {L : List Ob} {i : Nat} {o : Ob} (h : ∀ q, q ≠ i -> q < L.length -> getK s.obs (q + b) = L[q]?) (hp : famPure L) (hp2 : famPure [o]) (hx : L.length + b <= nx) (hc : getK s.obs c = some o) : wkR s (zeU (i + b) c) nx (fam b (L.set i o)) := by
 refine (znl s _ nx b _).2 fun q oq hq => ?_;have hlt := (lGE.1 hq).1;rw [List.length_set] at hlt;refine ⟨by omega, ?_⟩;rw [List.getElem?_set] at hq;by_cases hqi : i = q
 ·subst hqi;rw [if_pos rfl, if_pos hlt] at hq;cases hq;rw [zeU, if_pos rfl, hc];obtain ⟨e, sz, B, rfl, hB⟩ := hp2 o (by simp);exact ⟨rfl, rfl, rfl, .inl hB⟩
 ·rw [if_neg hqi] at hq;rw [zeU, if_neg (by omega), h q (fun e => hqi e.symm) hlt, hq];obtain ⟨e, sz, B, rfl, hB⟩ := hp oq (List.mem_of_getElem? hq);exact ⟨rfl, rfl, rfl, .inl hB⟩
theorem Wk.zsM {Γ : Ctx} {s s' : St} (j b c i e2 m : Nat) (ms : List Nat) (O' : List (Nat × Ob)) (hn : s'.n = s.n) (h0 : Γ.n0 <= b) (h1 : Γ.n0 <= s'.next) (hc : s'.next <= c)
  (hjx : j < b) (hi : i < ms.length) (hb : ms.length + b <= s'.next) (hj : getK s.obs j = some (.vec e2 1 ((idF b ms).set i [.vec c m])))
  (hob : s'.obs = (j, .vec e2 1 (idF b (ms.set i m))) :: O') (he : zhW s (zeU (i + b) c) s'.next s'.env) (ho : wkR s (zeU (i + b) c) s'.next O') : Wk Γ s s' := by
 have key : ∀ x ob', getK s'.obs x = some ob' -> x < s'.next /\ ∃ ob, getK s.obs (zeU (i + b) c x) = some ob /\ Ob.le (zeU (i + b) c) ob ob' /\ ob'.under s'.next = true := fun x ob' hx => by
  rw [hob, zaa] at hx;by_cases hxj : x = j
  ·subst hxj;rw [if_pos rfl] at hx;cases hx;refine ⟨by omega, .vec e2 1 ((idF b ms).set i [.vec c m]), by rw [zeU, if_neg (by omega)]; exact hj, ⟨rfl, rfl, by simp [zgs], fun q r r' hr hr' => ?_⟩, ?_⟩
   ·rw [<- zoz] at hr';by_cases hqi : q = i
    ·subst hqi;have h2 : q < (idF b ms).length := by rw [zgs]; exact hi
     rw [List.getElem?_set_self h2] at hr hr';cases hr;cases hr';refine ⟨rfl, fun y d d' hd hd' => ?_⟩;cases y with
     | zero =>
      simp at hd hd';subst hd hd';right; left;simp [D.ren, zeU]
     | succ y => simp at hd
    ·rw [List.getElem?_set_ne (fun e => hqi e.symm)] at hr hr';rw [hr] at hr';cases hr';refine ⟨rfl, fun y d d' hd hd' => ?_⟩;rw [hd] at hd';cases hd';have hq := (lGE.1 hr).1;rw [zgs] at hq;rw [zjh b ms q ms[q] (List.getElem?_eq_getElem hq)] at hr;cases hr;cases y with
     | zero =>
      simp at hd;subst hd;right; left;simp only [D.ren, zeU];rw [if_neg (by omega)]
     | succ y => simp at hd
   ·simp only [Ob.under, List.all_eq_true];intro r hr d hd;obtain ⟨q, m', hq, rfl⟩ := zle hr;simp at hd;subst hd;rw [List.length_set] at hq;simp only [D.under, decide_eq_true_eq];omega
  ·rw [if_neg hxj] at hx;exact zkN ho x ob' hx
 intro K0 a w hin0 hs0;refine ⟨_, Sim.weak (ρ := zeU (i + b) c) hin0 hs0 ⟨hn, fun x d' h => ?_, fun x d' h => ?_, key, fun x y ox oy hx hy e => ?_, fun x hx => ⟨by rw [zeU, if_neg (by omega)], by omega⟩⟩⟩
 ·obtain ⟨⟨d, h2, h3⟩, h4⟩ := zfL he x d' h;have : s.at x = d := by show (getK s.env x).getD .any = d; rw [h2]; rfl
  rw [this];exact ⟨h3, h4⟩
 ·obtain ⟨⟨d, h2, h3⟩, h4⟩ := zfL he x d' h;exact (hs0.env x d h2).1
 ·have h2 := (key x ox hx).1;have h3 := (key y oy hy).1;unfold zeU at e;split at e <;> split at e <;> omega
theorem Wk.zo8 {Γ : Ctx} {j e2 e sz : Nat} (rest : List (Nat × Ob)) : ∀ (us : List (List (List U))) (b : Nat) (A : List (List U)) (s : St), j < b -> (∀ p ∈ s.env, zqX b p.2) -> (∀ i ob, getK rest i = some ob -> i < b \/ b + us.length <= i) ->
  s.obs = (j, .vec e2 1 (rowsD A ++ idF b (us.map (·.length)))) :: (fam b (us.map fun r => .vec e sz (rowsD r)) ++ rest) -> Wk Γ s { s with obs := (j, .vec e2 1 (rowsD (A ++ us.map fun r => [.sl r]))) :: rest }
 | [], b, A, s, _, _, _, h => by
  have : s = { s with obs := (j, .vec e2 1 (rowsD (A ++ ([] : List (List (List U))).map fun r => [.sl r]))) :: rest } := by
   cases s;simp only at h;simp [h, idF, fam]
  rw [<- this];exact .refl s
 | r :: us, b, A, s, hj, he, hr, h => by
  have hb : getK s.obs b = some (.vec e sz (rowsD r)) := by
   rw [h, zaa, if_neg (by omega), zab, List.map_cons, fam, zaa, if_pos rfl]
  refine (Wk.frz b [j] (us := r) hb (by simp)).trans ?_;refine Wk.trans (Wk.eqo (s' := { s with obs := (j, .vec e2 1 (rowsD (A ++ [[.sl r]]) ++ idF (b + 1) (us.map (·.length)))) :: (fam (b + 1) (us.map fun r => .vec e sz (rowsD r)) ++ rest) }) ⟨rfl, fun x => ?_, rfl, fun x => ?_⟩)
   (Wk.trans (Wk.zo8 rest us (b + 1) (A ++ [[.sl r]]) _ (by omega) (fun p hp => znP (he p hp)) (fun i ob hi => by have := hr i ob hi; simp only [List.length_cons] at this; omega) rfl) ?_)
  ·show getK (s.frz b r [j]).obs x = _;simp only [St.frz, St.frzS];rw [zki, h];have hfr : VL.frzObS (zaV b r) (.vec e2 1 (rowsD A ++ idF b ((r :: us).map (·.length)))) = .vec e2 1 (rowsD (A ++ [[.sl r]]) ++ idF (b + 1) (us.map (·.length))) := by
    simp only [VL.frzObS, List.map_append, zat, List.map_cons, idF, List.map_nil];simp only [rowsD, List.map_append, List.map_cons, List.map_nil, List.append_assoc]
    congr 2
    have h1 : VL.frzS (zaV b r) (.vec b r.length) = .u (.sl r) := by
     simp only [VL.frzS, fv, zaV];rw [if_pos ⟨trivial, Nat.le_refl _⟩];simp only;rw [List.take_of_length_le (Nat.le_refl _)]
    rw [h1];simp only [List.cons_append, List.nil_append, List.cons.injEq, true_and];refine zjd fun q hq => zjd fun c hc => ?_;obtain ⟨i, m, _, rfl⟩ := zle hq;simp at hc;subst hc;simp only [VL.frzS, fv, zaV];rw [if_neg (by omega)]
   by_cases hxb : x = b
   ·subst hxb;rw [if_pos rfl, zaa, if_neg (by omega), zab, zfl, if_neg (by omega)];cases hq : getK rest x with
    | none => rfl
    | some ob => have := hr x ob hq; simp only [List.length_cons] at this; omega
   ·rw [if_neg hxb];simp only [List.contains_cons, List.contains_nil, Bool.or_false, zaa];by_cases hxj : x = j
    ·subst hxj;simp only [if_true, Option.map_some, beq_self_eq_true, hfr]
    ·have hbj : ¬ (x == j) = true := by simpa using hxj
     simp only [if_neg hxj, hbj, List.map_cons, fam, zab, zaa, if_neg hxb];cases getK (fam (b + 1) (us.map fun r => Ob.vec e sz (rowsD r))) x <;> cases getK rest x <;> rfl
  ·show getK (s.env.map fun p => (p.1, VL.frzS (zaV b r) p.2)) x = _;rw [show (s.env.map fun p => (p.1, VL.frzS (zaV b r) p.2)) = s.env from zjd fun p hp => by
    have := zp5 (us := r) (he p hp) (Nat.le_refl b);simp only [VL.frz] at this;rw [this]]
  ·simp only [List.map_cons, List.append_assoc, List.cons_append, List.nil_append];exact .refl _
theorem Wk.zrQ {Γ : Ctx} {s : St} (j b e2 e sz : Nat) (us : List (List (List U))) (rest : List (Nat × Ob)) (hj : j < b) (he : ∀ p ∈ s.env, zqX b p.2) (hr : ∀ p ∈ rest, p.1 < b)
  (h : s.obs = (j, .vec e2 1 (idF b (us.map (·.length)))) :: (rest ++ fam b (us.map fun r => .vec e sz (rowsD r)))) : Wk Γ s { s with obs := (j, .vec e2 1 (rowsD (us.map fun r => [.sl r]))) :: rest } := by
 have hr2 : ∀ i ob, getK rest i = some ob -> i < b := fun i ob hi => by
  obtain ⟨p, hp, e⟩ := List.mem_map.1 (zfk hi);have := hr p hp;omega
 refine Wk.trans (Wk.eqo (s' := { s with obs := (j, .vec e2 1 (rowsD [] ++ idF b (us.map (·.length)))) :: (fam b (us.map fun r => .vec e sz (rowsD r)) ++ rest) }) ⟨rfl, fun x => ?_, rfl, fun x => rfl⟩) (Wk.zo8 rest us b [] _ hj he (fun i ob hi => .inl (hr2 i ob hi)) rfl);rw [h];simp only [zaa, zab, rowsD, List.map_nil, List.nil_append];by_cases hx : x = j
 ·simp [hx]
 ·rw [if_neg hx, if_neg hx];cases hq : getK rest x with
  | none => cases getK (fam b (us.map fun r => Ob.vec e sz (List.map (fun r => List.map D.u r) r))) x <;> rfl
  | some ob =>
   have := hr2 x ob hq;rw [zfl, if_neg (by omega)]
end Go.VL
namespace Go.Proofs.YtepiegcjnaohjaaGreatDoor
open Go Go.VL
@[simp] theorem ld3 : zfh Tryz.prog 3 = some none := by kernel_rfl
@[simp] theorem ts3 : tsz Tryz.prog 3 = some 1 := by kernel_rfl
@[simp] theorem io3 : ziB Tryz.prog 3 = some .i64 := by kernel_rfl
@[simp] theorem zc3 : zet Tryz.prog 3 = some [.int .i64 0] := by kernel_rfl
@[simp] theorem sl3 : zpX Tryz.prog 3 = false := by kernel_rfl
@[simp] theorem ld4 : zfh Tryz.prog 4 = some none := by kernel_rfl
@[simp] theorem ts4 : tsz Tryz.prog 4 = some 1 := by kernel_rfl
@[simp] theorem ld5 : zfh Tryz.prog 5 = some none := by kernel_rfl
@[simp] theorem io5 : ziB Tryz.prog 5 = some .u8 := by kernel_rfl
@[simp] theorem ld9 : zfh Tryz.prog 9 = some none := by kernel_rfl
@[simp] theorem ts9 : tsz Tryz.prog 9 = some 1 := by kernel_rfl
@[simp] theorem na9 : zfv Tryz.prog 9 = true := by kernel_rfl
@[simp] theorem sf9 : stT Tryz.prog 9 = none := by kernel_rfl
@[simp] theorem st9 : zke Tryz.prog 9 = true := by kernel_rfl
@[simp] theorem zc9 : zet Tryz.prog 9 = some [.string ⟨#[]⟩] := by kernel_rfl
@[simp] theorem sl9 : zpX Tryz.prog 9 = false := by kernel_rfl
@[simp] theorem zx0 : zld Tryz.prog 20 = true := by kernel_rfl
@[simp] theorem zw2 : zfv Tryz.prog 22 = true := by kernel_rfl
@[simp] theorem zwY : stT Tryz.prog 22 = none := by kernel_rfl
@[simp] theorem zvc : zhF Tryz.prog 22 = some (39, 3) := by kernel_rfl
@[simp] theorem zxq : zd8 Tryz.prog 22 = some (39, 3, 32, [.int .i64 0, .int .i64 0, .string ⟨#[]⟩]) := by kernel_rfl
@[simp] theorem zxc : zfh Tryz.prog 26 = some none := by kernel_rfl
@[simp] theorem zwU : tsz Tryz.prog 26 = some 1 := by kernel_rfl
@[simp] theorem zw1 : zfv Tryz.prog 26 = true := by kernel_rfl
@[simp] theorem zwX : stT Tryz.prog 26 = none := by kernel_rfl
@[simp] theorem zwV : zpX Tryz.prog 26 = true := by kernel_rfl
@[simp] theorem zvb : zhF Tryz.prog 26 = some (3, 1) := by kernel_rfl
@[simp] theorem zxp : zd8 Tryz.prog 26 = some (3, 1, 8, [.int .i64 0]) := by kernel_rfl
@[simp] theorem zxb : zfh Tryz.prog 34 = some none := by kernel_rfl
@[simp] theorem zwT : tsz Tryz.prog 34 = some 1 := by kernel_rfl
@[simp] theorem zwM : zet Tryz.prog 34 = some [.int .i64 0] := by kernel_rfl
@[simp] theorem zxa : zfh Tryz.prog 39 = some (some 3) := by kernel_rfl
@[simp] theorem zwS : tsz Tryz.prog 39 = some 3 := by kernel_rfl
@[simp] theorem zuP : stT Tryz.prog 39 = some [3, 3, 9] := by kernel_rfl
@[simp] theorem zwL : zet Tryz.prog 39 = some [.int .i64 0, .int .i64 0, .string ⟨#[]⟩] := by kernel_rfl
@[simp] theorem zuo : zbA Tryz.prog 39 0 = some (0, 1, none) := by kernel_rfl
@[simp] theorem zun : zbA Tryz.prog 39 1 = some (1, 1, none) := by kernel_rfl
@[simp] theorem zum : zbA Tryz.prog 39 2 = some (2, 1, none) := by kernel_rfl
@[simp] theorem zwG : zp Tryz.prog 39 = some ([.int .i64 0, .int .i64 0, .string ⟨#[]⟩], [(0, 1), (1, 1), (2, 1)]) := by kernel_rfl
@[simp] theorem zw0 : zfv Tryz.prog 42 = true := by kernel_rfl
@[simp] theorem zwW : stT Tryz.prog 42 = none := by kernel_rfl
@[simp] theorem zva : zhF Tryz.prog 42 = some (5, 1) := by kernel_rfl
@[simp] theorem zxi : zhF Tryz.prog 47 = some (49, 4) := by kernel_rfl
@[simp] theorem zxo : zd8 Tryz.prog 47 = some (49, 4, 32, [.int .i64 0, .int .i64 0, .bool false, .int .i64 0]) := by kernel_rfl
@[simp] theorem zw9 : zfh Tryz.prog 49 = some (some 4) := by kernel_rfl
@[simp] theorem zwR : tsz Tryz.prog 49 = some 4 := by kernel_rfl
@[simp] theorem zwK : zet Tryz.prog 49 = some [.int .i64 0, .int .i64 0, .bool false, .int .i64 0] := by kernel_rfl
@[simp] theorem zul : zbA Tryz.prog 49 1 = some (1, 1, none) := by kernel_rfl
@[simp] theorem zuk : zbA Tryz.prog 49 2 = some (2, 1, none) := by kernel_rfl
@[simp] theorem zuj : zbA Tryz.prog 49 3 = some (3, 1, none) := by kernel_rfl
@[simp] theorem zwF : zp Tryz.prog 49 = some ([.int .i64 0, .int .i64 0, .bool false, .int .i64 0], [(0, 1), (1, 1), (2, 1), (3, 1)]) := by kernel_rfl
@[simp] theorem zw8 : zfh Tryz.prog 52 = some none := by kernel_rfl
@[simp] theorem zwQ : tsz Tryz.prog 52 = some 1 := by kernel_rfl
@[simp] theorem zwZ : zfv Tryz.prog 52 = true := by kernel_rfl
@[simp] theorem zxh : zhF Tryz.prog 52 = some (137, 6) := by kernel_rfl
@[simp] theorem zxn : zd8 Tryz.prog 52 = some (137, 6, 80, [.string ⟨#[]⟩, .int .i64 0, .int .i64 0, .int .i64 0, .string ⟨#[]⟩, .slice none 0 0]) := by kernel_rfl
@[simp] theorem zw7 : zfh Tryz.prog 53 = some none := by kernel_rfl
@[simp] theorem zxg : zhF Tryz.prog 53 = some (55, 5) := by kernel_rfl
@[simp] theorem zxm : zd8 Tryz.prog 53 = some (55, 5, 64, [.int .i64 0, .int .i64 0, .int .i64 0, .string ⟨#[]⟩, .slice none 0 0]) := by kernel_rfl
@[simp] theorem zw6 : zfh Tryz.prog 55 = some (some 5) := by kernel_rfl
@[simp] theorem zwP : tsz Tryz.prog 55 = some 5 := by kernel_rfl
@[simp] theorem zwJ : zet Tryz.prog 55 = some [.int .i64 0, .int .i64 0, .int .i64 0, .string ⟨#[]⟩, .slice none 0 0] := by kernel_rfl
@[simp] theorem zui : zbA Tryz.prog 55 0 = some (0, 1, none) := by kernel_rfl
@[simp] theorem zuh : zbA Tryz.prog 55 1 = some (1, 1, none) := by kernel_rfl
@[simp] theorem zug : zbA Tryz.prog 55 2 = some (2, 1, none) := by kernel_rfl
@[simp] theorem zuf : zbA Tryz.prog 55 3 = some (3, 1, none) := by kernel_rfl
@[simp] theorem zue : zbA Tryz.prog 55 4 = some (4, 1, none) := by kernel_rfl
@[simp] theorem zwE : zp Tryz.prog 55 = some ([.int .i64 0, .int .i64 0, .int .i64 0, .string ⟨#[]⟩, .slice none 0 0], [(0, 1), (1, 1), (2, 1), (3, 1), (4, 1)]) := by kernel_rfl
@[simp] theorem zw5 : zfh Tryz.prog 57 = some (some 37) := by kernel_rfl
@[simp] theorem zwO : tsz Tryz.prog 57 = some 37 := by kernel_rfl
@[simp] theorem zwI : zet Tryz.prog 57 = some [.int .i64 0, .int .i64 0, .int .i64 0, .int .i64 0, .int .i64 0, .int .i64 0, .bool false, .int .i64 0, .int .i64 0, .int .i64 0, .int .i64 0, .slice none 0 0, .int .i64 0, .int .i64 0, .int .i64 0, .string ⟨#[]⟩, .slice none 0 0, .int .i64 0, .int .i64 0, .int .i64 0, .string ⟨#[]⟩, .slice none 0 0, .int .i64 0, .int .i64 0, .int .i64 0, .string ⟨#[]⟩, .slice none 0 0, .int .i64 0, .int .i64 0, .int .i64 0, .string ⟨#[]⟩, .slice none 0 0, .int .i64 0, .int .i64 0, .int .i64 0, .string ⟨#[]⟩, .slice none 0 0] := by kernel_rfl
@[simp] theorem zud : zbA Tryz.prog 57 0 = some (0, 1, none) := by kernel_rfl
@[simp] theorem zuc : zbA Tryz.prog 57 1 = some (1, 1, none) := by kernel_rfl
@[simp] theorem zub : zbA Tryz.prog 57 2 = some (2, 1, none) := by kernel_rfl
@[simp] theorem zua : zbA Tryz.prog 57 3 = some (3, 1, none) := by kernel_rfl
@[simp] theorem zt9 : zbA Tryz.prog 57 4 = some (4, 1, none) := by kernel_rfl
@[simp] theorem zt8 : zbA Tryz.prog 57 5 = some (5, 1, none) := by kernel_rfl
@[simp] theorem zt7 : zbA Tryz.prog 57 6 = some (6, 1, none) := by kernel_rfl
@[simp] theorem zt6 : zbA Tryz.prog 57 7 = some (7, 1, none) := by kernel_rfl
@[simp] theorem zt5 : zbA Tryz.prog 57 8 = some (8, 1, none) := by kernel_rfl
@[simp] theorem zt4 : zbA Tryz.prog 57 9 = some (9, 1, none) := by kernel_rfl
@[simp] theorem ztg : zbA Tryz.prog 57 10 = some (10, 1, none) := by kernel_rfl
@[simp] theorem ztf : zbA Tryz.prog 57 11 = some (11, 1, none) := by kernel_rfl
@[simp] theorem zte : zbA Tryz.prog 57 12 = some (12, 5, some 5) := by kernel_rfl
@[simp] theorem ztd : zbA Tryz.prog 57 13 = some (17, 5, some 5) := by kernel_rfl
@[simp] theorem ztc : zbA Tryz.prog 57 14 = some (22, 5, some 5) := by kernel_rfl
@[simp] theorem ztb : zbA Tryz.prog 57 15 = some (27, 5, some 5) := by kernel_rfl
@[simp] theorem zta : zbA Tryz.prog 57 16 = some (32, 5, some 5) := by kernel_rfl
@[simp] theorem zwD : zp Tryz.prog 57 = some ([.int .i64 0, .int .i64 0, .int .i64 0, .int .i64 0, .int .i64 0, .int .i64 0, .bool false, .int .i64 0, .int .i64 0, .int .i64 0, .int .i64 0, .slice none 0 0, .int .i64 0, .int .i64 0, .int .i64 0, .string ⟨#[]⟩, .slice none 0 0, .int .i64 0, .int .i64 0, .int .i64 0, .string ⟨#[]⟩, .slice none 0 0, .int .i64 0, .int .i64 0, .int .i64 0, .string ⟨#[]⟩, .slice none 0 0, .int .i64 0, .int .i64 0, .int .i64 0, .string ⟨#[]⟩, .slice none 0 0, .int .i64 0, .int .i64 0, .int .i64 0, .string ⟨#[]⟩, .slice none 0 0], [(0, 1), (1, 1), (2, 1), (3, 1), (4, 1), (5, 1), (6, 1), (7, 1), (8, 1), (9, 1), (10, 1), (11, 1), (12, 5), (17, 5), (22, 5), (27, 5), (32, 5)]) := by kernel_rfl
@[simp] theorem zw4 : zfh Tryz.prog 62 = some none := by kernel_rfl
@[simp] theorem zxf : zhF Tryz.prog 62 = some (110, 3) := by kernel_rfl
@[simp] theorem zxl : zd8 Tryz.prog 62 = some (110, 3, 24, [.int .i64 0, .int .i64 0, .int .i64 0]) := by kernel_rfl
@[simp] theorem zxe : zhF Tryz.prog 68 = some (9, 1) := by kernel_rfl
@[simp] theorem zxk : zd8 Tryz.prog 68 = some (9, 1, 16, [.string ⟨#[]⟩]) := by kernel_rfl
@[simp] theorem zxd : zhF Tryz.prog 70 = some (73, 3) := by kernel_rfl
@[simp] theorem zxj : zd8 Tryz.prog 70 = some (73, 3, 32, [.string ⟨#[]⟩, .int .i64 0, .int .i64 0]) := by kernel_rfl
@[simp] theorem zw3 : zfh Tryz.prog 73 = some (some 3) := by kernel_rfl
@[simp] theorem zwN : tsz Tryz.prog 73 = some 3 := by kernel_rfl
@[simp] theorem zwH : zet Tryz.prog 73 = some [.string ⟨#[]⟩, .int .i64 0, .int .i64 0] := by kernel_rfl
@[simp] theorem zt3 : zbA Tryz.prog 73 0 = some (0, 1, none) := by kernel_rfl
@[simp] theorem zt2 : zbA Tryz.prog 73 1 = some (1, 1, none) := by kernel_rfl
@[simp] theorem zwC : zp Tryz.prog 73 = some ([.string ⟨#[]⟩, .int .i64 0, .int .i64 0], [(0, 1), (1, 1), (2, 1)]) := by kernel_rfl
@[simp] theorem zu9 : zfh Tryz.prog 110 = some (some 3) := by kernel_rfl
@[simp] theorem zuO : tsz Tryz.prog 110 = some 3 := by kernel_rfl
@[simp] theorem zuI : zet Tryz.prog 110 = some [.int .i64 0, .int .i64 0, .int .i64 0] := by kernel_rfl
@[simp] theorem ztG : zbA Tryz.prog 110 0 = some (0, 1, none) := by kernel_rfl
@[simp] theorem ztF : zbA Tryz.prog 110 1 = some (1, 1, none) := by kernel_rfl
@[simp] theorem ztE : zbA Tryz.prog 110 2 = some (2, 1, none) := by kernel_rfl
@[simp] theorem zuC : zp Tryz.prog 110 = some ([.int .i64 0, .int .i64 0, .int .i64 0], [(0, 1), (1, 1), (2, 1)]) := by kernel_rfl
@[simp] theorem zu8 : zfh Tryz.prog 114 = some none := by kernel_rfl
@[simp] theorem zu7 : zfh Tryz.prog 137 = some (some 6) := by kernel_rfl
@[simp] theorem zuN : tsz Tryz.prog 137 = some 6 := by kernel_rfl
@[simp] theorem zuH : zet Tryz.prog 137 = some [.string ⟨#[]⟩, .int .i64 0, .int .i64 0, .int .i64 0, .string ⟨#[]⟩, .slice none 0 0] := by kernel_rfl
@[simp] theorem ztD : zbA Tryz.prog 137 0 = some (0, 1, none) := by kernel_rfl
@[simp] theorem ztC : zbA Tryz.prog 137 1 = some (1, 5, some 5) := by kernel_rfl
@[simp] theorem zuB : zp Tryz.prog 137 = some ([.string ⟨#[]⟩, .int .i64 0, .int .i64 0, .int .i64 0, .string ⟨#[]⟩, .slice none 0 0], [(0, 1), (1, 5)]) := by kernel_rfl
@[simp] theorem zu6 : zfh Tryz.prog 145 = some none := by kernel_rfl
@[simp] theorem zvg : zhF Tryz.prog 145 = some (26, 1) := by kernel_rfl
@[simp] theorem zvk : zd8 Tryz.prog 145 = some (26, 1, 24, [.slice none 0 0]) := by kernel_rfl
@[simp] theorem zu5 : zfh Tryz.prog 146 = some none := by kernel_rfl
@[simp] theorem zvf : zhF Tryz.prog 146 = some (4, 1) := by kernel_rfl
@[simp] theorem zvj : zd8 Tryz.prog 146 = some (4, 1, 1, [.bool false]) := by kernel_rfl
@[simp] theorem ztB : zbA Tryz.prog 148 0 = some (0, 1, none) := by kernel_rfl
@[simp] theorem ztA : zbA Tryz.prog 148 1 = some (1, 1, none) := by kernel_rfl
@[simp] theorem ztz : zbA Tryz.prog 148 2 = some (2, 1, none) := by kernel_rfl
@[simp] theorem zty : zbA Tryz.prog 148 3 = some (3, 1, none) := by kernel_rfl
@[simp] theorem ztx : zbA Tryz.prog 148 4 = some (4, 1, none) := by kernel_rfl
@[simp] theorem zuA : zp Tryz.prog 148 = some ([.slice none 0 0, .slice none 0 0, .slice none 0 0, .slice none 0 0, .slice none 0 0], [(0, 1), (1, 1), (2, 1), (3, 1), (4, 1)]) := by kernel_rfl
@[simp] theorem zuV : zdz Tryz.prog 154 = some (.s, false, [.nil]) := by kernel_rfl
@[simp] theorem zu4 : zfh Tryz.prog 182 = some none := by kernel_rfl
@[simp] theorem zve : zhF Tryz.prog 182 = some (201, 4) := by kernel_rfl
@[simp] theorem zvi : zd8 Tryz.prog 182 = some (201, 4, 40, [.int .i64 0, .string ⟨#[]⟩, .int .i64 0, .int .i64 0]) := by kernel_rfl
@[simp] theorem zuU : zdz Tryz.prog 190 = some ((.i .i64), false, [.bool false]) := by kernel_rfl
@[simp] theorem ztw : zbA Tryz.prog 192 0 = some (0, 1, none) := by kernel_rfl
@[simp] theorem ztv : zbA Tryz.prog 192 1 = some (1, 1, none) := by kernel_rfl
@[simp] theorem zuz : zp Tryz.prog 192 = some ([.slice none 0 0, .int .i64 0], [(0, 1), (1, 1)]) := by kernel_rfl
@[simp] theorem zuM : tsz Tryz.prog 194 = some 2 := by kernel_rfl
@[simp] theorem zuQ : zmD Tryz.prog 194 = true := by kernel_rfl
@[simp] theorem zuG : zet Tryz.prog 194 = some [.int .i64 0, .int .i64 0] := by kernel_rfl
@[simp] theorem ztu : zbA Tryz.prog 194 0 = some (0, 1, none) := by kernel_rfl
@[simp] theorem ztt : zbA Tryz.prog 194 1 = some (1, 1, none) := by kernel_rfl
@[simp] theorem zuy : zp Tryz.prog 194 = some ([.int .i64 0, .int .i64 0], [(0, 1), (1, 1)]) := by kernel_rfl
@[simp] theorem zu3 : zfh Tryz.prog 201 = some (some 4) := by kernel_rfl
@[simp] theorem zuL : tsz Tryz.prog 201 = some 4 := by kernel_rfl
@[simp] theorem zuF : zet Tryz.prog 201 = some [.int .i64 0, .string ⟨#[]⟩, .int .i64 0, .int .i64 0] := by kernel_rfl
@[simp] theorem zts : zbA Tryz.prog 201 0 = some (0, 1, none) := by kernel_rfl
@[simp] theorem ztr : zbA Tryz.prog 201 1 = some (1, 1, none) := by kernel_rfl
@[simp] theorem ztq : zbA Tryz.prog 201 2 = some (2, 1, none) := by kernel_rfl
@[simp] theorem ztp : zbA Tryz.prog 201 3 = some (3, 1, none) := by kernel_rfl
@[simp] theorem zux : zp Tryz.prog 201 = some ([.int .i64 0, .string ⟨#[]⟩, .int .i64 0, .int .i64 0], [(0, 1), (1, 1), (2, 1), (3, 1)]) := by kernel_rfl
@[simp] theorem zu2 : zfh Tryz.prog 209 = some (some 3) := by kernel_rfl
@[simp] theorem zuK : tsz Tryz.prog 209 = some 3 := by kernel_rfl
@[simp] theorem zuE : zet Tryz.prog 209 = some [.string ⟨#[]⟩, .int .i64 0, .int .i64 0] := by kernel_rfl
@[simp] theorem zto : zbA Tryz.prog 209 0 = some (0, 1, none) := by kernel_rfl
@[simp] theorem ztn : zbA Tryz.prog 209 1 = some (1, 1, none) := by kernel_rfl
@[simp] theorem ztm : zbA Tryz.prog 209 2 = some (2, 1, none) := by kernel_rfl
@[simp] theorem zuw : zp Tryz.prog 209 = some ([.string ⟨#[]⟩, .int .i64 0, .int .i64 0], [(0, 1), (1, 1), (2, 1)]) := by kernel_rfl
@[simp] theorem zvd : zhF Tryz.prog 210 = some (209, 3) := by kernel_rfl
@[simp] theorem zvh : zd8 Tryz.prog 210 = some (209, 3, 32, [.string ⟨#[]⟩, .int .i64 0, .int .i64 0]) := by kernel_rfl
@[simp] theorem zu1 : zfh Tryz.prog 221 = some none := by kernel_rfl
@[simp] theorem zuT : zdz Tryz.prog 221 = some (.s, false, [.int .i64 0]) := by kernel_rfl
@[simp] theorem zu0 : zfh Tryz.prog 281 = some none := by kernel_rfl
@[simp] theorem zuS : zdz Tryz.prog 281 = some (.s, true, [.int .i64 0, .int .i64 0, .bool false]) := by kernel_rfl
@[simp] theorem ztl : zbA Tryz.prog 283 0 = some (0, 1, none) := by kernel_rfl
@[simp] theorem ztk : zbA Tryz.prog 283 1 = some (1, 1, none) := by kernel_rfl
@[simp] theorem zuv : zp Tryz.prog 283 = some ([.map none, .map none], [(0, 1), (1, 1)]) := by kernel_rfl
@[simp] theorem zuJ : tsz Tryz.prog 285 = some 3 := by kernel_rfl
@[simp] theorem zuD : zet Tryz.prog 285 = some [.int .i64 0, .int .i64 0, .bool false] := by kernel_rfl
@[simp] theorem ztj : zbA Tryz.prog 285 0 = some (0, 1, none) := by kernel_rfl
@[simp] theorem zti : zbA Tryz.prog 285 1 = some (1, 1, none) := by kernel_rfl
@[simp] theorem zth : zbA Tryz.prog 285 2 = some (2, 1, none) := by kernel_rfl
@[simp] theorem zuu : zp Tryz.prog 285 = some ([.int .i64 0, .int .i64 0, .bool false], [(0, 1), (1, 1), (2, 1)]) := by kernel_rfl
@[simp] theorem zuZ : zfh Tryz.prog 291 = some (some 11) := by kernel_rfl
@[simp] theorem zww : zs1 Tryz.prog 291 = some 11 := by kernel_rfl
@[simp] theorem zxZ : zak Tryz.prog 11 = true := by kernel_rfl
@[simp] theorem zxY : zak Tryz.prog 13 = true := by kernel_rfl
@[simp] theorem zxX : zak Tryz.prog 15 = true := by kernel_rfl
@[simp] theorem zxW : zak Tryz.prog 16 = true := by kernel_rfl
@[simp] theorem zxV : zak Tryz.prog 17 = true := by kernel_rfl
@[simp] theorem zxU : zak Tryz.prog 18 = true := by kernel_rfl
@[simp] theorem zxT : zak Tryz.prog 19 = true := by kernel_rfl
@[simp] theorem zxS : zak Tryz.prog 22 = true := by kernel_rfl
@[simp] theorem zxR : zak Tryz.prog 23 = true := by kernel_rfl
@[simp] theorem zxQ : zak Tryz.prog 24 = true := by kernel_rfl
@[simp] theorem zxP : zak Tryz.prog 25 = true := by kernel_rfl
@[simp] theorem zxO : zak Tryz.prog 27 = true := by kernel_rfl
@[simp] theorem zxN : zak Tryz.prog 28 = true := by kernel_rfl
@[simp] theorem zxM : zak Tryz.prog 40 = true := by kernel_rfl
@[simp] theorem zxL : zak Tryz.prog 52 = true := by kernel_rfl
@[simp] theorem zxK : zak Tryz.prog 53 = true := by kernel_rfl
@[simp] theorem zxJ : zak Tryz.prog 58 = true := by kernel_rfl
@[simp] theorem zxI : zak Tryz.prog 59 = true := by kernel_rfl
@[simp] theorem zxH : zak Tryz.prog 60 = true := by kernel_rfl
@[simp] theorem zxG : zak Tryz.prog 61 = true := by kernel_rfl
@[simp] theorem zxF : zak Tryz.prog 64 = true := by kernel_rfl
@[simp] theorem zxE : zak Tryz.prog 72 = true := by kernel_rfl
@[simp] theorem zxD : zak Tryz.prog 74 = true := by kernel_rfl
@[simp] theorem zxC : zak Tryz.prog 77 = true := by kernel_rfl
@[simp] theorem zxB : zak Tryz.prog 78 = true := by kernel_rfl
@[simp] theorem zxA : zak Tryz.prog 79 = true := by kernel_rfl
@[simp] theorem zxz : zak Tryz.prog 80 = true := by kernel_rfl
@[simp] theorem zxy : zak Tryz.prog 81 = true := by kernel_rfl
@[simp] theorem zxx : zak Tryz.prog 82 = true := by kernel_rfl
@[simp] theorem zxw : zak Tryz.prog 84 = true := by kernel_rfl
@[simp] theorem zxv : zak Tryz.prog 86 = true := by kernel_rfl
@[simp] theorem zxu : zak Tryz.prog 89 = true := by kernel_rfl
@[simp] theorem zxt : zak Tryz.prog 90 = true := by kernel_rfl
@[simp] theorem zxs : zak Tryz.prog 98 = true := by kernel_rfl
@[simp] theorem zxr : zak Tryz.prog 99 = true := by kernel_rfl
@[simp] theorem zwr : zak Tryz.prog 100 = true := by kernel_rfl
@[simp] theorem zwq : zak Tryz.prog 102 = true := by kernel_rfl
@[simp] theorem zwp : zak Tryz.prog 108 = true := by kernel_rfl
@[simp] theorem zwo : zak Tryz.prog 109 = true := by kernel_rfl
@[simp] theorem zwn : zak Tryz.prog 110 = true := by kernel_rfl
@[simp] theorem zwm : zak Tryz.prog 120 = true := by kernel_rfl
@[simp] theorem zwl : zak Tryz.prog 121 = true := by kernel_rfl
@[simp] theorem zwk : zak Tryz.prog 122 = true := by kernel_rfl
@[simp] theorem zwj : zak Tryz.prog 123 = true := by kernel_rfl
@[simp] theorem zwi : zak Tryz.prog 124 = true := by kernel_rfl
@[simp] theorem zwh : zak Tryz.prog 125 = true := by kernel_rfl
@[simp] theorem zwg : zak Tryz.prog 126 = true := by kernel_rfl
@[simp] theorem zwf : zak Tryz.prog 127 = true := by kernel_rfl
@[simp] theorem zwe : zak Tryz.prog 128 = true := by kernel_rfl
@[simp] theorem zwd : zak Tryz.prog 129 = true := by kernel_rfl
@[simp] theorem zwc : zak Tryz.prog 130 = true := by kernel_rfl
@[simp] theorem zwb : zak Tryz.prog 131 = true := by kernel_rfl
@[simp] theorem zwa : zak Tryz.prog 139 = true := by kernel_rfl
@[simp] theorem zv9 : zak Tryz.prog 140 = true := by kernel_rfl
@[simp] theorem zv8 : zak Tryz.prog 142 = true := by kernel_rfl
@[simp] theorem zv7 : zak Tryz.prog 143 = true := by kernel_rfl
@[simp] theorem zv6 : zak Tryz.prog 144 = true := by kernel_rfl
@[simp] theorem zv5 : zak Tryz.prog 145 = true := by kernel_rfl
@[simp] theorem zv4 : zak Tryz.prog 146 = true := by kernel_rfl
@[simp] theorem zv3 : zak Tryz.prog 147 = true := by kernel_rfl
@[simp] theorem zv2 : zak Tryz.prog 148 = true := by kernel_rfl
@[simp] theorem zv1 : zak Tryz.prog 150 = true := by kernel_rfl
@[simp] theorem zv0 : zak Tryz.prog 151 = true := by kernel_rfl
@[simp] theorem zvZ : zak Tryz.prog 160 = true := by kernel_rfl
@[simp] theorem zvY : zak Tryz.prog 166 = true := by kernel_rfl
@[simp] theorem zvX : zak Tryz.prog 167 = true := by kernel_rfl
@[simp] theorem zvW : zak Tryz.prog 168 = true := by kernel_rfl
@[simp] theorem zvV : zak Tryz.prog 169 = true := by kernel_rfl
@[simp] theorem zvU : zak Tryz.prog 179 = true := by kernel_rfl
@[simp] theorem zvT : zak Tryz.prog 180 = true := by kernel_rfl
@[simp] theorem zvS : zak Tryz.prog 196 = true := by kernel_rfl
@[simp] theorem zvR : zak Tryz.prog 197 = true := by kernel_rfl
@[simp] theorem zvQ : zak Tryz.prog 198 = true := by kernel_rfl
@[simp] theorem zvP : zak Tryz.prog 199 = true := by kernel_rfl
@[simp] theorem zvO : zak Tryz.prog 200 = true := by kernel_rfl
@[simp] theorem zvN : zak Tryz.prog 201 = true := by kernel_rfl
@[simp] theorem zvM : zak Tryz.prog 202 = true := by kernel_rfl
@[simp] theorem zvL : zak Tryz.prog 203 = true := by kernel_rfl
@[simp] theorem zvK : zak Tryz.prog 204 = true := by kernel_rfl
@[simp] theorem zvJ : zak Tryz.prog 213 = true := by kernel_rfl
@[simp] theorem zvI : zak Tryz.prog 214 = true := by kernel_rfl
@[simp] theorem zvH : zak Tryz.prog 215 = true := by kernel_rfl
@[simp] theorem zvG : zak Tryz.prog 220 = true := by kernel_rfl
@[simp] theorem zvF : zak Tryz.prog 221 = true := by kernel_rfl
@[simp] theorem zvE : zak Tryz.prog 222 = true := by kernel_rfl
@[simp] theorem zvD : zak Tryz.prog 223 = true := by kernel_rfl
@[simp] theorem zvC : zak Tryz.prog 227 = true := by kernel_rfl
@[simp] theorem zvB : zak Tryz.prog 228 = true := by kernel_rfl
@[simp] theorem zvA : zak Tryz.prog 229 = true := by kernel_rfl
@[simp] theorem zvz : zak Tryz.prog 244 = true := by kernel_rfl
@[simp] theorem zvy : zak Tryz.prog 245 = true := by kernel_rfl
@[simp] theorem zvx : zak Tryz.prog 246 = true := by kernel_rfl
@[simp] theorem zvw : zak Tryz.prog 247 = true := by kernel_rfl
@[simp] theorem zvv : zak Tryz.prog 255 = true := by kernel_rfl
@[simp] theorem zvu : zak Tryz.prog 272 = true := by kernel_rfl
@[simp] theorem zvt : zak Tryz.prog 275 = true := by kernel_rfl
@[simp] theorem zvs : zak Tryz.prog 276 = true := by kernel_rfl
@[simp] theorem zvr : zak Tryz.prog 277 = true := by kernel_rfl
@[simp] theorem zvq : zak Tryz.prog 282 = true := by kernel_rfl
@[simp] theorem zvp : zak Tryz.prog 283 = true := by kernel_rfl
@[simp] theorem zvo : zak Tryz.prog 303 = true := by kernel_rfl
end Go.Proofs.YtepiegcjnaohjaaGreatDoor
namespace Go.VL
open Go
inductive Out where
 | val (d : D)
 | pan (ch : List PanicEntry)
def zq8 (k : Kr) (e : Ending) : Out -> Prop
 | .val d => ∃ v, e = .returned v /\ Rep k d v
 | .pan ch => e = .panicked ch
def RetX (P : Program) (f : FuncId) (ds : List D) (obs : List (Nat × Ob)) (nx : Nat) (post : Out -> List (Nat × Ob) -> Nat -> Prop) : Prop :=
 ∀ (k : Kr) (own : Nat -> Prop) (w : World) (vs : Array Value), Sat k own obs w -> (∀ i, nx <= i -> k.hdr i = none) -> (∀ b, w.heap.size <= b -> own b) -> RepL k ds vs ->
  Calls P f vs w fun e w' => ∃ r obs' nx' k', zq8 k' e r /\ In (.of own k nx w) k' w' /\ Sat k' own obs' w' /\ (∀ i, nx' <= i -> k'.hdr i = none) /\ nx <= nx' /\ post r obs' nx'
theorem Ret.x {P f ds obs nx post} (h : Ret P f ds obs nx post) : RetX P f ds obs nx fun r o n => match r with | .val d => post d o n | .pan _ => False :=
 fun k own w vs h1 h2 h3 h4 => (h k own w vs h1 h2 h3 h4).mono fun _ _ ⟨v, d, o, n, k', e, a, b, c, g, r, hp⟩ => ⟨.val d, o, n, k', ⟨v, e, r⟩, a, b, c, g, hp⟩
theorem RetX.mono {P f ds obs nx} {p q : Out -> List (Nat × Ob) -> Nat -> Prop} (h : RetX P f ds obs nx p) (hq : ∀ r o n, p r o n -> q r o n) : RetX P f ds obs nx q :=
 fun k own w vs h1 h2 h3 h4 => (h k own w vs h1 h2 h3 h4).mono fun _ _ ⟨r, o, n, k', e, a, b, c, g, hp⟩ => ⟨r, o, n, k', e, a, b, c, g, hq _ _ _ hp⟩
theorem RetX.ret {P f ds obs nx} {p : Out -> List (Nat × Ob) -> Nat -> Prop} {q : D -> List (Nat × Ob) -> Nat -> Prop} (h : RetX P f ds obs nx p) (hv : ∀ d o n, p (.val d) o n -> q d o n) (hx : ∀ ch o n, ¬ p (.pan ch) o n) : Ret P f ds obs nx q :=
 fun k own w vs h1 h2 h3 h4 => (h k own w vs h1 h2 h3 h4).mono fun _ _ ⟨r, o, n, k', e, a, b, c, g, hp⟩ => by
  cases r with
  | val d =>
   obtain ⟨v, e, hr⟩ := e;exact ⟨v, d, o, n, k', e, a, b, c, g, hr, hv d o n hp⟩
  | pan ch => exact absurd hp (hx ch o n)
theorem RetX.congr {P f ds obs obs' nx post} (h : RetX P f ds obs nx post) (e : ∀ i, getK obs' i = getK obs i) : RetX P f ds obs' nx post :=
 fun k own w vs hsat hhdr hfresh hrep => h k own w vs (Sat.congr hsat fun i => (e i).symm) hhdr hfresh hrep
theorem zkm {k k' : Kr} {own : Nat -> Prop} {obs F o1 : List (Nat × Ob)} {nx : Nat} {w w' : World} (hsat : Sat k own (F ++ obs) w)
  (hin : In (.of (fun b => own b /\ ¬ Blk k F b) k nx w) k' w') (hs1 : Sat k' (fun b => own b /\ ¬ Blk k F b) o1 w') : Sat k' own (F ++ o1) w' := by
 have hfo : ∀ i ob, getK F i = some ob -> getK (F ++ obs) i = some ob := fun i ob hi => by rw [zab, hi]
 have hFat : ∀ i ob, getK F i = some ob -> ∃ g, k.hdr i = some g /\ k'.hdr i = some g /\ (∀ b, g.1 = some b -> own b /\ (∀ o, k'.mem b o = none) /\ Blk k F b) /\ ObAt k' w' g ob := fun i ob hi => by
  obtain ⟨g, h1, h2, h3⟩ := hsat.ob i ob (hfo i ob hi);have hB : ∀ b, g.1 = some b -> Blk k F b := fun b hb => ⟨i, ob, g, hi, h1, hb⟩;refine ⟨g, h1, hin.le.hdr i g h1, fun b hb => ⟨(h2 b hb).1, fun o => ?_, hB b hb⟩, h3.keep hin.le fun b hb => hin.block b fun hb' => hb'.2 (hB b hb)⟩;cases hm : k'.mem b o with
  | none => rfl
  | some x =>
   rcases hin.memNew b o x hm with h4 | h4
   ·have h4' : k.mem b o = some x := h4;rw [(h2 b hb).2 o] at h4'; cases h4'
   ·exact absurd (hB b hb) h4.2
 refine ⟨hs1.mem, fun i ob hi => ?_, fun i j x y g g' b hx hy hij hg hg' hb => ?_⟩
 ·rw [zab] at hi;cases hf : getK F i with
  | some x =>
   rw [hf] at hi;cases hi;obtain ⟨g, _, h2, h3, h4⟩ := hFat i _ hf;exact ⟨g, h2, fun b hb => ⟨(h3 b hb).1, (h3 b hb).2.1⟩, h4⟩
  | none =>
   rw [hf] at hi;obtain ⟨g, h1, h2, h3⟩ := hs1.ob i ob hi;exact ⟨g, h1, fun b hb => ⟨(h2 b hb).1.1, (h2 b hb).2⟩, h3⟩
 ·rw [zab] at hx hy;cases hfx : getK F i with
  | some x' =>
   obtain ⟨g1, k1, k2, k3, _⟩ := hFat i _ hfx;rw [hg] at k2;cases k2;cases hfy : getK F j with
   | some y' =>
    obtain ⟨g2, l1, l2, l3, _⟩ := hFat j _ hfy;rw [hg'] at l2;cases l2;exact hsat.apart i j x' y' g g' b (hfo i _ hfx) (hfo j _ hfy) hij k1 l1 hb
   | none =>
    rw [hfy] at hy;obtain ⟨g2, l1, l2, _⟩ := hs1.ob j y hy;rw [hg'] at l1;cases l1;exact fun e => (l2 b e).1.2 (k3 b hb).2.2
  | none =>
   rw [hfx] at hx;cases hfy : getK F j with
   | some y' =>
    obtain ⟨g2, l1, l2, l3, _⟩ := hFat j _ hfy;rw [hg'] at l2;cases l2;obtain ⟨g1, k1, k2, _⟩ := hs1.ob i x hx;rw [hg] at k1;cases k1;exact fun e => (k2 b hb).1.2 (l3 b e).2.2
   | none =>
    rw [hfy] at hy;exact hs1.apart i j x y g g' b hx hy hij hg hg' hb
theorem ziG {k : Kr} {own : Nat -> Prop} {obs F : List (Nat × Ob)} {w : World} (hF : ∀ i ob, getK F i = some ob -> getK obs i = none) (hsat : Sat k own (F ++ obs) w) : Sat k (fun b => own b /\ ¬ Blk k F b) obs w := by
 have hob : ∀ i ob, getK obs i = some ob -> getK F i = none /\ getK (F ++ obs) i = some ob := fun i ob hi => by
  have hn : getK F i = none := by
   cases hf : getK F i with
   | none => rfl
   | some x => rw [hF i x hf] at hi; cases hi
  exact ⟨hn, by rw [zab, hn]; exact hi⟩
 have hfo : ∀ i ob, getK F i = some ob -> getK (F ++ obs) i = some ob := fun i ob hi => by rw [zab, hi]
 refine ⟨hsat.mem, fun i ob hi => ?_, fun i j x y g g' b hx hy hij => ?_⟩
 ·obtain ⟨hn, hi'⟩ := hob i ob hi;obtain ⟨g, h1, h2, h3⟩ := hsat.ob i ob hi';refine ⟨g, h1, fun b hb => ⟨⟨(h2 b hb).1, ?_⟩, (h2 b hb).2⟩, h3⟩;rintro ⟨j, oj, g', h4, h5, h6⟩;exact hsat.apart i j ob oj g g' b hi' (hfo j oj h4) (fun e => by subst e; rw [hn] at h4; cases h4) h1 h5 hb h6
 ·exact hsat.apart i j x y g g' b (hob i x hx).2 (hob j y hy).2 hij
theorem zhC {k : Kr} {own : Nat -> Prop} {obs F : List (Nat × Ob)} {w : World} (hsat : Sat k own (F ++ obs) w) (hfresh : ∀ b, w.heap.size <= b -> own b) : ∀ b, w.heap.size <= b -> own b /\ ¬ Blk k F b := fun b hb => by
 refine ⟨hfresh b hb, fun hB => ?_⟩;obtain ⟨i, ob, g, h1, h2, h3⟩ := hB;exact absurd (hsat.lt ⟨i, ob, g, by rw [zab, h1], h2, h3⟩) (by omega)
theorem zlW {k k' : Kr} {own : Nat -> Prop} {F : List (Nat × Ob)} {nx : Nat} {w w' : World} (hfresh : ∀ b, w.heap.size <= b -> own b) (hin : In (.of (fun b => own b /\ ¬ Blk k F b) k nx w) k' w') : In (.of own k nx w) k' w' :=
 ⟨hin.le, hin.none0, fun b o x hx => (hin.memNew b o x hx).imp id (·.1), hfresh, hin.os, hin.tape, hin.output, hin.size, fun b hb => hin.block b fun hb' => hb hb'.1⟩
theorem RetX.frame {P f ds obs nx post} (F : List (Nat × Ob)) (hF : ∀ i ob, getK F i = some ob -> getK obs i = none) (h : RetX P f ds obs nx post) :
  RetX P f ds (F ++ obs) nx (fun r o n => ∃ o1, o = F ++ o1 /\ post r o1 n) := by
 intro k own w vs hsat hhdr hfresh hrep;refine (h k _ w vs (ziG hF hsat) hhdr (zhC hsat hfresh) hrep).mono ?_;rintro e w' ⟨r, o1, n', k', he, hin, hs1, hh1, hle, hp⟩;exact ⟨r, F ++ o1, n', k', he, zlW hfresh hin, zkm hsat hin hs1, hh1, hle, o1, rfl, hp⟩
theorem EffP.ztV {P Γ s k} {fop : Operand} {args : Array Operand} {ts : Array TypeId} {ty : TypeId} {f caps dst pos after} {ds : List D} {post : Out -> List (Nat × Ob) -> Nat -> Prop}
  (hf : zaz (opd s fop) = some (f, caps)) (hc : zak P f = true) (hds : args.toList.map (opd s) ++ caps = ds) (hret : RetX P f ds s.obs s.next post) (hp : zaI dst s)
  (hk : ∀ d obs' nx', s.next <= nx' -> post (.val d) obs' nx' -> k (({ s with obs := obs', next := nx' } : St).put dst d))
  (hx : ∀ ch obs' nx', s.next <= nx' -> post (.pan ch) obs' nx' -> ∃ s2, Wk Γ { s with obs := obs', next := nx' } s2 /\ Γ.pan ch s2) :
  EffP P Γ { dst, op := .call { callee := .value fop, args, argTypes := ts }, type := ty, pos, after, guard := none } s k := by
 intro K a w hin hs Kont Q hK hP;obtain ⟨vs, hrep, hrun⟩ := zg2 hs (args := args) (ts := ts) (ty := ty) hf hc dst pos after none;rw [hds] at hrep;unfold Oper.wp;rw [hrun];refine Calls.mono (hret K Γ.own w vs hs.sat hs.hdr (fun b hb => hin.own_of_ge hb) hrep) ?_;rintro e w' ⟨r, obs', nx', k', hr, hin', hsat', hhdr', hnx, hpost⟩;have hle : K.le k' := hin'.le;have hin2 : In Γ k' w' := hin.step hle (fun b o v e => hin'.memNew b o v e) hin'.os hin'.tape hin'.output hin'.size hin'.block;have hsim : Sim k' Γ.own ({ s with obs := obs', next := nx' } : St) a w' := ⟨hsat', hs.defers, hs.size, fun x d hx => ⟨(hs.env x d hx).1, (hs.env x d hx).2.mono hle⟩, hhdr'⟩;cases r with
 | val d =>
  obtain ⟨v, rfl, hr⟩ := hr;exact hK k' _ w' _ hin2 (hsim.put (by cases dst <;> simp_all [zaI]) hr) (hk d obs' nx' hnx hpost)
 | pan ch =>
  obtain rfl := hr;obtain ⟨s2, hw, hpn⟩ := hx ch obs' nx' hnx hpost;obtain ⟨k2, g1, g2⟩ := hw k' a w' hin2 hsim;exact hP ch k2 a w' s2 g1 g2 hpn
theorem CallP.x_ {P : Program} {Γ : Ctx} {s : St} {k : St -> Prop} {dst : Option Tmp} {fop : Operand} {args : List Operand} {f caps} {ds : List D} {post : Out -> List (Nat × Ob) -> Nat -> Prop} (hret : RetX P f ds s.obs s.next post)
  (hf : zaz (opd s fop) = some (f, caps)) (hc : zak P f = true) (hds : args.map (opd s) ++ caps = ds) (hp : zaI dst s)
  (hk : ∀ d obs' nx', s.next <= nx' -> post (.val d) obs' nx' -> k (({ s with obs := obs', next := nx' } : St).put dst d))
  (hx : ∀ ch obs' nx', s.next <= nx' -> post (.pan ch) obs' nx' -> ∃ s2, Wk Γ { s with obs := obs', next := nx' } s2 /\ Γ.pan ch s2) : CallP P Γ fop args dst s k :=
 fun _ _ _ _ => EffP.ztV hf hc hds hret hp hk hx
theorem CallP.xF {P : Program} {Γ : Ctx} {s : St} {k : St -> Prop} {dst : Option Tmp} {fop : Operand} {args : List Operand} {f caps} {ds : List D} {post : Out -> List (Nat × Ob) -> Nat -> Prop} (F obs : List (Nat × Ob)) (hret : RetX P f ds obs s.next post)
  (heq : ∀ i, getK s.obs i = getK (F ++ obs) i) (hF : ∀ i ob, getK F i = some ob -> getK obs i = none)
  (hf : zaz (opd s fop) = some (f, caps)) (hc : zak P f = true) (hds : args.map (opd s) ++ caps = ds) (hp : zaI dst s)
  (hk : ∀ d o1 nx', s.next <= nx' -> post (.val d) o1 nx' -> k (({ s with obs := F ++ o1, next := nx' } : St).put dst d))
  (hx : ∀ ch o1 nx', s.next <= nx' -> post (.pan ch) o1 nx' -> ∃ s2, Wk Γ { s with obs := F ++ o1, next := nx' } s2 /\ Γ.pan ch s2) : CallP P Γ fop args dst s k :=
 CallP.x_ ((hret.frame F hF).congr heq) hf hc hds hp (fun d o n hn ⟨o1, ho, hpo⟩ => by subst ho; exact hk d o1 n hn hpo) (fun ch o n hn ⟨o1, ho, hpo⟩ => by subst ho; exact hx ch o1 n hn hpo)
theorem CallP.x0 {P : Program} {Γ : Ctx} {s : St} {k : St -> Prop} {dst : Option Tmp} {fop : Operand} {args : List Operand} {f caps} {ds : List D} {post : Out -> List (Nat × Ob) -> Nat -> Prop} (hret : RetX P f ds [] s.next post)
  (hf : zaz (opd s fop) = some (f, caps)) (hc : zak P f = true) (hds : args.map (opd s) ++ caps = ds) (hp : zaI dst s)
  (hk : ∀ d o1 nx', s.next <= nx' -> post (.val d) o1 nx' -> k (({ s with obs := s.obs ++ o1, next := nx' } : St).put dst d))
  (hx : ∀ ch o1 nx', s.next <= nx' -> post (.pan ch) o1 nx' -> ∃ s2, Wk Γ { s with obs := s.obs ++ o1, next := nx' } s2 /\ Γ.pan ch s2) : CallP P Γ fop args dst s k :=
 CallP.xF s.obs [] hret (fun i => by simp) (fun i ob _ => rfl) hf hc hds hp hk hx
theorem CallP.x1 {P : Program} {Γ : Ctx} {s : St} {k : St -> Prop} {dst : Option Tmp} {fop : Operand} {args : List Operand} {f caps} {ds : List D} {post : Out -> List (Nat × Ob) -> Nat -> Prop} {j : Nat} {ob : Ob} (hret : RetX P f ds [(j, ob)] s.next post)
  (hj : getK s.obs j = some ob) (hf : zaz (opd s fop) = some (f, caps)) (hc : zak P f = true) (hds : args.map (opd s) ++ caps = ds) (hp : zaI dst s)
  (hk : ∀ d o1 nx', s.next <= nx' -> post (.val d) o1 nx' -> k (({ s with obs := del s.obs j ++ o1, next := nx' } : St).put dst d))
  (hx : ∀ ch o1 nx', s.next <= nx' -> post (.pan ch) o1 nx' -> ∃ s2, Wk Γ { s with obs := del s.obs j ++ o1, next := nx' } s2 /\ Γ.pan ch s2) : CallP P Γ fop args dst s k :=
 CallP.xF (del s.obs j) [(j, ob)] hret (fun i => by
  rw [zab, zac];by_cases h : i = j
  ·subst h; simp [hj, getK]
  ·simp only [if_neg h, getK];cases getK s.obs i <;> rfl) (fun i o hi => by
  rw [zac] at hi;by_cases h : i = j
  ·rw [if_pos h] at hi; cases hi
  ·simp [getK, h]) hf hc hds hp hk hx
theorem CallP.ok1 {P : Program} {Γ : Ctx} {s : St} {k : St -> Prop} {dst : Option Tmp} {fop : Operand} {args : List Operand} {f caps} {ds : List D} {j : Nat} {ob ob' : Ob} {d : D}
  (hret : RetX P f ds [(j, ob)] s.next fun r o n => r = .val d /\ o = [(j, ob')] /\ n = s.next)
  (hj : getK s.obs j = some ob) (hf : zaz (opd s fop) = some (f, caps)) (hds : args.map (opd s) ++ caps = ds)
  (hk : zak P f = true ∧ zaI dst s ∧ k (({ s with obs := del s.obs j ++ [(j, ob')], next := s.next } : St).put dst d)) : CallP P Γ fop args dst s k :=
 CallP.x1 hret hj hf hk.1 hds hk.2.1 (fun d' o1 nx' _ ⟨h1, h2, h3⟩ => by cases h1; subst h2; subst h3; exact hk.2.2) (fun ch o1 nx' _ ⟨h1, _⟩ => by cases h1)
theorem CallP.zeN {P : Program} {Γ : Ctx} {s : St} {k : St -> Prop} {dst : Option Tmp} {fop : Operand} {args : List Operand} {f caps} {ds : List D} {j : Nat} {ob : Ob} {ch : List PanicEntry} {p : Ob -> Prop}
  (hret : RetX P f ds [(j, ob)] s.next fun r o n => r = .pan ch /\ (∃ ob', p ob' /\ o = [(j, ob')]) /\ n = s.next)
  (hj : getK s.obs j = some ob) (hf : zaz (opd s fop) = some (f, caps)) (hc : zak P f = true) (hds : args.map (opd s) ++ caps = ds) (hp : zaI dst s)
  (hx : ∀ ob', p ob' -> ∃ s2, Wk Γ { s with obs := del s.obs j ++ [(j, ob')], next := s.next } s2 /\ Γ.pan ch s2) : CallP P Γ fop args dst s k :=
 CallP.x1 hret hj hf hc hds hp (fun d' o1 nx' _ ⟨h1, _⟩ => by cases h1) (fun ch' o1 nx' _ ⟨h1, ⟨ob', h2, h3⟩, h4⟩ => by cases h1; subst h3; subst h4; exact hx ob' h2)
theorem CallP.x2 {P : Program} {Γ : Ctx} {s : St} {k : St -> Prop} {dst : Option Tmp} {fop : Operand} {args : List Operand} {f caps} {ds : List D} {post : Out -> List (Nat × Ob) -> Nat -> Prop} {j q : Nat} {ob oq : Ob} (hret : RetX P f ds [(j, ob), (q, oq)] s.next post)
  (hj : getK s.obs j = some ob) (hq : getK s.obs q = some oq) (hne : j ≠ q) (hf : zaz (opd s fop) = some (f, caps)) (hc : zak P f = true) (hds : args.map (opd s) ++ caps = ds) (hp : zaI dst s)
  (hk : ∀ d o1 nx', s.next <= nx' -> post (.val d) o1 nx' -> k (({ s with obs := del (del s.obs j) q ++ o1, next := nx' } : St).put dst d))
  (hx : ∀ ch o1 nx', s.next <= nx' -> post (.pan ch) o1 nx' -> ∃ s2, Wk Γ { s with obs := del (del s.obs j) q ++ o1, next := nx' } s2 /\ Γ.pan ch s2) : CallP P Γ fop args dst s k :=
 CallP.xF (del (del s.obs j) q) [(j, ob), (q, oq)] hret (fun i => by
  rw [zab, zac, zac];by_cases h : i = q
  ·subst h; rw [if_pos rfl]; simp [getK, Ne.symm hne, hq]
  ·rw [if_neg h];by_cases h2 : i = j
   ·subst h2; simp [hj, getK]
   ·simp only [if_neg h2, getK, if_neg h];cases getK s.obs i <;> rfl) (fun i o hi => by
  rw [zac, zac] at hi;by_cases h : i = q
  ·rw [if_pos h] at hi; cases hi
  ·rw [if_neg h] at hi;by_cases h2 : i = j
   ·rw [if_pos h2] at hi; cases hi
   ·simp [getK, h, h2]) hf hc hds hp hk hx
def Ctx.base (Γ : Ctx) : Ctx := .of Γ.own.own Γ.k0 Γ.n0 Γ.w0
def zsS (Γ : Ctx) (post : Out -> List (Nat × Ob) -> Nat -> Prop) (ch : List PanicEntry) (s : St) : Prop := ∃ s', Wk Γ s s' /\ Γ.n0 <= s'.next /\ post (.pan ch) s'.obs s'.next
def RX (Γ : Ctx) (post : Out -> List (Nat × Ob) -> Nat -> Prop) (e : Ending) (w' : World) : Prop :=
 ∃ r obs' nx' k', zq8 k' e r /\ In Γ k' w' /\ Sat k' Γ.own obs' w' /\ (∀ i, nx' <= i -> k'.hdr i = none) /\ Γ.n0 <= nx' /\ post r obs' nx'
theorem ze6 {P Γ fn e s K a w} {post : Out -> List (Nat × Ob) -> Nat -> Prop} (hend : EndW P Γ fn Γ.n0 (fun d o n => post (.val d) o n) e s) (hin : In Γ K w) (hs : Sim K Γ.own s a w) :
  ∃ v, (results fn a.tmps).run P w = .ok v w /\ RX Γ post (.returned v) w := by
 obtain ⟨s', hw, _, hres⟩ := hend;obtain ⟨K', hin, hs⟩ := hw K a w hin hs;obtain ⟨rs, rv, hfin, hrun, hlen, hr⟩ := zgV hs _ _ hres;have hres' : (results fn a.tmps).run P w = .ok (if h : rv.toArray.size = 1 then rv.toArray[0] else .tuple rv.toArray) w := by
  unfold results;rw [Array.mapM_eq_mapM_toList];have e : (fn.results.toList.mapM fun (x : ResultVar) => match x with | .tmp t => (pure (a.tmps.getD t undef) : Sem Value) | .cell x t => do loadVar t (<- asAddr (a.tmps.getD x undef))).run P w = .ok rv w := hrun;simp only [Sem.run_bind, Sem.run_map, Result.andThen_ok]
  erw [e]
  simp
 have hrepv : Rep K' (zaf rs) (if h : rv.toArray.size = 1 then rv.toArray[0] else .tuple rv.toArray) := by
  match rs, rv, hlen, hr with
  | [], [], _, hr => exact .tup [] [] rfl (by simp)
  | [d], [v], _, hr => simpa [zaf] using hr 0 d rfl
  | d :: d1 :: ds, v :: v1 :: vs, hlen, hr =>
   simp only [zaf];rw [dif_neg (by simp)];exact .tup _ _ hlen hr
 refine ⟨_, hres', ?_⟩;rcases hfin with ⟨s2, ρ, d', hle, hd, hu, hnx, hpost⟩ | ⟨hnx, hpost⟩
 ·obtain ⟨h1, h2⟩ := Sim.weak hin hs hle;exact ⟨.val d', s2.obs, s2.next, _, ⟨_, rfl, hrepv.weak hd hu⟩, h1, h2.sat, h2.hdr, hnx, hpost⟩
 ·exact ⟨.val _, s'.obs, s'.next, K', ⟨_, rfl, hrepv⟩, hin, hs.sat, hs.hdr, hnx, hpost⟩
theorem RX.conv {Γ Γ' : Ctx} {post e w'} (h : RX Γ post e w') (h1 : Γ'.own.own = Γ.own.own) (h2 : Γ'.k0 = Γ.k0) (h3 : Γ'.n0 = Γ.n0) (h4 : Γ'.w0 = Γ.w0) : RX Γ' post e w' := by
 obtain ⟨r, o, n, k', a, b, c, d, e, f⟩ := h;exact ⟨r, o, n, k', a, b.conv h1 h2 h3 h4, by rw [h1]; exact c, d, by rw [h3]; exact e, f⟩
theorem Wk.conv {Γ Γ' : Ctx} {s s'} (h : Wk Γ s s') (h1 : Γ'.own = Γ.own) (h2 : Γ'.k0 = Γ.k0) (h3 : Γ'.n0 = Γ.n0) (h4 : Γ'.w0 = Γ.w0) : Wk Γ' s s' := fun K a w hin hs => by
 obtain ⟨K', g1, g2⟩ := h K a w (hin.conv (by rw [h1]) h2.symm h3.symm h4.symm) (by rw [<- h1]; exact hs);exact ⟨K', g1.conv (by rw [h1]) h2 h3 h4, by rw [h1]; exact g2⟩
theorem RetX.zg5 {P f fn c ds obs nx post} (hf : P.funcs[f]? = some fn) (hb : fn.body = some c) (hn : ds.length <= fn.ntmps)
  (h : ∀ Γ : Ctx, Γ.n0 = nx -> Γ.own.dfr = [] -> (∀ ch s, zsS Γ post ch s -> Γ.pan ch s) -> (∀ e a w', bodyPostD P fn (RX Γ.base post) e a w' -> Γ.esc e a w') -> V P Γ c (entry ds fn.ntmps obs nx) (zan P Γ (EndW P Γ fn nx fun d o n => post (.val d) o n) .done)) : RetX P f ds obs nx post := by
 intro k own w vs hsat hhdr hfresh hrep;have hsz : vs.size = ds.length := hrep.1
 let Γ0 : Ctx := .of own k nx w
 let Γ : Ctx := ⟨⟨own, []⟩, k, nx, w, zsS Γ0 post, bodyPostD P fn (RX Γ0 post)⟩
 have hpan : ∀ ch s, zsS Γ post ch s -> Γ.pan ch s := fun ch s ⟨s', h1, h2, h3⟩ => ⟨s', h1.conv rfl rfl rfl rfl, h2, h3⟩;have hR : ∀ e w', RX Γ post e w' -> RX Γ0 post e w' := fun e w' h => h.conv rfl rfl rfl rfl;have hesc : ∀ e a w', bodyPostD P fn (RX Γ.base post) e a w' -> Γ.esc e a w' := fun e a w' h => h;refine calls_of_wp_defers (R := RX Γ0 post) hf hb (wp_mono (h Γ rfl rfl hpan hesc k _ w ⟨.refl _, hhdr, fun b o v e => .inl e, hfresh, rfl, rfl, rfl, Nat.le_refl _, fun _ _ => rfl⟩
  ⟨hsat, rfl, ?_, fun x d hx => ?_, hhdr⟩) ?_)
 ·simp [entry, hsz]; omega
 ·simp only [entry, zfz, Nat.zero_le, if_true, Nat.sub_zero] at hx;have hlt := (lGE.1 hx).1;refine ⟨by simp [entry]; omega, ?_⟩;have := hrep.2 x d hx;have e : (vs ++ Array.replicate (fn.ntmps - vs.size) undef).getD x undef = vs.getD x undef := by
   simp [Array.getElem?_append, show x < vs.size by omega]
  rw [e];exact this
 ·rintro e a' w' (⟨K', s', hin, hs, hend⟩ | hx)
  ·have hd : a'.defers = [] := hs.defers;cases e with
   | panic ch =>
    obtain ⟨s2, hw, hn2, hp⟩ := (hend : zsS Γ0 post ch s');obtain ⟨K2, h1, h2⟩ := hw K' a' w' (hin.conv rfl rfl rfl rfl) hs;show Leaves P fn a'.tmps (RX Γ0 post) a'.defers (.panicking ch) w';rw [hd];exact ⟨.pan ch, s2.obs, s2.next, K2, rfl, h1, h2.sat, h2.hdr, hn2, hp⟩
   | normal =>
    obtain ⟨v, h1, h2⟩ := ze6 (Γ := Γ) (post := post) hend hin hs;show Leaves P fn a'.tmps (RX Γ0 post) a'.defers .returning w';rw [hd];exact ⟨v, h1, hR _ _ h2⟩
   | ret =>
    obtain ⟨v, h1, h2⟩ := ze6 (Γ := Γ) (post := post) hend hin hs;show Leaves P fn a'.tmps (RX Γ0 post) a'.defers .returning w';rw [hd];exact ⟨v, h1, hR _ _ h2⟩
   | exit i => obtain ⟨_, _, h1, _⟩ := hend; rcases h1 with h1 | h1 <;> cases h1
   | goto i => obtain ⟨_, _, h1, _⟩ := hend; rcases h1 with h1 | h1 <;> cases h1
   | outgrown => obtain ⟨_, _, h1, _⟩ := hend; rcases h1 with h1 | h1 <;> cases h1
  ·exact hx.2
theorem RetX.of_bodyW {P f fn c ds obs nx post} (hf : P.funcs[f]? = some fn) (hb : fn.body = some c) (hn : ds.length <= fn.ntmps)
  (h : ∀ Γ : Ctx, Γ.n0 = nx -> (∀ ch s, zsS Γ post ch s -> Γ.pan ch s) -> V P Γ c (entry ds fn.ntmps obs nx) (zan P Γ (EndW P Γ fn nx fun d o n => post (.val d) o n) .done)) : RetX P f ds obs nx post :=
 RetX.zg5 hf hb hn fun Γ h1 _ h2 _ => h Γ h1 h2
end Go.VL
namespace Go.VL
open Go
@[irreducible] def zs3 (c : Code) : Code := c
theorem zoB (c : Code) : zs3 c = c := by unfold zs3; rfl
theorem ziD {id : Nat} {o1 : Oper} {dst : Option Tmp} {cl : Call} {type : TypeId} {pos : String} {after : Array Edge} {guard : Option (Nat × Bool)} {rest : Code} :
  Code.seq (.region id #[o1, { dst, op := .defer cl, type, pos, after, guard }] false) rest = zs3 (.seq (.region id #[o1, { dst, op := .defer cl, type, pos, after, guard }] false) rest) := (zoB _).symm
def RetDf (P : Program) (g : FuncId) (caps : List D) (obs : List (Nat × Ob)) (nx : Nat) (u : FrameMode) (post : FrameMode -> List (Nat × Ob) -> Nat -> Prop) : Prop :=
 ∀ (k : Kr) (own : Nat -> Prop) (w : World) (vs : Array Value), Sat k own obs w -> (∀ i, nx <= i -> k.hdr i = none) -> (∀ b, w.heap.size <= b -> own b) -> RepL k caps vs ->
  CallsD P g vs u w fun e u' w' => ∃ v obs' nx' k', e = .returned v /\ In (.of own k nx w) k' w' /\ Sat k' own obs' w' /\ (∀ i, nx' <= i -> k'.hdr i = none) /\ nx <= nx' /\ post u' obs' nx'
theorem RetDf.mono {P g caps obs nx u} {p q : FrameMode -> List (Nat × Ob) -> Nat -> Prop} (h : RetDf P g caps obs nx u p) (hq : ∀ u o n, p u o n -> q u o n) : RetDf P g caps obs nx u q :=
 fun k own w vs h1 h2 h3 h4 => (h k own w vs h1 h2 h3 h4).mono fun _ _ _ ⟨v, o, n, k', e, a, b, c, d, hp⟩ => ⟨v, o, n, k', e, a, b, c, d, hq _ _ _ hp⟩
theorem RetDf.congr {P g caps obs obs' nx u post} (h : RetDf P g caps obs nx u post) (e : ∀ i, getK obs' i = getK obs i) : RetDf P g caps obs' nx u post :=
 fun k own w vs hsat hhdr hfresh hrep => h k own w vs (Sat.congr hsat fun i => (e i).symm) hhdr hfresh hrep
theorem RetDf.frame {P g caps obs nx u post} (F : List (Nat × Ob)) (hF : ∀ i ob, getK F i = some ob -> getK obs i = none) (h : RetDf P g caps obs nx u post) :
  RetDf P g caps (F ++ obs) nx u (fun u o n => ∃ o1, o = F ++ o1 /\ post u o1 n) := by
 intro k own w vs hsat hhdr hfresh hrep;refine (h k _ w vs (ziG hF hsat) hhdr (zhC hsat hfresh) hrep).mono ?_;rintro e u' w' ⟨v, o1, n', k', he, hin, hs1, hh1, hle, hp⟩;exact ⟨v, F ++ o1, n', k', he, zlW hfresh hin, zkm hsat hin hs1, hh1, hle, o1, rfl, hp⟩
def LeaveD (P : Program) (Γb : Ctx) (fn : Func) (post : Out -> List (Nat × Ob) -> Nat -> Prop) (g : FuncId) (caps : List D) (u : FrameMode) (s : St) : Prop :=
 RetDf P g caps s.obs s.next u fun u' o n => settle u' = .returning /\ EndW P Γb fn Γb.n0 (fun d o n => post (.val d) o n) .ret { s with obs := o, next := n }
def zwB (P : Program) (Γb : Ctx) (fn : Func) (post : Out -> List (Nat × Ob) -> Nat -> Prop) (g : FuncId) (caps : List D) (e : Exit) (s : St) : Prop := e = .ret /\ LeaveD P Γb fn post g caps .returning s
theorem zmM {P Γ Γ' fn post g caps u s K K1 a w w1} (hmode : u ≠ .run) (h : LeaveD P Γ.base fn post g caps u s) (hin1 : In Γ K1 w1) (hin : In Γ' K w) (hs : Sim K Γ'.own s a w) (ho : Γ'.own.own = Γ.own.own) (hk : Γ'.k0 = K1) (hn : ∀ i, Γ'.n0 <= i -> K1.hdr i = none) (hw : Γ'.w0 = w1)
  (hc : zak P g = true) (vs : Array Value) (hrep : RepL K1 caps vs) :
  Leaves P fn a.tmps (RX Γ.base post) [{ target := .fn (.func g) vs, args := #[] }] u w := by
 have hle1 : K1.le K := by rw [<- hk]; exact hin.le
 have hin0 : In Γ K w := hin1.step hle1 (fun b o v e => by have := hin.memNew b o v e; rw [hk, ho] at this; exact this) (by rw [hin.os, hw]) (by rw [hin.tape, hw]) (by rw [hin.output, hw]) (by have := hin.size; rw [hw] at this; exact this)
  (fun b hb => by have := hin.block b (by rw [ho]; exact hb); rw [hw] at this; exact this)
 refine leaves_cons (f := g) (args := vs) hmode ?_ ?_
 ·unfold zak at hc;split at hc
  ·rename_i fn' hfn;simp at hc;obtain ⟨hb, hname⟩ := hc;have hb' : fn'.body.isNone = false := by cases hbb : fn'.body <;> simp_all
   simp [invoke, callFunc, hfn, hb', hname];intro h0;rw [h0] at hb;simp at hb
  ·cases hc
 ·refine (h K Γ'.own.own w vs hs.sat hs.hdr (fun b hb => by rw [ho]; exact hin0.own_of_ge hb) ⟨hrep.1, fun j d hj => (hrep.2 j d hj).mono hle1⟩).mono ?_;rintro e u' w' ⟨v, o, n, k', rfl, hin2, hsat, hhdr, hnx, hset, hend⟩;rw [ho] at hin2 hsat;have hin3 : In Γ k' w' := hin0.step hin2.le (fun b o v e => hin2.memNew b o v e) hin2.os hin2.tape hin2.output hin2.size hin2.block;have hsim : Sim k' Γ.base.own ({ s with obs := o, next := n } : St) { a with defers := [] } w' := ⟨hsat, rfl, hs.size, fun x d hx => ⟨(hs.env x d hx).1, (hs.env x d hx).2.mono hin2.le⟩, hhdr⟩;obtain ⟨v', h1, h2⟩ := ze6 (Γ := Γ.base) (post := post) hend (hin3.conv rfl rfl rfl rfl) hsim;show Leaves P fn a.tmps (RX Γ.base post) [] (settle u') w';rw [hset];exact ⟨v', h1, h2⟩
theorem zpc {P Γ fn post s Q kt id g t type pos after type2 pos2 after2 rest} {ts : Array TypeId} {caps : List Operand}
  (hesc : ∀ e a w', bodyPostD P fn (RX Γ.base post) e a w' -> Γ.esc e a w') (hd : Γ.own.dfr = []) (hc : zak P g = true) (ht : t < s.n)
  (h : ∀ Γ' : Ctx, Γ'.n0 = s.next -> (∀ ch s2, LeaveD P Γ.base fn post g (caps.map (opd s)) (.panicking ch) s2 -> Γ'.pan ch s2) ->
    V P Γ' rest (s.put (some t) (.fnc (.func g) (caps.map (opd s)))) (zan P Γ' (zwB P Γ.base fn post g (caps.map (opd s))) .done)) :
  V P Γ (zs3 (.seq (.region id #[{ dst := some t, op := .makeFunc (.func g) #[] caps.toArray, type := type, pos := pos, after := after, guard := none },
   { dst := none, op := .defer { callee := .value (.tmp t), args := #[], argTypes := ts }, type := type2, pos := pos2, after := after2, guard := none }] false) rest)) s (zan P Γ Q kt) := by
 rw [zoB];intro K a w hin hs;refine wp_seq (wp_region_lit ?_);have hrep : RepL K (caps.map (opd s)) (caps.map a.eval).toArray := ⟨by simp, fun j d hj => by have := zeZ hs caps j d hj; simpa using this⟩;have hfv : Rep K (.fnc (.func g) (caps.map (opd s))) (.func (.func g) #[] (caps.map a.eval).toArray) := .fnc _ _ _ (by simp) (zeZ hs caps);have hts : t < a.tmps.size := by rw [hs.size]; exact ht
 refine wpList_plain rfl fun K1 hK1 => ?_;have hrun1 : (execOp a.eval { dst := some t, op := .makeFunc (.func g) #[] caps.toArray, type := type, pos := pos, after := after, guard := none }).run P w = .ok (.value (.func (.func g) #[] (caps.map a.eval).toArray)) w := by
  simp [execOp, Instr.makeFunc]
 unfold Oper.wp;rw [hrun1];refine hK1 _ _ (wpList_plain rfl fun K2 hK2 => ?_);generalize ha1 : (a.put (some t) (.func (.func g) #[] (caps.map a.eval).toArray)) = a1;have hev : a1.eval (.tmp t) = .func (.func g) #[] (caps.map a.eval).toArray := by
  subst ha1;simp [Act.eval, Act.put, hts]
 have hrun2 : (execOp a1.eval { dst := none, op := .defer { callee := .value (.tmp t), args := #[], argTypes := ts }, type := type2, pos := pos2, after := after2, guard := none }).run P w = .ok (.defer { target := .fn (.func g) (caps.map a.eval).toArray, args := #[] }) w := by
  simp [execOp, resolve, hev, Deferred.ofValue]
 unfold Oper.wp;rw [hrun2];refine hK2 _ _ ?_
 let Γ' : Ctx := ⟨⟨Γ.own.own, [{ target := .fn (.func g) (caps.map a.eval).toArray, args := #[] }]⟩, K, s.next, w, fun ch s2 => LeaveD P Γ.base fn post g (caps.map (opd s)) (.panicking ch) s2, fun _ _ _ => False⟩
 have hin' : In Γ' K w := ⟨.refl _, hs.hdr, fun b o v e => .inl e, fun b hb => hin.own_of_ge hb, rfl, rfl, rfl, Nat.le_refl _, fun _ _ => rfl⟩;have hs1 : Sim K Γ.own (s.put (some t) (.fnc (.func g) (caps.map (opd s)))) a1 w := by
  subst ha1;exact hs.put (by simpa [zaI] using ht) hfv
 have hs' : Sim K Γ'.own (s.put (some t) (.fnc (.func g) (caps.map (opd s)))) (({ a1 with defers := { target := .fn (.func g) (caps.map a.eval).toArray, args := #[] } :: a1.defers } : Act).put none undef) w :=
  ⟨hs1.sat, by have := hs1.defers; rw [hd] at this; show _ :: a1.defers = _; rw [this], hs1.size, hs1.env, hs1.hdr⟩
 refine wp_mono (h Γ' rfl (fun ch s2 h => h) K _ w hin' hs') ?_;rintro e a' w' (⟨K', s', h1, h2, h3⟩ | h3)
 ·have hdf : a'.defers = [{ target := .fn (.func g) (caps.map a.eval).toArray, args := #[] }] := h2.defers;have go : ∀ u, u ≠ .run -> LeaveD P Γ.base fn post g (caps.map (opd s)) u s' -> Leaves P fn a'.tmps (RX Γ.base post) a'.defers u w' := fun u hu hl => by
   rw [hdf];exact zmM hu hl hin h1 h2 rfl rfl hs.hdr rfl hc _ hrep
  cases e with
  | panic ch => exact .inr ⟨trivial, hesc _ _ _ (go (.panicking ch) (by simp) h3)⟩
  | ret => exact .inr ⟨trivial, hesc _ _ _ (go .returning (by simp) h3.2)⟩
  | normal => exact absurd h3.1 (by simp)
  | exit i => exact absurd h3.1 (by simp)
  | goto i => exact absurd h3.1 (by simp)
  | outgrown => exact absurd h3.1 (by simp)
 ·exact h3.2.elim
def HS (P : Program) (Γ : Ctx) : List Oper -> St -> (St -> Prop) -> Prop
 | [], s, k => k s
 | o :: l, s, k => o.guard = none /\ zcf P Γ o.dst o.op s fun s' => HS P Γ l s' k
theorem zq4 {P Γ cs} {Q : Exit -> Act -> List Frame -> World -> Prop} {k : St -> Prop} (ops : Array Oper) : ∀ (l : List Oper) (i : Nat) (s : St) (K : Kr) (a : Act) (w : World), (∀ j, ops[i + j]? = l[j]?) -> HS P Γ l s k -> In Γ K w -> Sim K Γ.own s a w ->
  (∀ K' a' w' s', In Γ K' w' -> Sim K' Γ.own s' a' w' -> k s' -> Q .normal a' cs w') -> (∀ ch K' a' w' s', In Γ K' w' -> Sim K' Γ.own s' a' w' -> Γ.pan ch s' -> Q (.panic ch) a' cs w') ->
  wpOpsS P ops Q (List.range' i l.length) a cs w
 | [], i, s, K, a, w, _, h, hin, hs, hQ, _ => by simpa [wpOpsS] using hQ K a w s hin hs h
 | o :: l, i, s, K, a, w, ho, h, hin, hs, hQ, hP => by
  have h0 : ops[i]? = some o := by simpa using ho 0
  obtain ⟨hg, hst⟩ := h;rw [List.length_cons, List.range'_succ];unfold wpOpsS;rw [h0];simp only [Region.wanted, hg, if_true];have hw := zel hst K a w hin hs (fun a' w' => wpOpsS P ops Q (List.range' (i + 1) l.length) a' cs w') (fun e a' w' => Q e a' cs w')
   (fun K' a' w' s' h1 h2 h3 => zq4 ops l (i + 1) s' K' a' w' (fun j => by have := ho (j + 1); simpa [nAA, Nat.add_comm 1 j] using this) h3 h1 h2 hQ hP) hP
  unfold Oper.wp at hw;split
  ·rename_i w' hr;rw [hr] at hw;exact hw.elim
  ·exact hw
def zms : FrameMode -> Value × FrameMode
 | .panicking ({ v, recovered := false, goexit := false } :: older) => (v, .panicking ({ v, recovered := true } :: older))
 | u => (.nilIface, u)
def zur (Γ : Ctx) (post : FrameMode -> List (Nat × Ob) -> Nat -> Prop) (u' : FrameMode) (e : Exit) (s : St) : Prop := (e = .normal \/ e = .ret) /\ ∃ s', Wk Γ s s' /\ Γ.n0 <= s'.next /\ post u' s'.obs s'.next
theorem RetDf.of_body {P g fn caps obs nx u post id x type pos after l rest} (hf : P.funcs[g]? = some fn)
  (hb : fn.body = some (.seq (.region id ({ dst := some x, op := .call { callee := .builtin .recover, args := #[], argTypes := #[] }, type := type, pos := pos, after := after, guard := none } :: l : List Oper).toArray false) rest))
  (hn : caps.length <= fn.ntmps) (hx : x < fn.ntmps) (hres : fn.results = #[])
  (h : ∀ Γ : Ctx, Γ.n0 = nx -> HS P Γ l ((entry caps fn.ntmps obs nx).put (some x) (.u (.oth (zms u).1))) fun s' => V P Γ rest s' (zan P Γ (zur Γ post (zms u).2) .done)) : RetDf P g caps obs nx u post := by
 intro k own w vs hsat hhdr hfresh hrep;have hsz : vs.size = caps.length := hrep.1
 let Γ : Ctx := .of own k nx w
 have hin : In Γ k w := ⟨.refl _, hhdr, fun b o v e => .inl e, hfresh, rfl, rfl, rfl, Nat.le_refl _, fun _ _ => rfl⟩;have hs : Sim k Γ.own (entry caps fn.ntmps obs nx) { tmps := vs ++ Array.replicate (fn.ntmps - vs.size) undef, defers := [] } w := by
  refine ⟨hsat, rfl, ?_, fun y d hy => ?_, hhdr⟩
  ·simp [entry, hsz]; omega
  ·simp only [entry, zfz, Nat.zero_le, if_true, Nat.sub_zero] at hy;have hlt := (lGE.1 hy).1;refine ⟨by simp [entry]; omega, ?_⟩;have := hrep.2 y d hy;have e : (vs ++ Array.replicate (fn.ntmps - vs.size) undef).getD y undef = vs.getD y undef := by
    simp [Array.getElem?_append, show y < vs.size by omega]
   rw [e];exact this
 refine callsD_of_wpS hf hb fun c0 cs hm => wpS_seq (wpS_region ?_);have hsize : ({ dst := some x, op := .call { callee := .builtin .recover, args := #[], argTypes := #[] }, type := type, pos := pos, after := after, guard := none } :: l : List Oper).toArray.size = l.length + 1 := by simp
 rw [hsize, List.range_eq_range', List.range'_succ];generalize hops : ({ dst := some x, op := .call { callee := .builtin .recover, args := #[], argTypes := #[] }, type := type, pos := pos, after := after, guard := none } :: l : List Oper).toArray = ops;have h0 : ops[0]? = some { dst := some x, op := .call { callee := .builtin .recover, args := #[], argTypes := #[] }, type := type, pos := pos, after := after, guard := none } := by rw [<- hops]; simp
 unfold wpOpsS;rw [h0];have hrun : ∀ ρ : Operand -> Value, (execOp ρ { dst := some x, op := .call { callee := .builtin .recover, args := #[], argTypes := #[] }, type := type, pos := pos, after := after, guard := none }).run P w = .ok .recover w := fun ρ => by
  simp [execOp, resolve, invoke, builtin]
 simp only [Region.wanted, if_true, hrun];have hrec : recoverD (c0 :: cs) = some ((zms u).1, { c0 with mode := (zms u).2 } :: cs) \/ (recoverD (c0 :: cs) = none /\ (zms u).1 = .nilIface /\ { c0 with mode := (zms u).2 } = c0) := by
  subst hm;have same : ∀ m, c0.mode = m -> ({ c0 with mode := m } : Frame) = c0 := fun m h => by rw [<- h]
  cases hmo : c0.mode with
  | run => exact .inr ⟨by simp [recoverD, hmo], rfl, same _ hmo⟩
  | returning => exact .inr ⟨by simp [recoverD, hmo], rfl, same _ hmo⟩
  | panicking ch =>
   cases ch with
   | nil => exact .inr ⟨by simp [recoverD, hmo], rfl, same _ hmo⟩
   | cons e older =>
    obtain ⟨v, r, g⟩ := e;cases r <;> cases g
    ·exact .inl (by simp [recoverD, hmo, zms])
    ·exact .inr ⟨by simp [recoverD, hmo], rfl, same _ hmo⟩
    ·exact .inr ⟨by simp [recoverD, hmo], rfl, same _ hmo⟩
    ·exact .inr ⟨by simp [recoverD, hmo], rfl, same _ hmo⟩
 have main : wpOpsS P ops (Exit.thenS (rest.wpS P (bodyPostS P fn c0 cs fun e u' w' => ∃ v obs' nx' k', e = .returned v /\ In (.of own k nx w) k' w' /\ Sat k' own obs' w' /\ (∀ i, nx' <= i -> k'.hdr i = none) /\ nx <= nx' /\ post u' obs' nx'))
   (bodyPostS P fn c0 cs fun e u' w' => ∃ v obs' nx' k', e = .returned v /\ In (.of own k nx w) k' w' /\ Sat k' own obs' w' /\ (∀ i, nx' <= i -> k'.hdr i = none) /\ nx <= nx' /\ post u' obs' nx')) (List.range' (0 + 1) l.length)
   (Act.put { tmps := vs ++ Array.replicate (fn.ntmps - vs.size) undef, defers := [] } (some x) (zms u).1) ({ c0 with mode := (zms u).2 } :: cs) w := by
  refine zq4 ops l (0 + 1) _ k _ w (fun j => by rw [<- hops]; simp [Nat.add_comm 1 j]) (h Γ rfl) hin (hs.put (by simpa [zaI, entry] using hx) (.u _ _ (.oth _))) (fun K' a' w' s' h1 h2 h3 => ?_) (fun ch K' a' w' s' _ _ h3 => h3.elim);refine wpS_of_wp (wp_mono (h3 K' a' w' h1 h2) ?_);rintro e a2 w2 (⟨K2, s2, g1, g2, g3⟩ | g3)
  ·have hd2 : a2.defers = [] := g2.defers;have fin : zur Γ post (zms u).2 e s2 -> a2.defers = [] /\ ∃ u', ({ c0 with mode := (zms u).2 } :: cs : List Frame) = { c0 with mode := u' } :: cs /\ ∃ v, (results fn a2.tmps).run P w2 = .ok v w2 /\
     ∃ v' obs' nx' k', Ending.returned v = .returned v' /\ In (.of own k nx w) k' w2 /\ Sat k' own obs' w2 /\ (∀ i, nx' <= i -> k'.hdr i = none) /\ nx <= nx' /\ post u' obs' nx' := fun ⟨_, s3, hw, hnx, hp⟩ => by
    obtain ⟨K3, q1, q2⟩ := hw K2 a2 w2 g1 g2;exact ⟨hd2, _, rfl, .tuple #[], by simp [results, hres], _, s3.obs, s3.next, K3, rfl, q1, q2.sat, q2.hdr, hnx, hp⟩
   cases e with
   | normal => exact fin g3
   | ret => exact fin g3
   | panic ch => exact g3.elim
   | exit i => rcases g3.1 with h | h <;> cases h
   | goto i => rcases g3.1 with h | h <;> cases h
   | outgrown => rcases g3.1 with h | h <;> cases h
  ·exact g3.2.elim
 rcases hrec with hr | ⟨hr, h1, h2⟩
 ·rw [hr];exact main
 ·rw [hr];rw [h1, h2] at main;exact main
end Go.VL
