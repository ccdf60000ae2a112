import Derived.Test.YtmlpcgkaonifcaaGreatDoorB3
import Derived.Test.YtmlpcgkaonifcaaGreatDoorTie
import Derived.Test.YtmlpcgkaonifcaaGreatDoorCards
import Derived.Lib.LaidTab
import Derived.Lib.RowBridge
import Derived.IntWalk
import Derived.WalkKit
import Derived.Deep.RegionLaw
import Derived.Laws.CopyOwn
set_option linter.all false
set_option maxRecDepth 100000
set_option maxHeartbeats 8000000
namespace Go.Proofs.YtmlpcgkaonifcaaGreatDoor
open Go Go.VL
abbrev zrk : List (String × DataW Unit) := [("stokvel/lex.signs", Rows.laid_stokvel_lex_signs)]
theorem ztP (os : Os) (args : Array Value) : laidMetH Tryz.prog zrk ((World.doorLaid Tryz.prog 400 os).forCall (fun _ _ => 0) ⟨#[], args, []⟩).memory :=
 laidMetH_of_parts3 (fuel := 8) (laidMet_of_run' 8 (by kernel_rfl) (by kernel_rfl)) (by kernel_rfl) (by kernel_rfl)
theorem zvr {P : Program} {w : World} {n : String} {g : Nat} {cs : Array Value} (hg : P.globalNamed n = some g) (hv : w.var? P n = some cs) :
  (∀ j, j < cs.toList.length -> VL.look w g j = some (.val (cs.toList.getD j undef))) /\ VL.look w g cs.toList.length = some .fin := by
 unfold World.var? at hv;rw [hg, Option.bind_some] at hv;split at hv
 ·rename_i cs0 t fr hh;cases hv;refine ⟨fun j hj => zep ?_, ?_⟩
  ·have hj' : j < cs.size := by simpa using hj
   simp [World.cell?, hh, hj', List.getD]
  ·have := ztg hh;simpa using this
 ·cases hv
theorem zu5 {P : Program} {w : World} {n : String} {g : Nat} {t e : TypeId} {cs : Array Value} {L : List (List UInt8)} {fuel : Nat} {H : Type} {enc : TypeId × Value -> H} {base : Nat} {spare : Nat -> Bool} {held : Bool} {q : List MemPlace}
  (hg : P.globalNamed n = some g) (hv : w.var? P n = some cs) (ht : P.underlying t = some (.array L.length e)) (he : P.underlying e = some .string) (hc : P.cellsOf e = 1) (hct : P.cellsOf t = L.length)
  (hd : DataW.trod enc P w base spare held fuel t cs.toList = some (.agg (L.map fun b => .lit (.string b)), q)) : cs.toList = L.map fun b => .string ⟨b.toArray⟩ := by
 obtain ⟨xs, m1, rfl, hx1, hlen, hn3, hel⟩ := DataW.trod_array ht hd;have hcell := zkQ hg hv ht he hc hd;apply List.ext_getElem?;intro j;cases hb : L[j]? with
 | none =>
  have := List.getElem?_eq_none_iff.1 hb;rw [List.getElem?_eq_none (by omega), List.getElem?_map, hb]; rfl
 | some b =>
  have h := hcell j b hb;rw [World.var?_cell hg hv j] at h;rw [List.getElem?_map, hb, Array.getElem?_toList, h]; rfl
def zwr : List (List UInt8) := [[61, 61], [59], [44], [61], [60], [43], [45], [42], [47], [40], [41]]
theorem zry (W : World) (h : laidMetH Tryz.prog zrk W) : GlobIn (zju W) := by
 rw [MakeChecks.laidMetH_plain _ _ _ (by kernel_rfl)] at h;obtain ⟨ps, ⟨gd, td, cd, fd, pd, qd, hgd, htd, hvd, hdd, _⟩, _⟩ := h;obtain rfl : gd = 0 := Option.some.inj (hgd.symm.trans (by kernel_rfl));obtain rfl : td = 197 := Option.some.inj (htd.symm.trans (by kernel_rfl));have ed := zu5 (q := pd) (L := zwr) hgd hvd (by kernel_rfl) (e := 9) (by kernel_rfl) (by kernel_rfl) (by kernel_rfl) (hdd.trans (by kernel_rfl));have fd := zvr hgd hvd;rw [ed] at fd;refine ⟨fun p hp => ?_, fun g hg => ?_⟩
 ·unfold globs at hp;simp only [List.mem_cons, List.not_mem_nil, or_false] at hp;subst hp;exact fd
 ·cases hg
end Go.Proofs.YtmlpcgkaonifcaaGreatDoor
namespace Go.VL
open Go Go.Proofs
theorem Ret.zyb {P : Program} {f : FuncId} {ds : List D} {t nx : Nat} {zs : List Int} (O : List (Nat × Ob))
  (h : ∀ (k : Kr) (own : Nat -> Prop) (w : World) (vs : Array Value), Sat k own O w -> RepL k ds vs -> Calls P f vs w fun e w' => ∃ v, e = .returned v /\ w'.ownsRow w.heap.size t 1 v zs.length (zs.map (Value.int .i64)) /\ RowKit.Below w.heap.size w w') :
  Ret P f ds O nx fun d obs nx' => d = .vec nx zs.length /\ obs = (nx, .vec t 1 (intR zs)) :: O /\ nx' = nx + 1 := by
 intro k own w vs hsat hhdr hown hrep;refine (h k own w vs hsat hrep).mono ?_;rintro e w' ⟨v, rfl, hrow, hb⟩;obtain ⟨hh, hhv, hge⟩ : ∃ h : Option Nat × Nat, v = za8 h zs.length /\ ∀ b, h.1 = some b -> w.heap.size <= b := by
  rcases hrow.2 with ⟨rfl, hn⟩ | ⟨g, cap, cur, rfl, hg, _⟩
  ·exact ⟨(none, 0), by simp [za8, hn], fun b e => by cases e⟩
  ·exact ⟨(some g, cap), rfl, fun b e => by cases e; exact hg⟩
 subst hhv;have hk0 : k.hdr nx = none := hhdr nx (Nat.le_refl _);have hmem : ∀ b, w.heap.size <= b -> ∀ o, k.mem b o = none := fun b hb o => by
  cases hm : k.mem b o with
  | none => rfl
  | some x => have := hsat.memLt hm; omega
 have hold : ∀ b, b < w.heap.size -> w'.heap[b]? = w.heap[b]? := hb.block;have hblk : ∀ b, Blk k O b -> b < w.heap.size := fun b hb => hsat.lt hb;have hsat2 : Sat (k.add nx hh) own ((nx, .vec t 1 (intR zs)) :: O) w' := by
  refine Sat.add hsat hk0 (fun b e => ⟨hown b (hge b e), hmem b (hge b e), fun hB => by have := hblk b hB; have := hge b e; omega⟩) (fun b hbb => ?_) ?_
  ·rcases hbb with hB | ⟨o, x, hx⟩
   ·exact hold b (hblk b hB)
   ·exact hold b (hsat.memLt hx)
  ·have hl : (intR zs).length = zs.length := by simp [intR]
   refine ⟨zs.map (Value.int .i64), ?_, Nat.one_pos, fun r hr => ?_, fun i r hi q d hq => ?_⟩
   ·rw [hl];refine ⟨hrow.1, ?_⟩;rcases hrow.2 with h | ⟨g, cap, cur, h1, _, h2⟩
    ·exact .inl h
    ·exact .inr ⟨g, cap, cur, h1, Nat.zero_le _, h2⟩
   ·obtain ⟨z, _, rfl⟩ := List.mem_map.1 hr;rfl
   ·simp only [intR, List.getElem?_map, Option.map_eq_some_iff] at hi;obtain ⟨z, hz', rfl⟩ := hi
    match q, hq with
    | 0, hq =>
     cases hq;have h3 : i < zs.length := (List.getElem?_eq_some_iff.1 hz').1;have h4 : zs[i] = z := (List.getElem?_eq_some_iff.1 hz').2;have : (zs.map (Value.int .i64)).getD (i * 1 + 0) undef = .int .i64 z := by simp [h3, h4]
     rw [this];exact ⟨rfl, .u _ _ (.int _ _)⟩
 refine ⟨_, .vec nx zs.length, _, nx + 1, k.add nx hh, rfl, ?_, hsat2, fun i hi => ?_, by omega, .vec nx _ hh (by simp [Kr.add]), rfl, rfl, rfl⟩
 ·exact ⟨Kr.zg7 hk0, fun i hi => hhdr i hi, fun b o x hx => .inl hx, hown, hb.os, hb.tape, hb.output, hb.size, fun b hnb => hold b (by
   rcases Nat.lt_or_ge b w.heap.size with h | h
   ·exact h
   ·exact absurd (hown b h) hnb)⟩
 ·simp only [Kr.add];rw [if_neg (by omega)];exact hhdr i (by omega)
end Go.VL
namespace Go.Proofs.YtmlpcgkaonifcaaGreatDoor
open Go Go.VL Go.Proofs
def zf9 (zs : List Int) : List Int := zs.mergeSort fun x y => decide (x <= y)
theorem zsY (t j nx : Nat) (hj : j < nx) (zs : List Int) (hz : zs.length <= 1099511627776) : Ret Tryz.prog 57 [.vec j zs.length] [(j, .vec t 1 (intR zs))] nx
  fun d obs nx' => d = .tup [] /\ obs = [(j, .vec t 1 (intR (zf9 zs)))] /\ nx' = nx :=
 Ret.zv5 (ret := fun _ _ => .tuple #[]) hj (by simp [zf9]) (by simp only [maxLen]; omega) (fun blk cap w hH hb _ _ => Tryz.slices_Sort_int blk 0 cap zs w hH hb (by omega)) (fun _ p cap w => Tryz.slices_Sort_int_none p cap w) (.inl ⟨rfl, fun _ _ => rfl⟩)
end Go.Proofs.YtmlpcgkaonifcaaGreatDoor
namespace Go.Proofs.YtmlpcgkaonifcaaGreatDoor
open Go Go.VL Go.Proofs
def znl (zs : List Int) : List Int := Lib.compact zs ++ List.replicate (zs.length - (Lib.compact zs).length) 0
theorem zmd (zs : List Int) : (znl zs).length = zs.length := by
 have := Lib.compact_length_le zs;simp only [znl, List.length_append, List.length_replicate];omega
theorem znj (t j nx : Nat) (hj : j < nx) (zs : List Int) (hz : zs.length <= 1099511627776) : Ret Tryz.prog 58 [.vec j zs.length] [(j, .vec t 1 (intR zs))] nx
  fun d obs nx' => d = .vec j (Lib.compact zs).length /\ obs = [(j, .vec t 1 (intR (znl zs)))] /\ nx' = nx :=
 Ret.zv5 (ret := fun a c => .slice a (Lib.compact zs).length c) hj (zmd zs) (by simp only [maxLen]; omega)
  (fun blk cap w hH hb hc _ => (Tryz.slices_Compact_int blk 0 cap zs w hH (by omega) hc).mono fun e w' ⟨h1, q, h2⟩ => ⟨h1, q, #[], by rw [h2, Go.Sort.grow_empty]; rfl⟩)
  (fun h0 p cap w => by subst h0; exact Tryz.slices_Compact_int_empty p cap w) (.inr ⟨_, rfl, fun _ _ => rfl⟩)
end Go.Proofs.YtmlpcgkaonifcaaGreatDoor
namespace Go.Proofs.YtmlpcgkaonifcaaGreatDoor.Df
structure Con where
 A : Int
 B : Int
 N : Int
abbrev Con.a (c : Con) : Nat := c.A.toNat
abbrev Con.b (c : Con) : Nat := c.B.toNat
abbrev maxN : Int := 1099511627776
structure GS where
 val : Nat -> Int
 kn : Nat -> Bool
 pre : Nat -> Option Nat
def GS.zero (bg : Nat -> Bool) : GS := ⟨fun _ => 0, bg, fun _ => none⟩
def GS.can (g : GS) (c : Con) : Bool := g.kn c.b && (!g.kn c.a || decide (g.val c.b + c.N < g.val c.a))
def GS.upd (g : GS) (i : Nat) (c : Con) : GS := ⟨fun x => if x = c.a then g.val c.b + c.N else g.val x, fun x => if x = c.a then true else g.kn x, fun x => if x = c.a then some i else g.pre x⟩
def bk (l : List Con) (g : GS) (x : Nat) : Nat := match g.pre x with
 | some i => match l[i]? with
  | some c => c.b
  | none => x
 | none => x
def wt (l : List Con) (g : GS) (x : Nat) : Int := match g.pre x with
 | some i => match l[i]? with
  | some c => c.N
  | none => 0
 | none => 0
def it (l : List Con) (g : GS) : Nat -> Nat -> Nat
 | 0, x => x
 | k + 1, x => it l g k (bk l g x)
def sm (l : List Con) (g : GS) : Nat -> Nat -> Int
 | 0, _ => 0
 | k + 1, x => wt l g x + sm l g k (bk l g x)
def al (l : List Con) (g : GS) : Nat -> Nat -> Prop
 | 0, _ => True
 | k + 1, x => g.pre x ≠ none /\ al l g k (bk l g x)
structure Sub (l : List Con) (bg : Nat -> Bool) (K : Nat -> Prop) (y : Nat -> Int) : Prop where
 beg : ∀ x, bg x = true -> K x /\ y x <= 0
 step : ∀ c ∈ l, K c.b -> K c.a /\ y c.a <= y c.b + c.N
structure Inv (l : List Con) (bg : Nat -> Bool) (g : GS) : Prop where
 beg : ∀ x, bg x = true -> g.kn x = true /\ g.val x <= 0
 pre : ∀ x i, g.pre x = some i -> ∃ c, l[i]? = some c /\ c.a = x /\ g.kn x = true /\ g.kn c.b = true /\ g.val c.b + c.N <= g.val x
 root : ∀ x, g.kn x = true -> g.pre x = none -> bg x = true /\ g.val x = 0
 cyc : ∀ k x, al l g (k + 1) x -> it l g (k + 1) x = x -> sm l g (k + 1) x < 0
 low : ∀ K y, Sub l bg K y -> ∀ x, g.kn x = true -> K x /\ y x <= g.val x
theorem Inv.zero (l : List Con) (bg : Nat -> Bool) : Inv l bg (GS.zero bg) where
 beg x h := ⟨h, by simp [GS.zero]⟩
 pre x i h := by simp [GS.zero] at h
 root x h _ := ⟨h, rfl⟩
 cyc k x h _ := by simp [al, GS.zero] at h
 low K y h x hx := h.beg x hx
theorem zi1 {l : List Con} {g : GS} {x i : Nat} {c : Con} (h : g.pre x = some i) (hc : l[i]? = some c) : bk l g x = c.b := by simp [bk, h, hc]
theorem zov {l : List Con} {g : GS} {x i : Nat} {c : Con} (h : g.pre x = some i) (hc : l[i]? = some c) : wt l g x = c.N := by simp [wt, h, hc]
theorem GS.zgE {g : GS} {c : Con} : g.can c = true ↔ g.kn c.b = true /\ (g.kn c.a = false \/ g.val c.b + c.N < g.val c.a) := by
 unfold GS.can;cases g.kn c.b <;> cases g.kn c.a <;> simp
theorem Inv.chain {l : List Con} {bg : Nat -> Bool} {g : GS} {i : Nat} {c : Con} (h : Inv l bg g) (hc : l[i]? = some c) (hr : g.can c = true) :
  ∀ (k x : Nat), (g.upd i c).kn x = true -> al l (g.upd i c) k x ->
   let p := fun x => if g.kn x = true then g.val x else g.val c.b + c.N + 1
   p (it l (g.upd i c) k x) + sm l (g.upd i c) k x < p x \/ (al l g k x /\ it l g k x = it l (g.upd i c) k x /\ sm l g k x = sm l (g.upd i c) k x /\ p (it l (g.upd i c) k x) + sm l (g.upd i c) k x <= p x) := by
 obtain ⟨hb, hd⟩ := GS.zgE.1 hr;intro k
 induction k with
 | zero => intro x _ _; right; simp only [al, it, sm, Int.add_zero]; exact ⟨trivial, trivial, trivial, Int.le_refl _⟩
 | succ k ih =>
  intro x hx ha;obtain ⟨h1, h2⟩ := ha;simp only;by_cases hxa : x = c.a
  ·have hp : (g.upd i c).pre x = some i := by simp [GS.upd, hxa]
   have hbk := zi1 hp hc;have hwt := zov hp hc;rw [hbk] at h2;have hkb : (g.upd i c).kn c.b = true := by simp [GS.upd, hb]
   have := ih c.b hkb h2;simp only [hb, if_true] at this;left;simp only [it, sm, hbk, hwt];have hlt : g.val c.b + c.N < (if g.kn x = true then g.val x else g.val c.b + c.N + 1) := by
    rw [hxa];rcases hd with hd | hd
    ·rw [hd]; simp only [Bool.false_eq_true, if_false]; omega
    ·split <;> omega
   rcases this with this | ⟨_, _, _, this⟩ <;> omega
  ·have hp : (g.upd i c).pre x = g.pre x := by simp [GS.upd, hxa]
   have hkx : g.kn x = true := by simpa [GS.upd, hxa] using hx
   cases hq : g.pre x with
   | none => rw [hp, hq] at h1; exact absurd rfl h1
   | some j =>
    obtain ⟨d, e1, e2, e3, e4, e5⟩ := h.pre x j hq;have hbk : bk l (g.upd i c) x = d.b := zi1 (hp.trans hq) e1;have hwt : wt l (g.upd i c) x = d.N := zov (hp.trans hq) e1;have hbk' : bk l g x = d.b := zi1 hq e1;have hwt' : wt l g x = d.N := zov hq e1;rw [hbk] at h2;have := ih d.b (by simp [GS.upd, e4]) h2;simp only [e4, if_true] at this;simp only [it, sm, al, hbk, hwt, hbk', hwt', hkx, if_true];rcases this with this | ⟨a1, a2, a3, this⟩
    ·left; omega
    ·right;exact ⟨⟨by rw [hq]; simp, a1⟩, a2, by rw [a3], by omega⟩
theorem Inv.upd {l : List Con} {bg : Nat -> Bool} {g : GS} {i : Nat} {c : Con} (h : Inv l bg g) (hc : l[i]? = some c) (hr : g.can c = true) : Inv l bg (g.upd i c) := by
 obtain ⟨hb, hd⟩ := GS.zgE.1 hr;have hdown : ∀ x, g.kn x = true -> (g.upd i c).val x <= g.val x := fun x hx => by
  simp only [GS.upd];split
  ·rename_i e;subst e;rcases hd with hd | hd
   ·rw [hd] at hx; cases hx
   ·omega
  ·exact Int.le_refl _
 have hkn : ∀ x, g.kn x = true -> (g.upd i c).kn x = true := fun x hx => by simp [GS.upd, hx]
 refine ⟨fun x hx => ?_, fun x j hj => ?_, fun x hx hp => ?_, fun k x ha he => ?_, fun K y hs x hx => ?_⟩
 ·obtain ⟨h1, h2⟩ := h.beg x hx;have := hdown x h1;exact ⟨hkn x h1, by omega⟩
 ·by_cases hxa : x = c.a
  ·have : j = i := by simpa [GS.upd, hxa, eq_comm] using hj
   subst this;refine ⟨c, hc, hxa.symm, by simp [GS.upd, hxa], hkn _ hb, ?_⟩;have := hdown c.b hb;rw [hxa];have e : (g.upd j c).val c.a = g.val c.b + c.N := by simp [GS.upd]
   omega
  ·have hq : g.pre x = some j := by simpa [GS.upd, hxa] using hj
   obtain ⟨d, e1, e2, e3, e4, e5⟩ := h.pre x j hq;have := hdown d.b e4;have e : (g.upd i c).val x = g.val x := by simp [GS.upd, hxa]
   exact ⟨d, e1, e2, hkn x e3, hkn _ e4, by omega⟩
 ·by_cases hxa : x = c.a
  ·simp [GS.upd, hxa] at hp
  ·have hp' : g.pre x = none := by simpa [GS.upd, hxa] using hp
   have hx' : g.kn x = true := by simpa [GS.upd, hxa] using hx
   obtain ⟨h1, h2⟩ := h.root x hx' hp';exact ⟨h1, by simp [GS.upd, hxa, h2]⟩
 ·have hkx : (g.upd i c).kn x = true := by
   by_cases hxa : x = c.a
   ·simp [GS.upd, hxa]
   ·cases hq : g.pre x with
    | none => exact absurd (show (g.upd i c).pre x = none by simp [GS.upd, hxa, hq]) ha.1
    | some j =>
     obtain ⟨d, _, _, e3, _⟩ := h.pre x j hq;exact hkn x e3
  have := h.chain hc hr (k + 1) x hkx ha;simp only [he] at this;rcases this with this | ⟨a1, a2, a3, _⟩
  ·omega
  ·rw [<- a3];exact h.cyc k x a1 a2
 ·by_cases hxa : x = c.a
  ·obtain ⟨h1, h2⟩ := h.low K y hs c.b hb;obtain ⟨h3, h4⟩ := hs.step c (List.mem_of_getElem? hc) h1;subst hxa;exact ⟨h3, by simp only [GS.upd, if_true]; omega⟩
  ·have hx' : g.kn x = true := by simpa [GS.upd, hxa] using hx
   have := h.low K y hs x hx';simpa [GS.upd, hxa] using this
theorem zjV (l : List Con) (g : GS) : ∀ (j k x : Nat), it l g (j + k) x = it l g k (it l g j x)
 | 0, k, x => by simp [it]
 | j + 1, k, x => by rw [Nat.add_right_comm, it, it, zjV l g j k]
theorem zg6 (l : List Con) (g : GS) : ∀ (j k x : Nat), al l g (j + k) x ↔ al l g j x /\ al l g k (it l g j x)
 | 0, k, x => by simp [it, al]
 | j + 1, k, x => by rw [Nat.add_right_comm, al, al, it, zg6 l g j k, and_assoc]
theorem zwW {l : List Con} {g : GS} {k x j : Nat} (h : al l g k x) (hj : j < k) : g.pre (it l g j x) ≠ none := by
 have := (zg6 l g j (1 + (k - j - 1)) x).1 (by rw [show j + (1 + (k - j - 1)) = k by omega]; exact h);rw [Nat.add_comm 1] at this;exact this.2.1
theorem zon {l : List Con} {g : GS} {k x : Nat} (hk : 0 < k) (ha : al l g k x) (he : it l g k x = x) : ∀ m, al l g m x := by
 intro m
 induction m using Nat.strongRecOn with
 | ind m ih =>
  by_cases h : m <= k
  ·exact ((zg6 l g m (k - m) x).1 (by rw [show m + (k - m) = k by omega]; exact ha)).1
  ·have := ih (m - k) (by omega);rw [show m = k + (m - k) by omega, zg6, he];exact ⟨ha, this⟩
theorem znS {l : List Nat} {n : Nat} (hd : l.Nodup) (h : ∀ x ∈ l, x < n) : l.length <= n := by
 have : l ⊆ List.range n := fun x hx => List.mem_range.2 (h x hx);have h2 := List.Nodup.length_le_of_subset hd this;simpa using h2
theorem zqd {n : Nat} (f : Nat -> Nat) (h : ∀ j, j <= n -> f j < n) : ∃ i j, i < j /\ j <= n /\ f i = f j := by
 apply Classical.byContradiction;intro hno;have hd : ((List.range (n + 1)).map f).Nodup := by
  rw [List.Nodup, List.pairwise_map];refine List.Pairwise.imp_of_mem (fun {a b} ha hb hab e => hno ⟨a, b, hab, ?_, e⟩) List.pairwise_lt_range;have := List.mem_range.1 hb;omega
 have := znS (n := n) hd fun x hx => by
  obtain ⟨j, hj, rfl⟩ := List.mem_map.1 hx;have := List.mem_range.1 hj;exact h j (by omega)
 simp at this;omega
def OkC (n : Nat) (l : List Con) : Prop := ∀ c ∈ l, 0 <= c.A /\ c.A < n /\ 0 <= c.B /\ c.B < n /\ -maxN <= c.N /\ c.N <= maxN
theorem zx8 {n : Nat} {l : List Con} {g : GS} {x : Nat} (hl : OkC n l) (hx : x < n) : bk l g x < n := by
 unfold bk;split
 ·split
  ·rename_i c hc;have := hl c (List.mem_of_getElem? hc);simp only [Con.b];omega
  ·exact hx
 ·exact hx
theorem zrp {n : Nat} {l : List Con} {g : GS} (hl : OkC n l) : ∀ (k : Nat) {x : Nat}, x < n -> it l g k x < n
 | 0, _, hx => hx
 | k + 1, _, hx => zrp hl k (zx8 hl hx)
theorem zni {n : Nat} {l : List Con} {g : GS} (hl : OkC n l) {x : Nat} (hx : x < n) (ha : al l g n x) (hp : g.pre (it l g n x) ≠ none) :
  ∃ k, 0 < k /\ k <= n /\ al l g k (it l g n x) /\ it l g k (it l g n x) = it l g n x := by
 obtain ⟨i, j, hij, hj, e⟩ := zqd (fun j => it l g j x) fun j _ => zrp hl j hx;have hall : al l g (j - i) (it l g i x) := by
  have h1 : al l g (n + 1) x := (zg6 l g n 1 x).2 ⟨ha, hp, trivial⟩;have h2 := (zg6 l g i (n + 1 - i) x).1 (by rw [show i + (n + 1 - i) = n + 1 by omega]; exact h1);exact ((zg6 l g (j - i) (n + 1 - j) _).1 (by rw [show j - i + (n + 1 - j) = n + 1 - i by omega]; exact h2.2)).1
 have hback : it l g (j - i) (it l g i x) = it l g i x := by rw [<- zjV, show i + (j - i) = j by omega]; exact e.symm
 have hinf := zon (by omega) hall hback;have he : it l g n x = it l g (n - i) (it l g i x) := by rw [<- zjV, show i + (n - i) = n by omega]
 refine ⟨j - i, by omega, by omega, ?_, ?_⟩
 ·rw [he];exact ((zg6 l g (n - i) (j - i) _).1 (hinf _)).2
 ·rw [he, <- zjV, Nat.add_comm, zjV, hback]
structure Rank (l : List Con) (g : GS) (L : Nat -> Nat) : Prop where
 pre : ∀ x i c, g.pre x = some i -> l[i]? = some c -> L x <= L c.b + 1
 unset : ∀ x, g.pre x = none -> L x = 0
theorem Rank.alive {l : List Con} {bg : Nat -> Bool} {g : GS} {L : Nat -> Nat} (hi : Inv l bg g) (h : Rank l g L) : ∀ (k : Nat) {x : Nat}, k < L x -> al l g (k + 1) x
 | 0, x, hx => ⟨fun e => by rw [h.unset x e] at hx; omega, trivial⟩
 | k + 1, x, hx => by
  cases hq : g.pre x with
  | none => rw [h.unset x hq] at hx; omega
  | some j =>
   obtain ⟨d, e1, _⟩ := hi.pre x j hq;have := h.pre x j d hq e1;refine ⟨by rw [hq]; simp, ?_⟩;rw [zi1 hq e1];exact Rank.alive hi h k (by omega)
theorem Rank.cycle {n : Nat} {l : List Con} {bg : Nat -> Bool} {g : GS} {L : Nat -> Nat} (hl : OkC n l) (hi : Inv l bg g) (h : Rank l g L) {x : Nat} (hx : x < n) (hL : n < L x) :
  al l g n x /\ ∃ k, 0 < k /\ k <= n /\ al l g k (it l g n x) /\ it l g k (it l g n x) = it l g n x := by
 have h1 := h.alive hi n hL;rw [zg6] at h1;exact ⟨h1.1, zni hl hx h1.1 h1.2.1⟩
def Sol (l : List Con) (y : Nat -> Int) : Prop := ∀ c ∈ l, y c.a <= y c.b + c.N
theorem Sol.along {l : List Con} {bg : Nat -> Bool} {g : GS} {y : Nat -> Int} (hi : Inv l bg g) (h : Sol l y) : ∀ (k x : Nat), al l g k x -> y x <= y (it l g k x) + sm l g k x
 | 0, x, _ => by simp [it, sm]
 | k + 1, x, ha => by
  cases hq : g.pre x with
  | none => exact absurd hq ha.1
  | some j =>
   obtain ⟨d, e1, e2, _⟩ := hi.pre x j hq;have h1 := h d (List.mem_of_getElem? e1);have h2 := ha.2;rw [zi1 hq e1] at h2;have := Sol.along hi h k d.b h2;rw [it, sm, zi1 hq e1, zov hq e1];rw [e2] at h1;omega
theorem Sol.nocycle {l : List Con} {bg : Nat -> Bool} {g : GS} {y : Nat -> Int} (hi : Inv l bg g) (h : Sol l y) {k x : Nat} (hk : 0 < k) (ha : al l g k x) (he : it l g k x = x) : False := by
 obtain ⟨k, rfl⟩ : ∃ j, k = j + 1 := ⟨k - 1, by omega⟩;have h1 := hi.cyc k x ha he;have h2 := h.along hi (k + 1) x ha;rw [he] at h2;omega
def Fix (l : List Con) (g : GS) : Prop := ∀ c ∈ l, g.can c = false
theorem Fix.step {l : List Con} {g : GS} (h : Fix l g) {c : Con} (hc : c ∈ l) (hk : g.kn c.b = true) : g.kn c.a = true /\ g.val c.a <= g.val c.b + c.N := by
 have := h c hc;unfold GS.can at this;rw [hk] at this;cases hka : g.kn c.a with
 | false => rw [hka] at this; simp at this
 | true => rw [hka] at this; simp at this; exact ⟨rfl, this⟩
theorem Fix.sub {l l' : List Con} {bg : Nat -> Bool} {g : GS} (hi : Inv l bg g) (h : Fix l g) (hl : ∀ c, c ∈ l' -> c ∈ l) : Sub l' bg (fun x => g.kn x = true) g.val :=
 ⟨hi.beg, fun _ hc hk => h.step (hl _ hc) hk⟩
theorem Fix.one {l l' : List Con} {bg : Nat -> Bool} {g g' : GS} (hi : Inv l bg g) (h : Fix l g) (hi' : Inv l' bg g') (h' : Fix l' g') (hl : ∀ c, c ∈ l ↔ c ∈ l') (x : Nat) : g.kn x = g'.kn x /\ (g.kn x = true -> g.val x = g'.val x) := by
 have h1 := fun x => hi.low _ _ (h'.sub hi' fun c hc => (hl c).1 hc) x;have h2 := fun x => hi'.low _ _ (h.sub hi fun c hc => (hl c).2 hc) x;refine ⟨?_, fun hx => ?_⟩
 ·rw [Bool.eq_iff_iff];exact ⟨fun e => (h1 x e).1, fun e => (h2 x e).1⟩
 ·have h3 := h1 x hx;have h4 := h2 x h3.1;omega
theorem Fix.along {l : List Con} {bg : Nat -> Bool} {g : GS} (hi : Inv l bg g) (h : Fix l g) : ∀ (k x : Nat), al l g k x -> g.val x = g.val (it l g k x) + sm l g k x
 | 0, x, _ => by simp [it, sm]
 | k + 1, x, ha => by
  cases hq : g.pre x with
  | none => exact absurd hq ha.1
  | some j =>
   obtain ⟨d, e1, e2, e3, e4, e5⟩ := hi.pre x j hq;have h1 := h.step (List.mem_of_getElem? e1) e4;have h2 := ha.2;rw [zi1 hq e1] at h2;have := Fix.along hi h k d.b h2;rw [it, sm, zi1 hq e1, zov hq e1];rw [e2] at h1;omega
end Go.Proofs.YtmlpcgkaonifcaaGreatDoor.Df
namespace Go.Proofs.YtmlpcgkaonifcaaGreatDoor.Df
theorem toNat_inj {a b : Int} (ha : 0 <= a) (hb : 0 <= b) (h : a.toNat = b.toNat) : a = b := by omega
theorem zf6 {g : GS} {i : Nat} {c d : Con} (hr : g.can c = true) (hd : d.b ≠ c.a) (h : (g.upd i c).can d = true) : g.can d = true /\ d.a ≠ c.a \/ g.can d = true /\ (d.a = c.a /\ g.val d.b + d.N < g.val c.b + c.N) := by
 obtain ⟨hb, hc⟩ := GS.zgE.1 hr;obtain ⟨h1, h2⟩ := GS.zgE.1 h;have hkb : g.kn d.b = true := by simpa [GS.upd, hd] using h1
 have hvb : (g.upd i c).val d.b = g.val d.b := by simp [GS.upd, hd]
 by_cases hda : d.a = c.a
 ·right;refine ⟨GS.zgE.2 ⟨hkb, ?_⟩, hda, ?_⟩
  ·rcases h2 with h2 | h2
   ·simp [GS.upd, hda] at h2
   ·rw [hvb] at h2;have : (g.upd i c).val d.a = g.val c.b + c.N := by simp [GS.upd, hda]
    rcases hc with hc | hc
    ·left; rw [hda]; exact hc
    ·right; rw [hda]; omega
  ·rcases h2 with h2 | h2
   ·simp [GS.upd, hda] at h2
   ·rw [hvb] at h2;have : (g.upd i c).val d.a = g.val c.b + c.N := by simp [GS.upd, hda]
    omega
 ·left;refine ⟨GS.zgE.2 ⟨hkb, ?_⟩, hda⟩;rcases h2 with h2 | h2
  ·left; simpa [GS.upd, hda] using h2
  ·right;rw [hvb] at h2;simpa [GS.upd, hda] using h2
def up (L : Nat -> Nat) (a r : Nat) : Nat -> Nat := fun x => if x = a then r else L x
theorem Rank.upd {l : List Con} {g : GS} {L : Nat -> Nat} {i r : Nat} {c : Con} (h : Rank l g L) (hle : ∀ x, L x <= r + 1) (hc : l[i]? = some c) (hL : r <= L c.b) : Rank l (g.upd i c) (up L c.a (r + 1)) := by
 refine ⟨fun x j d hj hd => ?_, fun x hx => ?_⟩
 ·have hmono : L d.b <= up L c.a (r + 1) d.b := by unfold up; split; exact hle _; exact Nat.le_refl _
  by_cases hxa : x = c.a
  ·have : i = j := by simpa [GS.upd, hxa] using hj
   subst this;rw [hc] at hd;cases hd;have h1 : up L c.a (r + 1) x = r + 1 := by simp [up, hxa]
   omega
  ·have hq : g.pre x = some j := by simpa [GS.upd, hxa] using hj
   have := h.pre x j d hq hd;have h1 : up L c.a (r + 1) x = L x := by simp [up, hxa]
   omega
 ·by_cases hxa : x = c.a
  ·simp [GS.upd, hxa] at hx
  ·have hq : g.pre x = none := by simpa [GS.upd, hxa] using hx
   have := h.unset x hq;simpa [up, hxa] using this
def Bd (t : Nat) (g : GS) : Prop := ∀ x, -(maxN * t) <= g.val x /\ g.val x <= maxN * t
theorem Bd.mono {t u : Nat} {g : GS} (h : Bd t g) (htu : t <= u) : Bd u g := fun x => by
 have := h x;have h2 : maxN * (t : Int) <= maxN * (u : Int) := Int.mul_le_mul_of_nonneg_left (by omega) (by decide);omega
theorem Bd.zero (bg : Nat -> Bool) : Bd 0 (GS.zero bg) := fun x => by simp [GS.zero]
theorem Bd.upd {t i : Nat} {g : GS} {c : Con} (h : Bd t g) (h1 : -maxN <= c.N) (h2 : c.N <= maxN) : Bd (t + 1) (g.upd i c) := fun x => by
 have e : maxN * ((t + 1 : Nat) : Int) = maxN * (t : Int) + maxN := by rw [Int.natCast_add, Int.mul_add]; simp
 simp only [GS.upd];split
 ·have := h c.b;omega
 ·have := h x;have : (0 : Int) <= maxN := by decide
  omega
def zdq (l : List Con) (v : Nat) : List Nat := (List.range l.length).filter fun i => match l[i]? with
 | some c => decide (c.b = v)
 | none => false
theorem zgQ {l : List Con} {v i : Nat} : i ∈ zdq l v ↔ ∃ c, l[i]? = some c /\ c.b = v := by
 unfold zdq;rw [List.mem_filter, List.mem_range];constructor
 ·rintro ⟨h1, h2⟩;rw [List.getElem?_eq_getElem h1] at h2;exact ⟨_, List.getElem?_eq_getElem h1, by simpa using h2⟩
 ·rintro ⟨c, h1, h2⟩;exact ⟨(List.getElem?_eq_some_iff.1 h1).1, by rw [h1]; simpa using h2⟩
theorem zlZ (l : List Con) (v : Nat) : (zdq l v).length <= l.length := by
 have := List.length_filter_le (fun i => match l[i]? with | some c => decide (c.b = v) | none => false) (List.range l.length);simpa [zdq] using this
def zoJ (l : List Con) (st : GS × List Int) (i : Nat) : GS × List Int := match l[i]? with
 | some c => if (!st.1.kn c.a || decide (st.1.val c.b + c.N < st.1.val c.a)) = true then (st.1.upd i c, st.2 ++ [c.A]) else st
 | none => st
def zjv (l : List Con) (st : GS × List Int) (v : Int) : GS × List Int := (zdq l v.toNat).foldl (zoJ l) st
def zfq (l : List Con) (g : GS) (todo : List Int) : GS × List Int := todo.foldl (zjv l) (g, [])
structure PM (n : Nat) (l : List Con) (bg : Nat -> Bool) (r : Nat) (all rest : List Int) (v : Nat) (es : List Nat) (t : Nat) (st : GS × List Int) (L : Nat -> Nat) : Prop where
 inv : Inv l bg st.1
 rank : Rank l st.1 L
 le : ∀ x, L x <= r + 1
 all : ∀ x ∈ all, 0 <= x /\ x < n /\ st.1.kn x.toNat = true /\ r <= L x.toNat
 nx : ∀ x ∈ st.2, 0 <= x /\ x < n /\ st.1.kn x.toNat = true /\ L x.toNat = r + 1
 viol : ∀ i c, l[i]? = some c -> st.1.can c = true -> c.B ∈ rest \/ c.B ∈ st.2 \/ (c.b = v /\ i ∈ es)
 bd : Bd t st.1
 len : st.2.length <= t
theorem PM.mono {n l bg r all rest v es t u st L} (h : PM n l bg r all rest v es t st L) (htu : t <= u) : PM n l bg r all rest v es u st L :=
 { h with bd := h.bd.mono htu, len := Nat.le_trans h.len htu }
theorem PM.step {n : Nat} {l : List Con} {bg r all rest es t st L} {v i : Nat} {c : Con} (hl : OkC n l) (hc : l[i]? = some c) (hv : (v : Int) ∈ all) (hcv : c.b = v) (h : PM n l bg r all rest v (i :: es) t st L) :
  ∃ L', PM n l bg r all rest v es (t + 1) (zoJ l st i) L' := by
 obtain ⟨g, nx⟩ := st;obtain ⟨hv0, hvn, hvk, hvL⟩ := h.all v hv;simp only [Int.toNat_natCast] at hvk hvL;have hcm := List.mem_of_getElem? hc;obtain ⟨ha0, han, hb0, hbn, hN1, hN2⟩ := hl c hcm;by_cases hcan : g.can c = true
 ·have e : zoJ l (g, nx) i = (g.upd i c, nx ++ [c.A]) := by
   unfold zoJ;rw [hc];simp only;rw [if_pos];unfold GS.can at hcan;rw [hcv, hvk] at hcan;simpa [hcv] using hcan
  rw [e];have hkn : ∀ x, g.kn x = true -> (g.upd i c).kn x = true := fun x hx => by simp [GS.upd, hx]
  have hmono : ∀ x, L x <= up L c.a (r + 1) x := fun x => by unfold up; split; exact h.le _; exact Nat.le_refl _
  refine ⟨up L c.a (r + 1), h.inv.upd hc hcan, h.rank.upd h.le hc (by rw [hcv]; exact hvL), fun x => ?_, fun x hx => ?_, fun x hx => ?_, fun j d hd hj => ?_, h.bd.upd hN1 hN2, ?_⟩
  ·unfold up; split; exact Nat.le_refl _; exact h.le x
  ·obtain ⟨h1, h2, h3, h4⟩ := h.all x hx;exact ⟨h1, h2, hkn _ h3, Nat.le_trans h4 (hmono _)⟩
  ·rcases List.mem_append.1 hx with hx | hx
   ·obtain ⟨h1, h2, h3, h4⟩ := h.nx x hx;refine ⟨h1, h2, hkn _ h3, ?_⟩;unfold up; split; rfl; exact h4
   ·simp only [List.mem_singleton] at hx;subst hx;exact ⟨ha0, han, by simp [GS.upd, Con.a], by simp [up, Con.a]⟩
  ·obtain ⟨_, _, hdb0, _⟩ := hl d (List.mem_of_getElem? hd);by_cases hda : d.b = c.a
   ·right; left;have : d.B = c.A := toNat_inj hdb0 ha0 hda;simp [this]
   ·have hold : g.can d = true := by
     rcases zf6 hcan hda hj with h1 | h1
     ·exact h1.1
     ·exact h1.1
    rcases h.viol j d hd hold with h1 | h1 | ⟨h1, h2⟩
    ·exact .inl h1
    ·exact .inr (.inl (by simp [h1]))
    ·rcases List.mem_cons.1 h2 with rfl | h2
     ·rw [hc] at hd;cases hd;rcases zf6 hcan hda hj with h3 | h3
      ·exact absurd rfl h3.2
      ·have := h3.2.2; omega
     ·exact .inr (.inr ⟨h1, h2⟩)
  ·have := h.len;simp only [List.length_append, List.length_singleton] at this ⊢;omega
 ·have e : zoJ l (g, nx) i = (g, nx) := by
   unfold zoJ;rw [hc];simp only;rw [if_neg];unfold GS.can at hcan;rw [hcv, hvk] at hcan;simpa [hcv] using hcan
  rw [e];refine ⟨L, h.inv, h.rank, h.le, h.all, h.nx, fun j d hd hj => ?_, h.bd.mono (by omega), Nat.le_trans h.len (by omega)⟩;rcases h.viol j d hd hj with h1 | h1 | ⟨h1, h2⟩
  ·exact .inl h1
  ·exact .inr (.inl h1)
  ·rcases List.mem_cons.1 h2 with rfl | h2
   ·rw [hc] at hd;cases hd;exact absurd hj hcan
   ·exact .inr (.inr ⟨h1, h2⟩)
theorem PM.next {n : Nat} {l : List Con} {bg r all rest t st L} {u : Nat} {v : Int} (hl : OkC n l) (h : PM n l bg r all (v :: rest) u [] t st L) : PM n l bg r all rest v.toNat (zdq l v.toNat) t st L := by
 refine ⟨h.inv, h.rank, h.le, h.all, h.nx, fun i c hc hj => ?_, h.bd, h.len⟩;rcases h.viol i c hc hj with h1 | h1 | h1
 ·rcases List.mem_cons.1 h1 with h1 | h1
  ·exact .inr (.inr ⟨by rw [Con.b, h1], zgQ.2 ⟨c, hc, by rw [Con.b, h1]⟩⟩)
  ·exact .inl h1
 ·exact .inr (.inl h1)
 ·cases h1.2
structure PI (n : Nat) (l : List Con) (bg : Nat -> Bool) (r : Nat) (todo : List Int) (t : Nat) (g : GS) (L : Nat -> Nat) : Prop where
 inv : Inv l bg g
 rank : Rank l g L
 le : ∀ x, L x <= r
 old : ∀ x ∈ todo, 0 <= x /\ x < n /\ g.kn x.toNat = true /\ L x.toNat = r
 viol : ∀ c ∈ l, g.can c = true -> c.B ∈ todo
 bd : Bd t g
theorem PI.start {n l bg r todo t g L} (h : PI n l bg r todo t g L) : PM n l bg r todo todo 0 [] t (g, []) L where
 inv := h.inv
 rank := h.rank
 le x := Nat.le_trans (h.le x) (by omega)
 all x hx := let ⟨a, b, c, d⟩ := h.old x hx; ⟨a, b, c, by omega⟩
 nx x hx := by cases hx
 viol i c hc hj := .inl (h.viol c (List.mem_of_getElem? hc) hj)
 bd := h.bd
 len := by simp
theorem PM.fin {n l bg r all v t st L} (h : PM n l bg r all [] v [] t st L) {todo : List Int} (ht : ∀ x, x ∈ todo ↔ x ∈ st.2) : PI n l bg (r + 1) todo t st.1 L where
 inv := h.inv
 rank := h.rank
 le := h.le
 old x hx := h.nx x ((ht x).1 hx)
 viol c hc hj := by
  obtain ⟨i, hi⟩ := List.getElem?_of_mem hc;rcases h.viol i c hi hj with h1 | h1 | ⟨_, h1⟩
  ·cases h1
  ·exact (ht _).2 h1
  ·cases h1
 bd := h.bd
theorem PM.done {n l bg r all v t g L} (h : PM n l bg r all [] v [] t (g, []) L) : Fix l g := fun c hc => by
 cases hq : g.can c with
 | false => rfl
 | true =>
  obtain ⟨i, hi⟩ := List.getElem?_of_mem hc;rcases h.viol i c hi hq with h1 | h1 | ⟨_, h1⟩ <;> cases h1
def Outcome (n : Nat) (l : List Con) (bg : Nat -> Bool) (t : Nat) (g : GS) (ret : Int) : Prop :=
 Inv l bg g /\ Bd t g /\ ((ret = -1 /\ Fix l g) \/ (0 <= ret /\ ret < n /\ ∃ L, Rank l g L /\ n < L ret.toNat))
theorem PI.zero {n : Nat} {l : List Con} (hl : OkC n l) {bg : Nat -> Bool} {todo : List Int} (ht : ∀ x, x ∈ todo ↔ 0 <= x /\ x < n /\ bg x.toNat = true) : PI n l bg 0 todo 0 (GS.zero bg) (fun _ => 0) where
 inv := .zero l bg
 rank := ⟨fun _ _ _ h => by simp [GS.zero] at h, fun _ _ => rfl⟩
 le _ := Nat.le_refl _
 old x hx := let ⟨a, b, c⟩ := (ht x).1 hx; ⟨a, b, c, rfl⟩
 viol c hc hj := by
  obtain ⟨_, _, h3, h4, _⟩ := hl c hc;exact (ht _).2 ⟨h3, h4, (GS.zgE.1 hj).1⟩
 bd := .zero bg
def zwe (l : List Con) (st : GS × Int) (i : Nat) : GS × Int := match l[i]? with
 | some c => if st.1.can c = true then (st.1.upd i c, c.A) else st
 | none => st
structure SM (n : Nat) (l : List Con) (bg : Nat -> Bool) (r i t : Nat) (st : GS × Int) (L : Nat -> Nat) : Prop where
 inv : Inv l bg st.1
 rank : Rank l st.1 L
 le : ∀ x, L x <= r + 1
 last : (st.2 = -1 /\ ∀ x, L x <= r) \/ (0 <= st.2 /\ st.2 < n /\ L st.2.toNat = r + 1)
 viol : ∀ j c, l[j]? = some c -> st.1.can c = true -> (j < i -> L c.b = r + 1) /\ r <= L c.b
 bd : Bd t st.1
theorem SM.step {n : Nat} {l : List Con} {bg r i t st L} {c : Con} (hl : OkC n l) (hc : l[i]? = some c) (h : SM n l bg r i t st L) : ∃ L', SM n l bg r (i + 1) (t + 1) (zwe l st i) L' := by
 obtain ⟨g, last⟩ := st;obtain ⟨ha0, han, hb0, hbn, hN1, hN2⟩ := hl c (List.mem_of_getElem? hc);by_cases hcan : g.can c = true
 ·have e : zwe l (g, last) i = (g.upd i c, c.A) := by
   unfold zwe;rw [hc];simp [hcan]
  rw [e];have hmono : ∀ x, L x <= up L c.a (r + 1) x := fun x => by unfold up; split; exact h.le _; exact Nat.le_refl _
  refine ⟨up L c.a (r + 1), h.inv.upd hc hcan, h.rank.upd h.le hc (h.viol i c hc hcan).2, fun x => ?_, .inr ⟨ha0, han, by simp [up, Con.a]⟩, fun j d hd hj => ?_, h.bd.upd hN1 hN2⟩
  ·unfold up; split; exact Nat.le_refl _; exact h.le x
  ·by_cases hda : d.b = c.a
   ·have e2 : up L c.a (r + 1) d.b = r + 1 := by simp [up, hda]
    rw [e2];exact ⟨fun _ => rfl, by omega⟩
   ·have hold : g.can d = true := by
     rcases zf6 hcan hda hj with h1 | h1
     ·exact h1.1
     ·exact h1.1
    obtain ⟨h1, h2⟩ := h.viol j d hd hold;have e2 : up L c.a (r + 1) d.b = L d.b := by simp [up, hda]
    rw [e2];refine ⟨fun hji => ?_, h2⟩;by_cases hji2 : j < i
    ·exact h1 hji2
    ·obtain rfl : j = i := by omega
     rw [hc] at hd;cases hd;rcases zf6 hcan hda hj with h3 | h3
     ·exact absurd rfl h3.2
     ·have := h3.2.2; omega
 ·have e : zwe l (g, last) i = (g, last) := by
   unfold zwe;rw [hc];simp [hcan]
  rw [e];refine ⟨L, h.inv, h.rank, h.le, h.last, fun j d hd hj => ?_, h.bd.mono (by omega)⟩;obtain ⟨h1, h2⟩ := h.viol j d hd hj;refine ⟨fun hji => ?_, h2⟩;by_cases hji2 : j < i
  ·exact h1 hji2
  ·obtain rfl : j = i := by omega
   rw [hc] at hd;cases hd;exact absurd hj hcan
structure SI (n : Nat) (l : List Con) (bg : Nat -> Bool) (r t : Nat) (g : GS) (L : Nat -> Nat) : Prop where
 inv : Inv l bg g
 rank : Rank l g L
 le : ∀ x, L x <= r
 viol : ∀ c ∈ l, g.can c = true -> r <= L c.b
 bd : Bd t g
theorem SI.zero {n : Nat} {l : List Con} (bg : Nat -> Bool) : SI n l bg 0 0 (GS.zero bg) (fun _ => 0) :=
 ⟨.zero l bg, ⟨fun _ _ _ h => by simp [GS.zero] at h, fun _ _ => rfl⟩, fun _ => Nat.le_refl _, fun _ _ _ => Nat.le_refl _, .zero bg⟩
theorem SI.start {n l bg r t g L} (h : SI n l bg r t g L) : SM n l bg r 0 t (g, -1) L :=
 ⟨h.inv, h.rank, fun x => Nat.le_trans (h.le x) (by omega), .inl ⟨rfl, h.le⟩, fun j c hc hj => ⟨fun hh => absurd hh (by omega), h.viol c (List.mem_of_getElem? hc) hj⟩, h.bd⟩
theorem SM.fin {n l bg r t st L} (h : SM n l bg r l.length t st L) : SI n l bg (r + 1) t st.1 L :=
 ⟨h.inv, h.rank, h.le, fun c hc hj => by
  obtain ⟨i, hi⟩ := List.getElem?_of_mem hc;have := (h.viol i c hi hj).1 (List.getElem?_eq_some_iff.1 hi).1;omega, h.bd⟩
theorem SM.out {n l bg r t st L} (h : SM n l bg r l.length t st L) (hr : n <= r) : Outcome n l bg t st.1 st.2 := by
 refine ⟨h.inv, h.bd, ?_⟩;rcases h.last with ⟨h1, h2⟩ | ⟨h1, h2, h3⟩
 ·left;refine ⟨h1, fun c hc => ?_⟩;cases hq : st.1.can c with
  | false => rfl
  | true =>
   obtain ⟨i, hi⟩ := List.getElem?_of_mem hc;have := (h.viol i c hi hq).1 (List.getElem?_eq_some_iff.1 hi).1;have := h2 c.b;omega
 ·right;exact ⟨h1, h2, L, h.rank, by omega⟩
end Go.Proofs.YtmlpcgkaonifcaaGreatDoor.Df
namespace Go.Proofs.YtmlpcgkaonifcaaGreatDoor.Df
def lst (n : Nat) (f : Nat -> Int) : List Int := (List.range n).map f
theorem zaG (n : Nat) (f : Nat -> Int) : (lst n f).length = n := by simp [lst]
theorem zaD (n : Nat) (f : Nat -> Int) (i : Nat) (h : i < (lst n f).length) : (lst n f)[i] = f i := by simp [lst]
theorem zcC (n : Nat) (f : Nat -> Int) (i : Nat) (x : Int) : (lst n f).set i x = lst n (fun j => if j = i then x else f j) := by
 apply List.ext_getElem?;intro j;simp only [lst, List.getElem?_set, List.length_map, List.length_range, List.getElem?_map];by_cases hj : i = j
 ·subst hj;by_cases hi : i < n <;> simp [hi]
 ·rw [if_neg hj];by_cases hj2 : j < n
  ·simp [hj2, Ne.symm hj]
  ·simp [hj2]
theorem zq2 {n : Nat} {f g : Nat -> Int} (h : ∀ i, i < n -> f i = g i) : lst n f = lst n g := by
 unfold lst;exact List.map_congr_left fun i hi => h i (List.mem_range.1 hi)
theorem zq1 (n : Nat) (v : Int) : List.replicate n v = lst n fun _ => v := by
 apply List.ext_getElem?;intro j;by_cases hj : j < n <;> simp [lst, hj]
def zgC (n : Nat) : Nat -> Bool := fun x => decide (x < n)
def zya (b : Nat) : Nat -> Bool := fun x => decide (x = b)
structure Great (n : Nat) (l : List Con) (f : Nat -> Int) : Prop where
 sol : Sol l f
 neg : ∀ x, x < n -> f x <= 0
 tight : ∀ x, x < n -> f x = 0 \/ ∃ c ∈ l, c.a = x /\ f c.b + c.N = f x
 most : ∀ y, Sol l y -> (∀ x, x < n -> y x <= 0) -> ∀ x, x < n -> y x <= f x
theorem OkC.ab {n : Nat} {l : List Con} (h : OkC n l) {c : Con} (hc : c ∈ l) : c.a < n /\ c.b < n := by
 obtain ⟨h1, h2, h3, h4, _⟩ := h c hc;simp only [Con.a, Con.b];omega
theorem ztw {n : Nat} {l : List Con} {g : GS} (hl : OkC n l) (hi : Inv l (zgC n) g) (hf : Fix l g) : Great n l g.val where
 sol c hc := (hf.step hc (hi.beg _ (by simp [zgC, (hl.ab hc).2])).1).2
 neg x hx := (hi.beg x (by simp [zgC, hx])).2
 tight x hx := by
  have hk := (hi.beg x (by simp [zgC, hx])).1;cases hq : g.pre x with
  | none => exact .inl (hi.root x hk hq).2
  | some i =>
   obtain ⟨c, h1, h2, h3, h4, h5⟩ := hi.pre x i hq;have hm := List.mem_of_getElem? h1;have := (hf.step hm h4).2;rw [h2] at this;exact .inr ⟨c, hm, h2, by omega⟩
 most y hy hn x hx := (hi.low (fun x => x < n) y ⟨fun z hz => ⟨by simpa [zgC] using hz, hn z (by simpa [zgC] using hz)⟩, fun c hc _ => ⟨(hl.ab hc).1, hy c hc⟩⟩ x (hi.beg x (by simp [zgC, hx])).1).2
theorem Great.one {n : Nat} {l l' : List Con} {f f' : Nat -> Int} (h : Great n l f) (h' : Great n l' f') (hl : ∀ c, c ∈ l ↔ c ∈ l') : lst n f = lst n f' := by
 refine zq2 fun x hx => ?_;have h1 := h.most f' (fun c hc => h'.sol c ((hl c).1 hc)) h'.neg x hx;have h2 := h'.most f (fun c hc => h.sol c ((hl c).2 hc)) h.neg x hx;omega
theorem Outcome.unsat {n : Nat} {l : List Con} {bg t g ret} (hl : OkC n l) (h : Outcome n l bg t g ret) (hr : ¬ ret = -1) : ∀ y, ¬ Sol l y := fun y hy => by
 obtain ⟨hi, _, h1 | ⟨h1, h2, L, h3, h4⟩⟩ := h
 ·exact hr h1.1
 ·obtain ⟨_, k, h5, h6, h7, h8⟩ := h3.cycle hl hi (by omega) h4;exact hy.nocycle hi h5 h7 h8
def zjd (d : Int) (g : GS) (x : Nat) : Int := match g.pre x with
 | some i => (i : Int)
 | none => d
def pl (l : List Con) (d : Int) (g : GS) : Nat -> Nat -> List Int
 | 0, _ => []
 | k + 1, x => zjd d g x :: pl l d g k (bk l g x)
theorem znM (l : List Con) (d : Int) (g : GS) : ∀ k x, (pl l d g k x).length = k
 | 0, _ => rfl
 | k + 1, x => by simp [pl, znM l d g k]
theorem zqx (l : List Con) (d : Int) (g : GS) : ∀ k x, pl l d g (k + 1) x = pl l d g k x ++ [zjd d g (it l g k x)]
 | 0, x => rfl
 | k + 1, x => by rw [pl, zqx l d g k, pl, it]; rfl
def zoB (l : List Con) : Int -> List Int -> Option (Int × Int)
 | at', [] => some (0, at')
 | at', i :: r => if 0 <= i then match l[i.toNat]? with
  | some c => if c.B = at' then (zoB l c.A r).map fun p => (p.1 + c.N, p.2) else none
  | none => none
  else none
theorem zik (l : List Con) : ∀ (a b : List Int) (u : Int) (s v : Int), zoB l u a = some (s, v) -> zoB l u (a ++ b) = (zoB l v b).map fun p => (p.1 + s, p.2)
 | [], b, u, s, v, h => by
  simp only [zoB, Option.some.injEq, Prod.mk.injEq] at h;obtain ⟨rfl, rfl⟩ := h;simp
 | i :: r, b, u, s, v, h => by
  simp only [zoB, List.cons_append] at h ⊢;split at h
  ·rename_i h0;rw [if_pos h0];split at h
   ·rename_i c hc;split at h
    ·rename_i hb;rw [if_pos hb];cases hq : zoB l c.A r with
     | none => rw [hq] at h; cases h
     | some p =>
      obtain ⟨s', v'⟩ := p;rw [hq] at h;simp only [Option.map_some, Option.some.injEq, Prod.mk.injEq] at h;obtain ⟨rfl, rfl⟩ := h;rw [zik l r b c.A s' v' hq];cases zoB l v' b <;> simp [Int.add_assoc]
    ·cases h
   ·cases h
  ·cases h
theorem zuu {n : Nat} {l : List Con} {bg : Nat -> Bool} {g : GS} (d : Int) (hl : OkC n l) (hi : Inv l bg g) : ∀ (k x : Nat), al l g k x -> zoB l ((it l g k x : Nat) : Int) (pl l d g k x).reverse = some (sm l g k x, (x : Int))
 | 0, x, _ => by simp [pl, zoB, it, sm]
 | k + 1, x, ha => by
  cases hq : g.pre x with
  | none => exact absurd hq ha.1
  | some j =>
   obtain ⟨c, e1, e2, e3, e4, e5⟩ := hi.pre x j hq;have h2 := ha.2;rw [zi1 hq e1] at h2;have ih := zuu d hl hi k c.b h2;obtain ⟨h3, h4, h5, h6, _⟩ := hl c (List.mem_of_getElem? e1);rw [pl, it, sm, zi1 hq e1, zov hq e1, List.reverse_cons, zik l _ _ _ _ _ ih];simp only [zjd, hq, zoB];rw [if_pos (by omega), Int.toNat_natCast, e1];simp only;rw [if_pos (by simp only [Con.b]; omega)];simp only [Option.map_some, Int.zero_add, Option.some.injEq, Prod.mk.injEq];exact ⟨trivial, by rw [<- e2]; simp only [Con.a]; omega⟩
theorem zuB {l : List Con} {bg : Nat -> Bool} {g : GS} (d : Int) (hi : Inv l bg g) : ∀ (k x : Nat), al l g k x -> ∀ i ∈ pl l d g k x, 0 <= i /\ i < l.length
 | 0, x, _, i, hm => by cases hm
 | k + 1, x, ha, i, hm => by
  cases hq : g.pre x with
  | none => exact absurd hq ha.1
  | some j =>
   obtain ⟨c, e1, _⟩ := hi.pre x j hq;rcases List.mem_cons.1 hm with rfl | hm
   ·have := (List.getElem?_eq_some_iff.1 e1).1;simp only [zjd, hq];omega
   ·exact zuB d hi k _ ha.2 i hm
theorem zob {P : Nat -> Prop} {k : Nat} (hk : 0 < k) (h : P k) : ∃ m, 0 < m /\ m <= k /\ P m /\ ∀ j, 0 < j -> j < m -> ¬ P j := by
 induction k using Nat.strongRecOn with
 | ind k ih =>
  by_cases hx : ∃ j, 0 < j /\ j < k /\ P j
  ·obtain ⟨j, h1, h2, h3⟩ := hx;obtain ⟨m, a, b, c, d⟩ := ih j h2 h1 h3;exact ⟨m, a, by omega, c, d⟩
  ·exact ⟨k, hk, Nat.le_refl k, h, fun j h1 h2 h3 => hx ⟨j, h1, h2, h3⟩⟩
structure CycOK (n : Nat) (l : List Con) (C : List Int) : Prop where
 pos : 1 <= C.length
 le : C.length <= n
 mem : ∀ i ∈ C, 0 <= i /\ i < l.length
 sum : ∃ s u, zoB l u C = some (s, u) /\ s < 0
theorem Outcome.circle {n : Nat} {l : List Con} {bg t g ret} (d : Int) (hl : OkC n l) (h : Outcome n l bg t g ret) (hr : ¬ ret = -1) :
  al l g n ret.toNat /\ ∃ m, 0 < m /\ m <= n /\ al l g m (it l g n ret.toNat) /\ it l g m (it l g n ret.toNat) = it l g n ret.toNat /\ (∀ j, 0 < j -> j < m -> it l g j (it l g n ret.toNat) ≠ it l g n ret.toNat) /\ CycOK n l (pl l d g m (it l g n ret.toNat)).reverse := by
 obtain ⟨hi, _, h1 | ⟨h1, h2, L, h3, h4⟩⟩ := h
 ·exact absurd h1.1 hr
 ·obtain ⟨ha, k, h5, h6, h7, h8⟩ := h3.cycle hl hi (by omega) h4;refine ⟨ha, ?_⟩;obtain ⟨m, a, b, c, e⟩ := zob (P := fun j => it l g j (it l g n ret.toNat) = it l g n ret.toNat) h5 h8;have hal := zon h5 h7 h8 m;refine ⟨m, a, by omega, hal, c, e, ⟨by simp [znM]; omega, by simp [znM]; omega, fun i hm => zuB d hi m _ hal i (by simpa using hm), ?_⟩⟩;have hs := zuu d hl hi m _ hal;rw [c] at hs;refine ⟨_, _, hs, ?_⟩;obtain ⟨q, rfl⟩ : ∃ q, m = q + 1 := ⟨m - 1, by omega⟩;exact hi.cyc q _ hal c
end Go.Proofs.YtmlpcgkaonifcaaGreatDoor.Df
namespace Go.Proofs.YtmlpcgkaonifcaaGreatDoor.Df
theorem PM.steps {n : Nat} {l : List Con} {bg r all rest} {v : Nat} (hl : OkC n l) (hv : (v : Int) ∈ all) : ∀ (es : List Nat) {t st L}, (∀ i ∈ es, i ∈ zdq l v) -> PM n l bg r all rest v es t st L ->
  ∃ L', PM n l bg r all rest v [] (t + es.length) (es.foldl (zoJ l) st) L'
 | [], t, st, L, _, h => ⟨L, h⟩
 | i :: es, t, st, L, hm, h => by
  obtain ⟨c, h1, h2⟩ := zgQ.1 (hm i (by simp));obtain ⟨L1, h3⟩ := h.step hl h1 hv h2;obtain ⟨L2, h4⟩ := PM.steps hl hv es (fun j hj => hm j (by simp [hj])) h3;refine ⟨L2, ?_⟩;rw [List.length_cons, <- zzA, Nat.add_right_comm];exact h4
theorem PM.visit {n : Nat} {l : List Con} {bg r all rest u t st L} {v : Int} (hl : OkC n l) (hv : v ∈ all) (h : PM n l bg r all (v :: rest) u [] t st L) : ∃ L', PM n l bg r all rest v.toNat [] (t + l.length) (zjv l st v) L' := by
 have hv0 := (h.all v hv).1;obtain ⟨L', h1⟩ := PM.steps hl (by rw [Int.toNat_of_nonneg hv0]; exact hv) (zdq l v.toNat) (fun _ hi => hi) (h.next hl);exact ⟨L', h1.mono (by have := zlZ l v.toNat; omega)⟩
theorem PM.zuO {n : Nat} {l : List Con} {bg r all} (hl : OkC n l) : ∀ (rest : List Int) {u t st L}, (∀ x ∈ rest, x ∈ all) -> PM n l bg r all rest u [] t st L -> ∃ L' u', PM n l bg r all [] u' [] (t + rest.length * l.length) (rest.foldl (zjv l) st) L'
 | [], u, t, st, L, _, h => ⟨L, u, by simpa using h⟩
 | v :: rest, u, t, st, L, hm, h => by
  obtain ⟨L1, h1⟩ := h.visit hl (hm v (by simp));obtain ⟨L2, u2, h2⟩ := PM.zuO hl rest (fun x hx => hm x (by simp [hx])) h1;refine ⟨L2, u2, ?_⟩;rw [List.length_cons, Nat.succ_mul, Nat.add_comm (rest.length * l.length), <- zzA];exact h2
theorem PI.round {n : Nat} {l : List Con} {bg r todo t g L} (hl : OkC n l) (h : PI n l bg r todo t g L) : ∃ L' u, PM n l bg r todo [] u [] (t + todo.length * l.length) (zfq l g todo) L' :=
 PM.zuO hl todo (fun _ hx => hx) h.start
def zsx (nxt : List Int -> List Int) (l : List Con) : Nat -> GS -> List Int -> GS × Int
 | 0, g, todo => (g, todo.headD (-1))
 | f + 1, g, todo => if (zfq l g todo).2 = [] then ((zfq l g todo).1, -1) else zsx nxt l f (zfq l g todo).1 (nxt (zfq l g todo).2)
theorem znJ {n : Nat} {l : List Con} {bg} {nxt : List Int -> List Int} (hl : OkC n l) (hn : ∀ z x, x ∈ nxt z ↔ x ∈ z) (hd : ∀ z, (∀ x ∈ z, 0 <= x /\ x < (n : Int)) -> (nxt z).length <= n) :
  ∀ (f r : Nat) {todo t g L}, PI n l bg r todo t g L -> todo.length <= n -> (f = 0 -> todo ≠ []) -> n < r + f -> Outcome n l bg (t + f * (n * l.length)) (zsx nxt l f g todo).1 (zsx nxt l f g todo).2
 | 0, r, todo, t, g, L, h, hlen, h0, hr => by
  cases todo with
  | nil => exact absurd rfl (h0 rfl)
  | cons v todo =>
   obtain ⟨h1, h2, h3, h4⟩ := h.old v (by simp);rw [zsx];refine ⟨h.inv, h.bd.mono (by omega), .inr ⟨h1, h2, L, h.rank, ?_⟩⟩;show n < L v.toNat;omega
 | f + 1, r, todo, t, g, L, h, hlen, h0, hr => by
  obtain ⟨L', u, h1⟩ := h.round hl;have hk : t + todo.length * l.length <= t + n * l.length := Nat.add_le_add_left (Nat.mul_le_mul_right _ hlen) t;have h2 := h1.mono hk;rw [zsx];by_cases he : (zfq l g todo).2 = []
  ·rw [if_pos he];have e2 : zfq l g todo = ((zfq l g todo).1, []) := by rw [<- he]
   have h3 : PM n l bg r todo [] u [] (t + n * l.length) ((zfq l g todo).1, []) L' := by rw [<- e2]; exact h2
   exact ⟨h3.inv, h3.bd.mono (by rw [Nat.succ_mul]; omega), .inl ⟨rfl, h3.done⟩⟩
  ·rw [if_neg he];have h3 := h2.fin (todo := nxt (zfq l g todo).2) (fun x => hn _ x);have h4 := znJ hl hn hd f (r + 1) h3 (hd _ fun x hx => let ⟨a, b, _⟩ := h2.nx x hx; ⟨a, b⟩) (fun _ e => by
    obtain ⟨x, hx⟩ := List.exists_mem_of_ne_nil _ he;have := (hn _ x).2 hx;rw [e] at this;cases this) (by omega)
   rw [Nat.succ_mul, Nat.add_comm (f * _), <- zzA];exact h4
theorem SM.steps {n : Nat} {l : List Con} {bg r t g L} (hl : OkC n l) (h : SI n l bg r t g L) : ∀ i, i <= l.length -> ∃ L', SM n l bg r i (t + i) ((List.range i).foldl (zwe l) (g, -1)) L'
 | 0, _ => ⟨L, h.start⟩
 | i + 1, hi => by
  obtain ⟨L', h1⟩ := SM.steps hl h i (by omega);obtain ⟨L2, h2⟩ := h1.step hl (List.getElem?_eq_getElem (by omega));refine ⟨L2, ?_⟩;rw [List.range_succ, List.foldl_append];exact h2
end Go.Proofs.YtmlpcgkaonifcaaGreatDoor.Df
namespace Go.Proofs.YtmlpcgkaonifcaaGreatDoor.Df
def okB (n : Int) (c : Con) : Bool := decide (0 <= c.A) && decide (0 <= c.B) && decide (c.A < n) && decide (c.B < n) && decide (-maxN <= c.N) && decide (c.N <= maxN)
def rightL (l : List Con) (n : Int) : Bool := decide (0 <= n) && decide (n <= 200) && decide (l.length <= 2000) && l.all (okB n)
theorem zhk {l : List Con} {n : Int} (h : rightL l n = true) : n = (n.toNat : Int) /\ n.toNat <= 200 /\ l.length <= 2000 /\ OkC n.toNat l := by
 simp only [rightL, Bool.and_eq_true, decide_eq_true_eq, List.all_eq_true] at h;obtain ⟨⟨⟨h1, h2⟩, h3⟩, h4⟩ := h;refine ⟨by omega, by omega, h3, fun c hc => ?_⟩;have := h4 c hc;simp only [okB, Bool.and_eq_true, decide_eq_true_eq] at this;omega
def bnd (n k : Nat) : Int := maxN * (((n + 1) * (n * k) : Nat) : Int)
def SolveSpec (l : List Con) (n : Int) (V C : List Int) (E : Int) : Prop :=
 (rightL l n = false /\ V = [] /\ C = [] /\ E = 1) \/
 (rightL l n = true /\ ((∃ f, Great n.toNat l f /\ (∀ x, -bnd n.toNat l.length <= f x /\ f x <= bnd n.toNat l.length) /\ V = lst n.toNat f /\ C = [] /\ E = 0) \/
   ((∀ y, ¬ Sol l y) /\ V = [] /\ E = 23 /\ CycOK n.toNat l C)))
theorem SolveSpec.one {l l' : List Con} {n : Int} {V C V' C' : List Int} {E E' : Int} (h : SolveSpec l n V C E) (h' : SolveSpec l' n V' C' E') (hl : ∀ c, c ∈ l ↔ c ∈ l') (hr : rightL l n = rightL l' n) : E = E' /\ V = V' := by
 rcases h with ⟨a1, rfl, _, rfl⟩ | ⟨a1, h⟩ <;> rcases h' with ⟨b1, rfl, _, rfl⟩ | ⟨b1, h'⟩
 ·exact ⟨rfl, rfl⟩
 ·rw [hr, b1] at a1; cases a1
 ·rw [hr, b1] at a1; cases a1
 ·rcases h with ⟨f, g1, _, rfl, _, rfl⟩ | ⟨g1, rfl, rfl, _⟩ <;> rcases h' with ⟨f', g1', _, rfl, _, rfl⟩ | ⟨g1', rfl, rfl, _⟩
  ·exact ⟨rfl, g1.one g1' hl⟩
  ·exact absurd (fun c hc => g1.sol c ((hl c).2 hc)) (g1' f)
  ·exact absurd (fun c hc => g1'.sol c ((hl c).1 hc)) (g1 f')
  ·exact ⟨rfl, rfl⟩
theorem SolveSpec.ok {l : List Con} {n : Int} {V C : List Int} {E : Int} (h : SolveSpec l n V C E) (hr : rightL l n = true) : (E = 0 ↔ ∃ y, Sol l y) /\ (E = 0 \/ E = 23) := by
 rcases h with ⟨h1, _⟩ | ⟨_, ⟨f, g, _, _, _, rfl⟩ | ⟨g, _, rfl, _⟩⟩
 ·rw [hr] at h1; cases h1
 ·exact ⟨⟨fun _ => ⟨f, g.sol⟩, fun _ => rfl⟩, .inl rfl⟩
 ·exact ⟨⟨fun e => absurd e (by decide), fun ⟨y, hy⟩ => absurd hy (g y)⟩, .inr rfl⟩
def MostSpec (l : List Con) (n a b M : Int) (C : List Int) (E : Int) : Prop :=
 ((rightL l n && (decide (0 <= a) && decide (a < n) && (decide (0 <= b) && decide (b < n)))) = false /\ M = 0 /\ C = [] /\ E = 1) \/
 ((rightL l n && (decide (0 <= a) && decide (a < n) && (decide (0 <= b) && decide (b < n)))) = true /\ (((∀ y, ¬ Sol l y) /\ M = 0 /\ C = [] /\ E = 23) \/
   ((∃ y, Sol l y) /\ ∃ g, Inv l (zya b.toNat) g /\ Fix l g /\ (∀ x, -bnd n.toNat l.length <= g.val x /\ g.val x <= bnd n.toNat l.length) /\
     ((g.kn a.toNat = false /\ M = 0 /\ C = [] /\ E = 4) \/ (g.kn a.toNat = true /\ M = g.val a.toNat /\ E = 0 /\ C.length < n.toNat /\ zoB l b C = some (M, a))))))
theorem MostSpec.one {l : List Con} {n a b M M' : Int} {C C' : List Int} {E E' : Int} (h : MostSpec l n a b M C E) (h' : MostSpec l n a b M' C' E') : E = E' /\ M = M' := by
 rcases h with ⟨a1, rfl, _, rfl⟩ | ⟨a1, h⟩ <;> rcases h' with ⟨b1, rfl, _, rfl⟩ | ⟨b1, h'⟩
 ·exact ⟨rfl, rfl⟩
 ·rw [b1] at a1; cases a1
 ·rw [b1] at a1; cases a1
 ·rcases h with ⟨g1, rfl, _, rfl⟩ | ⟨⟨y, hy⟩, g, hi, hf, _, h⟩ <;> rcases h' with ⟨g1', rfl, _, rfl⟩ | ⟨⟨y', hy'⟩, g', hi', hf', _, h'⟩
  ·exact ⟨rfl, rfl⟩
  ·exact absurd hy' (g1 y')
  ·exact absurd hy (g1' y)
  ·obtain ⟨e1, e2⟩ := hf.one hi hi' hf' (fun _ => Iff.rfl) a.toNat;rcases h with ⟨k1, rfl, _, rfl⟩ | ⟨k1, rfl, rfl, _⟩ <;> rcases h' with ⟨k1', rfl, _, rfl⟩ | ⟨k1', rfl, rfl, _⟩
   ·exact ⟨rfl, rfl⟩
   ·rw [e1, k1'] at k1; cases k1
   ·rw [e1, k1'] at k1; cases k1
   ·exact ⟨rfl, e2 k1⟩
theorem zsZ {n t : Nat} {l : List Con} {g : GS} (hr : rightL l (n : Int) = true) (h : Outcome n l (zgC n) t g (-1)) (ht : t <= (n + 1) * (n * l.length)) : SolveSpec l n (lst n g.val) [] 0 := by
 obtain ⟨_, _, _, hl⟩ := zhk hr;simp only [Int.toNat_natCast] at hl;obtain ⟨hi, hb, h1 | ⟨h1, _⟩⟩ := h
 ·refine .inr ⟨hr, .inl ⟨g.val, ztw hl hi h1.2, fun x => ?_, rfl, rfl, rfl⟩⟩;have := (hb.mono ht) x;unfold bnd;simp only [Int.toNat_natCast];omega
 ·omega
theorem zqk {n t : Nat} {l : List Con} {g : GS} {ret : Int} {C : List Int} (hr : rightL l (n : Int) = true) (h : Outcome n l (zgC n) t g ret) (hret : ¬ ret = -1) (hC : CycOK n l C) : SolveSpec l n [] C 23 := by
 obtain ⟨_, _, _, hl⟩ := zhk hr;simp only [Int.toNat_natCast] at hl;exact .inr ⟨hr, .inr ⟨h.unsat hl hret, rfl, rfl, hC⟩⟩
theorem zql {n : Int} {l : List Con} (hr : rightL l n = false) : SolveSpec l n [] [] 1 := .inl ⟨hr, rfl, rfl, rfl⟩
end Go.Proofs.YtmlpcgkaonifcaaGreatDoor.Df
namespace Go.Proofs.YtmlpcgkaonifcaaGreatDoor.Df
open Go Go.VL
def zcJ (vs : List Int) (x : Nat) : Int := vs.getD x 0
end Go.Proofs.YtmlpcgkaonifcaaGreatDoor.Df
namespace Go.Proofs.YtmlpcgkaonifcaaGreatDoor.Df
open Go Go.VL
end Go.Proofs.YtmlpcgkaonifcaaGreatDoor.Df
namespace Go.Proofs.YtmlpcgkaonifcaaGreatDoor.Df
open Go Go.VL
theorem zag (l : List Int) : (intR l).length = l.length := by simp [intR]
theorem zah (l : List Int) (i : Nat) (h : i < (intR l).length) : (intR l)[i] = [D.u (.int .i64 (l[i]'(by simpa [intR] using h)))] := by simp [intR]
theorem zap (l : List Int) (i : Nat) (z : Int) : (intR l).set i [D.u (.int .i64 z)] = intR (l.set i z) := by simp [intR, List.map_set]
theorem zbF (l : List Int) : zct (intR l) = some (l.map fun z => [U.int .i64 z]) := by rw [<- zlP]; simp
theorem zkC (n : Nat) (z : Int) : List.replicate n [D.u (.int .i64 z)] = intR (List.replicate n z) := by simp [intR]
theorem zal (l : List Int) : za2 (intR l) := by
 induction l with
 | nil => simp [intR, za2]
 | cons a l ih => simp only [intR] at ih; simp [intR, za2, zch, ih]
theorem zai (n : Nat) (l : List Int) : (∀ x ∈ intR l, ∀ y ∈ x, D.under n y = true) ↔ True := by simp [intR, D.under]
def zdY (l : List Bool) : List (List D) := l.map fun b => [D.u (.bool b)]
theorem zaK (l : List Bool) : (zdY l).length = l.length := by simp [zdY]
theorem zaB (l : List Bool) (i : Nat) (h : i < (zdY l).length) : (zdY l)[i] = [D.u (.bool (l[i]'(by simpa [zdY] using h)))] := by simp [zdY]
theorem zbk (l : List Bool) (i : Nat) (b : Bool) : (zdY l).set i [D.u (.bool b)] = zdY (l.set i b) := by simp [zdY, List.map_set]
theorem zsd (n : Nat) (b : Bool) : List.replicate n [D.u (.bool b)] = zdY (List.replicate n b) := by simp [zdY]
theorem zas (l : List Bool) : za2 (zdY l) := by
 induction l with
 | nil => simp [zdY, za2]
 | cons a l ih => simp only [zdY] at ih; simp [zdY, za2, zch, ih]
theorem zao (n : Nat) (l : List Bool) : (∀ x ∈ zdY l, ∀ y ∈ x, D.under n y = true) ↔ True := by
 refine ⟨fun _ => trivial, fun _ x hx y hy => ?_⟩;obtain ⟨b, _, rfl⟩ := List.mem_map.1 hx;simp at hy;subst hy;simp [D.under]
def bst (n : Nat) (f : Nat -> Bool) : List Bool := (List.range n).map f
theorem zbt (n : Nat) (f : Nat -> Bool) : (bst n f).length = n := by simp [bst]
theorem za6 (n : Nat) (f : Nat -> Bool) (i : Nat) (h : i < (bst n f).length) : (bst n f)[i] = f i := by simp [bst]
theorem zci (n : Nat) (f : Nat -> Bool) (i : Nat) (x : Bool) : (bst n f).set i x = bst n (fun j => if j = i then x else f j) := by
 apply List.ext_getElem?;intro j;simp only [bst, List.getElem?_set, List.length_map, List.length_range, List.getElem?_map];by_cases hj : i = j
 ·subst hj;by_cases hi : i < n <;> simp [hi]
 ·rw [if_neg hj];by_cases hj2 : j < n
  ·simp [hj2, Ne.symm hj]
  ·simp [hj2]
theorem zvV (n : Nat) (b : Bool) : List.replicate n b = bst n fun _ => b := by
 apply List.ext_getElem?;intro j;by_cases hj : j < n <;> simp [bst, hj]
theorem zu0 (g : GS) (i : Nat) (c : Con) (n : Nat) : lst n (fun j => if j = c.a then g.val c.b + c.N else g.val j) = lst n (g.upd i c).val := rfl
theorem zwn (g : GS) (i : Nat) (c : Con) (n : Nat) : bst n (fun j => decide (j = c.a) || g.kn j) = bst n (g.upd i c).kn := by
 unfold bst;refine List.map_congr_left fun x _ => ?_;simp only [GS.upd];by_cases h : x = c.a <;> simp [h]
theorem zu1 (d : Int) (g : GS) (i : Nat) (c : Con) (n : Nat) : lst n (fun j => if j = c.a then (i : Int) else zjd d g j) = lst n (zjd d (g.upd i c)) := by
 refine zq2 fun x _ => ?_;simp only [zjd, GS.upd];by_cases h : x = c.a
 ·simp [h]
 ·simp [h]
theorem Bd.small {t : Nat} {g : GS} (h : Bd t g) (ht : t <= 4000000) (x : Nat) : -4398046511104000000 <= g.val x /\ g.val x <= 4398046511104000000 := by
 have h1 := h x;have h2 : maxN * (t : Int) <= maxN * 4000000 := Int.mul_le_mul_of_nonneg_left (by omega) (by decide);simp only [maxN] at h1 h2;omega
end Go.Proofs.YtmlpcgkaonifcaaGreatDoor.Df
namespace Go.Proofs.YtmlpcgkaonifcaaGreatDoor.Df
open Go Go.VL
theorem zgR (l : List Int) : zkW 1 (intR l) := by simp [intR]
theorem zro (l : List Con) (g : GS) (k x : Nat) : it l g (k + 1) x = bk l g (it l g k x) := zjV l g k 1 x
theorem zsB (n : Nat) (bg : Nat -> Bool) : List.replicate n (0 : Int) = lst n (GS.zero bg).val := by rw [zq1]; rfl
theorem zsi {n : Nat} {l : List Con} {bg : Nat -> Bool} {g : GS} (d : Int) (hl : OkC n l) (hi : Inv l bg g) {x : Nat} (hx : x < n) (hp : g.pre x ≠ none) : ∃ (i : Nat) (c : Con), zjd d g x = (i : Int) /\ l[i]? = some c /\ c.B = (bk l g x : Nat) /\ i < l.length := by
 cases hq : g.pre x with
 | none => exact absurd hq hp
 | some i =>
  obtain ⟨c, h1, _⟩ := hi.pre x i hq;obtain ⟨_, _, h3, _⟩ := hl c (List.mem_of_getElem? h1);refine ⟨i, c, by simp [zjd, hq], h1, ?_, (List.getElem?_eq_some_iff.1 h1).1⟩;rw [zi1 hq h1];simp only [Con.b];omega
end Go.Proofs.YtmlpcgkaonifcaaGreatDoor.Df
namespace Go.Proofs.YtmlpcgkaonifcaaGreatDoor
open Go Go.VL
theorem zvE {α : Type} {l : List α} {i : Nat} {x : α} (h : l[i]? = some x) : l.drop i = x :: l.drop (i + 1) := by
 obtain ⟨h1, h2⟩ := List.getElem?_eq_some_iff.1 h;rw [List.drop_eq_getElem_cons h1, h2]
end Go.Proofs.YtmlpcgkaonifcaaGreatDoor
namespace Go.Proofs.YtmlpcgkaonifcaaGreatDoor.Df
open Go Go.VL
def zdz (l : List Con) (k v : Nat) : List Nat := (List.range k).filter fun i => match l[i]? with
 | some c => decide (c.b = v)
 | none => false
theorem zjY (l : List Con) (v : Nat) : zdz l l.length v = zdq l v := rfl
theorem zfh {l : List Con} {k : Nat} {c : Con} (h : l[k]? = some c) (v : Nat) : zdz l (k + 1) v = if v = c.b then zdz l k v ++ [k] else zdz l k v := by
 unfold zdz;rw [List.range_succ, List.filter_append];by_cases hv : v = c.b
 ·rw [if_pos hv];simp [h, hv]
 ·rw [if_neg hv];have : ¬ c.b = v := fun e => hv e.symm;simp [h, this]
theorem zpp (l : List Con) (k v : Nat) : (zdz l k v).length <= k := by
 have := List.length_filter_le (fun i => match l[i]? with | some c => decide (c.b = v) | none => false) (List.range k);simpa [zdz] using this
abbrev zhU (l : List Nat) : List Int := l.map Int.ofNat
def zlO (l : List Con) (m k : Nat) : List Nat := (List.range m).map fun v => (zdz l k v).length
def zoa (l : List Con) (m k : Nat) : List Ob := (List.range m).map fun v => .vec 3 1 (intR (zhU (zdz l k v)))
theorem zfU (l : List Con) (m k : Nat) : (zlO l m k).length = m := by simp [zlO]
theorem zgW (l : List Con) (m k : Nat) : (zoa l m k).length = m := by simp [zoa]
theorem zrf (l : List Con) (m : Nat) : List.replicate m 0 = zlO l m 0 := by
 apply List.ext_getElem?;intro j;by_cases hj : j < m <;> simp [zlO, zdz, hj]
theorem zrE (l : List Con) (m : Nat) : List.replicate m (Ob.vec 3 1 []) = zoa l m 0 := by
 apply List.ext_getElem?;intro j;by_cases hj : j < m <;> simp [zoa, zdz, hj, intR]
theorem ztl {l : List Con} {m k : Nat} {c : Con} (h : l[k]? = some c) : (zlO l m k).set c.b ((zdz l k c.b).length + 1) = zlO l m (k + 1) := by
 apply List.ext_getElem?;intro j;simp only [zlO, List.getElem?_set, List.length_map, List.length_range, List.getElem?_map];by_cases hj : c.b = j
 ·subst hj;by_cases hm : c.b < m
  ·simp [hm, zfh h]
  ·simp [hm]
 ·rw [if_neg hj];by_cases hm : j < m
  ·simp [hm, zfh h, Ne.symm hj]
  ·simp [hm]
theorem ztE {l : List Con} {m k : Nat} {c : Con} (h : l[k]? = some c) : (zoa l m k).set c.b (.vec 3 1 (intR (zhU (zdz l k c.b ++ [k])))) = zoa l m (k + 1) := by
 apply List.ext_getElem?;intro j;simp only [zoa, List.getElem?_set, List.length_map, List.length_range, List.getElem?_map];by_cases hj : c.b = j
 ·subst hj;by_cases hm : c.b < m
  ·simp [hm, zfh h]
  ·simp [hm]
 ·rw [if_neg hj];by_cases hm : j < m
  ·simp [hm, zfh h, Ne.symm hj]
  ·simp [hm]
theorem ztF (l : List Con) {m k v : Nat} (h : v < m) : (zoa l m k)[v]? = some (.vec 3 1 (intR (zhU (zdz l k v)))) := by simp [zoa, h]
theorem ztm (l : List Con) {m k v : Nat} (h : v < m) : (zlO l m k)[v]? = some (zdz l k v).length := by simp [zlO, h]
theorem zgV (l : List Con) (m k : Nat) : famPure (zoa l m k) := fun o ho => by
 obtain ⟨v, _, rfl⟩ := List.mem_map.1 ho;exact ⟨_, _, _, rfl, zal _⟩
end Go.Proofs.YtmlpcgkaonifcaaGreatDoor.Df
namespace Go.Proofs.YtmlpcgkaonifcaaGreatDoor.Df
open Go Go.VL
end Go.Proofs.YtmlpcgkaonifcaaGreatDoor.Df
namespace Go.Proofs.YtmlpcgkaonifcaaGreatDoor
open Go Go.VL
attribute [local simp] zbw zc2 zcq evPure opd uOf zay St.put St.at getK binD binI binS binB nilD aggD zfJ zge lookD lookR zcn rangeS Go.VL.nextD Go.VL.nextS zcr zgk zgh zfs zcv mkV zbi zaT zaS zaR zc0 zaP zba zbs mapEff zdE zfp Key.kk shiftI arith unD convD zdu loadD cellsAt fieldAddrD fieldD indexAddrD indexSlD arrAddr indexD sliceD cutD lenD minmaxD nilCheckD buildD fillD zb0 zc7 zeD setAll zcW zef zck zfv zcj St.add zaw zbB rowsOf zdg zcw zad zac zaa zbz zda za3 entry zbO zbT valD zcm zcB zfw zdb zdc zb4 zbP zam zaW zbj delAll effD St.effS zcF zaU zaH zcG zaV zaJ zbY zaI zaA zbZ zcD zbv zbX za9 zbV zbW zar mkD zcl zbG zbK zam zcu D.ids Op.operands Call.operands zbH makeIfD makeFuncD typeAssertD zgd zdm zdn zf8 zco IntKind.bits zct zaz List.take_of_length_le List.range_succ zcO zcf zcP zcK zbD zb6 zb8 zcL zca zbe zb9 zb7 zhc zce zcM zaZ zaL zcN za0 zaN zcd zaM zaF zcS zcT zha zab frzN frz1 zav zau St.frz St.frzS frzS fv za1 zbm zbn frzObS zat zan frz zbL zbq zbr zbN zb5 zcc za7 St.norm St.lp St.only zax wkE wkO wkU Ob.under D.under zaj zak zcQ zcg zcR h4s zea zaC zbC List.zipIdx_cons List.zipIdx_nil zzC zzD Nat.zero_add
attribute [local irreducible] V G H HD HD2 zbf Eff CallP CallV EndOK Fun Ret FinOK LoopI LoopW EndW HR vs2 RN Cnd H4
inductive Exp where
 | mk (op n unit : Int) (s : List UInt8) (args : List Exp)
 deriving Inhabited
def Exp.row : Exp -> List U
 | .mk op n u s args => [.int .i64 op, .int .i64 n, .int .i64 u, .str s, .sl (args.map fun e => e.row)]
def Exp.op : Exp -> Int | .mk op _ _ _ _ => op
def Exp.n : Exp -> Int | .mk _ n _ _ _ => n
def Exp.unit : Exp -> Int | .mk _ _ u _ _ => u
def Exp.s : Exp -> List UInt8 | .mk _ _ _ s _ => s
def Exp.args : Exp -> List Exp | .mk _ _ _ _ args => args
theorem Exp.row_eq (e : Exp) : e.row = [.int .i64 e.op, .int .i64 e.n, .int .i64 e.unit, .str e.s, .sl (e.args.map Exp.row)] := by
 cases e with
 | mk op n u s args => rw [Exp.row]; rfl
structure Var where
 name : List UInt8
 unit : Int
 n : Int
 deriving DecidableEq, Inhabited
structure Let where
 name : List UInt8
 body : Exp
 deriving Inhabited
def Var.row (v : Var) : List U := [.str v.name, .int .i64 v.unit, .int .i64 v.n]
def Let.row (l : Let) : List U := .str l.name :: l.body.row
def vars (l : List Var) : U := .sl (l.map Var.row)
def lets (l : List Let) : U := .sl (l.map Let.row)
def zd1 (c : UInt8) : Bool := decide (97 <= c.toNat) && decide (c.toNat <= 122)
def zb2 (c : UInt8) : Bool := decide (48 <= c.toNat) && decide (c.toNat <= 57)
theorem zeZ (c : UInt8) : Fun Tryz.prog 72 [.u (.int .u8 c.toNat)] (· = .u (.bool (zd1 c))) := by
 unfold zd1;refine Fun.run Tryz.func72 Tryz.ntmps72 Tryz.results72 rfl (by simp) fun Γ hn => ?_
 repeat' (first
  | (refine Cnd.of (fun hc => ?_) (fun hc => ?_) <;> (try (exfalso; omega)) <;> (try simp))
  | (refine zaf rfl ?_; simp)
  | fail)
 all_goals
  (refine Pst.of ?_; simp)
 all_goals first | omega | (simp; omega) | (rw [Bool.eq_iff_iff]; simp; omega)
theorem zfN (c : UInt8) : Fun Tryz.prog 75 [.u (.int .u8 c.toNat)] (· = .u (.bool (zb2 c))) := by
 unfold zb2;refine Fun.run Tryz.func75 Tryz.ntmps75 Tryz.results75 rfl (by simp) fun Γ hn => ?_
 repeat' (first
  | (refine Cnd.of (fun hc => ?_) (fun hc => ?_) <;> (try (exfalso; omega)) <;> (try simp))
  | (refine zaf rfl ?_; simp)
  | fail)
 all_goals
  (refine Pst.of ?_; simp)
 all_goals first | omega | (simp; omega) | (rw [Bool.eq_iff_iff]; simp; omega)
theorem zpS (c : UInt8) : Fun Tryz.prog 74 [.u (.int .u8 c.toNat)] (· = .u (.bool (zd1 c || zb2 c))) := by
 refine Fun.run Tryz.func74 Tryz.ntmps74 Tryz.results74 rfl (by simp) fun Γ hn => ?_
 repeat' (first
  | (refine Cnd.of (fun hc => ?_) (fun hc => ?_) <;> (try (exfalso; omega)) <;> (try simp))
  | (refine zaf rfl ?_; simp)
  | ((first | refine CallP.f2 rfl (zeZ c) (by first | simp <;> rfl | fail) ?_ | refine CallP.f2 rfl (zfN c) (by first | simp <;> rfl | fail) ?_ | fail); simp)
  | fail)
 all_goals
  (refine Pst.of ?_; simp)
 all_goals simp_all
def zdt (p : UInt8 -> Bool) (l : List UInt8) : Nat := (l.takeWhile p).length
theorem znG {p : UInt8 -> Bool} {l : List UInt8} {i : Nat} (h : ∀ c ∈ l.take i, p c = true) (hi : i <= l.length) (he : i = l.length \/ ∃ c, l[i]? = some c /\ p c = false) : zdt p l = i := by
 unfold zdt
 induction l generalizing i with
 | nil => simp at hi; simp [hi]
 | cons a l ih =>
  cases i with
  | zero =>
   rcases he with he | ⟨c, h1, h2⟩
   ·simp at he
   ·simp at h1; subst h1; simp [h2]
  | succ i =>
   have ha : p a = true := h a (by simp);rw [List.takeWhile_cons, if_pos ha, List.length_cons];rw [ih (i := i) (fun c hc => h c (by simp [hc])) (by simpa using hi) (by simpa using he)]
def zgc {α : Type} (p : α -> Bool) : List α -> Int -> Int
 | [], _ => -1
 | x :: l, i => if p x = true then i else zgc p l (i + 1)
theorem zgx {α : Type} {p : α -> Bool} {l : List α} {i : Nat} {x : α} {k : Int} (h : ∀ c ∈ l.take i, p c = false) (hx : l[i]? = some x) (hp : p x = true) : zgc p l k = k + i := by
 induction l generalizing i k with
 | nil => simp at hx
 | cons s l ih =>
  cases i with
  | zero => simp at hx; simp [zgc, hx, hp]
  | succ i =>
   rw [zgc, if_neg (by rw [h s (by simp)]; simp), ih (i := i) (fun c hc => h c (by simp [hc])) (by simpa using hx)];omega
theorem zeq {α : Type} {p : α -> Bool} {l : List α} {k : Int} (h : ∀ c ∈ l, p c = false) : zgc p l k = -1 := by
 induction l generalizing k with
 | nil => rfl
 | cons s l ih => rw [zgc, if_neg (by rw [h s (by simp)]; simp), ih fun c hc => h c (by simp [hc])]
theorem zfW {α : Type} (p : α -> Bool) (l : List α) : ∀ k : Int, 0 <= k -> (0 <= zgc p l k ↔ l.any p = true) := by
 induction l with
 | nil => intro k hk; simp [zgc]
 | cons s l ih =>
  intro k hk;by_cases h : p s = true
  ·simp [zgc, h, hk]
  ·rw [zgc, if_neg h, ih (k + 1) (by omega)];simp [h]
theorem zbh {α : Type} {p : α -> Prop} {l : List α} {i : Nat} {x : α} (hx : l[i]? = some x) (h : ∀ c ∈ l.take i, p c) (hp : p x) : ∀ c ∈ l.take (i + 1), p c := by
 obtain ⟨hi, rfl⟩ := List.getElem?_eq_some_iff.1 hx;rw [List.take_succ_eq_append_getElem hi];intro c hc;rcases List.mem_append.1 hc with hc | hc
 ·exact h c hc
 ·simp at hc; subst hc; exact hp
theorem zgK (l : List UInt8) (hl : l.length <= 1000000) (f : FuncId) (p : UInt8 -> Bool) (hf : ∀ c ∈ l, Fun Tryz.prog f [.u (.int .u8 c.toNat)] (· = .u (.bool (p c)))) (hcl : zae Tryz.prog f = true) :
  Fun Tryz.prog 73 [.u (.str l), .fnc (.func f) []] (· = .u (.int .i64 (zdt p l))) := by
 refine Fun.run Tryz.func73 Tryz.ntmps73 Tryz.results73 rfl (by simp) fun Γ hn => ?_
 repeat' (first
  | (refine zaf rfl ?_; simp)
  | fail)
 refine zdd (α := { i : Nat // i <= l.length /\ ∀ c ∈ l.take i, p c = true }) [0, 1] (fun i => [(5, .u (.int .i64 i.1))]) (fun i => l.length - i.1) ⟨0, by omega, by simp⟩ ?_ ?_
 ·exact (Wk.env rfl rfl rfl (by simp [wkE, St.lp, zax, zaa, getK] <;> (try (intros; simp_all; done)) <;> (try (intros; omega)) <;> (try grind)))
 rintro ⟨i, hi, hb⟩;simp;rcases hx : l[i]? with _ | c
 ·have hge : l.length <= i := by simpa using hx
  repeat' (first
  | (refine Cnd.of (fun hc => ?_) (fun hc => ?_) <;> (try (exfalso; omega)) <;> (try simp [hx]))
  | (refine zaf rfl ?_; simp [hx])
  | fail)
  (refine Pst.of ?_; simp)
  rw [znG hb hi (.inl (by omega))]
 ·have hlt := (List.getElem?_eq_some_iff.1 hx).1;have h1 := hf c (List.mem_of_getElem? hx)
  repeat' (first
  | (refine Cnd.of (fun hc => ?_) (fun hc => ?_) <;> (try (exfalso; omega)) <;> (try simp [hx]))
  | (refine zaf rfl ?_; simp [hx])
  | (refine And.intro (by omega) ?_)
  | (refine CallP.f2 rfl (h1) (by first | simp [hx] <;> rfl | fail) ?_; simp [hx])
  | fail)
  ·refine LoopW.next ⟨i + 1, by omega, zbh hx hb (by assumption)⟩ (by simp; omega) ?_
   exact (Wk.env rfl rfl rfl (by simp [wkE, St.lp, zax, zaa, getK] <;> (try (intros; simp_all; done)) <;> (try (intros; omega)) <;> (try grind)))
  ·(refine Pst.of ?_; simp)
   rw [znG hb hi (.inr ⟨c, hx, by assumption⟩)]
def zkZ (s : List UInt8) : Bool := match s with
 | [] => false
 | c :: _ => zd1 c && decide (s.length <= 20) && decide (zdt (fun c => zd1 c || zb2 c) s = s.length)
theorem znA (s : List UInt8) : Fun Tryz.prog 49 [.u (.str s)] (· = .u (.bool (zkZ s))) := by
 cases s with
 | nil =>
  refine Fun.run Tryz.func49 Tryz.ntmps49 Tryz.results49 rfl (by simp) fun Γ hn => ?_
  repeat' (first
  | (refine zaf rfl ?_; simp)
  | fail)
  all_goals
   (refine Pst.of ?_; simp)
  all_goals simp [zkZ]
 | cons c s =>
  by_cases hl : s.length + 1 <= 20
  ·have hs := zgK (c :: s) (by simp; omega) 74 _ (fun c _ => zpS c) (by simp);refine Fun.run Tryz.func49 Tryz.ntmps49 Tryz.results49 rfl (by simp) fun Γ hn => ?_
   repeat' (first
  | (refine Cnd.of (fun hc => ?_) (fun hc => ?_) <;> (try (exfalso; omega)) <;> (try simp))
  | (refine zaf rfl ?_; simp)
  | ((first | refine CallP.f2 rfl (zeZ c) (by first | simp <;> rfl | fail) ?_ | refine CallP.f2 rfl (hs) (by first | simp <;> rfl | fail) ?_ | fail); simp)
  | fail)
   all_goals
    (refine Pst.of ?_; simp)
   all_goals
    simp [zkZ, *]
    try omega
  ·refine Fun.run Tryz.func49 Tryz.ntmps49 Tryz.results49 rfl (by simp) fun Γ hn => ?_
   repeat' (first
  | (refine Cnd.of (fun hc => ?_) (fun hc => ?_) <;> (try (exfalso; omega)) <;> (try simp))
  | (refine zaf rfl ?_; simp)
  | (refine CallP.f2 rfl (zeZ c) (by first | simp <;> rfl | fail) ?_; simp)
  | fail)
   all_goals
    (refine Pst.of ?_; simp)
   all_goals
    simp [zkZ, *]
    try omega
def zu6 (l : List (List UInt8)) : U := .sl (l.map fun s => [.str s])
def zrt : List (List UInt8) -> List UInt8 -> Int -> Int
 | [], _, _ => -1
 | s :: l, x, i => if x = s then i else zrt l x (i + 1)
theorem zvo {l : List (List UInt8)} {x : List UInt8} {i : Nat} {k : Int} (h : ∀ c ∈ l.take i, ¬ x = c) (hx : l[i]? = some x) : zrt l x k = k + i := by
 induction l generalizing i k with
 | nil => simp at hx
 | cons s l ih =>
  cases i with
  | zero => simp at hx; simp [zrt, hx]
  | succ i =>
   rw [zrt, if_neg (h s (by simp)), ih (i := i) (fun c hc => h c (by simp [hc])) (by simpa using hx)];omega
theorem zrs {l : List (List UInt8)} {x : List UInt8} {k : Int} (h : ∀ c ∈ l, ¬ x = c) : zrt l x k = -1 := by
 induction l generalizing k with
 | nil => rfl
 | cons s l ih => rw [zrt, if_neg (h s (by simp)), ih fun c hc => h c (by simp [hc])]
theorem zpa (l : List (List UInt8)) (x : List UInt8) : Fun Tryz.prog 76 [.u (zu6 l), .u (.str x)] (· = .u (.int .i64 (zrt l x 0))) := by
 refine Fun.run Tryz.func76 Tryz.ntmps76 Tryz.results76 rfl (by simp) fun Γ hn => ?_; simp only [zzE, zzC, zzD];simp only [zu6];refine zhK (x := 0) rfl fun hl => ?_;simp at hl
 repeat' (first
  | (refine zaf rfl ?_; simp)
  | fail)
 refine zdd (α := { i : Nat // i <= l.length /\ ∀ c ∈ l.take i, ¬ x = c }) [0, 1, 7] (fun i => [(8, .u (.int .i64 i.1))]) (fun i => l.length - i.1) ⟨0, by omega, by simp⟩ ?_ ?_
 ·exact (Wk.env rfl rfl rfl (by simp [wkE, St.lp, zax, zaa, getK] <;> (try (intros; simp_all; done)) <;> (try (intros; omega)) <;> (try grind)))
 rintro ⟨i, hi, hb⟩;simp;rcases hx : l[i]? with _ | c
 ·have hge : l.length <= i := by simpa using hx
  repeat' (first
  | (refine Cnd.of (fun hc => ?_) (fun hc => ?_) <;> (try (exfalso; omega)) <;> (try simp [hx]))
  | (refine zaf rfl ?_; simp [hx])
  | fail)
  (refine Pst.of ?_; simp)
  rw [List.take_of_length_le hge] at hb;exact (zrs hb).symm
 ·have hlt := (List.getElem?_eq_some_iff.1 hx).1;by_cases hxc : x = c
  ·subst hxc
   repeat' (first
  | (refine Cnd.of (fun hc => ?_) (fun hc => ?_) <;> (try (exfalso; omega)) <;> (try simp [hx]))
  | (refine zaf rfl ?_; simp [hx])
  | fail)
   (refine Pst.of ?_; simp)
   rw [zvo hb hx];omega
  ·repeat' (first
  | (refine Cnd.of (fun hc => ?_) (fun hc => ?_) <;> (try (exfalso; omega)) <;> (try simp [hx, hxc]))
  | (refine zaf rfl ?_; simp [hx, hxc])
  | (refine And.intro (by omega) ?_)
  | fail)
   refine LoopW.next ⟨i + 1, by omega, zbh hx hb hxc⟩ (by simp; omega) ?_
   exact (Wk.env rfl rfl rfl (by simp [wkE, St.lp, zax, zaa, getK] <;> (try (intros; simp_all; done)) <;> (try (intros; omega)) <;> (try grind)))
theorem ztv (l : List (List UInt8)) (x : List UInt8) : ∀ k : Int, 0 <= k -> decide (0 <= zrt l x k) = l.contains x := by
 induction l with
 | nil => intro k hk; simp [zrt]
 | cons s l ih =>
  intro k hk;by_cases h : x = s
  ·subst h; simp [zrt, hk]
  ·rw [zrt, if_neg h, ih (k + 1) (by omega)];simp [h]
theorem zkK (l : List (List UInt8)) (x : List UInt8) : Fun Tryz.prog 50 [.u (zu6 l), .u (.str x)] (· = .u (.bool (l.contains x))) := by
 have h1 := zpa l x;refine Fun.run Tryz.func50 Tryz.ntmps50 Tryz.results50 rfl (by simp) fun Γ hn => ?_; simp only [zzE, zzC, zzD];simp only [zu6] at h1 ⊢
 repeat' (first
  | (refine zaf rfl ?_; simp)
  | (refine CallP.f2 rfl (h1) (by first | simp <;> rfl | fail) ?_; simp)
  | fail)
 (refine Pst.of ?_; simp)
 have h2 := ztv l x 0 (by omega);simpa using h2
def words : List (List UInt8) := [[97, 110, 100], [98, 97, 99, 107, 115], [98, 105, 100, 100, 105, 110, 103], [99, 105, 114, 99, 108, 101], [99, 111, 105, 110, 115], [99, 111, 118, 101, 114], [100, 97, 121, 115], [100, 114, 97, 119], [100, 117, 101], [101, 108, 115, 101], [102, 97, 108, 115, 101], [102, 105, 110, 101], [102, 117, 110, 100], [103, 114, 97, 99, 101], [104, 111, 108, 100], [105, 102], [106, 111, 105, 110], [106, 117, 114, 121], [108, 101, 116], [109, 97, 120], [109, 105, 108, 108, 101], [109, 105, 110], [110, 101, 101, 100], [110, 111, 116], [111, 114], [111, 114, 100, 101, 114], [112, 97, 121], [112, 101, 114], [114, 111, 116, 97, 116, 105, 110, 103], [115, 97, 118, 105, 110, 103], [115, 101, 97, 108, 101, 100], [116, 104, 101, 110], [116, 114, 117, 101], [118, 111, 105, 99, 101, 115], [119, 97, 105, 116]]
set_option maxHeartbeats 4000000 in
set_option maxRecDepth 100000 in
theorem zln : Fun Tryz.prog 51 [] (· = .u (zu6 words)) := by
 refine Fun.runW Tryz.func51 Tryz.ntmps51 rfl (by simp) fun Γ hn => ?_; simp only [zzE, zzC, zzD];simp only [zu6, words, zzC, zzD]
 repeat' (first
  | (refine zaf rfl ?_; simp [zbT, zbO])
  | fail)
 (refine EndW.frzN 1 ?_; simp [del])
 refine EndW.here ?_
 (refine EndOK.val (.inr rfl) ?_; simp [Tryz.results51])
def zn3 (l : Let) : List U := [.str l.name, .int .i64 l.body.op, .int .i64 l.body.n, .int .i64 l.body.unit, .str l.body.s, .sl (l.body.args.map Exp.row)]
def ztq (l : Let) : D := .u (.agg [.str l.name, .int .i64 l.body.op, .int .i64 l.body.n, .int .i64 l.body.unit, .str l.body.s, .sl (l.body.args.map Exp.row)])
def zaQ (l : List Let) : U := .sl (l.map fun l => [.str l.name, .int .i64 l.body.op, .int .i64 l.body.n, .int .i64 l.body.unit, .str l.body.s, .sl (l.body.args.map Exp.row)])
theorem zpe (l : List (Let)) (f : FuncId) (caps : List U) (p : Let -> Bool) (hf : ∀ n ∈ l, Fun Tryz.prog f (ztq n :: caps.map .u) (· = .u (.bool (p n)))) (hcl : zae Tryz.prog f = true)
  (hca : ∀ o, zcB o (caps.map .u) = some (caps.map .u, [])) : Fun Tryz.prog 53 [.u (zaQ l), .fnc (.func f) (caps.map .u)] (· = .u (.int .i64 (zgc p l 0))) := by
 refine Fun.run Tryz.func53 Tryz.ntmps53 Tryz.results53 rfl (by simp) fun Γ hn => ?_; simp only [zzE, zzC, zzD];simp only [zaQ];refine zhK (x := 0) rfl fun hl => ?_;simp at hl
 repeat' (first
  | (refine zaf rfl ?_; simp)
  | fail)
 refine zdd (α := { i : Nat // i <= l.length /\ ∀ c ∈ l.take i, p c = false }) [0, 1, 7] (fun i => [(8, .u (.int .i64 i.1))]) (fun i => l.length - i.1) ⟨0, by omega, by simp⟩ ?_ ?_
 ·exact (Wk.env rfl rfl rfl (by simp [wkE, St.lp, zax, zaa, getK] <;> (try (intros; simp_all; done)) <;> (try (intros; omega)) <;> (try grind)))
 rintro ⟨i, hi, hb⟩;simp;rcases hx : l[i]? with _ | n
 ·have hge : l.length <= i := by simpa using hx
  repeat' (first
  | (refine Cnd.of (fun hc => ?_) (fun hc => ?_) <;> (try (exfalso; omega)) <;> (try simp [hx]))
  | (refine zaf rfl ?_; simp [hx])
  | fail)
  (refine Pst.of ?_; simp)
  rw [List.take_of_length_le hge] at hb;exact (zeq hb).symm
 ·have hlt : i < l.length := (List.getElem?_eq_some_iff.1 hx).1;have h1 := hf n (List.mem_of_getElem? hx);simp only [ztq] at h1;cases hp : p n
  ·rw [hp] at h1
   repeat' (first
  | (refine Cnd.of (fun hc => ?_) (fun hc => ?_) <;> (try (exfalso; omega)) <;> (try simp [hx, hca]))
  | (refine zaf rfl ?_; simp [hx, hca])
  | (refine And.intro (by omega) ?_)
  | (refine CallP.f2 rfl (h1) (by first | simp [hx, hca] <;> rfl | fail) ?_; simp [hx, hca])
  | fail)
   refine LoopW.next ⟨i + 1, by omega, zbh hx hb hp⟩ (by simp; omega) ?_
   exact (Wk.env rfl rfl rfl (by simp [wkE, St.lp, zax, zaa, getK] <;> (try (intros; simp_all; done)) <;> (try (intros; omega)) <;> (try grind)))
  ·rw [hp] at h1
   repeat' (first
  | (refine Cnd.of (fun hc => ?_) (fun hc => ?_) <;> (try (exfalso; omega)) <;> (try simp [hx, hca]))
  | (refine zaf rfl ?_; simp [hx, hca])
  | (refine And.intro (by omega) ?_)
  | (refine CallP.f2 rfl (h1) (by first | simp [hx, hca] <;> rfl | fail) ?_; simp [hx, hca])
  | fail)
   (refine Pst.of ?_; simp)
   rw [zgx hb hx hp];omega
theorem zfk (l : List (Let)) (f : FuncId) (caps : List U) (p : Let -> Bool) (hf : ∀ n ∈ l, Fun Tryz.prog f (ztq n :: caps.map .u) (· = .u (.bool (p n)))) (hcl : zae Tryz.prog f = true)
  (hca : ∀ o, zcB o (caps.map .u) = some (caps.map .u, [])) (hcb : ∀ o, zbP o (caps.map .u) = some (caps, [])) : Fun Tryz.prog 28 [.u (zaQ l), .fnc (.func f) (caps.map .u)] (· = .u (.bool (l.any p))) := by
 have h1 := zpe l f caps p hf hcl hca;refine Fun.run Tryz.func28 Tryz.ntmps28 Tryz.results28 rfl (by simp) fun Γ hn => ?_; simp only [zzE, zzC, zzD];simp only [zaQ] at h1 ⊢
 repeat' (first
  | (refine zaf rfl ?_; simp [hcb])
  | (refine CallP.f2 rfl (h1) (by first | simp [hcb] <;> rfl | fail) ?_; simp [hcb])
  | fail)
 (refine Pst.of ?_; simp)
 have h2 := zfW p l 0 (by omega);rw [Bool.eq_iff_iff];simpa using h2
def zuG (n : Int) : D := .u (.int .i64 n)
def ints (l : List Int) : U := .sl (l.map fun n => [.int .i64 n])
theorem zpf (l : List (Int)) (f : FuncId) (caps : List U) (p : Int -> Bool) (hf : ∀ n ∈ l, Fun Tryz.prog f (zuG n :: caps.map .u) (· = .u (.bool (p n)))) (hcl : zae Tryz.prog f = true)
  (hca : ∀ o, zcB o (caps.map .u) = some (caps.map .u, [])) : Fun Tryz.prog 60 [.u (ints l), .fnc (.func f) (caps.map .u)] (· = .u (.int .i64 (zgc p l 0))) := by
 refine Fun.run Tryz.func60 Tryz.ntmps60 Tryz.results60 rfl (by simp) fun Γ hn => ?_; simp only [zzE, zzC, zzD];simp only [ints];refine zhK (x := 0) rfl fun hl => ?_;simp at hl
 repeat' (first
  | (refine zaf rfl ?_; simp)
  | fail)
 refine zdd (α := { i : Nat // i <= l.length /\ ∀ c ∈ l.take i, p c = false }) [0, 1, 7] (fun i => [(8, .u (.int .i64 i.1))]) (fun i => l.length - i.1) ⟨0, by omega, by simp⟩ ?_ ?_
 ·exact (Wk.env rfl rfl rfl (by simp [wkE, St.lp, zax, zaa, getK] <;> (try (intros; simp_all; done)) <;> (try (intros; omega)) <;> (try grind)))
 rintro ⟨i, hi, hb⟩;simp;rcases hx : l[i]? with _ | n
 ·have hge : l.length <= i := by simpa using hx
  repeat' (first
  | (refine Cnd.of (fun hc => ?_) (fun hc => ?_) <;> (try (exfalso; omega)) <;> (try simp [hx]))
  | (refine zaf rfl ?_; simp [hx])
  | fail)
  (refine Pst.of ?_; simp)
  rw [List.take_of_length_le hge] at hb;exact (zeq hb).symm
 ·have hlt : i < l.length := (List.getElem?_eq_some_iff.1 hx).1;have h1 := hf n (List.mem_of_getElem? hx);simp only [zuG] at h1;cases hp : p n
  ·rw [hp] at h1
   repeat' (first
  | (refine Cnd.of (fun hc => ?_) (fun hc => ?_) <;> (try (exfalso; omega)) <;> (try simp [hx, hca]))
  | (refine zaf rfl ?_; simp [hx, hca])
  | (refine And.intro (by omega) ?_)
  | (refine CallP.f2 rfl (h1) (by first | simp [hx, hca] <;> rfl | fail) ?_; simp [hx, hca])
  | fail)
   refine LoopW.next ⟨i + 1, by omega, zbh hx hb hp⟩ (by simp; omega) ?_
   exact (Wk.env rfl rfl rfl (by simp [wkE, St.lp, zax, zaa, getK] <;> (try (intros; simp_all; done)) <;> (try (intros; omega)) <;> (try grind)))
  ·rw [hp] at h1
   repeat' (first
  | (refine Cnd.of (fun hc => ?_) (fun hc => ?_) <;> (try (exfalso; omega)) <;> (try simp [hx, hca]))
  | (refine zaf rfl ?_; simp [hx, hca])
  | (refine And.intro (by omega) ?_)
  | (refine CallP.f2 rfl (h1) (by first | simp [hx, hca] <;> rfl | fail) ?_; simp [hx, hca])
  | fail)
   (refine Pst.of ?_; simp)
   rw [zgx hb hx hp];omega
theorem zg3 (l : List (Int)) (f : FuncId) (caps : List U) (p : Int -> Bool) (hf : ∀ n ∈ l, Fun Tryz.prog f (zuG n :: caps.map .u) (· = .u (.bool (p n)))) (hcl : zae Tryz.prog f = true)
  (hca : ∀ o, zcB o (caps.map .u) = some (caps.map .u, [])) (hcb : ∀ o, zbP o (caps.map .u) = some (caps, [])) : Fun Tryz.prog 35 [.u (ints l), .fnc (.func f) (caps.map .u)] (· = .u (.bool (l.any p))) := by
 have h1 := zpf l f caps p hf hcl hca;refine Fun.run Tryz.func35 Tryz.ntmps35 Tryz.results35 rfl (by simp) fun Γ hn => ?_; simp only [zzE, zzC, zzD];simp only [ints] at h1 ⊢
 repeat' (first
  | (refine zaf rfl ?_; simp [hcb])
  | (refine CallP.f2 rfl (h1) (by first | simp [hcb] <;> rfl | fail) ?_; simp [hcb])
  | fail)
 (refine Pst.of ?_; simp)
 have h2 := zfW p l 0 (by omega);rw [Bool.eq_iff_iff];simpa using h2
end Go.Proofs.YtmlpcgkaonifcaaGreatDoor
namespace Go.Pm
open Go Go.VL
theorem zjM (a : Int) (h : 0 <= a) (h' : a < 18446744073709551616) : (BitVec.ofInt 64 a).toNat = a.toNat := by
 rw [BitVec.toNat_ofInt];have : a % (2 ^ 64 : Nat) = a := Int.emod_eq_of_lt h (by omega);rw [this]
theorem and_mask32' (a : Int) (h : 0 <= a) (h' : a < 18446744073709551616) : zsf .u64 a 4294967295 = a % 4294967296 := by
 unfold zsf;have e : (BitVec.ofInt IntKind.u64.bits a &&& BitVec.ofInt IntKind.u64.bits 4294967295).toNat = a.toNat % 4294967296 := by
  show (BitVec.ofInt 64 a &&& BitVec.ofInt 64 4294967295).toNat = _;rw [BitVec.toNat_and, zjM a h h', zjM _ (by omega) (by omega)];have := Nat.and_two_pow_sub_one_eq_mod a.toNat 32;simpa using this
 rw [e, IntKind.wrap_u64];omega
end Go.Pm
namespace Go
open Go.RowKit
theorem zkd {P : Program} (w : World) {ops : Array Oper} {rest : List Oper} {o : Oper} {a : Act} {Q : Exit -> Act -> World -> Prop}
  (hg : o.guard = none) (l c : Operand) (t : TypeId) (hop : o.op = Op.makeSlice t l c)
  (e : TypeId) (i : TypeInfo) (z : Value) (h1 : P.underlying t = some (.slice e)) (h2 : P.info? e = some i) (h3 : i.zero = some z) (h4 : i.size = 1) (hz : z.cells = #[z])
  (kl kc : IntKind) (L C : Int) (n : Nat) (hl : a.eval l = .int kl L) (hc : a.eval c = .int kc C) (hL : L = (n : Int)) (hC : C = (n : Int)) (b2 : i.bytes * n <= 281474976710656) (b3 : n <= maxLen)
  (hK : ∀ w', Hid (w'.heap[w.heap.size]? = some (.cells (List.replicate n z).toArray e (0, 0))) -> Below w.heap.size w w' -> wpList P ops Q rest (a.put o.dst (.slice (some ⟨w.heap.size, 0, none⟩) n n)) w') :
  wpList P ops Q (o :: rest) a w := by
 refine wpList_plain hg fun K hK' => ?_;have hrun := run_make (P := P) w t e i z h1 h2 h3 kl kc L C (by omega) (by omega) (by rw [hC]; have h := Int.ofNat_le.2 b2; rw [Int.natCast_mul] at h; exact h) (by unfold maxLen at b3; omega);subst hL;subst hC;unfold Oper.wp;simp [execOp, hop, hl, hc, hrun, Result.andThen];refine hK' _ _ (by
  have := hK (w.alloc (.cells (madeCells z.cells (n * i.size)) e)) ?_ ((Below.refl _ w).alloc (Nat.le_refl _) _)
  ·simpa using this
  ·show _ = _;rw [heap_alloc_new];have : madeCells z.cells (n * i.size) = (List.replicate n z).toArray := by
    rw [h4, Nat.mul_one, hz];apply Array.ext_getElem?;intro q;by_cases hq : q < n <;> simp [madeCells, hq, Nat.mod_one]
   rw [this])
end Go
namespace Go.Proofs.YtmlpcgkaonifcaaGreatDoor.Df
open Go Go.VL Go.Proofs Go.RowKit
attribute [local simp] zbw zc2 zcq evPure opd uOf zay St.put St.at getK binD binI binS binB nilD aggD zfJ zge lookD lookR zcn rangeS Go.VL.nextD Go.VL.nextS zcr zgk zgh zfs zcv mkV zbi zaT zaS zaR zc0 zaP zba zbs mapEff zdE zfp Key.kk shiftI arith unD convD zdu loadD cellsAt fieldAddrD fieldD indexAddrD indexSlD arrAddr indexD sliceD cutD lenD minmaxD nilCheckD buildD fillD zb0 zc7 zeD setAll zcW zef zck zfv zcj St.add zaw zbB rowsOf zdg zcw zad zac zaa zbz zda za3 entry zbO zbT valD zcm zcB zfw zdb zdc zb4 zbP zam zaW zbj delAll effD St.effS zcF zaU zaH zcG zaV zaJ zbY zaI zaA zbZ zcD zbv zbX za9 zbV zbW zar mkD zcl zbG zbK zam zcu D.ids Op.operands Call.operands zbH makeIfD makeFuncD typeAssertD zgd zdm zdn zf8 zco IntKind.bits zct zaz List.take_of_length_le List.range_succ zcO zcf zcP zcK zbD zb6 zb8 zcL zca zbe zb9 zb7 zhc zce zcM zaZ zaL zcN za0 zaN zcd zaM zaF zcS zcT zha zab frzN frz1 zav zau St.frz St.frzS frzS fv za1 zbm zbn frzObS zat zan frz zbL zbq zbr zbN zb5 zcc za7 St.norm St.lp St.only zax wkE wkO wkU Ob.under D.under zaj zak zcQ zcg zcR h4s zea zaC zbC List.zipIdx_cons List.zipIdx_nil zzC zzD Nat.zero_add
attribute [local irreducible] V G H HD HD2 zbf Eff CallP CallV EndOK Fun Ret FinOK LoopI LoopW EndW HR vs2 RN Cnd H4
theorem zm2 (m : Nat) (hm : m <= 3000) : Fun Tryz.prog 101 [.u (.int .u64 1), .u (.int .u64 m)] (· = .tup [.u (.int .u64 0), .u (.int .u64 m)]) := by
 have h1 := Pm.and_mask32' (m : Int) (by omega) (by omega);have h2 : (m : Int) % 4294967296 = m := by omega
 rw [h2] at h1;refine Fun.run Tryz.func101 Tryz.ntmps101 Tryz.results101 rfl (by simp) fun Γ hn => ?_
 repeat' (first
  | (refine zaf rfl ?_; simp [h1])
  | fail)
 all_goals
 (refine Pst.of ?_; simp)
 have h3 := Pm.and_mask32' 1 (by omega) (by omega);have h4 : 1 * (m : Int) % 18446744073709551616 / 4294967296 % 18446744073709551616 = 0 := by omega
 have h5 := Pm.and_mask32' 0 (by omega) (by omega);have h6 : (m : Int) / 4294967296 = 0 := by omega
 rw [show (1 : Int) % 4294967296 = 1 by omega] at h3;rw [show (0 : Int) % 4294967296 = 0 by omega] at h5;rw [h3, h4, h5, h6];omega
theorem zqX (m : Nat) (hm : m <= 3000) : Fun Tryz.prog 80 [.u (.int .u64 1), .u (.int .u64 m)] (· = .tup [.u (.int .u64 0), .u (.int .u64 m)]) := by
 have h1 := zm2 m hm;refine Fun.run Tryz.func80 Tryz.ntmps80 Tryz.results80 rfl (by simp) fun Γ hn => ?_
 repeat' (first
  | (refine zaf rfl ?_; simp)
  | (refine CallP.f2 rfl (h1) (by first | simp <;> rfl | fail) ?_; simp)
  | fail)
 (refine Pst.of ?_; simp)
end Go.Proofs.YtmlpcgkaonifcaaGreatDoor.Df
namespace Go.Proofs.YtmlpcgkaonifcaaGreatDoor.Df
open Go Go.VL Go.Proofs Go.RowKit
theorem zqY (m : Nat) (hm : m <= 3000) (w : World) (hG : GlobIn (zju w)) : Calls Tryz.prog 80 #[.int .u64 1, .int .u64 m] w fun e w' => e = .returned (.tuple #[.int .u64 0, .int .u64 m]) /\ Below w.heap.size w w' := by
 have h := zqX m hm ⟨zju w, fun _ => none, hG⟩ (w.heap.size <= ·) w #[.int .u64 1, .int .u64 m] ⟨(fun _ _ _ e => e), (fun i ob e => by simp [getK] at e), (fun i j x y h g b e => by simp [getK] at e)⟩ (fun _ _ => rfl) (fun b hb => hb)
  ⟨rfl, fun j d hj => by
   match j, hj with
   | 0, hj => cases hj; exact .u _ _ (.int _ _)
   | 1, hj => cases hj; exact .u _ _ (.int _ _)⟩
 refine h.mono ?_;rintro e w' ⟨v, d, obs, nx, k, rfl, hin, hsat, hhdr, hnx, hrep, hpu, rfl⟩;obtain ⟨vs, hl, rfl, hv⟩ := zhm hrep;refine ⟨?_, hin.os, hin.tape, hin.output, hin.size, fun b hb => hin.block b (by show ¬ w.heap.size <= b; omega)⟩
 match vs, hl with
 | [a, b], _ =>
  have h0 := zcb (hv 0 _ rfl);have h1 := zcb (hv 1 _ rfl);simp at h0 h1;rw [h0, h1]
def zhz (z : Value) (m k : Nat) : List Value := List.replicate k z ++ List.replicate (m - k) (.int .i64 0)
theorem zl3 (z : Value) (m k : Nat) (h : k <= m) : (zhz z m k).length = m := by simp [zhz]; omega
theorem zle (z : Value) (m : Nat) : splice (List.replicate m (Value.int .i64 0)) 0 (List.replicate (min 1 m) z) = zhz z m (min 1 m) := by
 simp [splice, zhz, List.drop_replicate]
theorem zmJ (z : Value) (m k : Nat) (h : k <= m) : splice (zhz z m k) k (List.replicate (min k (m - k)) z) = zhz z m (k + min k (m - k)) := by
 simp only [splice, zhz, List.length_replicate];rw [List.take_left' (by simp), List.drop_append, List.drop_eq_nil_of_le (by simp), List.nil_append, List.length_replicate, List.drop_replicate, <- List.append_assoc, List.replicate_append_replicate]
 congr 2
 omega
theorem zr7 {g m k : Nat} {z : Value} {w : World} {t : TypeId} (hg : w.heap[g]? = some (.cells (zhz z m k).toArray t (0, 0))) (hk : k <= m) {j : Nat} {v : Value} (hj : (List.replicate (min k (m - k)) z)[j]? = some v) : w.drew.cell? ((⟨g, 0, none⟩ : Addr).add j) = some v := by
 have hl := (List.getElem?_eq_some_iff.1 hj).1;simp at hl;rw [List.getElem?_replicate, if_pos (by omega)] at hj;cases hj;rw [Addr.add_lit, Nat.zero_add];show w.cell? _ = _;rw [cell_of_row w g j _ t (0, 0) hg];simp [zhz, List.getElem?_append_left, show j < k by omega]
theorem zt9 {b m : Nat} {z : Value} {w w2 : World} (hB : Below w.heap.size w w2) (hb : b < w.heap.size) (hc : w.cell? ⟨b, 0, none⟩ = some z) {j : Nat} {v : Value} (hj : (List.replicate (min 1 m) z)[j]? = some v) : w2.cell? ⟨b, j, none⟩ = some v := by
 have hl := (List.getElem?_eq_some_iff.1 hj).1;simp at hl;obtain rfl : j = 0 := by omega
 rw [List.getElem?_replicate] at hj;split at hj
 ·cases hj;exact (hB.cell (p := ⟨b, 0, none⟩) hb).trans hc
 ·omega
set_option maxHeartbeats 1600000 in
theorem zlp (z : Int) (b cap m : Nat) (w : World) (hm : m <= 3000) (hb : b < w.heap.size) (hc : w.cell? ⟨b, 0, none⟩ = some (.int .i64 z)) (hcap : 1 <= cap) (hG : GlobIn (zju w)) :
  Calls Tryz.prog 55 #[.slice (some ⟨b, 0, none⟩) 1 cap, .int .i64 m] w fun e w' => ∃ v, e = .returned v /\ w'.ownsRow w.heap.size 3 1 v m (List.replicate m (.int .i64 z)) /\ Below w.heap.size w w' := by
 have hm0 : ¬ (m : Int) < 0 := by omega
 have hw1 : IntKind.u64.wrap (m : Int) = m := by rw [IntKind.wrap_u64]; omega
 have hw2 : IntKind.i64.wrap (m : Int) = m := by rw [IntKind.wrap_i64]; omega
 have hw3 : ¬ (9223372036854775807 : Int) < m := by omega
 go_enter Tryz.func55, Tryz.ntmps55
 obtain ⟨i0, hi0, hz0, hz1, hz2⟩ := info_parts (show (Tryz.prog.info? 3).map (fun i => (i.zero, i.size, i.bytes)) = some (some (.int .i64 0), 1, 8) by kernel_rfl);have hsz : (Tryz.prog.info? 3).map (·.size) = some 1 := by rw [hi0]; simp [hz1]
 go_wp2_with (first
  | (go_at_call 80; refine (zqY m hm _ hG).mono ?_; rintro e w1 ⟨rfl, hb1⟩)
  | (at_make; refine zkd _ rfl _ _ 28 rfl 3 i0 (.int .i64 0) Tryz.underlying28 hi0 hz0 hz1 rfl .i64 .i64 _ _ m rfl rfl rfl rfl (by rw [hz2]; omega) (by unfold maxLen; omega) ?_; intro w2 hg2 hb2)
  | ((with_reducible show wpList _ _ _ _ _ _); refine wpList_copy_splice (w := w2) rfl (.tmp 31) (.tmp 32) 28 28 rfl 3 Tryz.underlying28 hsz _ _ m m 1 cap rfl rfl w1.heap.size 0 (List.replicate m (.int .i64 0)) 3 ?a8 (List.replicate (min 1 m) (.int .i64 z)) ?a9 ?b1 ?b2 ?b3 w.heap.size w ?b4 ?b5 ?b6))
 case b1 => exact fun _ j v hj => zt9 (hb1.trans (hb2.mono hb1.size)) hb hc hj
 case a8 => exact hg2
 case a9 => rw [List.length_replicate]
 case b2 => rw [List.length_replicate, List.length_replicate]; omega
 case b3 => exact fun v hv => by rw [List.eq_of_mem_replicate hv]; rfl
 case b4 => exact hb1.trans (hb2.mono hb1.size)
 case b5 => exact hb1.size
 intro w3 hg3 hb3;rw [zle] at hg3
 go_wp2
 go_loopw [8] (fun i wr => ∃ k : Nat, i = .int .i64 k /\ k <= m /\ (m = 0 \/ 1 <= k) /\ Hid (wr.heap[w1.heap.size]? = some (.cells (zhz (.int .i64 z) m k).toArray 3 (0, 0))) /\ Below w.heap.size w wr)
  (fun i _ => m - (intOf i).toNat)
 case atStart => exact ⟨min 1 m, rfl, by omega, by omega, hg3, hb3⟩
 case round =>
  obtain ⟨k, rfl, hk, hk1, hgk, hbk⟩ := hrel;by_cases hlt : k < m
  ·have hcs : (List.replicate (min k (m - k)) (Value.int .i64 z)).length = Nat.min k (m - k) := by rw [List.length_replicate]
   have hfit : k + (List.replicate (min k (m - k)) (Value.int .i64 z)).length <= (zhz (.int .i64 z) m k).length := by rw [List.length_replicate, zl3 _ _ _ hk]; omega
   have hone : ∀ v ∈ List.replicate (min k (m - k)) (Value.int .i64 z), v.oneCell' = true := fun v hv => by rw [List.eq_of_mem_replicate hv]; rfl
   have hsrc : ∀ j v, (List.replicate (min k (m - k)) (Value.int .i64 z))[j]? = some v -> wr.drew.cell? ((⟨w1.heap.size, 0, none⟩ : Addr).add j) = some v := fun j v hj => zr7 hgk hk hj
   go_wp2
   go_region_law (refine step_copy_splice rfl (.tmp 41) (.tmp 44) 28 28 rfl 3 Tryz.underlying28 hsz (if m = k then some ⟨w1.heap.size, 0, none⟩ else some ⟨w1.heap.size, k, none⟩) (some ⟨w1.heap.size, 0, none⟩) (m - k) (m - k) k m (by kernel_rfl) (by kernel_rfl) w1.heap.size k (zhz (.int .i64 z) m k) 3 hgk (List.replicate (min k (m - k)) (.int .i64 z)) hcs (fun _ => ⟨if_neg (by omega), _, rfl, hsrc⟩) hfit hone w.heap.size w hbk.drew hb1.size ?_; intro w4 hg4 hb4)
   rw [zmJ _ _ _ hk] at hg4;obtain ⟨q, hq⟩ : ∃ q, q = Nat.min k (m - k) := ⟨_, rfl⟩;have hq2 : q = min k (m - k) := hq;have hsum : IntKind.i64.wrap ((k : Int) + (Nat.min k (m - k) : Nat)) = ((k + q : Nat) : Int) := by rw [<- hq, IntKind.wrap_i64]; omega
   rw [<- hq2] at hg4;have hlq : (List.replicate (min k (m - k)) (Value.int .i64 z)).length = q := by rw [List.length_replicate]; exact hq2.symm
   have hsum2 : IntKind.i64.wrap ((k : Int) + (q : Int)) = ((k + q : Nat) : Int) := by rw [IntKind.wrap_i64]; omega
   clear hsrc hone hfit hcs
   go_wp2
   have e1 : (k : Int) + (Nat.min k (m - k) : Nat) = ((k + q : Nat) : Int) := by rw [<- hq]; omega
   go_roundw
   case rel => exact ⟨k + q, e1, by omega, by omega, hg4⟩
   case measure =>
    rw [e1];show m - (((k + q : Nat) : Int)).toNat < m - ((k : Nat) : Int).toNat;omega
  ·obtain rfl : k = m := by omega
   go_wp2
   go_ret
   refine ⟨_, rfl, ⟨by simp, .inr ⟨_, _, _, rfl, hb1.size, hgk, Nat.le_refl _, by unfold maxLen; omega, ?_, ?_⟩⟩, hbk⟩
   ·simp [zl3]
   ·simp [zhz]
theorem zoI (j nx m : Nat) (z : Int) (hm : m <= 3000) : Ret Tryz.prog 55 [.vec j 1, .u (.int .i64 m)] [(j, .vec 3 1 (intR [z]))] nx
  fun d obs nx' => d = .vec nx (List.replicate m z).length /\ obs = (nx, .vec 3 1 (intR (List.replicate m z))) :: [(j, .vec 3 1 (intR [z]))] /\ nx' = nx + 1 := by
 refine Ret.zyb _ fun k own w vs hsat hrep => ?_;obtain ⟨h, xs, hh, hrow, _, _, hcell, _⟩ := (hsat.ob j (.vec 3 1 (intR [z])) (by simp [getK])).vec;obtain ⟨h1, h2⟩ := hrep;have h3 := h2 0 _ rfl;have h4 := zcb (h2 1 _ rfl);have h6 : ∀ v0, Rep k (.vec j 1) v0 -> v0 = za8 h 1 := fun v0 h3 => by
  cases h3 with
  | vec i len g hg => rw [hh] at hg; cases hg; rfl
 have h5 : vs.getD 0 undef = za8 h 1 := h6 _ h3;have hvs : vs = #[za8 h 1, .int .i64 m] := by
  have hs2 : vs.size = 2 := by simpa using h1
  apply Array.ext_getElem?;intro i
  match i with
  | 0 => simp [hs2] at h5; simp [hs2, h5]
  | 1 => simp [hs2] at h4; simp [hs2, h4]
  | i + 2 => rw [Array.getElem?_eq_none (by omega), Array.getElem?_eq_none (by simp)]
 subst hvs;have hl : (intR [z]).length = 1 := rfl;rw [hl] at hrow;obtain ⟨hxl, hrow⟩ := hrow;rcases hrow with ⟨_, hx⟩ | ⟨g, cap, cur, hv, _, hg, hnc, hcm, hcs, htk⟩
 ·omega
 ·rw [hv];have hz := hcell 0 [.u (.int .i64 z)] rfl 0 _ rfl;have hx0 : xs.getD 0 undef = .int .i64 z := zcb hz.2;have hpos : 0 < cur.size := by omega
  have hc : w.cell? ⟨g, 0, none⟩ = some (.int .i64 z) := by
   rw [cell_of_row w g 0 cur 3 (0, 0) hg];have : cur.toList.take 1 = xs := by simpa using htk
   rw [<- this] at hx0;cases hq : cur.toList with
   | nil => rw [<- Array.length_toList, hq] at hpos; simp at hpos
   | cons a r =>
    rw [hq] at hx0;simp at hx0;have : cur[0]? = some a := by rw [<- Array.getElem?_toList, hq]; rfl
    rw [this, hx0]
  refine (zlp z g cap m w hm (Array.getElem?_eq_some_iff.1 hg).1 hc hnc (k.glob.mono hsat.mem)).mono ?_;rintro e w' ⟨v, rfl, hr, hb⟩;exact ⟨v, rfl, by simpa using hr, hb⟩
theorem znL (j nx m : Nat) (z : Int) (hm : m <= 3000) : RetX Tryz.prog 55 [.vec j 1, .u (.int .i64 m)] [(j, .vec 3 1 (intR [z]))] nx
  fun q o n => q = .val (mkD (How.vec m) nx) /\ (∀ y, getK o y = getK ((nx, .vec 3 1 (intR (List.replicate m z))) :: [(j, .vec 3 1 (intR [z]))]) y) /\ n = nx + 1 :=
 (zoI j nx m z hm).x.mono fun r o n h => by
   cases r with
   | val d =>
    obtain ⟨rfl, rfl, rfl⟩ := h;exact ⟨by simp [mkD], fun y => rfl, rfl⟩
   | pan c => exact h.elim
end Go.Proofs.YtmlpcgkaonifcaaGreatDoor.Df
namespace Go.Proofs.YtmlpcgkaonifcaaGreatDoor.Df
open Go Go.VL
attribute [local simp] zbw zc2 zcq evPure opd uOf zay St.put St.at getK binD binI binS binB nilD aggD zfJ zge lookD lookR zcn rangeS Go.VL.nextD Go.VL.nextS zcr zgk zgh zfs zcv mkV zbi zaT zaS zaR zc0 zaP zba zbs mapEff zdE zfp Key.kk shiftI arith unD convD zdu loadD cellsAt fieldAddrD fieldD indexAddrD indexSlD arrAddr indexD sliceD cutD lenD minmaxD nilCheckD buildD fillD zb0 zc7 zeD setAll zcW zef zck zfv zcj St.add zaw zbB rowsOf zdg zcw zad zac zaa zbz zda za3 entry zbO zbT valD zcm zcB zfw zdb zdc zb4 zbP zam zaW zbj delAll effD St.effS zcF zaU zaH zcG zaV zaJ zbY zaI zaA zbZ zcD zbv zbX za9 zbV zbW zar mkD zcl zbG zbK zam zcu D.ids Op.operands Call.operands zbH makeIfD makeFuncD typeAssertD zgd zdm zdn zf8 zco IntKind.bits zct zaz List.take_of_length_le List.range_succ zcO zcf zcP zcK zbD zb6 zb8 zcL zca zbe zb9 zb7 zhc zce zcM zaZ zaL zcN za0 zaN zcd zaM zaF zcS zcT zha zab frzN frz1 zav zau St.frz St.frzS frzS fv za1 zbm zbn frzObS zat zan frz zbL zbq zbr zbN zb5 zcc za7 St.norm St.lp St.only zax wkE wkO wkU Ob.under D.under zaj zak zcQ zcg zcR h4s zea zaC zbC List.zipIdx_cons List.zipIdx_nil zzC zzD Nat.zero_add
attribute [local irreducible] V G H HD HD2 zbf Eff CallP CallV EndOK Fun Ret FinOK LoopI LoopW EndW HR vs2 RN Cnd H4
theorem zfz {α : Type} {l : List α} {i : Nat} {a : α} (hx : l[i]? = some a) : l.take (i + 1) = l.take i ++ [a] := by
 obtain ⟨hi, rfl⟩ := List.getElem?_eq_some_iff.1 hx;rw [List.take_succ_eq_append_getElem hi]
def zuG (n : Int) : D := .u (.int .i64 n)
def ints (l : List Int) : U := .sl (l.map fun n => [.int .i64 n])
def zwQ (c : Con) : D := .u (.agg [.int .i64 c.A, .int .i64 c.B, .int .i64 c.N])
def consU (l : List Con) : U := .sl (l.map fun c => [.int .i64 c.A, .int .i64 c.B, .int .i64 c.N])
def zgc {α : Type} (p : α -> Bool) : List α -> Int -> Int
 | [], _ => -1
 | x :: l, i => if p x = true then i else zgc p l (i + 1)
theorem zgx {α : Type} {p : α -> Bool} {l : List α} {i : Nat} {x : α} {k : Int} (h : ∀ c ∈ l.take i, p c = false) (hx : l[i]? = some x) (hp : p x = true) : zgc p l k = k + i := by
 induction l generalizing i k with
 | nil => simp at hx
 | cons s l ih =>
  cases i with
  | zero => simp at hx; simp [zgc, hx, hp]
  | succ i =>
   rw [zgc, if_neg (by rw [h s (by simp)]; simp), ih (i := i) (fun c hc => h c (by simp [hc])) (by simpa using hx)];omega
theorem zeq {α : Type} {p : α -> Bool} {l : List α} {k : Int} (h : ∀ c ∈ l, p c = false) : zgc p l k = -1 := by
 induction l generalizing k with
 | nil => rfl
 | cons s l ih => rw [zgc, if_neg (by rw [h s (by simp)]; simp), ih fun c hc => h c (by simp [hc])]
theorem zfW {α : Type} (p : α -> Bool) (l : List α) : ∀ k : Int, 0 <= k -> (0 <= zgc p l k ↔ l.any p = true) := by
 induction l with
 | nil => intro k hk; simp [zgc]
 | cons s l ih =>
  intro k hk;by_cases h : p s = true
  ·simp [zgc, h, hk]
  ·rw [zgc, if_neg h, ih (k + 1) (by omega)];simp [h]
theorem zbh {α : Type} {p : α -> Prop} {l : List α} {i : Nat} {x : α} (hx : l[i]? = some x) (h : ∀ c ∈ l.take i, p c) (hp : p x) : ∀ c ∈ l.take (i + 1), p c := by
 obtain ⟨hi, rfl⟩ := List.getElem?_eq_some_iff.1 hx;rw [List.take_succ_eq_append_getElem hi];intro c hc;rcases List.mem_append.1 hc with hc | hc
 ·exact h c hc
 ·simp at hc; subst hc; exact hp
theorem zpi (l : List (Con)) (f : FuncId) (caps : List U) (p : Con -> Bool) (hf : ∀ n ∈ l, Fun Tryz.prog f (zwQ n :: caps.map .u) (· = .u (.bool (p n)))) (hcl : zae Tryz.prog f = true)
  (hca : ∀ o, zcB o (caps.map .u) = some (caps.map .u, [])) : Fun Tryz.prog 61 [.u (consU l), .fnc (.func f) (caps.map .u)] (· = .u (.int .i64 (zgc p l 0))) := by
 refine Fun.run Tryz.func61 Tryz.ntmps61 Tryz.results61 rfl (by simp) fun Γ hn => ?_; simp only [zzE, zzC, zzD];simp only [consU];refine zhK (x := 0) rfl fun hl => ?_;simp at hl
 repeat' (first
  | (refine zaf rfl ?_; simp)
  | fail)
 refine zdd (α := { i : Nat // i <= l.length /\ ∀ c ∈ l.take i, p c = false }) [0, 1, 7] (fun i => [(8, .u (.int .i64 i.1))]) (fun i => l.length - i.1) ⟨0, by omega, by simp⟩ ?_ ?_
 ·exact (Wk.env rfl rfl rfl (by simp [wkE, St.lp, zax, zaa, getK] <;> (try (intros; simp_all; done)) <;> (try (intros; omega)) <;> (try grind)))
 rintro ⟨i, hi, hb⟩;simp;rcases hx : l[i]? with _ | n
 ·have hge : l.length <= i := by simpa using hx
  repeat' (first
  | (refine Cnd.of (fun hc => ?_) (fun hc => ?_) <;> (try (exfalso; omega)) <;> (try simp [hx]))
  | (refine zaf rfl ?_; simp [hx])
  | fail)
  (refine Pst.of ?_; simp)
  rw [List.take_of_length_le hge] at hb;exact (zeq hb).symm
 ·have hlt : i < l.length := (List.getElem?_eq_some_iff.1 hx).1;have h1 := hf n (List.mem_of_getElem? hx);simp only [zwQ] at h1;cases hp : p n
  ·rw [hp] at h1
   repeat' (first
  | (refine Cnd.of (fun hc => ?_) (fun hc => ?_) <;> (try (exfalso; omega)) <;> (try simp [hx, hca]))
  | (refine zaf rfl ?_; simp [hx, hca])
  | (refine And.intro (by omega) ?_)
  | (refine CallP.f2 rfl (h1) (by first | simp [hx, hca] <;> rfl | fail) ?_; simp [hx, hca])
  | fail)
   refine LoopW.next ⟨i + 1, by omega, zbh hx hb hp⟩ (by simp; omega) ?_
   exact (Wk.env rfl rfl rfl (by simp [wkE, St.lp, zax, zaa, getK] <;> (try (intros; simp_all; done)) <;> (try (intros; omega)) <;> (try grind)))
  ·rw [hp] at h1
   repeat' (first
  | (refine Cnd.of (fun hc => ?_) (fun hc => ?_) <;> (try (exfalso; omega)) <;> (try simp [hx, hca]))
  | (refine zaf rfl ?_; simp [hx, hca])
  | (refine And.intro (by omega) ?_)
  | (refine CallP.f2 rfl (h1) (by first | simp [hx, hca] <;> rfl | fail) ?_; simp [hx, hca])
  | fail)
   (refine Pst.of ?_; simp)
   rw [zgx hb hx hp];omega
theorem zkM (l : List (Con)) (f : FuncId) (caps : List U) (p : Con -> Bool) (hf : ∀ n ∈ l, Fun Tryz.prog f (zwQ n :: caps.map .u) (· = .u (.bool (p n)))) (hcl : zae Tryz.prog f = true)
  (hca : ∀ o, zcB o (caps.map .u) = some (caps.map .u, [])) (hcb : ∀ o, zbP o (caps.map .u) = some (caps, [])) : Fun Tryz.prog 37 [.u (consU l), .fnc (.func f) (caps.map .u)] (· = .u (.bool (l.any p))) := by
 have h1 := zpi l f caps p hf hcl hca;refine Fun.run Tryz.func37 Tryz.ntmps37 Tryz.results37 rfl (by simp) fun Γ hn => ?_; simp only [zzE, zzC, zzD];simp only [consU] at h1 ⊢
 repeat' (first
  | (refine zaf rfl ?_; simp [hcb])
  | (refine CallP.f2 rfl (h1) (by first | simp [hcb] <;> rfl | fail) ?_; simp [hcb])
  | fail)
 (refine Pst.of ?_; simp)
 have h2 := zfW p l 0 (by omega);rw [Bool.eq_iff_iff];simpa using h2
theorem zhl (n : Int) (c : Con) : Fun Tryz.prog 54 (zwQ c :: [U.row [.int .i64 n] 0].map .u) (· = .u (.bool (!okB n c))) := by
 simp only [zwQ, zzC, zzD];refine Fun.run Tryz.func54 Tryz.ntmps54 Tryz.results54 rfl (by simp) fun Γ hn => ?_
 repeat' (first
  | (refine Cnd.of (fun hc => ?_) (fun hc => ?_) <;> (try (exfalso; omega)) <;> (try simp))
  | (refine zaf rfl ?_; simp)
  | fail)
 all_goals
  (refine Pst.of ?_; simp)
 all_goals (simp only [okB, maxN]; grind)
theorem zvX (l : List Con) (n : Int) : l.all (okB n) = !l.any fun c => !okB n c := by
 induction l with
 | nil => rfl
 | cons a l ih => simp [ih]
theorem zgM (l : List Con) (n : Int) : Fun Tryz.prog 30 [.u (consU l), .u (.int .i64 n)] (· = .u (.bool (rightL l n))) := by
 have h1 := zkM l 54 [U.row [.int .i64 n] 0] _ (fun c _ => zhl n c) (by simp) (fun _ => rfl) (fun _ => rfl);simp only [zzC, zzD] at h1;unfold rightL;rw [zvX];generalize (l.any fun c => !okB n c) = z at h1 ⊢;refine Fun.run Tryz.func30 Tryz.ntmps30 Tryz.results30 rfl (by simp) fun Γ hn => ?_; simp only [zzE, zzC, zzD];simp only [consU] at h1 ⊢
 repeat' (first
  | (refine Cnd.of (fun hc => ?_) (fun hc => ?_) <;> (try (exfalso; omega)) <;> (try simp))
  | (refine zaf rfl ?_; simp)
  | (refine CallP.f2 rfl (h1) (by first | simp <;> rfl | fail) ?_; simp)
  | fail)
 all_goals
  (refine Pst.of ?_; simp)
 all_goals grind
end Go.Proofs.YtmlpcgkaonifcaaGreatDoor.Df
namespace Go.Proofs.YtmlpcgkaonifcaaGreatDoor.Df
open Go Go.VL Go.Proofs
attribute [local simp] zbw zc2 zcq evPure opd uOf zay St.put St.at getK binD binI binS binB nilD aggD zfJ zge lookD lookR zcn rangeS Go.VL.nextD Go.VL.nextS zcr zgk zgh zfs zcv mkV zbi zaT zaS zaR zc0 zaP zba zbs mapEff zdE zfp Key.kk shiftI arith unD convD zdu loadD cellsAt fieldAddrD fieldD indexAddrD indexSlD arrAddr indexD sliceD cutD lenD minmaxD nilCheckD buildD fillD zb0 zc7 zeD setAll zcW zef zck zfv zcj St.add zaw zbB rowsOf zdg zcw zad zac zaa zbz zda za3 entry zbO zbT valD zcm zcB zfw zdb zdc zb4 zbP zam zaW zbj delAll effD St.effS zcF zaU zaH zcG zaV zaJ zbY zaI zaA zbZ zcD zbv zbX za9 zbV zbW zar mkD zcl zbG zbK zam zcu D.ids Op.operands Call.operands zbH makeIfD makeFuncD typeAssertD zgd zdm zdn zf8 zco IntKind.bits zct zaz List.take_of_length_le List.range_succ zcO zcf zcP zcK zbD zb6 zb8 zcL zca zbe zb9 zb7 zhc zce zcM zaZ zaL zcN za0 zaN zcd zaM zaF zcS zcT zha zab frzN frz1 zav zau St.frz St.frzS frzS fv za1 zbm zbn frzObS zat zan frz zbL zbq zbr zbN zb5 zcc za7 St.norm St.lp St.only zax wkE wkO wkU Ob.under D.under zaj zak zcQ zcg zcR h4s zea zaC zbC List.zipIdx_cons List.zipIdx_nil zzC zzD Nat.zero_add
attribute [local irreducible] V G H HD HD2 zbf Eff CallP CallV EndOK Fun Ret FinOK LoopI LoopW EndW HR vs2 RN Cnd H4
theorem zrR (l : List Int) (hl : l.length <= 1000000) : Fun Tryz.prog 56 [.u (ints l)] (· = .u (ints l)) := by
 cases l with
 | nil =>
  refine Fun.runW Tryz.func56 Tryz.ntmps56 rfl (by simp) fun Γ hn => ?_; simp only [zzE, zzC, zzD];simp only [ints, zzD];refine zpN (x := 0) rfl ?_ (fun a cp => ?_)
  ·repeat' (first
  | (refine zaf rfl ?_; simp)
  | fail)
   refine EndW.norm (EndW.here ?_)
   (refine EndOK.val (.inr rfl) ?_; simp [Tryz.results56])
  ·repeat' (first
  | (refine zaf rfl ?_; simp)
  | fail)
   (refine EndW.frzN 1 ?_; simp [del])
   refine EndW.norm (EndW.here ?_)
   (refine EndOK.val (.inr rfl) ?_; simp [Tryz.results56])
 | cons x l =>
  simp only [List.length_cons] at hl;refine Fun.runW Tryz.func56 Tryz.ntmps56 rfl (by simp) fun Γ hn => ?_; simp only [zzE, zzC, zzD];simp only [ints, zzC]
  repeat' (first
  | (refine zaf rfl ?_; simp)
  | (refine And.intro (by omega) ?_)
  | fail)
  (refine EndW.frzN 1 ?_; simp [del])
  refine EndW.here ?_
  (refine EndOK.val (.inr rfl) ?_; simp [Tryz.results56])
def zev (m : Nat) : List Int := zhU (List.range m)
theorem ze3 (m : Nat) : (zev m).length = m := by simp [zev]
theorem zhB (m : Nat) (x : Int) : x ∈ zev m ↔ 0 <= x /\ x < m /\ zgC m x.toNat = true := by
 simp only [zev, zhU, List.mem_map, List.mem_range, zgC, decide_eq_true_eq];constructor
 ·rintro ⟨i, hi, rfl⟩;simp;omega
 ·rintro ⟨h1, h2, _⟩;exact ⟨x.toNat, by omega, by simp; omega⟩
theorem zrK (m : Nat) (hm : m <= 1000) : Fun Tryz.prog 32 [.u (.int .i64 m)] (· = .u (ints (zev m))) := by
 simp only [ints];refine Fun.runW Tryz.func32 Tryz.ntmps32 rfl (by simp) fun Γ hn => ?_
 repeat' (first
  | (refine zaf rfl ?_; simp)
  | fail)
 refine zkX _ (Wk.own 3 3 1 (by decide) rfl) ?_;simp [St.own];refine zbS (α := { k : Nat // k <= m }) [5] (fun k => [(3, .vec 0 k.1), (6, .u (.int .i64 k.1))]) (fun k => [(0, .vec 3 1 (intR (zev k.1)))]) 1 (fun k => m - k.1) ⟨0, by omega⟩ ?_ ?_
 ·exact (Wk.zdw (by simp [hn, zal, zai, zev, intR] <;> grind))
 rintro ⟨k, hk⟩;simp;by_cases hlt : k < m
 ·have q7 : intR (zev k) ++ [[D.u (.int .i64 (k : Int))]] = intR (zev (k + 1)) := by simp [zev, intR, List.range_succ]
  have q8 := zgR (zev k);have q9 := ze3 k
  repeat' (first
  | (refine zaf rfl ?_; simp [hlt, zag, q7, q8, q9])
  | (refine And.intro (by omega) ?_)
  | fail)
  refine LoopW.next ⟨k + 1, by omega⟩ (by simp; omega) ?_
  exact (Wk.zwX (0) (2) rfl (by simp [hn]) (by simp [hn]) (by simp [zal, zai]) (by simp [zhQ, zfA, St.lp, zax, zaa, getK, zac, zad, D.under, D.le, D.ren, zal, zai] <;> (try (intros; simp_all; done)) <;> (try omega)) (by simp [wkR, zfx, zc4, zc5, zcU, zfi, zfA, St.lp, zaa, getK, zac, zad, obR, leU, zch, za2, Ob.under, D.under, D.le, D.ren, zal, zai] <;> (try (intros; simp_all; done)) <;> (try omega)))
 ·obtain rfl : k = m := by omega
  have q9 := ze3 k
  repeat' (first
  | (refine zaf rfl ?_; simp [hlt])
  | fail)
  refine EndW.wk _ (Wk.frz 0 [] (us := (zev k).map fun z => [U.int .i64 z]) rfl (zbF _)) ?_;simp [St.frz, St.frzS, frzS, fv, za1, frzObS, del, q9];refine EndW.norm (EndW.here ?_)
  (refine EndOK.val (.inr rfl) ?_; simp [Tryz.results32, q9])
theorem zmN (t j nx : Nat) (hj : j < nx) (zs : List Int) (hz : zs.length <= 1099511627776) : Ret Tryz.prog 59 [.vec j zs.length] [(j, .vec t 1 (intR zs))] nx
  fun d obs nx' => d = .tup [] /\ obs = [(j, .vec t 1 (intR zs.reverse))] /\ nx' = nx :=
 Ret.zv5 (ret := fun _ _ => .tuple #[]) hj (by simp) (by simp only [maxLen]; omega) (fun blk cap w hH hb _ _ => (Tryz.slices_Reverse_int blk 0 cap zs w hH (by omega)).mono fun e w' ⟨h1, q, h2⟩ => ⟨h1, q, #[], by rw [h2, Go.Sort.grow_empty]⟩)
  (fun h0 p cap w => by subst h0; exact Tryz.slices_Reverse_int_empty p cap w) (.inl ⟨rfl, fun _ _ => rfl⟩)
end Go.Proofs.YtmlpcgkaonifcaaGreatDoor.Df
namespace Go.Proofs.YtmlpcgkaonifcaaGreatDoor.Df
open Go Go.VL
attribute [local simp] zbw zc2 zcq evPure opd uOf zay St.put St.at getK binD binI binS binB nilD aggD zfJ zge lookD lookR zcn rangeS Go.VL.nextD Go.VL.nextS zcr zgk zgh zfs zcv mkV zbi zaT zaS zaR zc0 zaP zba zbs mapEff zdE zfp Key.kk shiftI arith unD convD zdu loadD cellsAt fieldAddrD fieldD indexAddrD indexSlD arrAddr indexD sliceD cutD lenD minmaxD nilCheckD buildD fillD zb0 zc7 zeD setAll zcW zef zck zfv zcj St.add zaw zbB rowsOf zdg zcw zad zac zaa zbz zda za3 entry zbO zbT valD zcm zcB zfw zdb zdc zb4 zbP zam zaW zbj delAll effD St.effS zcF zaU zaH zcG zaV zaJ zbY zaI zaA zbZ zcD zbv zbX za9 zbV zbW zar mkD zcl zbG zbK zam zcu D.ids Op.operands Call.operands zbH makeIfD makeFuncD typeAssertD zgd zdm zdn zf8 zco IntKind.bits zct zaz List.take_of_length_le List.range_succ zcO zcf zcP zcK zbD zb6 zb8 zcL zca zbe zb9 zb7 zhc zce zcM zaZ zaL zcN za0 zaN zcd zaM zaF zcS zcT zha zab frzN frz1 zav zau St.frz St.frzS frzS fv za1 zbm zbn frzObS zat zan frz zbL zbq zbr zbN zb5 zcc za7 St.norm St.lp St.only zax wkE wkO wkU Ob.under D.under zaj zak zcQ zcg zcR h4s zea zaC zbC List.zipIdx_cons List.zipIdx_nil zzC zzD Nat.zero_add
attribute [local irreducible] V G H HD HD2 zbf Eff CallP CallV EndOK Fun Ret FinOK LoopI LoopW EndW HR vs2 RN Cnd H4
end Go.Proofs.YtmlpcgkaonifcaaGreatDoor.Df
namespace Go.Proofs.YtmlpcgkaonifcaaGreatDoor
open Go Go.VL Go.ChangeShapes Go.WideShapes Go.ChangeAt Go.RowKit
theorem Tryz.own : ownKnob Tryz.prog.godebug = none := by kernel_rfl
theorem Tryz.zv3 : laidOutB Tryz.prog = true := by kernel_rfl
theorem Tryz.zCY : zjC Tryz.prog = true := by kernel_rfl
theorem zuI : ∀ (m : Nat) (r : List U), SizeOf.sizeOf r <= m -> HasRow Tryz.prog 25 r -> ∃ e : Exp, r = e.row
 | 0, r, hm, _ => by cases r <;> simp at hm
 | m + 1, r, hm, h => by
  obtain ⟨rs, hr, h⟩ := h.of_struct zA9
  match rs, h with
  | [a, b, c, d, f], h =>
   obtain ⟨h1, h2, h3, h4, h5, _⟩ := h;obtain ⟨x, rfl, _⟩ := h1.of_int io3;obtain ⟨y, rfl, _⟩ := h2.of_int io3;obtain ⟨z, rfl, _⟩ := h3.of_int io3;obtain ⟨s, rfl, _⟩ := h4.of_str (by simp);obtain ⟨rows, rfl, _, h6⟩ := h5.of_slice zB1;have hsz : ∀ q ∈ rows, SizeOf.sizeOf q <= m := fun q hq => by
    have := List.sizeOf_lt_of_mem hq;rw [hr] at hm;simp at hm;omega
   obtain ⟨l, rfl, _⟩ := rows_list Exp.row (fun _ => True) (rows := rows) fun q hq => by
    obtain ⟨e, he⟩ := zuI m q (hsz q hq) (h6 q hq);exact ⟨e, he, trivial⟩
   exact ⟨.mk x y z s l, by rw [hr, Exp.row_eq]; rfl⟩
theorem zhA {r : List U} (h : HasRow Tryz.prog 25 r) : ∃ e : Exp, r = [.int .i64 e.op, .int .i64 e.n, .int .i64 e.unit, .str e.s, .sl (e.args.map Exp.row)] := by
 obtain ⟨e, rfl⟩ := zuI _ r (Nat.le_refl _) h;exact ⟨e, e.row_eq⟩
theorem zwy {r : List U} (h : HasRow Tryz.prog 69 r) : ∃ l : Let, r = [.str l.name, .int .i64 l.body.op, .int .i64 l.body.n, .int .i64 l.body.unit, .str l.body.s, .sl (l.body.args.map Exp.row)] /\ True := by
 obtain ⟨rs, hr, h⟩ := h.of_struct zA8
 match rs, h with
 | [a, b], h =>
  obtain ⟨h1, h2, _⟩ := h;obtain ⟨x, rfl, _⟩ := h1.of_str (by simp);obtain ⟨e, rfl⟩ := zhA h2;exact ⟨⟨x, e⟩, by rw [hr]; rfl, trivial⟩
theorem zuE {u : U} (h : ArgU Tryz.prog 3 u) : ∃ n, u = .int .i64 n := by
 obtain ⟨n, h1, _⟩ := (h.one (by simp) (by simp)).of_int io3;exact ⟨n, by simpa using h1⟩
end Go.Proofs.YtmlpcgkaonifcaaGreatDoor
namespace Go.Proofs.YtmlpcgkaonifcaaGreatDoor
open Go Go.VL Go.ChangeShapes Go.WideShapes Go.ChangeAt Go.RowKit
theorem zvm {u : U} (h : ArgU Tryz.prog 28 u) : ∃ l : List Int, u = ints l := by
 obtain ⟨rows, h1, _, h2⟩ := (h.one (by simp) (by simp)).of_slice zB0;obtain ⟨l, rfl, _⟩ := rows_list (fun n : Int => [.int .i64 n]) (fun _ => True) fun r hr => by
  obtain ⟨n, e, _⟩ := (h2 r hr).of_int io3;exact ⟨n, e, trivial⟩
 exact ⟨l, by simpa [ints] using h1⟩
end Go.Proofs.YtmlpcgkaonifcaaGreatDoor
namespace Go.Proofs.YtmlpcgkaonifcaaGreatDoor.Df
open Go Go.VL
end Go.Proofs.YtmlpcgkaonifcaaGreatDoor.Df
namespace Go.Proofs.YtmlpcgkaonifcaaGreatDoor.Df
open Go Go.VL
end Go.Proofs.YtmlpcgkaonifcaaGreatDoor.Df
namespace Go.Proofs.YtmlpcgkaonifcaaGreatDoor.Df
open Go Go.VL
theorem zlg (l : List Int) : (zf9 l).Pairwise (· <= ·) := by
 have := List.pairwise_mergeSort (le := fun (x y : Int) => decide (x <= y)) (fun a b c h1 h2 => by simp at *; omega) (fun a b => by simp; omega) l;simpa [zf9] using this
theorem zoC (l : List Int) : (zf9 l).Perm l := List.mergeSort_perm l _
theorem znk (zs : List Int) (x : Int) : x ∈ Lib.compact zs ↔ x ∈ zs := by
 unfold Lib.compact Lib.compactUpTo;simp only [List.mem_map, List.mem_filter, List.mem_range];constructor
 ·rintro ⟨j, ⟨hj, _⟩, rfl⟩;simp [hj]
 ·intro h;obtain ⟨k, hk⟩ := List.getElem?_of_mem h;have hkl := (List.getElem?_eq_some_iff.1 hk).1;obtain ⟨j, h1, h2, h3, h4⟩ := zob (P := fun j => zs[j - 1]? = some x) (k := k + 1) (by omega) (by simpa using hk);have hjl := (List.getElem?_eq_some_iff.1 h3).1;refine ⟨j - 1, ⟨hjl, ?_⟩, ?_⟩
  ·simp only [Lib.keeps, decide_eq_true_eq];by_cases h0 : j - 1 = 0
   ·exact .inl h0
   ·right;have h5 := h4 (j - 1) (by omega) (by omega);intro e;apply h5;have e2 : zs[j - 1 - 1]? = zs[j - 1]? := by
     rw [List.getElem?_eq_getElem (by omega), List.getElem?_eq_getElem hjl]
     congr 1
     simpa [hjl, show j - 1 - 1 < zs.length by omega] using e.symm
    rw [e2, h3]
  ·have := (List.getElem?_eq_some_iff.1 h3).2;simp [hjl, this]
theorem zpy {zs : List Int} (hs : zs.Pairwise (· <= ·)) : (Lib.compact zs).Pairwise (· < ·) := by
 unfold Lib.compact Lib.compactUpTo;rw [List.pairwise_map];refine List.Pairwise.imp_of_mem (fun {i j} hi hj hij => ?_) (List.Pairwise.filter _ List.pairwise_lt_range);have hj1 := List.mem_range.1 (List.mem_filter.1 hj).1;have hj2 := (List.mem_filter.1 hj).2;simp only [Lib.keeps, decide_eq_true_eq] at hj2;have hil : i < zs.length := by omega
 have hne : zs[j] ≠ zs[j - 1] := by
  rcases hj2 with h | h
  ·omega
  ·simpa [hj1, show j - 1 < zs.length by omega] using h
 have h1 : zs[j - 1] <= zs[j] := List.pairwise_iff_getElem.1 hs (j - 1) j (by omega) hj1 (by omega);have h2 : zs[i] <= zs[j - 1] := by
  rcases Nat.lt_or_ge i (j - 1) with h | h
  ·exact List.pairwise_iff_getElem.1 hs i (j - 1) (by omega) (by omega) h
  ·obtain rfl : i = j - 1 := by omega
   exact Int.le_refl _
 simp [hj1, hil];omega
def zhT (nx : List Int) : List Int := Lib.compact (zf9 nx)
theorem zeW (nx : List Int) (x : Int) : x ∈ zhT nx ↔ x ∈ nx := by rw [zhT, znk]; exact (zoC nx).mem_iff
theorem zlF {n : Nat} (nx : List Int) (h : ∀ x ∈ nx, 0 <= x /\ x < (n : Int)) : (zhT nx).length <= n := by
 have h1 : ((zhT nx).map Int.toNat).Nodup := by
  rw [List.Nodup, List.pairwise_map];refine List.Pairwise.imp_of_mem (fun {a b} ha hb hab e => ?_) (zpy (zlg nx));have := h a ((zeW nx a).1 ha);have := h b ((zeW nx b).1 hb);omega
 have h2 := znS (n := n) h1 fun x hx => by
  obtain ⟨y, hy, rfl⟩ := List.mem_map.1 hx;have := h y ((zeW nx y).1 hy);omega
 simpa using h2
theorem PM.take {n : Nat} {l : List Con} {bg r all rest t st L} {v : Nat} {es : List Nat} (hl : OkC n l) (hv : (v : Int) ∈ all) (hm : ∀ i ∈ es, i ∈ zdq l v) (h : PM n l bg r all rest v es t st L) : ∀ q, q <= es.length -> ∃ L', PM n l bg r all rest v (es.drop q) (t + q) ((es.take q).foldl (zoJ l) st) L'
 | 0, _ => ⟨L, by simpa using h⟩
 | q + 1, hq => by
  obtain ⟨L1, h1⟩ := PM.take hl hv hm h q (by omega);have hx : es[q]? = some es[q] := List.getElem?_eq_getElem (by omega);obtain ⟨c, h2, h3⟩ := zgQ.1 (hm es[q] (List.getElem_mem _));rw [List.drop_eq_getElem_cons (by omega)] at h1;obtain ⟨L2, h4⟩ := h1.step hl h2 hv h3;refine ⟨L2, ?_⟩;rw [zfz hx, List.foldl_append];exact h4
theorem PI.take {n : Nat} {l : List Con} {bg r todo t g L} (hl : OkC n l) (h : PI n l bg r todo t g L) : ∀ p, p <= todo.length -> ∃ L' u, PM n l bg r todo (todo.drop p) u [] (t + p * l.length) ((todo.take p).foldl (zjv l) (g, [])) L'
 | 0, _ => ⟨L, 0, by simpa using h.start⟩
 | p + 1, hp => by
  obtain ⟨L1, u, h1⟩ := PI.take hl h p (by omega);have hx : todo[p]? = some todo[p] := List.getElem?_eq_getElem (by omega);rw [List.drop_eq_getElem_cons (by omega)] at h1;obtain ⟨L2, h2⟩ := h1.visit hl (List.getElem_mem _);refine ⟨L2, todo[p].toNat, ?_⟩;rw [zfz hx, List.foldl_append, Nat.succ_mul, <- zzA];exact h2
def zuv (l : List Con) (m : Nat) (g : GS) : List (Nat × Ob) := [(5, .box [.u (consU l), .u (.sl ((List.range m).map fun v => [ints (zhU (zdq l v))])), .vec 1 m, .vec 3 m, .vec 4 m]), (1, .vec 3 1 (intR (lst m g.val))), (3, .vec 3 1 (intR (lst m (zjd (-1) g)))), (4, .vec 4 1 (zdY (bst m g.kn)))]
end Go.Proofs.YtmlpcgkaonifcaaGreatDoor.Df
namespace Go.Proofs.YtmlpcgkaonifcaaGreatDoor
open Go Go.VL
structure Tok where
 kind : Int
 text : List UInt8
 n : Int
 pos : Int
 deriving DecidableEq, Inhabited
def Tok.row (t : Tok) : List U := [.int .i64 t.kind, .str t.text, .int .i64 t.n, .int .i64 t.pos]
def zc1 (c : UInt8) : Bool := decide (c.toNat = 32) || decide (c.toNat = 9) || decide (c.toNat = 10)
def zdW (c : UInt8) : Bool := zd1 c || zb2 c
def zcs (s : List UInt8) : Int := s.foldl (fun n c => 10 * n + ((c.toNat : Int) - 48)) 0
def zho (s : List UInt8) : Option Int :=
 if s = [] \/ zdt zb2 s ≠ s.length \/ (s.head? = some 48 /\ s ≠ [48]) \/ 13 < s.length then none else if 1099511627776 < zcs s then none else some (zcs s)
theorem zfM (s : List UInt8) (c : UInt8) : zcs (s ++ [c]) = 10 * zcs s + ((c.toNat : Int) - 48) := by simp [zcs]
theorem zg0 : ∀ (n : Nat) (s : List UInt8), s.length = n -> (∀ c ∈ s, zb2 c = true) -> 0 <= zcs s /\ zcs s < 10 ^ n
 | 0, s, h, _ => by have := List.eq_nil_of_length_eq_zero h; subst this; simp [zcs]
 | n + 1, s, h, hd => by
  have hne : s ≠ [] := fun e => by rw [e] at h; simp at h
  obtain ⟨t, c, rfl⟩ : ∃ t c, s = t ++ [c] := ⟨s.dropLast, s.getLast hne, (List.dropLast_concat_getLast hne).symm⟩;have h1 := zg0 n t (by simpa using h) (fun x hx => hd x (by simp [hx]));have h2 := hd c (by simp);simp only [zb2, Bool.and_eq_true, decide_eq_true_eq] at h2;rw [zfM];have : (10 : Int) ^ (n + 1) = 10 * 10 ^ n := by rw [Int.pow_succ]; omega
  omega
end Go.Proofs.YtmlpcgkaonifcaaGreatDoor
namespace Go.Proofs.YtmlpcgkaonifcaaGreatDoor
open Go Go.VL
def signsL : List (List UInt8) := [[61, 61], [59], [44], [61], [60], [43], [45], [42], [47], [40], [41]]
def zjf (s : List UInt8) : Except Int Tok := match s with
 | [] => .error 0
 | c :: r => if zd1 c = true then
   if zkZ ((c :: r).take (zdt zdW (c :: r))) = true then .ok ⟨1, (c :: r).take (zdt zdW (c :: r)), 0, 0⟩ else .error 13
  else if zb2 c = true then
   match zho ((c :: r).take (zdt zb2 (c :: r))) with | some n => .ok ⟨2, (c :: r).take (zdt zb2 (c :: r)), n, 0⟩ | none => .error 3
  else match signsL.find? fun x => x.isPrefixOf (c :: r) with | some x => .ok ⟨3, x, 0, 0⟩ | none => .error 11
def nextD (s : List UInt8) : D := match zjf s with | .ok t => .tup [.u (.agg [.int .i64 t.kind, .str t.text, .int .i64 t.n, .int .i64 t.pos]), .u (.int .i64 0)] | .error e => .tup [.u (.agg [.int .i64 0, .str [], .int .i64 0, .int .i64 0]), .u (.int .i64 e)]
end Go.Proofs.YtmlpcgkaonifcaaGreatDoor
namespace Go.Proofs.YtmlpcgkaonifcaaGreatDoor.Df
open Go Go.VL
attribute [local simp] HS zbw zc2 zcq evPure opd uOf zay St.put St.at getK binD binI binS binB nilD aggD zfJ zge lookD lookR zcn rangeS Go.VL.nextD Go.VL.nextS zcr zgk zgh zfs zcv mkV zbi zaT zaS zaR zc0 zaP zba zbs mapEff zdE zfp Key.kk shiftI arith unD convD zdu loadD cellsAt fieldAddrD fieldD indexAddrD indexSlD arrAddr indexD sliceD cutD lenD minmaxD nilCheckD buildD fillD zb0 zc7 zeD setAll zcW zef zck zfv zcj St.add zaw zbB rowsOf zdg zcw zad zac zaa zbz zda za3 entry zbO zbT valD zcm zcB zfw zdb zdc zb4 zbP zam zaW zbj delAll effD St.effS zcF zaU zaH zcG zaV zaJ zbY zaI zaA zbZ zcD zbv zbX za9 zbV zbW zar mkD zcl zbG zbK zam zcu D.ids Op.operands Call.operands zbH makeIfD makeFuncD typeAssertD zgd zdm zdn zf8 zco IntKind.bits zct zaz List.take_of_length_le List.range_succ
attribute [local irreducible] V G H HD HD2 HD4 zhd RetX zbf Eff CallP CallV EndOK Fun Ret FinOK LoopI LoopW EndW
theorem zkx (m : Nat) (l : List Con) (bg : Nat -> Bool) (begin_ : List Int) (hm : m <= 200) (hl : OkC m l) (hll : l.length <= 2000) (hbg : ∀ x, x ∈ begin_ ↔ 0 <= x /\ x < m /\ bg x.toNat = true) (hbl : begin_.length <= 1000) :
  Ret Tryz.prog 31 [.u (consU l), .u (.int .i64 m), .u (ints begin_)] [] 0 fun d obs nx' => d = .ptr 5 0 /\ nx' = 6 /\
   obs = [(5, .box [.u (consU l), .u (.sl ((List.range m).map fun v => [ints (zhU (zdq l v))])), .vec 1 m, .vec 3 m, .vec 4 m]), (1, .vec 3 1 (intR (lst m (GS.zero bg).val))), (3, .vec 3 1 (intR (lst m (zjd (-1) (GS.zero bg))))), (4, .vec 4 1 (zdY (bst m (GS.zero bg).kn)))] := by
 simp only [consU, ints]
 skip
 (refine Ret.of_bodyW Tryz.func31 rfl (by simp) fun Γ hn => ?_); simp only [zzE, zzC, zzD, Tryz.ntmps31]
 have k0 : intR [-1] = [[D.u (.int .i64 (-1))]] := rfl
 repeat' (first
  | (refine zmt [(2, .vec 3 1 (intR [-1]))] ⟨[], some (.vec 3 1 (intR (List.replicate m (-1)))), .vec m⟩ (.vec 3 1 (intR (List.replicate m (-1)))) (fun nx' h' => znL 2 nx' m (-1) (by omega)) ⟨rfl, rfl⟩ (by rfl) (by first | assumption | (simp; done) | fail) (by rfl) (by first | (simp [k0, zai, zaa, getK, zab, zac, zad, zar, del]; done) | fail) (by first | (simp [k0, zai, D.under, Ob.under, zaj]; done) | fail) (by simp) ?_; (try simp [k0, zai]))
  | (refine zbu ?_; simp [k0, zai])
  | (refine zbQ rfl ?_; simp [k0, zai])
  | (refine zja rfl ?_; simp [k0, zai])
  | (refine zcz ?_; simp [k0, zai])
  | (refine ⟨by omega, ?_⟩)
  | (refine zbJ ?_; simp [k0, zai])
  | (refine zfn (hC _ (by kernel_rfl)) (hk _ ?_); clear hC hk C k; simp only [zbf])
  | (refine zeR rfl (by kernel_rfl) (by first | (simp [hn] <;> omega) | fail) fun C k hC hk => ?_; simp [k0, zai])
  | (refine zeL ?_; simp [k0, zai])
  | fail)
 refine zkX { n := 64, env := [(26, .u (.int .i64 0)), (25, .u (.int .i64 l.length)), (24, .u (.sl (l.map fun c => [.int .i64 c.A, .int .i64 c.B, .int .i64 c.N]))), (7, .ptr 5 0), (2, .u (.sl (begin_.map fun n => [.int .i64 n])))], obs := (0, .vec 28 1 (List.replicate m [.u .nil])) :: [(5, .box [.u (.sl (l.map fun c => [.int .i64 c.A, .int .i64 c.B, .int .i64 c.N])), .vec 0 m, .vec 1 m, .vec 3 m, .vec 4 m]), (1, .vec 3 1 (intR (lst m (GS.zero bg).val))), (3, .vec 3 1 (intR (lst m (zjd (-1) (GS.zero bg))))), (4, .vec 4 1 (zdY (List.replicate m false)))], next := 6 } ?_ ?_
 ·have q1 := zsB m bg;have q2 : List.replicate m (-1 : Int) = lst m (zjd (-1) (GS.zero bg)) := by rw [zq1]; rfl
  have q3 := zkC m 0;have q4 := zsd m false;have q5 : (∀ x ∈ List.replicate m [D.u .nil], ∀ y ∈ x, D.under 6 y = true) ↔ True := ⟨fun _ => trivial, fun _ x hx y hy => by rw [List.eq_of_mem_replicate hx] at hy; simp at hy; subst hy; simp [D.under]⟩;exact (Wk.cut rfl (by simp [hn, St.lp]) (by simp [wkO, zh0, zc4, zc5, zcU, zfi, St.lp, zaa, getK, Ob.under, D.under, zaj, zak, zal, zai, zas, zao, q1, q2, q3, q4, q5]) (by simp [wkU, St.lp, zax, zaa, getK, D.under, zal, zai, zas, zao, q1, q2, q3, q4, q5]) (by simp [wkE, St.lp, zax, zaa, getK, zal, zai, zas, zao, q1, q2, q3, q4, q5] <;> (try (intros; simp_all; done)) <;> (try (intros; omega)) <;> (try grind)))
 refine zkX _ (Wk.zvZ 0 28 3 1 m (by decide) [(5, _), (1, _), (3, _), (4, _)] (by simp) (by simp) rfl) ?_;simp only [zrf l m, zrE l m, List.cons_append, List.nil_append];rw [show 6 + m = m + 6 from Nat.add_comm 6 m];refine zbS (α := { k : Nat // k <= l.length }) [2, 7, 24, 25] (fun k => [(26, .u (.int .i64 k.1))])
  (fun k => (0, .vec 28 1 (idF 6 (zlO l m k.1))) :: (5, .box [.u (.sl (l.map fun c => [.int .i64 c.A, .int .i64 c.B, .int .i64 c.N])), .vec 0 m, .vec 1 m, .vec 3 m, .vec 4 m]) :: (1, .vec 3 1 (intR (lst m (GS.zero bg).val))) :: (3, .vec 3 1 (intR (lst m (zjd (-1) (GS.zero bg))))) :: (4, .vec 4 1 (zdY (List.replicate m false))) :: fam 6 (zoa l m k.1)) (m + 6) (fun k => l.length - k.1) ⟨0, by omega⟩ ?_ ?_
 ·exact (Wk.cut rfl (by simp [hn, St.lp]) (by simp [wkO, zh0, zc4, zc5, zcU, zfi, St.lp, zaa, getK, Ob.under, D.under, zaj, zak, zal, zai, zas, zao, zgW, zgV, zfU, zhv]) (by simp [wkU, St.lp, zax, zaa, getK, D.under, zal, zai, zas, zao, zgW, zgV, zfU, zhv]) (by simp [wkE, St.lp, zax, zaa, getK, zal, zai, zas, zao, zgW, zgV, zfU, zhv] <;> (try (intros; simp_all; done)) <;> (try (intros; omega)) <;> (try grind)))
 rintro ⟨k, hk⟩;simp [St.lp, St.only, zax, zaa, getK];rcases hx : l[k]? with _ | c
 ·have hge : l.length <= k := by simpa using hx
  obtain rfl : k = l.length := by omega
  repeat' (first
  | (refine zbu ?_; simp [hx])
  | (refine zcz ?_; simp [hx])
  | (refine zbJ ?_; simp [hx])
  | (refine zeL ?_; simp [hx])
  | (refine zfP ?_; simp [zbf])
  | fail)
  have hus : (((List.range m).map fun v => (zhU (zdq l v)).map fun z => [U.int .i64 z]).map fun r => Ob.vec 3 1 (rowsD r)) = zoa l m l.length := by
   simp only [zoa, List.map_map];refine List.map_congr_left fun v _ => ?_;simp only [Function.comp];rw [<- List.map_map, zlP, zjY]
  have hls : (((List.range m).map fun v => (zhU (zdq l v)).map fun z => [U.int .i64 z]).map (·.length)) = zlO l m l.length := by
   simp only [zlO, List.map_map];refine List.map_congr_left fun v _ => ?_;simp [Function.comp, zjY]
  refine zkX _ (Wk.zv0 0 6 28 3 1 ((List.range m).map fun v => (zhU (zdq l v)).map fun z => [U.int .i64 z]) [(5, _), (1, _), (3, _), (4, _)] (by omega) (by simp [zux]) (by simp) (by rw [hus, hls]; rfl)) ?_;refine zkX _ (Wk.frz 0 [5] (us := ((List.range m).map fun v => (zhU (zdq l v)).map fun z => [U.int .i64 z]).map fun r => [U.sl r]) rfl (by simp)) ?_;simp [St.frz, St.frzS, frzS, fv, za1, frzObS, del];have hfu : List.map ((fun r => [U.sl r]) ∘ fun v => List.map ((fun z => [U.int .i64 z]) ∘ Int.ofNat) (zdq l v)) (List.range m) = (List.range m).map fun v => [ints (zhU (zdq l v))] := by simp [ints, Function.comp_def]
  rw [hfu];have hk0 : List.replicate m false = bst m fun x => decide ((x : Int) ∈ begin_.take 0) := by rw [zvV]; simp
  refine zbS (α := { k : Nat // k <= begin_.length }) [7, 50, 51] (fun k => [(52, .u (.int .i64 k.1))])
   (fun k => [(5, .box [.u (.sl (l.map fun c => [.int .i64 c.A, .int .i64 c.B, .int .i64 c.N])), .u (.sl ((List.range m).map fun v => [ints (zhU (zdq l v))])), .vec 1 m, .vec 3 m, .vec 4 m]), (1, .vec 3 1 (intR (lst m (GS.zero bg).val))), (3, .vec 3 1 (intR (lst m (zjd (-1) (GS.zero bg))))), (4, .vec 4 1 (zdY (bst m fun x => decide ((x : Int) ∈ begin_.take k.1))))]) 6 (fun k => begin_.length - k.1) ⟨0, by omega⟩ ?_ ?_
  ·exact (Wk.cut rfl (by simp [hn, St.lp]) (by simp [wkO, zh0, zc4, zc5, zcU, zfi, St.lp, zaa, getK, Ob.under, D.under, zaj, zak, zal, zai, zas, zao, hk0]) (by simp [wkU, St.lp, zax, zaa, getK, D.under, zal, zai, zas, zao, hk0]) (by simp [wkE, St.lp, zax, zaa, getK, zal, zai, zas, zao, hk0] <;> (try (intros; simp_all; done)) <;> (try (intros; omega)) <;> (try grind)))
  rintro ⟨k, hk⟩;simp [St.lp, St.only, zax, zaa, getK];rcases hv : begin_[k]? with _ | v
  ·have hge : begin_.length <= k := by simpa using hv
   have hfin : bst m (fun x => decide ((x : Int) ∈ begin_.take k)) = bst m (GS.zero bg).kn := by
    rw [List.take_of_length_le hge];unfold bst;refine List.map_congr_left fun x hx' => ?_;have hxm := List.mem_range.1 hx';have := hbg (x : Int);simp only [Int.toNat_natCast] at this;rw [Bool.eq_iff_iff, decide_eq_true_iff, this];simp only [GS.zero];exact ⟨fun h => h.2.2, fun h => ⟨by omega, by omega, h⟩⟩
   rw [hfin]
   repeat' (first
  | (refine zbu ?_; simp [hv])
  | (refine zcz ?_; simp [hv])
  | (refine ⟨by omega, ?_⟩)
  | (refine zbJ ?_; simp [hv])
  | (refine zjq ?_; simp only [zbf])
  | (refine zfP ?_; simp [zbf])
  | (intro hc <;> (try (exfalso; omega)))
  | fail)
   refine EndW.here ?_
   (first | (refine EndOK.fin (.inr rfl) ?_) | (refine EndOK.fin (.inl rfl) ?_)); simp [zea, zaC, Tryz.results31]
   refine FinOK.here (by simp) ⟨rfl, rfl, ?_⟩;simp [ints]
  ·have hlt : k < begin_.length := (List.getElem?_eq_some_iff.1 hv).1;have htk := zfz hv;obtain ⟨hv0, hvm, _⟩ := (hbg v).1 (List.mem_of_getElem? hv);obtain ⟨V, rfl⟩ := Int.eq_ofNat_of_zero_le hv0;have hVm : V < m := by omega
   have hst : bst m (fun j => decide (j = V) || decide ((j : Int) ∈ begin_.take k)) = bst m fun j => decide ((j : Int) ∈ begin_.take (k + 1)) := by
    unfold bst;refine List.map_congr_left fun x _ => ?_;rw [htk, Bool.eq_iff_iff];simp only [Bool.or_eq_true, decide_eq_true_eq, List.mem_append, List.mem_singleton];constructor
    ·rintro (h | h)
     ·exact .inr (by omega)
     ·exact .inl h
    ·rintro (h | h)
     ·exact .inr h
     ·exact .inl (by omega)
   repeat' (first
  | (refine zbu ?_; simp [hv, hVm, zaK, zaB, zbk, zbt, za6, zci, hst])
  | (refine zcz ?_; simp [hv, hVm, zaK, zaB, zbk, zbt, za6, zci, hst])
  | (refine ⟨by omega, ?_⟩)
  | (refine zbJ ?_; simp [hv, hVm, zaK, zaB, zbk, zbt, za6, zci, hst])
  | (refine zdA ?_; simp [hv, hVm, zaK, zaB, zbk, zbt, za6, zci, hst])
  | (refine zec ?_; simp only [zbf])
  | (refine ⟨?_, by omega⟩)
  | (intro hc <;> (try (exfalso; omega)))
  | fail)
   refine LoopW.next ⟨k + 1, by omega⟩ (by simp; omega) ?_
   exact (Wk.cut rfl (by simp [hn, St.lp]) (by simp [wkO, zh0, zc4, zc5, zcU, zfi, St.lp, zaa, getK, Ob.under, D.under, zaj, zak, zal, zai, zas, zao]) (by simp [wkU, St.lp, zax, zaa, getK, D.under, zal, zai, zas, zao]) (by simp [wkE, St.lp, zax, zaa, getK, zal, zai, zas, zao] <;> (try (intros; simp_all; done)) <;> (try (intros; omega)) <;> (try grind)))
 ·have hlt : k < l.length := (List.getElem?_eq_some_iff.1 hx).1;have hcl := hl c (List.mem_of_getElem? hx);have hls := ztl (m := m) hx;have hfs := ztE (m := m) hx;have hlen := zpp l k c.b;obtain ⟨A, B, N⟩ := c;simp only at hcl;obtain ⟨ha0, han, hb0, hbn, hN1, hN2⟩ := hcl;obtain ⟨b, rfl⟩ := Int.eq_ofNat_of_zero_le hb0;simp only [Con.b, Int.toNat_natCast] at hls hfs hlen;have hbm : b < m := by omega
  have hbne : ¬ b = m := by omega
  have hbne2 : ¬ m = b := by omega
  have hbne3 : ¬ b = m + 1 := by omega
  have hbne4 : ¬ b = m + 2 := by omega
  have hbne5 : ¬ m + 1 = b := by omega
  have hbne6 : ¬ m + 2 = b := by omega
  have hrow : ∀ h : b < (idF 6 (zlO l m k)).length, (idF 6 (zlO l m k))[b]'h = [D.vec (b + 6) (zdz l k b).length] := fun h => by
   have := zkE 6 (zlO l m k) b _ (ztm l hbm);rw [List.getElem?_eq_getElem h] at this;exact Option.some.inj this
  have hget : getK (fam 6 (zoa l m k)) (b + 6) = some (.vec 3 1 (intR (zhU (zdz l k b)))) := by rw [zfI, ztF l hbm]
  have hil := zhw 6 (zlO l m k);rw [zfU] at hil;have q7 : intR (zhU (zdz l k b)) ++ [[D.u (.int .i64 (k : Int))]] = intR (zhU (zdz l k b ++ [k])) := by simp [intR]
  have q8 := zgR (zhU (zdz l k b))
  skip
  repeat' (first
  | (refine zbu ?_; simp [hx, hrow, hget, hil, hbm, hbne, hbne2, hbne3, hbne4, hbne5, hbne6, zag, q7, q8, List.length_map, zcU, zdX])
  | (refine zbQ rfl ?_; simp [hx, hrow, hget, hil, hbm, hbne, hbne2, hbne3, hbne4, hbne5, hbne6, zag, q7, q8, List.length_map, zcU, zdX])
  | (refine zja rfl ?_; simp [hx, hrow, hget, hil, hbm, hbne, hbne2, hbne3, hbne4, hbne5, hbne6, zag, q7, q8, List.length_map, zcU, zdX])
  | (refine zcz ?_; simp [hx, hrow, hget, hil, hbm, hbne, hbne2, hbne3, hbne4, hbne5, hbne6, zag, q7, q8, List.length_map, zcU, zdX])
  | (refine ⟨by omega, ?_⟩)
  | (refine zbJ ?_; simp [hx, hrow, hget, hil, hbm, hbne, hbne2, hbne3, hbne4, hbne5, hbne6, zag, q7, q8, List.length_map, zcU, zdX])
  | (refine zfn (hC _ (zb1 [0, 5, m + 6, b + 6] (m + 7) (by simp <;> omega) (by simp <;> omega) (by apply Exists.intro; apply And.intro; (focus (repeat' (first | exact KF.nil | exact KL.nil | apply KF.cons | apply KL.cons 0 rfl | apply KL.cons 1 rfl | apply KL.cons 2 rfl | apply KL.cons 3 rfl | apply KL.cons 4 rfl | apply KL.cons 5 rfl | apply KL.cons 6 rfl | apply KL.cons 7 rfl | apply KL.cons 8 rfl | apply KL.cons 9 rfl))); kernel_rfl))) (hk _ ?_); clear hC hk C k; simp only [zbf])
  | (refine zeR rfl (by kernel_rfl) (by first | (simp [hn] <;> omega) | fail) fun C k hC hk => ?_; simp [hx, hrow, hget, hil, hbm, hbne, hbne2, hbne3, hbne4, hbne5, hbne6, zag, q7, q8, List.length_map, zcU, zdX])
  | (refine zdA ?_; simp [hx, hrow, hget, hil, hbm, hbne, hbne2, hbne3, hbne4, hbne5, hbne6, zag, q7, q8, List.length_map, zcU, zdX])
  | (refine zec ?_; simp only [zbf])
  | (refine ⟨?_, by omega⟩)
  | (intro hc <;> (try (exfalso; omega)))
  | fail)
  refine LoopW.next ⟨k + 1, by omega⟩ (by simp; omega) ?_
  simp only [<- hls, <- hfs];refine Wk.zwY 0 6 (m + 6 + 1 + 1) b 28 ((zdz l k b).length + 1) (zlO l m k) _ rfl (by simp [hn]) (by simp [hn]) (by simp only; omega) (by omega) (by rw [zfU]; exact hbm) (by rw [zfU]; exact Nat.le_refl _) ?_ rfl ?_ ?_
  ·simp [zaa, zac, zad]
  ·simp [zhQ, zfA, St.lp, zax, zaa, getK, D.under, D.le, D.ren]
  ·simp only [wkR];refine ⟨?_, ?_, ?_, ?_, zpU (fun q hq1 hq2 => ?_) (zgV l m k) (fun o ho => ?_) (by rw [zgW]; exact Nat.le_refl _) ?_⟩
   ·simp [zfA, zaa, zac, zad, obR, leU, D.under, D.le, D.ren]
   ·simp [zfA, zaa, zac, zad, obR, zal]
   ·simp [zfA, zaa, zac, zad, obR, zal]
   ·simp [zfA, zaa, zac, zad, obR, zas]
   ·rw [zgW] at hq2;have w1 : ¬ q = m + 2 := by omega
    have w2 : ¬ q = m + 1 := by omega
    have w3 : ¬ q = m := by omega
    simp [zaa, zac, zad, w1, w2, w3, hq1, zfI]
   ·simp at ho;subst ho;exact ⟨_, _, _, rfl, zal _⟩
   ·simp [zaa, zac, zad]
set_option maxHeartbeats 16000000 in
theorem zu7 (m : Nat) (l : List Con) (bg : Nat -> Bool) (begin_ : List Int) (gF : GS) (ret : Int) (hm : m <= 200) (hl : OkC m l) (hll : l.length <= 2000) (hK : (m + 1) * (m * l.length) <= 3000000) (hbl : begin_.length <= m)
  (hbg : ∀ x, x ∈ begin_ ↔ 0 <= x /\ x < m /\ bg x.toNat = true) (hF : zsx zhT l (m + 1) (GS.zero bg) begin_ = (gF, ret)) :
  Ret Tryz.prog 33 [.ptr 5 0, .u (ints begin_)] (zuv l m (GS.zero bg)) 6 fun d obs nx' => d = .u (.int .i64 ret) /\ obs = zuv l m gF /\ nx' = 6 := by
 have hcl := zrR begin_ (by omega);simp only [zuv, consU, ints] at hcl ⊢
 (refine Ret.of_bodyW Tryz.func33 rfl (by simp) fun Γ hn => ?_); simp only [zzE, zzC, zzD, Tryz.ntmps33]
 repeat' (first
  | (refine zbu ?_; simp [zag, zaG])
  | (refine zcz ?_; simp [zag, zaG])
  | (refine ⟨by omega, ?_⟩)
  | (refine zbJ ?_; simp [zag, zaG])
  | (refine zeL ?_; simp [zag, zaG])
  | (refine CallP.fun_ (hcl) (by first | rfl | fail) (by first | assumption | (simp; done) | fail) (by first | (simp [zag, zaG]; done) | (simp [zag, zaG]; rfl) | fail) (by first | (simp; done) | fail) (fun d hd => ?_); subst hd; (try simp [zag, zaG]))
  | fail)
 refine zbS (α := { s : Nat × GS × List Int // s.1 <= m + 1 /\ s.2.2.length <= m /\ (s.1 = m + 1 -> s.2.2 ≠ []) /\ (∃ t L, t <= s.1 * (m * l.length) /\ PI m l bg s.1 s.2.2 t s.2.1 L) /\ zsx zhT l (m + 1 - s.1) s.2.1 s.2.2 = (gF, ret) }) [0, 20]
  (fun s => [(5, .u (.sl (s.1.2.2.map fun n => [U.int .i64 n]))), (21, .u (.int .i64 s.1.1))])
  (fun s => [(5, .box [.u (.sl (l.map fun c => [.int .i64 c.A, .int .i64 c.B, .int .i64 c.N])), .u (.sl ((List.range m).map fun v => [.sl ((zhU (zdq l v)).map fun n => [.int .i64 n])])), .vec 1 m, .vec 3 m, .vec 4 m]), (1, .vec 3 1 (intR (lst m s.1.2.1.val))), (3, .vec 3 1 (intR (lst m (zjd (-1) s.1.2.1)))), (4, .vec 4 1 (zdY (bst m s.1.2.1.kn)))]) 6 (fun s => m + 1 - s.1.1)
  ⟨(0, GS.zero bg, begin_), by omega, hbl, by simp, ⟨0, fun _ => 0, by simp, PI.zero hl hbg⟩, hF⟩ ?_ ?_
 ·exact (Wk.cut rfl (by simp [hn, St.lp]) (by simp [wkO, St.lp, zaa, getK, Ob.under, D.under, zaj, zak, zal, zai, zas, zao]) (by simp [wkU, St.lp, zax, zaa, getK, D.under, zal, zai, zas, zao]) (by simp [wkE, St.lp, zax, zaa, getK, zal, zai, zas, zao] <;> (try (intros; simp_all; done)) <;> (try (intros; omega)) <;> (try grind)))
 rintro ⟨⟨r, g, todo⟩, hr, htl, hrt, ⟨t, L, ht, hPI⟩, hfin⟩;simp only at hr htl hrt ht hPI hfin;simp [St.lp, St.only, zax, zaa, getK];by_cases hrm : r = m + 1
 ·subst hrm;have hne := hrt rfl;rw [Nat.sub_self, zsx] at hfin;cases todo with
  | nil => exact absurd rfl hne
  | cons v todo =>
   simp only [List.headD_cons, Prod.mk.injEq] at hfin;obtain ⟨rfl, rfl⟩ := hfin
   repeat' (first
  | (refine zbu ?_; simp)
  | (refine zcz ?_; simp)
  | (refine zbJ ?_; simp)
  | (refine zjq ?_; simp only [zbf])
  | (refine zfP ?_; simp [zbf])
  | fail)
   refine EndW.here ?_
   (first | (refine EndOK.fin (.inr rfl) ?_) | (refine EndOK.fin (.inl rfl) ?_)); simp [zea, zaC, Tryz.results33]
   exact FinOK.here (by simp) ⟨rfl, rfl, rfl⟩
 have hrlt : (r : Int) < (m : Int) + 1 := by omega
 obtain ⟨f, hf⟩ : ∃ f, m + 1 - r = f + 1 := ⟨m - r, by omega⟩;rw [hf, zsx] at hfin
 repeat' (first
  | (refine zbu ?_; simp [hrlt])
  | (refine zcz ?_; simp [hrlt])
  | (refine zbJ ?_; simp [hrlt])
  | (refine zeL ?_; simp [hrlt])
  | (refine zec ?_; simp only [zbf])
  | fail)
 refine zkX _ (Wk.own 6 3 1 (by decide) rfl) ?_;simp [St.own];have hk2 : r * (m * l.length) + m * l.length <= (m + 1) * (m * l.length) := by rw [<- Nat.succ_mul]; exact Nat.mul_le_mul_right _ (by omega)
 have hk3 : todo.length * l.length <= m * l.length := Nat.mul_le_mul_right _ htl;obtain ⟨S2, hS2⟩ : ∃ S2 : Nat -> GS × List Int, S2 = fun p => (todo.take p).foldl (zjv l) (g, []) := ⟨_, rfl⟩;have hS20 : S2 0 = (g, []) := by rw [hS2]; rfl
 refine zbS (α := { p : Nat // p <= todo.length }) [0, 5, 20, 21, 23, 24] (fun p => [(6, .vec 6 (S2 p.1).2.length), (25, .u (.int .i64 p.1))])
  (fun p => [(6, .vec 3 1 (intR (S2 p.1).2)), (5, .box [.u (.sl (l.map fun c => [.int .i64 c.A, .int .i64 c.B, .int .i64 c.N])), .u (.sl ((List.range m).map fun v => [.sl ((zhU (zdq l v)).map fun n => [.int .i64 n])])), .vec 1 m, .vec 3 m, .vec 4 m]), (1, .vec 3 1 (intR (lst m (S2 p.1).1.val))), (3, .vec 3 1 (intR (lst m (zjd (-1) (S2 p.1).1)))), (4, .vec 4 1 (zdY (bst m (S2 p.1).1.kn)))]) 7 (fun p => todo.length - p.1) ⟨0, by omega⟩ ?_ ?_
 ·exact (Wk.cut rfl (by simp [hn, St.lp]) (by simp [wkO, St.lp, zaa, getK, Ob.under, D.under, zaj, zak, zal, zai, zas, zao, hS20, intR]) (by simp [wkU, St.lp, zax, zaa, getK, D.under, zal, zai, zas, zao, hS20, intR]) (by simp [wkE, St.lp, zax, zaa, getK, zal, zai, zas, zao, hS20, intR] <;> (try (intros; simp_all; done)) <;> (try (intros; omega)) <;> (try grind)))
 rintro ⟨p, hp⟩;simp [St.lp, St.only, zax, zaa, getK];obtain ⟨L2, u, hPM⟩ := hPI.take hl p hp;have hpl : p * l.length <= todo.length * l.length := Nat.mul_le_mul_right _ hp;have hS2p : (todo.take p).foldl (zjv l) (g, []) = S2 p := by rw [hS2]
 rw [hS2p] at hPM;rcases hv : todo[p]? with _ | v
 ·have hge : todo.length <= p := by simpa using hv
  obtain rfl : p = todo.length := by omega
  have hrd : S2 todo.length = zfq l g todo := by rw [hS2]; simp only [List.take_length]; rfl
  rw [hrd] at hPM ⊢;rw [List.drop_length] at hPM;rcases hq : zfq l g todo with ⟨g', nx⟩
  rw [hq] at hfin hPM;simp only at hfin;have hnl := hPM.len;simp only at hnl;by_cases hnx : nx = []
  ·subst hnx;simp only [if_true, Prod.mk.injEq] at hfin;obtain ⟨rfl, rfl⟩ := hfin
   repeat' (first
  | (refine zbu ?_; simp [hv])
  | (refine zcz ?_; simp [hv])
  | (refine zbJ ?_; simp [hv])
  | (refine zdZ ?_; simp [hv])
  | (refine zjq ?_; simp only [zbf])
  | (refine zfP ?_; simp [zbf])
  | fail)
   refine EndW.wk { n := _, env := [(4, .u (.int .i64 (-1)))], obs := [(5, .box [.u (.sl (l.map fun c => [.int .i64 c.A, .int .i64 c.B, .int .i64 c.N])), .u (.sl ((List.range m).map fun v => [.sl ((zhU (zdq l v)).map fun n => [.int .i64 n])])), .vec 1 m, .vec 3 m, .vec 4 m]), (1, .vec 3 1 (intR (lst m g'.val))), (3, .vec 3 1 (intR (lst m (zjd (-1) g')))), (4, .vec 4 1 (zdY (bst m g'.kn)))], next := 6 } (Wk.cut rfl (by simp [hn, St.lp]) (by simp [wkO, St.lp, zaa, getK, Ob.under, D.under, zaj, zak, zal, zai, zas, zao]) (by simp [wkU, St.lp, zax, zaa, getK, D.under, zal, zai, zas, zao]) (by simp [wkE, St.lp, zax, zaa, getK, zal, zai, zas, zao] <;> (try (intros; simp_all; done)) <;> (try (intros; omega)) <;> (try grind))) (EndW.here ?_)
   (first | (refine EndOK.fin (.inr rfl) ?_) | (refine EndOK.fin (.inl rfl) ?_)); simp [zea, zaC, Tryz.results33]
   exact FinOK.here (by simp) ⟨rfl, rfl, rfl⟩
  ·rw [if_neg hnx] at hfin;have hsl : (zf9 nx).length = nx.length := by simp [zf9]
   have hnz : ¬ nx.length = 0 := fun h => hnx (List.eq_nil_of_length_eq_zero h);have hsr := zsY 3 6 7 (by omega) nx (by omega);have hcr := znj 3 6 7 (by omega) (zf9 nx) (by omega);rw [hsl] at hcr;have hcle : (Lib.compact (zf9 nx)).length <= nx.length := by rw [<- hsl]; exact Lib.compact_length_le _
   have hcsl := zmd (zf9 nx);rw [hsl] at hcsl;have htake : (znl (zf9 nx)).take (Lib.compact (zf9 nx)).length = zhT nx := by rw [znl, List.take_left' rfl]; rfl
   repeat' (first
  | (refine zbu ?_; simp [hv, hnz, hnx, zag, hcsl, hcle, del, zab])
  | (refine zcz ?_; simp [hv, hnz, hnx, zag, hcsl, hcle, del, zab])
  | (refine ⟨by omega, ?_⟩)
  | (refine zbJ ?_; simp [hv, hnz, hnx, zag, hcsl, hcle, del, zab])
  | (refine zdZ ?_; simp [hv, hnz, hnx, zag, hcsl, hcle, del, zab])
  | (refine zdA ?_; simp [hv, hnz, hnx, zag, hcsl, hcle, del, zab])
  | (refine zec ?_; simp only [zbf])
  | (refine zfP ?_; simp [zbf])
  | (refine CallP.zyh (hsr) (by simp [getK]) (by rfl) (by first | assumption | simp) (by rfl) (by simp) ?_; rintro d o n' hn' ⟨rfl, rfl, rfl⟩; (try simp at hn'); (try simp [hv, hnz, hnx, zag, hcsl, hcle, del, zab]))
  | (refine CallP.zyh (hcr) (by simp [getK]) (by rfl) (by first | assumption | simp) (by rfl) (by simp) ?_; rintro d o n' hn' ⟨rfl, rfl, rfl⟩; (try simp at hn'); (try simp [hv, hnz, hnx, zag, hcsl, hcle, del, zab]))
  | fail)
   have hmt : ((znl (zf9 nx)).map fun z => [U.int .i64 z]).take (Lib.compact (zf9 nx)).length = (zhT nx).map fun z => [U.int .i64 z] := by rw [<- List.map_take, htake]
   have hnn : zhT nx ≠ [] := fun e => by
    obtain ⟨x, hx⟩ := List.exists_mem_of_ne_nil _ hnx;have := (zeW nx x).2 hx;rw [e] at this;cases this
   refine LoopW.next ⟨(r + 1, g', zhT nx), by simp only; omega, zlF nx fun x hx => let ⟨a, b, _⟩ := hPM.nx x hx; ⟨a, b⟩, fun _ => hnn, ⟨t + todo.length * l.length, L2, by simp only; rw [Nat.succ_mul]; omega, hPM.fin fun x => zeW nx x⟩, by simp only; rw [show m + 1 - (r + 1) = f by omega]; exact hfin⟩ (by simp; omega) ?_
   refine (Wk.frz (e := 3) (sz := 1) 6 [] (us := (znl (zf9 nx)).map fun z => [U.int .i64 z]) (by simp [zaa]) (zbF _)).trans ?_;simp only [St.frz, St.frzS, frzS, fv, za1, frzObS, zzC, zzD];exact (Wk.cut rfl (by simp [hn, St.lp]) (by simp [wkO, St.lp, zaa, getK, Ob.under, D.under, zaj, zak, zal, zai, zas, zao, hcsl, hcle, hmt]) (by simp [wkU, St.lp, zax, zaa, getK, D.under, zal, zai, zas, zao, hcsl, hcle, hmt]) (by simp [wkE, St.lp, zax, zaa, getK, zal, zai, zas, zao, hcsl, hcle, hmt] <;> (try (intros; simp_all; done)) <;> (try (intros; omega)) <;> (try grind)))
 ·have hlt : p < todo.length := (List.getElem?_eq_some_iff.1 hv).1;have hdr : todo.drop p = v :: todo.drop (p + 1) := by
   rw [List.drop_eq_getElem_cons hlt]
   congr 1
   exact (List.getElem?_eq_some_iff.1 hv).2
  rw [hdr] at hPM;have hvm := List.mem_of_getElem? hv;obtain ⟨hv0, hvn, hvk, hvL⟩ := hPM.all v hvm;obtain ⟨V, rfl⟩ := Int.eq_ofNat_of_zero_le hv0;simp only [Int.toNat_natCast] at hvk hvL;have hVm : V < m := by omega
  have hPN := hPM.next hl
  rw [Int.toNat_natCast] at hPN;have hfl := zlZ l V;obtain ⟨S3, hS3⟩ : ∃ S3 : Nat -> GS × List Int, S3 = fun q => ((zdq l V).take q).foldl (zoJ l) (S2 p) := ⟨_, rfl⟩;have hS30 : S3 0 = S2 p := by rw [hS3]; rfl
  have hS31 : S3 (zdq l V).length = S2 (p + 1) := by
   rw [hS3, hS2];simp only [List.take_length];rw [zfz hv, List.foldl_append];rfl
  repeat' (first
  | (refine zbu ?_; simp [hv, hVm])
  | (refine zcz ?_; simp [hv, hVm])
  | (refine zbJ ?_; simp [hv, hVm])
  | (refine zeL ?_; simp [hv, hVm])
  | (refine zec ?_; simp only [zbf])
  | (refine ⟨?_, by omega⟩)
  | (intro hc <;> (try (exfalso; omega)))
  | fail)
  refine zbS (α := { q : Nat // q <= (zdq l V).length }) [0, 5, 8, 20, 21, 23, 24, 25, 35, 36] (fun q => [(6, .vec 6 (S3 q.1).2.length), (37, .u (.int .i64 q.1))])
   (fun q => [(6, .vec 3 1 (intR (S3 q.1).2)), (5, .box [.u (.sl (l.map fun c => [.int .i64 c.A, .int .i64 c.B, .int .i64 c.N])), .u (.sl ((List.range m).map fun v => [.sl ((zhU (zdq l v)).map fun n => [.int .i64 n])])), .vec 1 m, .vec 3 m, .vec 4 m]), (1, .vec 3 1 (intR (lst m (S3 q.1).1.val))), (3, .vec 3 1 (intR (lst m (zjd (-1) (S3 q.1).1)))), (4, .vec 4 1 (zdY (bst m (S3 q.1).1.kn)))]) 7 (fun q => (zdq l V).length - q.1) ⟨0, by omega⟩ ?_ ?_
  ·exact (Wk.cut rfl (by simp [hn, St.lp]) (by simp [wkO, St.lp, zaa, getK, Ob.under, D.under, zaj, zak, zal, zai, zas, zao, hS30]) (by simp [wkU, St.lp, zax, zaa, getK, D.under, zal, zai, zas, zao, hS30]) (by simp [wkE, St.lp, zax, zaa, getK, zal, zai, zas, zao, hS30] <;> (try (intros; simp_all; done)) <;> (try (intros; omega)) <;> (try grind)))
  rintro ⟨q, hq⟩;simp [St.lp, St.only, zax, zaa, getK];obtain ⟨L3, hPQ⟩ := hPN.take hl hvm (fun _ h => h) q hq;have hS3q : ((zdq l V).take q).foldl (zoJ l) (S2 p) = S3 q := by rw [hS3]
  rw [hS3q] at hPQ;rcases hi : (zdq l V)[q]? with _ | i
  ·have hge : (zdq l V).length <= q := by simpa using hi
   obtain rfl : q = (zdq l V).length := by omega
   rw [hS31]
   repeat' (first
  | (refine zbu ?_; simp [hi])
  | (refine zcz ?_; simp [hi])
  | (refine ⟨by omega, ?_⟩)
  | (refine zbJ ?_; simp [hi])
  | (refine zdA ?_; simp [hi])
  | (refine zfP ?_; simp [zbf])
  | fail)
   refine LoopW.next ⟨p + 1, by omega⟩ (by simp; omega) ?_
   exact (Wk.cut rfl (by simp [hn, St.lp]) (by simp [wkO, St.lp, zaa, getK, Ob.under, D.under, zaj, zak, zal, zai, zas, zao]) (by simp [wkU, St.lp, zax, zaa, getK, D.under, zal, zai, zas, zao]) (by simp [wkE, St.lp, zax, zaa, getK, zal, zai, zas, zao] <;> (try (intros; simp_all; done)) <;> (try (intros; omega)) <;> (try grind)))
  ·have hqlt : q < (zdq l V).length := (List.getElem?_eq_some_iff.1 hi).1;obtain ⟨c, hci, hcb⟩ := zgQ.1 (List.mem_of_getElem? hi);have hS3s : S3 (q + 1) = zoJ l (S3 q) i := by rw [hS3]; simp only; rw [zfz hi, List.foldl_append]; rfl
   have hbd := hPQ.bd;have hnl := hPQ.len;rcases hst : S3 q with ⟨G, nx⟩
   rw [hst] at hS3s hbd hnl;simp only at hbd hnl;have htt : t + p * l.length + q <= 4000000 := by omega
   have hva := hbd.small htt c.a;have hvb := hbd.small htt V;obtain ⟨ha0, han, hb0, hbn, hN1, hN2⟩ := hl c (List.mem_of_getElem? hci);have hN3 : -1099511627776 <= c.N /\ c.N <= 1099511627776 := ⟨hN1, hN2⟩;have hau := zu0 G i c m;have hku := zwn G i c m;have hpu := zu1 (-1) G i c m;have hrel : zoJ l (G, nx) i = if (!G.kn c.a || decide (G.val c.b + c.N < G.val c.a)) = true then (G.upd i c, nx ++ [c.A]) else (G, nx) := by unfold zoJ; rw [hci]
   rw [hrel, hcb] at hS3s;rw [hcb] at hau;obtain ⟨A, B, N⟩ := c;simp only [Con.a] at *;obtain ⟨a, rfl⟩ := Int.eq_ofNat_of_zero_le ha0;simp only [Int.toNat_natCast] at *;have han' : a < m := by omega
   have q7 : intR nx ++ [[D.u (.int .i64 (a : Int))]] = intR (nx ++ [(a : Int)]) := by simp [intR]
   have q8 := zgR nx;cases hka : G.kn a with
   | false =>
    simp only [hka, Bool.not_false, Bool.true_or, if_true] at hS3s
    repeat' (first
  | (refine zbu ?_; simp [hi, hci, zag, zah, zap, zaG, zaD, zcC, zaK, zaB, zbk, zbt, za6, zci, hka, han', hVm, hau, hku, hpu, q7, q8])
  | (refine zbQ rfl ?_; simp [hi, hci, zag, zah, zap, zaG, zaD, zcC, zaK, zaB, zbk, zbt, za6, zci, hka, han', hVm, hau, hku, hpu, q7, q8])
  | (refine zja rfl ?_; simp [hi, hci, zag, zah, zap, zaG, zaD, zcC, zaK, zaB, zbk, zbt, za6, zci, hka, han', hVm, hau, hku, hpu, q7, q8])
  | (refine zcz ?_; simp [hi, hci, zag, zah, zap, zaG, zaD, zcC, zaK, zaB, zbk, zbt, za6, zci, hka, han', hVm, hau, hku, hpu, q7, q8])
  | (refine ⟨by omega, ?_⟩)
  | (refine zbJ ?_; simp [hi, hci, zag, zah, zap, zaG, zaD, zcC, zaK, zaB, zbk, zbt, za6, zci, hka, han', hVm, hau, hku, hpu, q7, q8])
  | (refine zdZ ?_; simp [hi, hci, zag, zah, zap, zaG, zaD, zcC, zaK, zaB, zbk, zbt, za6, zci, hka, han', hVm, hau, hku, hpu, q7, q8])
  | (refine zfn (hC _ (by kernel_rfl)) (hk _ ?_); clear hC hk C k; simp only [zbf])
  | (refine zeR rfl (by kernel_rfl) (by first | (simp [hn] <;> omega) | fail) fun C k hC hk => ?_; simp [hi, hci, zag, zah, zap, zaG, zaD, zcC, zaK, zaB, zbk, zbt, za6, zci, hka, han', hVm, hau, hku, hpu, q7, q8])
  | (refine zg9 rfl (by simp [hi, hci, zag, zah, zap, zaG, zaD, zcC, zaK, zaB, zbk, zbt, za6, zci, hka, han', hVm, hau, hku, hpu, q7, q8]) (fun hc => ?_) (fun hc => ?_) <;> (try simp [hi, hci, zag, zah, zap, zaG, zaD, zcC, zaK, zaB, zbk, zbt, za6, zci, hka, han', hVm, hau, hku, hpu, q7, q8] at hc) <;> (try (exfalso; omega)) <;> (try simp [hi, hci, zag, zah, zap, zaG, zaD, zcC, zaK, zaB, zbk, zbt, za6, zci, hka, han', hVm, hau, hku, hpu, q7, q8]))
  | (refine zdA ?_; simp [hi, hci, zag, zah, zap, zaG, zaD, zcC, zaK, zaB, zbk, zbt, za6, zci, hka, han', hVm, hau, hku, hpu, q7, q8])
  | (refine zec ?_; simp only [zbf])
  | (refine ⟨?_, by omega⟩)
  | (intro hc <;> (try (exfalso; omega)))
  | fail)
    refine LoopW.next ⟨q + 1, by omega⟩ (by simp; omega) ?_
    exact (Wk.zwX (6) (9) rfl (by simp [hn]) (by simp [hn]) (by simp [zal, zai, zas, zao, hS3s]) (by simp [zhQ, zfA, St.lp, zax, zaa, getK, zac, zad, D.under, D.le, D.ren, zal, zai, zas, zao, hS3s] <;> (try (intros; simp_all; done)) <;> (try omega)) (by simp [wkR, zfx, zc4, zc5, zcU, zfi, zfA, St.lp, zaa, getK, zac, zad, obR, leU, zch, za2, Ob.under, D.under, D.le, D.ren, zal, zai, zas, zao, hS3s] <;> (try (intros; simp_all; done)) <;> (try omega)))
   | true =>
    by_cases hlt2 : G.val V + N < G.val a
    ·simp only [hka, Bool.not_true, Bool.false_or, decide_eq_true hlt2, if_true] at hS3s
     repeat' (first
  | (refine zbu ?_; simp [hi, hci, zag, zah, zap, zaG, zaD, zcC, zaK, zaB, zbk, zbt, za6, zci, hka, han', hVm, hau, hku, hpu, q7, q8, hlt2])
  | (refine zbQ rfl ?_; simp [hi, hci, zag, zah, zap, zaG, zaD, zcC, zaK, zaB, zbk, zbt, za6, zci, hka, han', hVm, hau, hku, hpu, q7, q8, hlt2])
  | (refine zja rfl ?_; simp [hi, hci, zag, zah, zap, zaG, zaD, zcC, zaK, zaB, zbk, zbt, za6, zci, hka, han', hVm, hau, hku, hpu, q7, q8, hlt2])
  | (refine zdf rfl ?_; simp [hi, hci, zag, zah, zap, zaG, zaD, zcC, zaK, zaB, zbk, zbt, za6, zci, hka, han', hVm, hau, hku, hpu, q7, q8, hlt2])
  | (refine zcz ?_; simp [hi, hci, zag, zah, zap, zaG, zaD, zcC, zaK, zaB, zbk, zbt, za6, zci, hka, han', hVm, hau, hku, hpu, q7, q8, hlt2])
  | (refine ⟨by omega, ?_⟩)
  | (refine zbJ ?_; simp [hi, hci, zag, zah, zap, zaG, zaD, zcC, zaK, zaB, zbk, zbt, za6, zci, hka, han', hVm, hau, hku, hpu, q7, q8, hlt2])
  | (refine zdZ ?_; simp [hi, hci, zag, zah, zap, zaG, zaD, zcC, zaK, zaB, zbk, zbt, za6, zci, hka, han', hVm, hau, hku, hpu, q7, q8, hlt2])
  | (refine zfn (hC _ (by kernel_rfl)) (hk _ ?_); clear hC hk C k; simp only [zbf])
  | (refine zeR rfl (by kernel_rfl) (by first | (simp [hn] <;> omega) | fail) fun C k hC hk => ?_; simp [hi, hci, zag, zah, zap, zaG, zaD, zcC, zaK, zaB, zbk, zbt, za6, zci, hka, han', hVm, hau, hku, hpu, q7, q8, hlt2])
  | (refine zg9 rfl (by simp [hi, hci, zag, zah, zap, zaG, zaD, zcC, zaK, zaB, zbk, zbt, za6, zci, hka, han', hVm, hau, hku, hpu, q7, q8, hlt2]) (fun hc => ?_) (fun hc => ?_) <;> (try simp [hi, hci, zag, zah, zap, zaG, zaD, zcC, zaK, zaB, zbk, zbt, za6, zci, hka, han', hVm, hau, hku, hpu, q7, q8, hlt2] at hc) <;> (try (exfalso; omega)) <;> (try simp [hi, hci, zag, zah, zap, zaG, zaD, zcC, zaK, zaB, zbk, zbt, za6, zci, hka, han', hVm, hau, hku, hpu, q7, q8, hlt2]))
  | (refine zdA ?_; simp [hi, hci, zag, zah, zap, zaG, zaD, zcC, zaK, zaB, zbk, zbt, za6, zci, hka, han', hVm, hau, hku, hpu, q7, q8, hlt2])
  | (refine zec ?_; simp only [zbf])
  | (refine ⟨?_, by omega⟩)
  | (intro hc <;> (try (exfalso; omega)))
  | fail)
     refine LoopW.next ⟨q + 1, by omega⟩ (by simp; omega) ?_
     exact (Wk.zwX (6) (9) rfl (by simp [hn]) (by simp [hn]) (by simp [zal, zai, zas, zao, hS3s]) (by simp [zhQ, zfA, St.lp, zax, zaa, getK, zac, zad, D.under, D.le, D.ren, zal, zai, zas, zao, hS3s] <;> (try (intros; simp_all; done)) <;> (try omega)) (by simp [wkR, zfx, zc4, zc5, zcU, zfi, zfA, St.lp, zaa, getK, zac, zad, obR, leU, zch, za2, Ob.under, D.under, D.le, D.ren, zal, zai, zas, zao, hS3s] <;> (try (intros; simp_all; done)) <;> (try omega)))
    ·simp only [hka, Bool.not_true, Bool.false_or, decide_eq_false hlt2, Bool.false_eq_true, if_false] at hS3s
     repeat' (first
  | (refine zbu ?_; simp [hi, hci, zag, zah, zaG, zaD, zaK, zaB, zbt, za6, hka, han', hVm, hlt2])
  | (refine zbQ rfl ?_; simp [hi, hci, zag, zah, zaG, zaD, zaK, zaB, zbt, za6, hka, han', hVm, hlt2])
  | (refine zdf rfl ?_; simp [hi, hci, zag, zah, zaG, zaD, zaK, zaB, zbt, za6, hka, han', hVm, hlt2])
  | (refine zcz ?_; simp [hi, hci, zag, zah, zaG, zaD, zaK, zaB, zbt, za6, hka, han', hVm, hlt2])
  | (refine ⟨by omega, ?_⟩)
  | (refine zbJ ?_; simp [hi, hci, zag, zah, zaG, zaD, zaK, zaB, zbt, za6, hka, han', hVm, hlt2])
  | (refine zdZ ?_; simp [hi, hci, zag, zah, zaG, zaD, zaK, zaB, zbt, za6, hka, han', hVm, hlt2])
  | (refine zfn (hC _ (by kernel_rfl)) (hk _ ?_); clear hC hk C k; simp only [zbf])
  | (refine zeR rfl (by kernel_rfl) (by first | (simp [hn] <;> omega) | fail) fun C k hC hk => ?_; simp [hi, hci, zag, zah, zaG, zaD, zaK, zaB, zbt, za6, hka, han', hVm, hlt2])
  | (refine zg9 rfl (by simp [hi, hci, zag, zah, zaG, zaD, zaK, zaB, zbt, za6, hka, han', hVm, hlt2]) (fun hc => ?_) (fun hc => ?_) <;> (try simp [hi, hci, zag, zah, zaG, zaD, zaK, zaB, zbt, za6, hka, han', hVm, hlt2] at hc) <;> (try (exfalso; omega)) <;> (try simp [hi, hci, zag, zah, zaG, zaD, zaK, zaB, zbt, za6, hka, han', hVm, hlt2]))
  | (refine zdA ?_; simp [hi, hci, zag, zah, zaG, zaD, zaK, zaB, zbt, za6, hka, han', hVm, hlt2])
  | (refine zec ?_; simp only [zbf])
  | (refine ⟨?_, by omega⟩)
  | (intro hc <;> (try (exfalso; omega)))
  | fail)
     refine LoopW.next ⟨q + 1, by omega⟩ (by simp; omega) ?_
     exact (Wk.cut rfl (by simp [hn, St.lp]) (by simp [wkO, St.lp, zaa, getK, Ob.under, D.under, zaj, zak, zal, zai, zas, zao, hS3s]) (by simp [wkU, St.lp, zax, zaa, getK, D.under, zal, zai, zas, zao, hS3s]) (by simp [wkE, St.lp, zax, zaa, getK, zal, zai, zas, zao, hS3s] <;> (try (intros; simp_all; done)) <;> (try (intros; omega)) <;> (try grind)))
theorem zuj (m M : Nat) (l : List Con) (bg : Nat -> Bool) (g : GS) (v to k : Nat) (hm : m <= 200) (hl : OkC m l) (hll : l.length <= 2000) (hinv : Inv l bg g) (hv : v < m) (hk : 0 < k) (hkm : k <= m) (hal : al l g k v) (hto : it l g k v = to) (hmin : ∀ j, 0 < j -> j < k -> it l g j v ≠ to) :
  Ret Tryz.prog 34 [.ptr 5 0, .u (.int .i64 v), .u (.int .i64 to)] (zuv l m g) (M + 6) fun d obs nx' => d = .u (ints (pl l (-1) g k v).reverse) /\ obs = zuv l m g /\ nx' = M + 6 := by
 simp only [zuv, consU, ints]
 (refine Ret.of_bodyW Tryz.func34 rfl (by simp) fun Γ hn => ?_); simp only [zzE, zzC, zzD, Tryz.ntmps34]
 repeat' (first
  | (refine zbu ?_; simp)
  | (refine zcz ?_; simp)
  | (refine zbJ ?_; simp)
  | (refine zeL ?_; simp)
  | fail)
 refine zkX _ (Wk.own 7 3 1 (by decide) rfl) ?_;simp [St.own];refine zbS (α := { q : Nat // q <= k }) [0, 2] (fun q => [(1, .u (.int .i64 (it l g q.1 v))), (7, .vec (M + 6) q.1), (8, .u (.bool (decide (q.1 = 0))))])
  (fun q => [(M + 6, .vec 3 1 (intR (pl l (-1) g q.1 v))), (5, .box [.u (.sl (l.map fun c => [.int .i64 c.A, .int .i64 c.B, .int .i64 c.N])), .u (.sl ((List.range m).map fun v => [.sl ((zhU (zdq l v)).map fun n => [.int .i64 n])])), .vec 1 m, .vec 3 m, .vec 4 m]), (1, .vec 3 1 (intR (lst m g.val))), (3, .vec 3 1 (intR (lst m (zjd (-1) g)))), (4, .vec 4 1 (zdY (bst m g.kn)))]) (M + 7) (fun q => k - q.1) ⟨0, by omega⟩ ?_ ?_
 ·exact (Wk.cut rfl (by simp [hn, St.lp]) (by simp [wkO, St.lp, zaa, getK, Ob.under, D.under, zaj, zak, zal, zai, zas, zao, it, pl, intR]) (by simp [wkU, St.lp, zax, zaa, getK, D.under, zal, zai, zas, zao, it, pl, intR]) (by simp [wkE, St.lp, zax, zaa, getK, zal, zai, zas, zao, it, pl, intR] <;> (try (intros; simp_all; done)) <;> (try (intros; omega)) <;> (try grind)))
 rintro ⟨q, hq⟩;simp [St.lp, St.only, zax, zaa, getK];have q9 := znM l (-1) g q v;by_cases hqk : q < k
 ·have hxi : it l g q v < m := zrp hl q hv;obtain ⟨I, c, q1, q2, q3, q4⟩ := zsi (-1) hl hinv hxi (zwW hal hqk);have q5 := zro l g q v;rw [<- q5] at q3;have q6 := zqx l (-1) g q v;rw [q1] at q6;have q7 : intR (pl l (-1) g q v) ++ [[D.u (.int .i64 (I : Int))]] = intR (pl l (-1) g (q + 1) v) := by rw [q6]; simp [intR]
  have q8 := zgR (pl l (-1) g q v);by_cases hq0 : q = 0
  ·subst hq0
   repeat' (first
  | (refine zbu ?_; simp [zag, zah, zaG, zaD, hxi, q1, q2, q3, q4, q7, q8, q9])
  | (refine zbQ rfl ?_; simp [zag, zah, zaG, zaD, hxi, q1, q2, q3, q4, q7, q8, q9])
  | (refine zcz ?_; simp [zag, zah, zaG, zaD, hxi, q1, q2, q3, q4, q7, q8, q9])
  | (refine zbJ ?_; simp [zag, zah, zaG, zaD, hxi, q1, q2, q3, q4, q7, q8, q9])
  | (refine zdZ ?_; simp [zag, zah, zaG, zaD, hxi, q1, q2, q3, q4, q7, q8, q9])
  | (refine zfn (hC _ (by kernel_rfl)) (hk _ ?_); clear hC hk C k; simp only [zbf])
  | (refine zeR rfl (by kernel_rfl) (by first | (simp [hn] <;> omega) | fail) fun C k hC hk => ?_; simp [zag, zah, zaG, zaD, hxi, q1, q2, q3, q4, q7, q8, q9])
  | (refine zdA ?_; simp [zag, zah, zaG, zaD, hxi, q1, q2, q3, q4, q7, q8, q9])
  | (refine zec ?_; simp only [zbf])
  | fail)
   refine LoopW.next ⟨0 + 1, by omega⟩ (by simp; omega) ?_
   exact (Wk.zwX (M + 6) (M + 8) rfl (by simp [hn]) (by simp [hn]) (by simp [zal, zai, zas, zao]) (by simp [zhQ, zfA, St.lp, zax, zaa, getK, zac, zad, D.under, D.le, D.ren, zal, zai, zas, zao] <;> (try (intros; simp_all; done)) <;> (try omega)) (by simp [wkR, zfx, zc4, zc5, zcU, zfi, zfA, St.lp, zaa, getK, zac, zad, obR, leU, zch, za2, Ob.under, D.under, D.le, D.ren, zal, zai, zas, zao] <;> (try (intros; simp_all; done)) <;> (try omega)))
  ·have hne := hmin q (by omega) hqk;have hne2 : ¬ ((it l g q v : Nat) : Int) = (to : Int) := fun e => hne (by omega)
   repeat' (first
  | (refine zbu ?_; simp [hq0, hne, hne2, zag, zah, zaG, zaD, hxi, q1, q2, q3, q4, q7, q8, q9])
  | (refine zbQ rfl ?_; simp [hq0, hne, hne2, zag, zah, zaG, zaD, hxi, q1, q2, q3, q4, q7, q8, q9])
  | (refine zcz ?_; simp [hq0, hne, hne2, zag, zah, zaG, zaD, hxi, q1, q2, q3, q4, q7, q8, q9])
  | (refine ⟨by omega, ?_⟩)
  | (refine zbJ ?_; simp [hq0, hne, hne2, zag, zah, zaG, zaD, hxi, q1, q2, q3, q4, q7, q8, q9])
  | (refine zdZ ?_; simp [hq0, hne, hne2, zag, zah, zaG, zaD, hxi, q1, q2, q3, q4, q7, q8, q9])
  | (refine zfn (hC _ (by kernel_rfl)) (hk _ ?_); clear hC hk C k; simp only [zbf])
  | (refine zeR rfl (by kernel_rfl) (by first | (simp [hn] <;> omega) | fail) fun C k hC hk => ?_; simp [hq0, hne, hne2, zag, zah, zaG, zaD, hxi, q1, q2, q3, q4, q7, q8, q9])
  | (refine zdA ?_; simp [hq0, hne, hne2, zag, zah, zaG, zaD, hxi, q1, q2, q3, q4, q7, q8, q9])
  | (refine zec ?_; simp only [zbf])
  | fail)
   refine LoopW.next ⟨q + 1, by omega⟩ (by simp; omega) ?_
   exact (Wk.zwX (M + 6) (M + 8) rfl (by simp [hn]) (by simp [hn]) (by simp [zal, zai, zas, zao]) (by simp [zhQ, zfA, St.lp, zax, zaa, getK, zac, zad, D.under, D.le, D.ren, zal, zai, zas, zao] <;> (try (intros; simp_all; done)) <;> (try omega)) (by simp [wkR, zfx, zc4, zc5, zcU, zfi, zfA, St.lp, zaa, getK, zac, zad, obR, leU, zch, za2, Ob.under, D.under, D.le, D.ren, zal, zai, zas, zao] <;> (try (intros; simp_all; done)) <;> (try omega)))
 obtain rfl : q = k := by omega
 have hq0 : ¬ q = 0 := by omega
 have hrr := zmN 3 (M + 6) (M + 7) (by omega) (pl l (-1) g q v) (by omega);rw [q9] at hrr;rw [hto]
 repeat' (first
  | (refine zbu ?_; simp [hq0, q9, del, zab, zaa])
  | (refine zcz ?_; simp [hq0, q9, del, zab, zaa])
  | (refine zbJ ?_; simp [hq0, q9, del, zab, zaa])
  | (refine zdZ ?_; simp [hq0, q9, del, zab, zaa])
  | (refine zjq ?_; simp only [zbf])
  | (refine zfP ?_; simp [zbf])
  | (refine CallP.zyh (hrr) (by simp [getK]) (by rfl) (by first | assumption | simp) (by rfl) (by simp) ?_; rintro d o n' hn' ⟨rfl, rfl, rfl⟩; (try simp at hn'); (try simp [hq0, q9, del, zab, zaa]))
  | fail)
 refine EndW.wk _ (Wk.frz (e := 3) (sz := 1) (M + 6) [] (us := (pl l (-1) g q v).reverse.map fun z => [U.int .i64 z]) (by simp [zaa]) (zbF _)) ?_;simp [St.frz, St.frzS, frzS, fv, za1, frzObS, del, q9];refine EndW.wk { n := _, env := [(6, .u (.sl ((pl l (-1) g q v).reverse.map fun z => [U.int .i64 z])))], obs := [(5, .box [.u (.sl (l.map fun c => [.int .i64 c.A, .int .i64 c.B, .int .i64 c.N])), .u (.sl ((List.range m).map fun v => [.sl ((zhU (zdq l v)).map fun n => [.int .i64 n])])), .vec 1 m, .vec 3 m, .vec 4 m]), (1, .vec 3 1 (intR (lst m g.val))), (3, .vec 3 1 (intR (lst m (zjd (-1) g)))), (4, .vec 4 1 (zdY (bst m g.kn)))], next := M + 6 } (Wk.cut rfl (by simp [hn, St.lp]) (by simp [wkO, St.lp, zaa, getK, Ob.under, D.under, zaj, zak, zal, zai, zas, zao]) (by simp [wkU, St.lp, zax, zaa, getK, D.under, zal, zai, zas, zao]) (by simp [wkE, St.lp, zax, zaa, getK, zal, zai, zas, zao] <;> (try (intros; simp_all; done)) <;> (try (intros; omega)) <;> (try grind))) (EndW.here ?_)
 (first | (refine EndOK.fin (.inr rfl) ?_) | (refine EndOK.fin (.inl rfl) ?_)); simp [zea, zaC, Tryz.results34]
 exact FinOK.here (by simp) ⟨by simp, by simp, rfl⟩
theorem solve_ex (l : List Con) (n : Int) (hK : (n.toNat + 1) * (n.toNat * l.length) <= 3000000) : ∃ V C E, SolveSpec l n V C E /\ Fun Tryz.prog 12 [.u (consU l), .u (.int .i64 n)] (· = .tup [.u (ints V), .u (ints C), .u (.int .i64 E)]) := by
 have h0 := zgM l n;by_cases hr : rightL l n = true
 case neg =>
  have hr2 : rightL l n = false := by simpa using hr
  rw [hr2] at h0;refine ⟨_, _, _, zql hr2, ?_⟩
  (refine Fun.of_bodyW Tryz.func12 rfl (by simp) fun Γ hn => ?_); simp only [zzE, zzC, zzD, Tryz.ntmps12]
  simp only [consU, ints] at h0 ⊢
  repeat' (first
  | (refine zbu ?_; simp)
  | (refine zcz ?_; simp)
  | (refine zbJ ?_; simp)
  | (refine zdZ ?_; simp)
  | (refine zjq ?_; simp only [zbf])
  | (refine CallP.fun_ (h0) (by first | rfl | fail) (by first | assumption | (simp; done) | fail) (by first | (simp; done) | (simp; rfl) | fail) (by first | (simp; done) | fail) (fun d hd => ?_); subst hd; (try simp))
  | fail)
  refine EndW.norm (EndW.here ?_)
  (refine EndOK.val (.inr rfl) ?_; simp [zea, zaC, zbC, Tryz.results12, zau, zav, zbq, zbr, frz, zbL, frzS, fv, za1, zbm, zbn, frzObS, zat, zan, zbN, zb5, zcc, za7])
 rw [hr] at h0;obtain ⟨e1, e2, e3, e4⟩ := zhk hr;generalize hN : n.toNat = m at e1 e2 e4 hK;subst e1;have h1 := zrK m (by omega);have h2 := zkx m l (zgC m) (zev m) e2 e4 e3 (zhB m) (by rw [ze3]; omega);have hout := znJ (nxt := zhT) e4 zeW zlF (m + 1) 0 (PI.zero e4 (zhB m)) (by rw [ze3]; exact Nat.le_refl _) (fun h => by omega) (by omega);rcases hF : zsx zhT l (m + 1) (GS.zero (zgC m)) (zev m) with ⟨gF, ret⟩
 have h3 := zu7 m l (zgC m) (zev m) gF ret e2 e4 e3 hK (by rw [ze3]; exact Nat.le_refl _) (zhB m) hF;rw [hF] at hout;simp only [Nat.zero_add] at hout;by_cases hret : ret = -1
 ·refine ⟨_, _, _, zsZ hr (hret ▸ hout) (Nat.le_refl _), ?_⟩;have hneg : ret < 0 := by omega
  (refine Fun.of_bodyW Tryz.func12 rfl (by simp) fun Γ hn => ?_); simp only [zzE, zzC, zzD, Tryz.ntmps12]
  simp only [consU, ints, zuv, zhU, List.map_map] at h0 h1 h2 h3 ⊢
  repeat' (first
  | (refine zbu ?_; simp [hneg])
  | (refine zcz ?_; simp [hneg])
  | (refine zbJ ?_; simp [hneg])
  | (refine zdZ ?_; simp [hneg])
  | (refine zjq ?_; simp only [zbf])
  | (refine zec ?_; simp only [zbf])
  | (refine CallP.fun_ (h0) (by first | rfl | fail) (by first | assumption | (simp; done) | fail) (by first | (simp [hneg]; done) | (simp [hneg]; rfl) | fail) (by first | (simp; done) | fail) (fun d hd => ?_); subst hd; (try simp [hneg]))
  | (refine CallP.fun_ (h1) (by first | rfl | fail) (by first | assumption | (simp; done) | fail) (by first | (simp [hneg]; done) | (simp [hneg]; rfl) | fail) (by first | (simp; done) | fail) (fun d hd => ?_); subst hd; (try simp [hneg]))
  | (refine CallP.zy1 (h2) (by rfl) (by first | assumption | simp) (by rfl) (by simp) ?_; rintro d o n' hn' ⟨rfl, rfl, rfl⟩; (try simp at hn'); (try simp [hneg]))
  | (refine CallP.zxj (h3) (by rfl) (by first | assumption | simp) (by rfl) (by simp) ?_; rintro d o n' hn' ⟨rfl, rfl, rfl⟩; (try simp at hn'); (try simp [hneg]))
  | fail)
  refine EndW.wk _ (Wk.frz (e := 3) (sz := 1) 1 [] (us := (lst m gF.val).map fun z => [U.int .i64 z]) (by simp [zaa]) (zbF _)) ?_;simp [St.frz, St.frzS, frzS, fv, za1, frzObS, del, zaG];refine EndW.norm (EndW.here ?_)
  (refine EndOK.val (.inr rfl) ?_; simp [zea, zaC, zbC, Tryz.results12, zau, zav, zbq, zbr, frz, zbL, frzS, fv, za1, zbm, zbn, frzObS, zat, zan, zbN, zb5, zcc, za7, zaG])
 ·obtain ⟨ha, k, hk0, hkn, hak, hke, hkmin, hC⟩ := hout.circle (-1) e4 hret;refine ⟨_, _, _, zqk hr hout hret hC, ?_⟩;have hinv := hout.1;obtain ⟨hret0, hretm⟩ : 0 <= ret /\ ret < m := by
   rcases hout.2.2 with h | h
   ·exact absurd h.1 hret
   ·exact ⟨h.1, h.2.1⟩
  obtain ⟨R, rfl⟩ := Int.eq_ofNat_of_zero_le hret0;simp only [Int.toNat_natCast] at ha hak hke hkmin hC ⊢;have hum : it l gF m R < m := zrp e4 m (by omega);generalize hu : it l gF m R = u at hak hke hkmin hC hum ⊢;have hneg : ¬ (R : Int) < 0 := by omega
  have h4 := zuj m 0 l (zgC m) gF u u k e2 e4 e3 hinv hum hk0 hkn hak hke hkmin;simp only [Nat.zero_add] at h4
  (refine Fun.of_bodyW Tryz.func12 rfl (by simp) fun Γ hn => ?_); simp only [zzE, zzC, zzD, Tryz.ntmps12]
  simp only [consU, ints, zuv, zhU, List.map_map] at h0 h1 h2 h3 h4 ⊢
  repeat' (first
  | (refine zbu ?_; simp [hneg])
  | (refine zcz ?_; simp [hneg])
  | (refine zbJ ?_; simp [hneg])
  | (refine zdZ ?_; simp [hneg])
  | (refine zeL ?_; simp [hneg])
  | (refine zec ?_; simp only [zbf])
  | (refine CallP.fun_ (h0) (by first | rfl | fail) (by first | assumption | (simp; done) | fail) (by first | (simp [hneg]; done) | (simp [hneg]; rfl) | fail) (by first | (simp; done) | fail) (fun d hd => ?_); subst hd; (try simp [hneg]))
  | (refine CallP.fun_ (h1) (by first | rfl | fail) (by first | assumption | (simp; done) | fail) (by first | (simp [hneg]; done) | (simp [hneg]; rfl) | fail) (by first | (simp; done) | fail) (fun d hd => ?_); subst hd; (try simp [hneg]))
  | (refine CallP.zy1 (h2) (by rfl) (by first | assumption | simp) (by rfl) (by simp) ?_; rintro d o n' hn' ⟨rfl, rfl, rfl⟩; (try simp at hn'); (try simp [hneg]))
  | (refine CallP.zxj (h3) (by rfl) (by first | assumption | simp) (by rfl) (by simp) ?_; rintro d o n' hn' ⟨rfl, rfl, rfl⟩; (try simp at hn'); (try simp [hneg]))
  | fail)
  refine zdd (α := { j : Nat // j <= m }) [0, 7, 28] (fun j => [(8, .u (.int .i64 (it l gF j.1 R))), (29, .u (.int .i64 j.1))]) (fun j => m - j.1) ⟨0, by omega⟩ ?_ ?_
  ·exact (Wk.cut rfl (by simp [hn, St.lp]) (by simp [wkO, St.lp, zaa, getK, Ob.under, D.under, zaj, zak, zal, zai, zas, zao, it]) (by simp [wkU, St.lp, zax, zaa, getK, D.under, zal, zai, zas, zao, it]) (by simp [wkE, St.lp, zax, zaa, getK, zal, zai, zas, zao, it] <;> (try (intros; simp_all; done)) <;> (try (intros; omega)) <;> (try grind)))
  rintro ⟨j, hj⟩;simp [St.lp, St.only, zax, zaa, getK];by_cases hji : j < m
  case pos =>
   have hxi : it l gF j R < m := zrp e4 j (by omega);obtain ⟨I, c, q1, q2, q3, q4⟩ := zsi (-1) e4 hinv hxi (zwW ha hji);have q5 := zro l gF j R;rw [<- q5] at q3
   repeat' (first
  | (refine zbu ?_; simp [hji, zag, zah, zaG, zaD, hxi, q1, q2, q3, q4])
  | (refine zcz ?_; simp [hji, zag, zah, zaG, zaD, hxi, q1, q2, q3, q4])
  | (refine ⟨by omega, ?_⟩)
  | (refine zbJ ?_; simp [hji, zag, zah, zaG, zaD, hxi, q1, q2, q3, q4])
  | (refine zdA ?_; simp [hji, zag, zah, zaG, zaD, hxi, q1, q2, q3, q4])
  | (refine zec ?_; simp only [zbf])
  | fail)
   refine LoopW.next ⟨j + 1, by omega⟩ (by simp; omega) ?_
   exact (Wk.cut rfl (by simp [hn, St.lp]) (by simp [wkO, St.lp, zaa, getK, Ob.under, D.under, zaj, zak, zal, zai, zas, zao]) (by simp [wkU, St.lp, zax, zaa, getK, D.under, zal, zai, zas, zao]) (by simp [wkE, St.lp, zax, zaa, getK, zal, zai, zas, zao] <;> (try (intros; simp_all; done)) <;> (try (intros; omega)) <;> (try grind)))
  obtain rfl : j = m := by omega
  rw [hu]
  repeat' (first
  | (refine zbu ?_; simp [hji])
  | (refine zcz ?_; simp [hji])
  | (refine zbJ ?_; simp [hji])
  | (refine zjq ?_; simp only [zbf])
  | (refine zfP ?_; simp [zbf])
  | (refine CallP.zxj (h4) (by rfl) (by first | assumption | simp) (by rfl) (by simp) ?_; rintro d o n' hn' ⟨rfl, rfl, rfl⟩; (try simp at hn'); (try simp [hji]))
  | fail)
  refine EndW.norm (EndW.here ?_)
  (refine EndOK.val (.inr rfl) ?_; simp [zea, zaC, zbC, Tryz.results12, zau, zav, zbq, zbr, frz, zbL, frzS, fv, za1, zbm, zbn, frzObS, zat, zan, zbN, zb5, zcc, za7])
end Go.Proofs.YtmlpcgkaonifcaaGreatDoor.Df
namespace Go.Proofs.YtmlpcgkaonifcaaGreatDoor
open Go Go.VL
attribute [local simp] HS zbw zc2 zcq evPure opd uOf zay St.put St.at getK binD binI binS binB nilD aggD zfJ zge lookD lookR zcn rangeS Go.VL.nextD Go.VL.nextS zcr zgk zgh zfs zcv mkV zbi zaT zaS zaR zc0 zaP zba zbs mapEff zdE zfp Key.kk shiftI arith unD convD zdu loadD cellsAt fieldAddrD fieldD indexAddrD indexSlD arrAddr indexD sliceD cutD lenD minmaxD nilCheckD buildD fillD zb0 zc7 zeD setAll zcW zef zck zfv zcj St.add zaw zbB rowsOf zdg zcw zad zac zaa zbz zda za3 entry zbO zbT valD zcm zcB zfw zdb zdc zb4 zbP zam zaW zbj delAll effD St.effS zcF zaU zaH zcG zaV zaJ zbY zaI zaA zbZ zcD zbv zbX za9 zbV zbW zar mkD zcl zbG zbK zam zcu D.ids Op.operands Call.operands zbH makeIfD makeFuncD typeAssertD zgd zdm zdn zf8 zco IntKind.bits zct zaz List.take_of_length_le List.range_succ zcO zcf zcP zcK zbD zb6 zb8 zcL zca zbe zb9 zb7 zhc zce zcM zaZ zaL zcN za0 zaN zcd zaM zaF zcS zcT zha zab frzN frz1 zav zau St.frz St.frzS frzS fv za1 zbm zbn frzObS zat zan frz zbL zbq zbr zbN zb5 zcc za7 St.norm St.lp St.only zax wkE wkO wkU Ob.under D.under zaj zak zcQ zcg zcR h4s zea zaC zbC List.zipIdx_cons List.zipIdx_nil zzC zzD Nat.zero_add
attribute [local irreducible] V G H HD HD2 HD4 zhd RetX zbf Eff CallP CallV EndOK Fun Ret FinOK LoopI LoopW EndW HR vs2 RN Cnd H4
def zfe (s : List UInt8) : Bool := zkZ s && !words.contains s
set_option maxRecDepth 100000 in
theorem zh5 (s : List UInt8) : Fun Tryz.prog 26 [.u (.str s)] (· = .u (.bool (zfe s))) := by
 have h1 := zkK words s;have h2 := znA s;have h3 := zln;generalize hw : words.contains s = w at h1;simp only [zu6] at h1 h3;generalize (words.map fun s => [U.str s]) = W at h1 h3;unfold zfe;rw [hw];clear hw;generalize zkZ s = b at h2 ⊢;cases b
 all_goals
  refine Fun.run Tryz.func26 Tryz.ntmps26 Tryz.results26 rfl (by simp) fun Γ hn => ?_
  repeat' (first
  | (refine zaf rfl ?_; simp)
  | ((first | refine CallP.f2 rfl (h1) (by first | simp <;> rfl | fail) ?_ | refine CallP.f2 rfl (h2) (by first | simp <;> rfl | fail) ?_ | refine CallP.f2 rfl (h3) (by first | simp <;> rfl | fail) ?_ | fail); simp)
  | fail)
  (refine Pst.of ?_; simp)
def zbU (op : Int) : Int := if op = 0 \/ op = 1 then 0 else if op = 12 then 1 else if op = 13 then 3 else if op < 0 \/ 14 <= op then -1 else 2
theorem zlB (op : Int) : Fun Tryz.prog 77 [.u (.int .i64 op)] (· = .u (.int .i64 (zbU op))) := by
 unfold zbU;refine Fun.run Tryz.func77 Tryz.ntmps77 Tryz.results77 rfl (by simp) fun Γ hn => ?_
 repeat' (first
  | (refine Cnd.of (fun hc => ?_) (fun hc => ?_) <;> (try (exfalso; omega)) <;> (try simp))
  | (refine zaf rfl ?_; simp)
  | fail)
 all_goals
  (refine Pst.of ?_; simp)
 all_goals (repeat' split) <;> first | rfl | omega | simp_all
theorem zvB : Exp.row = fun e => [.int .i64 e.op, .int .i64 e.n, .int .i64 e.unit, .str e.s, .sl (e.args.map Exp.row)] := funext fun e => e.row_eq
def zdo (e : Exp) : D := .u (.agg [.int .i64 e.op, .int .i64 e.n, .int .i64 e.unit, .str e.s, .sl (e.args.map Exp.row)])
def zwk (l : List Exp) : U := .sl (l.map fun e => [.int .i64 e.op, .int .i64 e.n, .int .i64 e.unit, .str e.s, .sl (e.args.map Exp.row)])
theorem zvA (l : List Exp) : zwk l = .sl (l.map Exp.row) := by rw [zwk, <- zvB]
theorem zpg (l : List (Exp)) (f : FuncId) (caps : List U) (p : Exp -> Bool) (hf : ∀ n ∈ l, Fun Tryz.prog f (zdo n :: caps.map .u) (· = .u (.bool (p n)))) (hcl : zae Tryz.prog f = true)
  (hca : ∀ o, zcB o (caps.map .u) = some (caps.map .u, [])) : Fun Tryz.prog 99 [.u (zwk l), .fnc (.func f) (caps.map .u)] (· = .u (.int .i64 (zgc p l 0))) := by
 refine Fun.run Tryz.func99 Tryz.ntmps99 Tryz.results99 rfl (by simp) fun Γ hn => ?_; simp only [zzE, zzC, zzD];simp only [zwk];refine zhK (x := 0) rfl fun hl => ?_;simp at hl
 repeat' (first
  | (refine zaf rfl ?_; simp)
  | fail)
 refine zdd (α := { i : Nat // i <= l.length /\ ∀ c ∈ l.take i, p c = false }) [0, 1, 7] (fun i => [(8, .u (.int .i64 i.1))]) (fun i => l.length - i.1) ⟨0, by omega, by simp⟩ ?_ ?_
 ·exact (Wk.env rfl rfl rfl (by simp [wkE, St.lp, zax, zaa, getK] <;> (try (intros; simp_all; done)) <;> (try (intros; omega)) <;> (try grind)))
 rintro ⟨i, hi, hb⟩;simp;rcases hx : l[i]? with _ | n
 ·have hge : l.length <= i := by simpa using hx
  repeat' (first
  | (refine Cnd.of (fun hc => ?_) (fun hc => ?_) <;> (try (exfalso; omega)) <;> (try simp [hx]))
  | (refine zaf rfl ?_; simp [hx])
  | fail)
  (refine Pst.of ?_; simp)
  rw [List.take_of_length_le hge] at hb;exact (zeq hb).symm
 ·have hlt : i < l.length := (List.getElem?_eq_some_iff.1 hx).1;have h1 := hf n (List.mem_of_getElem? hx);simp only [zdo] at h1;cases hp : p n
  ·rw [hp] at h1
   repeat' (first
  | (refine Cnd.of (fun hc => ?_) (fun hc => ?_) <;> (try (exfalso; omega)) <;> (try simp [hx, hca]))
  | (refine zaf rfl ?_; simp [hx, hca])
  | (refine And.intro (by omega) ?_)
  | (refine CallP.f2 rfl (h1) (by first | simp [hx, hca] <;> rfl | fail) ?_; simp [hx, hca])
  | fail)
   refine LoopW.next ⟨i + 1, by omega, zbh hx hb hp⟩ (by simp; omega) ?_
   exact (Wk.env rfl rfl rfl (by simp [wkE, St.lp, zax, zaa, getK] <;> (try (intros; simp_all; done)) <;> (try (intros; omega)) <;> (try grind)))
  ·rw [hp] at h1
   repeat' (first
  | (refine Cnd.of (fun hc => ?_) (fun hc => ?_) <;> (try (exfalso; omega)) <;> (try simp [hx, hca]))
  | (refine zaf rfl ?_; simp [hx, hca])
  | (refine And.intro (by omega) ?_)
  | (refine CallP.f2 rfl (h1) (by first | simp [hx, hca] <;> rfl | fail) ?_; simp [hx, hca])
  | fail)
   (refine Pst.of ?_; simp)
   rw [zgx hb hx hp];omega
theorem zkL (l : List (Exp)) (f : FuncId) (caps : List U) (p : Exp -> Bool) (hf : ∀ n ∈ l, Fun Tryz.prog f (zdo n :: caps.map .u) (· = .u (.bool (p n)))) (hcl : zae Tryz.prog f = true)
  (hca : ∀ o, zcB o (caps.map .u) = some (caps.map .u, [])) (hcb : ∀ o, zbP o (caps.map .u) = some (caps, [])) : Fun Tryz.prog 78 [.u (zwk l), .fnc (.func f) (caps.map .u)] (· = .u (.bool (l.any p))) := by
 have h1 := zpg l f caps p hf hcl hca;refine Fun.run Tryz.func78 Tryz.ntmps78 Tryz.results78 rfl (by simp) fun Γ hn => ?_; simp only [zzE, zzC, zzD];simp only [zwk] at h1 ⊢
 repeat' (first
  | (refine zaf rfl ?_; simp [hcb])
  | (refine CallP.f2 rfl (h1) (by first | simp [hcb] <;> rfl | fail) ?_; simp [hcb])
  | fail)
 (refine Pst.of ?_; simp)
 have h2 := zfW p l 0 (by omega);rw [Bool.eq_iff_iff];simpa using h2
def zyp (e : Exp) : Bool := decide (e.s = []) && decide (0 <= e.unit) && decide (e.unit < 5) && decide (0 <= e.n) && decide (e.n <= if e.unit = 0 then 1 else 1099511627776)
def zbg : Nat -> Exp -> Bool
 | 0, _ => false
 | d + 1, e => decide ((e.args.length : Int) = zbU e.op) && (if e.op = 0 then zyp e else if e.n ≠ 0 \/ e.unit ≠ 0 then false else if e.op = 1 then zfe e.s else decide (e.s = []) && !e.args.any (fun x => !zbg d x))
set_option maxRecDepth 100000 in
set_option maxHeartbeats 4000000 in
theorem zgM : ∀ (d : Nat) (e : Exp), (d : Int) <= 100 -> Fun Tryz.prog 52 [zdo e, .u (.int .i64 d)] (· = .u (.bool (zbg d e)))
 | 0, e, _ => by
  refine Fun.run Tryz.func52 Tryz.ntmps52 Tryz.results52 rfl (by simp) fun Γ hn => ?_; simp only [zzE, zzC, zzD];simp only [zdo]
  repeat' (first
  | (refine zaf rfl ?_; simp)
  | (refine ⟨hC _ (by kernel_rfl), hk _ (zdH 8 _ _ _ ?_)⟩; clear hC hk C k; simp)
  | (refine zdx rfl (by kernel_rfl) (by first | (simp [hn] <;> omega) | fail) fun C k hC hk => ?_; simp)
  | fail)
  (refine Pst.of ?_; simp)
  rfl
 | d + 1, e, hd => by
  have hr : ∀ x : Exp, Fun Tryz.prog 79 (zdo x :: [U.row [.int .i64 ((d + 1 : Nat) : Int)] 0].map .u) (· = .u (.bool (!zbg d x))) := fun x => by
   have h1 := zgM d x (by omega);refine Fun.run Tryz.func79 Tryz.ntmps79 Tryz.results79 rfl (by simp) fun Γ hn => ?_; simp only [zzE, zzC, zzD];simp only [zdo] at h1 ⊢
   repeat' (first
  | (refine zaf rfl ?_; simp)
  | (refine And.intro (by omega) ?_)
  | (refine CallP.f2 rfl (h1) (by first | simp <;> rfl | fail) ?_; simp)
  | fail)
   (refine Pst.of ?_; simp)
  have hcon := zkL e.args 79 [U.row [.int .i64 ((d + 1 : Nat) : Int)] 0] (fun x => !zbg d x) (fun x _ => hr x) (by simp) (fun _ => rfl) (fun _ => rfl);have hnam := zh5 e.s;have hopr := zlB e.op;simp only [zzC, zzD] at hcon;rw [zbg];unfold zyp;generalize (e.args.any fun x => !zbg d x) = z at hcon ⊢;generalize zfe e.s = nm at hnam ⊢;generalize hop : zbU e.op = oi at hopr ⊢;refine Fun.run Tryz.func52 Tryz.ntmps52 Tryz.results52 rfl (by simp) fun Γ hn => ?_; simp only [zzE, zzC, zzD];rw [zvA] at hcon;simp only [zdo];by_cases hlen : (e.args.length : Int) = oi
  case neg =>
   repeat' (first
  | (refine Cnd.of (fun hc => ?_) (fun hc => ?_) <;> (try (exfalso; omega)) <;> (try simp [hlen]))
  | (refine zaf rfl ?_; simp [hlen])
  | (refine ⟨hC _ (by kernel_rfl), hk _ (zdH 8 _ _ _ ?_)⟩; clear hC hk C k; simp [hlen])
  | (refine zdx rfl (by kernel_rfl) (by first | (simp [hn] <;> omega) | fail) fun C k hC hk => ?_; simp [hlen])
  | (refine zcA rfl ?_; simp [hlen])
  | (refine zdf rfl ?_; simp [hlen])
  | (refine CallV.f2 rfl (hopr) (by first | simp [hlen] <;> rfl | fail) ?_; simp [hlen])
  | fail)
   (refine Pst.of ?_; simp)
   try (simp_all; done)
  by_cases h0 : e.op = 0
  case pos =>
   by_cases hu : e.unit = 0
   all_goals
    repeat' (first
  | (refine Cnd.of (fun hc => ?_) (fun hc => ?_) <;> (try (exfalso; omega)) <;> (try simp [hlen, h0, hu]))
  | (refine zaf rfl ?_; simp [hlen, h0, hu])
  | (refine ⟨hC _ (by kernel_rfl), hk _ (zdH 8 _ _ _ ?_)⟩; clear hC hk C k; simp [hlen, h0, hu])
  | (refine zdx rfl (by kernel_rfl) (by first | (simp [hn] <;> omega) | fail) fun C k hC hk => ?_; simp [hlen, h0, hu])
  | (refine zcA rfl ?_; simp [hlen, h0, hu])
  | (refine zdf rfl ?_; simp [hlen, h0, hu])
  | (refine CallV.f2 rfl (hopr) (by first | simp [hlen, h0, hu] <;> rfl | fail) ?_; simp [hlen, h0, hu])
  | fail)
    all_goals
     (refine Pst.of ?_; simp)
   all_goals clear hr hopr hcon hnam
   all_goals grind
  by_cases hnu : e.n ≠ 0 \/ e.unit ≠ 0
  case pos =>
   repeat' (first
  | (refine Cnd.of (fun hc => ?_) (fun hc => ?_) <;> (try (exfalso; omega)) <;> (try simp [hlen, h0]))
  | (refine zaf rfl ?_; simp [hlen, h0])
  | (refine ⟨hC _ (by kernel_rfl), hk _ (zdH 8 _ _ _ ?_)⟩; clear hC hk C k; simp [hlen, h0])
  | (refine zdx rfl (by kernel_rfl) (by first | (simp [hn] <;> omega) | fail) fun C k hC hk => ?_; simp [hlen, h0])
  | (refine zcA rfl ?_; simp [hlen, h0])
  | (refine zdf rfl ?_; simp [hlen, h0])
  | (refine CallV.f2 rfl (hopr) (by first | simp [hlen, h0] <;> rfl | fail) ?_; simp [hlen, h0])
  | fail)
   all_goals
    (refine Pst.of ?_; simp)
   all_goals clear hr hopr hcon hnam
   all_goals grind
  by_cases h1 : e.op = 1
  case pos =>
   repeat' (first
  | (refine Cnd.of (fun hc => ?_) (fun hc => ?_) <;> (try (exfalso; omega)) <;> (try simp [hlen, h0, h1]))
  | (refine zaf rfl ?_; simp [hlen, h0, h1])
  | (refine ⟨hC _ (by kernel_rfl), hk _ (zdH 8 _ _ _ ?_)⟩; clear hC hk C k; simp [hlen, h0, h1])
  | (refine zdx rfl (by kernel_rfl) (by first | (simp [hn] <;> omega) | fail) fun C k hC hk => ?_; simp [hlen, h0, h1])
  | (refine zcA rfl ?_; simp [hlen, h0, h1])
  | (refine zdf rfl ?_; simp [hlen, h0, h1])
  | ((first | refine CallP.f2 rfl (hopr) (by first | simp [hlen, h0, h1] <;> rfl | fail) ?_ | refine CallP.f2 rfl (hnam) (by first | simp [hlen, h0, h1] <;> rfl | fail) ?_ | fail); simp [hlen, h0, h1])
  | ((first | refine CallV.f2 rfl (hopr) (by first | simp [hlen, h0, h1] <;> rfl | fail) ?_ | refine CallV.f2 rfl (hnam) (by first | simp [hlen, h0, h1] <;> rfl | fail) ?_ | fail); simp [hlen, h0, h1])
  | fail)
   all_goals
    (refine Pst.of ?_; simp)
   all_goals clear hr hopr hcon hnam
   all_goals grind
  by_cases hs : e.s = []
  all_goals
   repeat' (first
  | (refine Cnd.of (fun hc => ?_) (fun hc => ?_) <;> (try (exfalso; omega)) <;> (try simp [hlen, h0, h1, hs]))
  | (refine zaf rfl ?_; simp [hlen, h0, h1, hs])
  | (refine ⟨hC _ (by kernel_rfl), hk _ (zdH 8 _ _ _ ?_)⟩; clear hC hk C k; simp [hlen, h0, h1, hs])
  | (refine zdx rfl (by kernel_rfl) (by first | (simp [hn] <;> omega) | fail) fun C k hC hk => ?_; simp [hlen, h0, h1, hs])
  | (refine zcA rfl ?_; simp [hlen, h0, h1, hs])
  | (refine zdf rfl ?_; simp [hlen, h0, h1, hs])
  | ((first | refine CallP.f2 rfl (hopr) (by first | simp [hlen, h0, h1, hs] <;> rfl | fail) ?_ | refine CallP.f2 rfl (hnam) (by first | simp [hlen, h0, h1, hs] <;> rfl | fail) ?_ | refine CallP.f2 rfl (hcon) (by first | simp [hlen, h0, h1, hs] <;> rfl | fail) ?_ | fail); simp [hlen, h0, h1, hs])
  | ((first | refine CallV.f2 rfl (hopr) (by first | simp [hlen, h0, h1, hs] <;> rfl | fail) ?_ | refine CallV.f2 rfl (hnam) (by first | simp [hlen, h0, h1, hs] <;> rfl | fail) ?_ | refine CallV.f2 rfl (hcon) (by first | simp [hlen, h0, h1, hs] <;> rfl | fail) ?_ | fail); simp [hlen, h0, h1, hs])
  | fail)
   all_goals
    (refine Pst.of ?_; simp)
  all_goals clear hr hopr hcon hnam
  all_goals grind
theorem zd6 (e : Exp) : Fun Tryz.prog 27 [zdo e] (· = .u (.bool (zbg 12 e))) := by
 have h1 := zgM 12 e (by omega);refine Fun.run Tryz.func27 Tryz.ntmps27 Tryz.results27 rfl (by simp) fun Γ hn => ?_; simp only [zzE, zzC, zzD];simp only [zdo] at h1 ⊢
 repeat' (first
  | (refine zaf rfl ?_; simp)
  | (refine CallP.f2 rfl (h1) (by first | simp <;> rfl | fail) ?_; simp)
  | fail)
 (refine Pst.of ?_; simp)
end Go.Proofs.YtmlpcgkaonifcaaGreatDoor
namespace Go.Proofs.YtmlpcgkaonifcaaGreatDoor
open Go Go.VL
attribute [local simp] zbw zc2 zcq evPure opd uOf zay St.put St.at getK binD binI binS binB nilD aggD zfJ zge lookD lookR zcn rangeS Go.VL.nextD Go.VL.nextS zcr zgk zgh zfs zcv mkV zbi zaT zaS zaR zc0 zaP zba zbs mapEff zdE zfp Key.kk shiftI arith unD convD zdu loadD cellsAt fieldAddrD fieldD indexAddrD indexSlD arrAddr indexD sliceD cutD lenD minmaxD nilCheckD buildD fillD zb0 zc7 zeD setAll zcW zef zck zfv zcj St.add zaw zbB rowsOf zdg zcw zad zac zaa zbz zda za3 entry zbO zbT valD zcm zcB zfw zdb zdc zb4 zbP zam zaW zbj delAll effD St.effS zcF zaU zaH zcG zaV zaJ zbY zaI zaA zbZ zcD zbv zbX za9 zbV zbW zar mkD zcl zbG zbK zam zcu D.ids Op.operands Call.operands zbH makeIfD makeFuncD typeAssertD zgd zdm zdn zf8 zco IntKind.bits zct zaz List.take_of_length_le List.range_succ zcO zcf zcP zcK zbD zb6 zb8 zcL zca zbe zb9 zb7 zhc zce zcM zaZ zaL zcN za0 zaN zcd zaM zaF zcS zcT zha zab frzN frz1 zav zau St.frz St.frzS frzS fv za1 zbm zbn frzObS zat zan frz zbL zbq zbr zbN zb5 zcc za7 St.norm St.lp St.only zax wkE wkO wkU Ob.under D.under zaj zak zcQ zcg zcR h4s zea zaC zbC List.zipIdx_cons List.zipIdx_nil zzC zzD Nat.zero_add
attribute [local irreducible] V G H HD HD2 zbf Eff CallP CallV EndOK Fun Ret FinOK LoopI LoopW EndW HR vs2 RN Cnd H4
def inB (lo hi : Int) (l : List Int) : Bool := !l.any fun n => decide (n < lo) || decide (hi < n)
theorem zvn (lo hi n : Int) : Fun Tryz.prog 48 (zuG n :: [U.row [.int .i64 lo] 0, U.row [.int .i64 hi] 0].map .u) (· = .u (.bool (decide (n < lo) || decide (hi < n)))) := by
 simp only [zuG, zzC, zzD];refine Fun.run Tryz.func48 Tryz.ntmps48 Tryz.results48 rfl (by simp) fun Γ hn => ?_
 repeat' (first
  | (refine Cnd.of (fun hc => ?_) (fun hc => ?_) <;> (try (exfalso; omega)) <;> (try simp))
  | (refine zaf rfl ?_; simp)
  | fail)
 all_goals
  (refine Pst.of ?_; simp)
 all_goals grind
theorem zlS (lo hi : Int) (l : List Int) : Fun Tryz.prog 25 [.u (.int .i64 lo), .u (.int .i64 hi), .u (ints l)] (· = .u (.bool (inB lo hi l))) := by
 have h1 := zg3 l 48 [U.row [.int .i64 lo] 0, U.row [.int .i64 hi] 0] _ (fun n _ => zvn lo hi n) (by simp) (fun _ => rfl) (fun _ => rfl);simp only [zzC, zzD] at h1;unfold inB;refine Fun.run Tryz.func25 Tryz.ntmps25 Tryz.results25 rfl (by simp) fun Γ hn => ?_; simp only [zzE, zzC, zzD];simp only [ints] at h1 ⊢
 repeat' (first
  | (refine zaf rfl ?_; simp)
  | (refine CallP.f2 rfl (h1) (by first | simp <;> rfl | fail) ?_; simp)
  | fail)
 (refine Pst.of ?_; simp)
theorem zhl (x l : Let) : Fun Tryz.prog 29 (ztq x :: [U.row (zn3 l) 0].map .u) (· = .u (.bool (decide (x.name = l.name)))) := by
 simp only [ztq, zn3, zzC, zzD];refine Fun.run Tryz.func29 Tryz.ntmps29 Tryz.results29 rfl (by simp) fun Γ hn => ?_
 repeat' (first
  | (refine zaf rfl ?_; simp)
  | fail)
 (refine Pst.of ?_; simp)
structure By where
 kind : Int
 period : Int
 grace : Int
 wait : Int
 last : Int
 order : Int
 sld : Bool
 backs : Int
 voices : Int
 jury : Int
 fund : Int
 lets : List Let
 due : Exp
 fine : Exp
 pay : Exp
 cover : Exp
 hold : Exp
 deriving Inhabited
def zaE (b : By) : List U := [.int .i64 b.kind, .int .i64 b.period, .int .i64 b.grace, .int .i64 b.wait, .int .i64 b.last, .int .i64 b.order, .bool b.sld, .int .i64 b.backs, .int .i64 b.voices, .int .i64 b.jury, .int .i64 b.fund,
 .sl (b.lets.map fun l => [.str l.name, .int .i64 l.body.op, .int .i64 l.body.n, .int .i64 l.body.unit, .str l.body.s, .sl (l.body.args.map Exp.row)]),
 .int .i64 b.due.op, .int .i64 b.due.n, .int .i64 b.due.unit, .str b.due.s, .sl (b.due.args.map Exp.row),
 .int .i64 b.fine.op, .int .i64 b.fine.n, .int .i64 b.fine.unit, .str b.fine.s, .sl (b.fine.args.map Exp.row),
 .int .i64 b.pay.op, .int .i64 b.pay.n, .int .i64 b.pay.unit, .str b.pay.s, .sl (b.pay.args.map Exp.row),
 .int .i64 b.cover.op, .int .i64 b.cover.n, .int .i64 b.cover.unit, .str b.cover.s, .sl (b.cover.args.map Exp.row),
 .int .i64 b.hold.op, .int .i64 b.hold.n, .int .i64 b.hold.unit, .str b.hold.s, .sl (b.hold.args.map Exp.row)]
def zvp (b : By) : Bool := inB 0 2 [b.kind] && inB 0 2 [b.order] && inB 1 1000 [b.period, b.last] && inB 0 1000 [b.grace, b.wait, b.voices, b.fund] && inB 0 60 [b.backs, b.jury]
def zlM (seen : List Let) : List Let -> Bool
 | [] => true
 | l :: r => zfe l.name && zbg 12 l.body && !seen.any (fun x => decide (x.name = l.name)) && zlM (seen ++ [l]) r
theorem ztj {L : List Let} {i : Nat} {l : Let} (h : L[i]? = some l) : zlM (L.take i) (L.drop i) = (zfe l.name && zbg 12 l.body && !(L.take i).any (fun x => decide (x.name = l.name)) && zlM (L.take (i + 1)) (L.drop (i + 1))) := by
 obtain ⟨hi, rfl⟩ := List.getElem?_eq_some_iff.1 h;rw [List.drop_eq_getElem_cons hi, zlM, List.take_succ_eq_append_getElem hi]
def zwD (b : By) : Bool := zbg 12 b.due && zbg 12 b.fine && zbg 12 b.pay && zbg 12 b.cover && zbg 12 b.hold
def zdh (b : By) : Bool := zvp b && !(b.sld && decide (b.kind ≠ 1)) && decide (b.lets.length <= 20) && zlM [] b.lets && zwD b
set_option maxRecDepth 100000 in
set_option maxHeartbeats 4000000 in
theorem zgp (b : By) : Fun Tryz.prog 11 [.u (.agg (zaE b))] (· = .u (.bool (zdh b))) := by
 have i1 := zlS 0 2 [b.kind];have i2 := zlS 0 2 [b.order];have i3 := zlS 1 1000 [b.period, b.last];have i4 := zlS 0 1000 [b.grace, b.wait, b.voices, b.fund];have i5 := zlS 0 60 [b.backs, b.jury];simp only [ints, zzC, zzD] at i1 i2 i3 i4 i5;have hr : ∀ e : Exp, Fun Tryz.prog 27 [.u (.agg [.int .i64 e.op, .int .i64 e.n, .int .i64 e.unit, .str e.s, .sl (e.args.map Exp.row)])] (· = .u (.bool (zbg 12 e))) := fun e => zd6 e;have e1 := hr b.due;have e2 := hr b.fine;have e3 := hr b.pay;have e4 := hr b.cover;have e5 := hr b.hold;unfold zdh zvp zwD;generalize inB 0 2 [b.kind] = c1 at i1 ⊢;generalize inB 0 2 [b.order] = c2 at i2 ⊢;generalize inB 1 1000 [b.period, b.last] = c3 at i3 ⊢;generalize inB 0 1000 [b.grace, b.wait, b.voices, b.fund] = c4 at i4 ⊢;generalize inB 0 60 [b.backs, b.jury] = c5 at i5 ⊢;refine Fun.run Tryz.func11 Tryz.ntmps11 Tryz.results11 rfl (by simp) fun Γ hn => ?_; simp only [zzE, zzC, zzD];simp only [zaE]
 repeat' (first
  | (refine Cnd.of (fun hc => ?_) (fun hc => ?_) <;> (try (exfalso; omega)) <;> (try simp))
  | (refine zaf rfl ?_; simp)
  | ((first | refine CallP.f2 rfl (i1) (by first | simp <;> rfl | fail) ?_ | refine CallP.f2 rfl (i2) (by first | simp <;> rfl | fail) ?_ | refine CallP.f2 rfl (i3) (by first | simp <;> rfl | fail) ?_ | refine CallP.f2 rfl (i4) (by first | simp <;> rfl | fail) ?_ | refine CallP.f2 rfl (i5) (by first | simp <;> rfl | fail) ?_ | fail); simp)
  | fail)
 all_goals try ((refine Pst.of ?_; simp); clear i1 i2 i3 i4 i5 hr e1 e2 e3 e4 e5; grind)
 all_goals
  refine zdd (α := { i : Nat // i <= b.lets.length /\ zlM [] b.lets = zlM (b.lets.take i) (b.lets.drop i) }) [1, 62, 63] (fun i => [(64, .u (.int .i64 i.1))]) (fun i => b.lets.length - i.1) ⟨0, by omega, by simp⟩ ?_ ?_
  ·exact (Wk.zdw (by simp [hn] <;> grind))
  rintro ⟨i, hi, hb⟩;simp;rcases hx : b.lets[i]? with _ | l
  ·have hge : b.lets.length <= i := by simpa using hx
   have hb' : zlM [] b.lets = true := by rw [hb, List.drop_of_length_le hge]; rfl
   generalize zbg 12 b.due = x1 at e1 ⊢;generalize zbg 12 b.fine = x2 at e2 ⊢;generalize zbg 12 b.pay = x3 at e3 ⊢;generalize zbg 12 b.cover = x4 at e4 ⊢;generalize zbg 12 b.hold = x5 at e5 ⊢
   repeat' (first
  | (refine Cnd.of (fun hc => ?_) (fun hc => ?_) <;> (try (exfalso; omega)) <;> (try simp [hx]))
  | (refine zaf rfl ?_; simp [hx])
  | ((first | refine CallP.f2 rfl (e1) (by first | simp [hx] <;> rfl | fail) ?_ | refine CallP.f2 rfl (e2) (by first | simp [hx] <;> rfl | fail) ?_ | refine CallP.f2 rfl (e3) (by first | simp [hx] <;> rfl | fail) ?_ | refine CallP.f2 rfl (e4) (by first | simp [hx] <;> rfl | fail) ?_ | refine CallP.f2 rfl (e5) (by first | simp [hx] <;> rfl | fail) ?_ | fail); simp [hx])
  | fail)
   all_goals
    (refine Pst.of ?_; simp)
   all_goals
    clear i1 i2 i3 i4 i5 hr e1 e2 e3 e4 e5
    grind
  ·have hlt : i < b.lets.length := (List.getElem?_eq_some_iff.1 hx).1;have hnx := ztj hx;have e6 := zh5 l.name;have e7 := hr l.body;have e8 := zfk (b.lets.take i) 29 [U.row (zn3 l) 0] _ (fun x _ => zhl x l) (by simp) (fun _ => rfl) (fun _ => rfl);simp only [zaQ, zn3, zzC, zzD] at e8;generalize zfe l.name = y1 at e6 hnx;generalize zbg 12 l.body = y2 at e7 hnx;generalize ((b.lets.take i).any fun x => decide (x.name = l.name)) = y3 at e8 hnx
   repeat' (first
  | (refine Cnd.of (fun hc => ?_) (fun hc => ?_) <;> (try (exfalso; omega)) <;> (try simp [hx]))
  | (refine zaf rfl ?_; simp [hx])
  | (refine And.intro (by omega) ?_)
  | ((first | refine CallP.f2 rfl (e6) (by first | simp [hx] <;> rfl | fail) ?_ | refine CallP.f2 rfl (e7) (by first | simp [hx] <;> rfl | fail) ?_ | refine CallP.f2 rfl (e8) (by first | simp [hx] <;> rfl | fail) ?_ | fail); simp [hx])
  | fail)
   all_goals first
    | (refine LoopW.next ⟨i + 1, by omega, by simp_all⟩ (by simp; omega) ?_; exact (Wk.zdw (by simp [hn] <;> grind)))
    | ((refine Pst.of ?_; simp); clear i1 i2 i3 i4 i5 hr e1 e2 e3 e4 e5 e6 e7 e8; grind)
theorem zpz (u n : Int) : Fun Tryz.prog 153 (zuG u :: [U.row [.int .i64 n] 0].map .u) (· = .u (.bool (decide (u ≠ n)))) := by
 simp only [zuG, zzC, zzD];refine Fun.run Tryz.func153 Tryz.ntmps153 Tryz.results153 rfl (by simp) fun Γ hn => ?_
 repeat' (first
  | (refine zaf rfl ?_; simp)
  | fail)
 (refine Pst.of ?_; simp)
def zje (u : Int) (l : List Int) : Bool := !l.any fun n => decide (n ≠ u)
theorem ziX (u : Int) (l : List Int) : Fun Tryz.prog 152 [.u (.int .i64 u), .u (.row [ints l] 0)] (· = .u (.bool (zje u l))) := by
 have h1 := zg3 l 153 [U.row [.int .i64 u] 0] _ (fun n _ => zpz n u) (by simp) (fun _ => rfl) (fun _ => rfl);simp only [zzC, zzD] at h1;unfold zje;refine Fun.run Tryz.func152 Tryz.ntmps152 Tryz.results152 rfl (by simp) fun Γ hn => ?_; simp only [zzE, zzC, zzD];simp only [ints] at h1 ⊢
 repeat' (first
  | (refine zaf rfl ?_; simp)
  | (refine CallP.f2 rfl (h1) (by first | simp <;> rfl | fail) ?_; simp)
  | fail)
 (refine Pst.of ?_; simp)
def zqu (a b : Int) : Int × Bool := if a = 0 \/ b = 0 then (0, false) else if a = 4 then (b, true) else if b = 4 then (a, true) else if a = 1 then (b, true) else if b = 1 then (a, true) else (0, false)
theorem zs3 (a b : Int) : Fun Tryz.prog 154 [.u (.int .i64 a), .u (.int .i64 b)] (· = .tup [.u (.int .i64 (zqu a b).1), .u (.bool (zqu a b).2)]) := by
 refine Fun.run Tryz.func154 Tryz.ntmps154 Tryz.results154 rfl (by simp) fun Γ hn => ?_; simp only [zzE, zzC, zzD];unfold zqu
 repeat' (first
  | (refine Cnd.of (fun hc => ?_) (fun hc => ?_) <;> (try (exfalso; omega)) <;> (try simp [zbT, zbO]))
  | (refine zaf rfl ?_; simp [zbT, zbO])
  | fail)
 all_goals try ((refine Pst.of ?_; simp); simp_all; done)
 all_goals
  refine zdd (α := { i : Nat // i <= 2 /\ (1 <= i -> a ≠ 4 /\ b ≠ 4) /\ (2 <= i -> a ≠ 1 /\ b ≠ 1) }) [0, 1, 14, 15] (fun i => [(16, .u (.int .i64 i.1))]) (fun i => 2 - i.1) ⟨0, by omega, by omega, by omega⟩ ?_ ?_
  ·exact (Wk.zdw (by simp [hn] <;> grind))
  rintro ⟨i, hi, h1, h2⟩;simp;have : i = 0 \/ i = 1 \/ i = 2 := by omega
  rcases this with rfl | rfl | rfl
  ·repeat' (first
  | (refine Cnd.of (fun hc => ?_) (fun hc => ?_) <;> (try (exfalso; omega)) <;> (try simp))
  | (refine zaf rfl ?_; simp)
  | fail)
   ·(refine Pst.of ?_; simp)
    simp_all
   ·(refine Pst.of ?_; simp)
    simp_all
   ·refine LoopW.next ⟨1, by omega, by omega, by omega⟩ (by simp) ?_
    exact (Wk.zdw (by simp [hn] <;> grind))
  ·repeat' (first
  | (refine Cnd.of (fun hc => ?_) (fun hc => ?_) <;> (try (exfalso; omega)) <;> (try simp))
  | (refine zaf rfl ?_; simp)
  | fail)
   ·(refine Pst.of ?_; simp)
    simp_all
   ·(refine Pst.of ?_; simp)
    simp_all
   ·refine LoopW.next ⟨2, by omega, by omega, by omega⟩ (by simp) ?_
    exact (Wk.zdw (by simp [hn] <;> grind))
  ·repeat' (first
  | (refine zaf rfl ?_; simp)
  | fail)
   (refine Pst.of ?_; simp)
   simp_all
def l0 (l : List Int) (i : Nat) : Int := l.getD i 0
def zjl (op : Int) (l : List Int) : Int × Bool :=
 if op = 2 \/ op = 3 \/ op = 6 \/ op = 7 then (l0 l 0, zje (l0 l 0) l && decide (l0 l 0 ≠ 0))
 else if op = 4 then zqu (l0 l 0) (l0 l 1)
 else if op = 5 then (if l0 l 1 = 1 then (l0 l 0, decide (l0 l 0 ≠ 0) && decide (l0 l 0 ≠ 4)) else (1, zje (l0 l 0) l && (decide (l0 l 0 = 3) || decide (l0 l 0 = 2))))
 else if op = 8 then (0, zje (l0 l 0) l && decide (l0 l 0 ≠ 0))
 else if op = 9 then (0, zje (l0 l 0) l)
 else if op = 13 then (l0 l 1, decide (l0 l 0 = 0) && decide (l0 l 1 = l0 l 2))
 else (0, zje 0 l)
theorem zBM {l : List Int} (h : (l.length : Int) = 1) : ∃ a, l = [a] := List.length_eq_one_iff.1 (by omega)
theorem zBL {l : List Int} (h : (l.length : Int) = 2) : ∃ a b, l = [a, b] := by
 match l, h with
 | [], h => simp at h
 | [a], h => simp at h
 | [a, b], _ => exact ⟨a, b, rfl⟩
 | a :: b :: c :: l, h => simp at h; omega
theorem zBK {l : List Int} (h : (l.length : Int) = 3) : ∃ a b c, l = [a, b, c] := by
 match l, h with
 | [], h => simp at h
 | [a], h => simp at h
 | [a, b], h => simp at h
 | [a, b, c], _ => exact ⟨a, b, c, rfl⟩
 | a :: b :: c :: d :: l, h => simp at h; omega
theorem ztR (op : Int) (l : List Int) (hop : 2 <= op /\ op < 14) (hl : (l.length : Int) = zbU op) : Fun Tryz.prog 151 [.u (.int .i64 op), .u (ints l)] (· = .tup [.u (.int .i64 (zjl op l).1), .u (.bool (zjl op l).2)]) := by
 have h12 : op = 12 \/ op = 13 \/ op = 2 \/ op = 3 \/ op = 4 \/ op = 5 \/ op = 6 \/ op = 7 \/ op = 8 \/ op = 9 \/ op = 10 \/ op = 11 := by omega
 rcases h12 with rfl | rfl | h12
 ·obtain ⟨a, rfl⟩ := zBM (hl.trans rfl);have h1 := ziX 0 [a];simp only [zjl, l0];generalize zje 0 [a] = o1 at h1 ⊢;refine Fun.run Tryz.func151 Tryz.ntmps151 Tryz.results151 rfl (by simp) fun Γ hn => ?_; simp only [zzE, zzC, zzD];simp only [ints, zzC, zzD] at h1 ⊢
  repeat' (first
  | (refine zaf rfl ?_; simp)
  | (refine CallP.f2 rfl (h1) (by first | simp <;> rfl | fail) ?_; simp)
  | fail)
  all_goals
   (refine Pst.of ?_; simp)
 ·obtain ⟨a, b, c, rfl⟩ := zBK (hl.trans rfl);simp only [zjl, l0];refine Fun.run Tryz.func151 Tryz.ntmps151 Tryz.results151 rfl (by simp) fun Γ hn => ?_; simp only [zzE, zzC, zzD];simp only [ints, zzC, zzD]
  repeat' (first
  | (refine Cnd.of (fun hc => ?_) (fun hc => ?_) <;> (try (exfalso; omega)) <;> (try simp))
  | (refine zaf rfl ?_; simp)
  | (refine ⟨hC _ (by kernel_rfl), hk _ (zdH 8 _ _ _ ?_)⟩; clear hC hk C k; simp)
  | (refine zdx rfl (by kernel_rfl) (by first | (simp [hn] <;> omega) | fail) fun C k hC hk => ?_; simp)
  | fail)
  all_goals
   (refine Pst.of ?_; simp)
  all_goals (simp_all; done)
 ·obtain ⟨a, b, rfl⟩ := zBL (l := l) (by rw [hl]; rcases h12 with rfl | rfl | rfl | rfl | rfl | rfl | rfl | rfl | rfl | rfl <;> rfl);clear hl hop;have h1 := ziX a [a, b];have h2 := ziX 0 [a, b];have h3 := zs3 a b;have e0 : l0 [a, b] 0 = a := rfl;have e1 : l0 [a, b] 1 = b := rfl;unfold zjl;rw [e0, e1];clear e0 e1;generalize zje a [a, b] = o1 at h1 ⊢;generalize zje 0 [a, b] = o2 at h2 ⊢;generalize zqu a b = p at h3 ⊢;simp only [ints, zzC, zzD] at h1 h2 ⊢;rcases h12 with rfl | rfl | rfl | rfl | rfl | rfl | rfl | rfl | rfl | rfl
  all_goals
   refine Fun.run Tryz.func151 Tryz.ntmps151 Tryz.results151 rfl (by simp) fun Γ hn => ?_
   repeat' (first
  | (refine Cnd.of (fun hc => ?_) (fun hc => ?_) <;> (try (exfalso; omega)) <;> (try simp))
  | (refine zaf rfl ?_; simp)
  | (refine ⟨hC _ (by kernel_rfl), hk _ (zdH 8 _ _ _ ?_)⟩; clear hC hk C k; simp)
  | (refine zdx rfl (by kernel_rfl) (by first | (simp [hn] <;> omega) | fail) fun C k hC hk => ?_; simp)
  | (refine zcA rfl ?_; simp)
  | (refine zbQ rfl ?_; simp)
  | ((first | refine CallP.f2 rfl (h1) (by first | simp <;> rfl | fail) ?_ | refine CallP.f2 rfl (h2) (by first | simp <;> rfl | fail) ?_ | refine CallP.f2 rfl (h3) (by first | simp <;> rfl | fail) ?_ | fail); simp)
  | ((first | refine CallV.f2 rfl (h1) (by first | simp <;> rfl | fail) ?_ | refine CallV.f2 rfl (h2) (by first | simp <;> rfl | fail) ?_ | refine CallV.f2 rfl (h3) (by first | simp <;> rfl | fail) ?_ | fail); simp)
  | fail)
   all_goals
    (refine Pst.of ?_; simp)
   all_goals (clear h1 h2 h3; first | (simp_all; done) | (grind) | skip)
def asc {β : Type} : List (List UInt8 × β) -> List UInt8 -> Option β
 | [], _ => none
 | (k, b) :: l, x => if x = k then some b else asc l x
def zey {β : Type} : List (List UInt8 × β) -> List UInt8 -> β -> List (List UInt8 × β)
 | [], x, b => [(x, b)]
 | (k, c) :: l, x, b => if x = k then (k, b) :: l else (k, c) :: zey l x b
theorem ziG {β : Type} (f : β -> List U) (x : List UInt8) : ∀ (l : List (List UInt8 × β)), zcv (l.map fun p => (Key.s p.1, f p.2)) (.s x) = (asc l x).map f
 | [] => rfl
 | (k, b) :: l => by
  simp only [zzC, zcv, asc, Key.s.injEq];split
  ·rfl
  ·exact ziG f x l
theorem zki {β : Type} (f : β -> List U) (x : List UInt8) (b : β) : ∀ (l : List (List UInt8 × β)), zdE (l.map fun p => (Key.s p.1, f p.2)) (.s x) (f b) = (zey l x b).map fun p => (Key.s p.1, f p.2)
 | [] => rfl
 | (k, c) :: l => by
  simp only [zzC, zdE, zey, Key.s.injEq];split
  ·rfl
  ·simp only [zzC]; rw [zki f x b l]
theorem zsj {β : Type} (x y : List UInt8) (b : β) : ∀ (l : List (List UInt8 × β)), asc (zey l x b) y = if y = x then some b else asc l y
 | [] => by simp [zey, asc]
 | (k, c) :: l => by
  simp only [zey];split
  ·rename_i h;subst h;simp only [asc];split <;> rfl
  ·rename_i h;simp only [asc, zsj x y b l];by_cases h1 : y = k
   ·subst h1; simp [Ne.symm h]
   ·simp [h1]
mutual
def ze9 (g : List UInt8 -> Option Int) (m : List UInt8 -> Option (Int × Int)) : Exp -> Int × Int
 | .mk op _ u s args =>
  if op = 0 then (u, 0)
  else if op = 1 then (match g s with | some u => (u, 0) | none => match m s with | some r => r | none => (0, 13))
  else match zgH g m args with
   | .error b => (0, b)
   | .ok l => if (zjl op l).2 = true then ((zjl op l).1, 0) else (0, 14)
def zgH (g : List UInt8 -> Option Int) (m : List UInt8 -> Option (Int × Int)) : List Exp -> Except Int (List Int)
 | [] => .ok []
 | e :: r => if (ze9 g m e).2 ≠ 0 then .error (ze9 g m e).2 else match zgH g m r with
  | .error b => .error b
  | .ok l => .ok ((ze9 g m e).1 :: l)
end
theorem zkk (g m) (e : Exp) : ze9 g m e = if e.op = 0 then (e.unit, 0)
  else if e.op = 1 then (match g e.s with | some u => (u, 0) | none => match m e.s with | some r => r | none => (0, 13))
  else match zgH g m e.args with
   | .error b => (0, b)
   | .ok l => if (zjl e.op l).2 = true then ((zjl e.op l).1, 0) else (0, 14) := by
 cases e with | mk op n u s args => rw [ze9]; rfl
theorem zk9 {g m} : ∀ {l : List Exp}, (∀ x ∈ l, (ze9 g m x).2 = 0) -> zgH g m l = .ok (l.map fun x => (ze9 g m x).1)
 | [], _ => by rw [zgH]; rfl
 | e :: r, h => by
  rw [zgH, if_neg (by simp [h e (by simp)]), zk9 fun x hx => h x (by simp [hx])];rfl
theorem zjx {g m} : ∀ {l : List Exp} {i : Nat} {e : Exp}, l[i]? = some e -> (∀ x ∈ l.take i, (ze9 g m x).2 = 0) -> (ze9 g m e).2 ≠ 0 -> zgH g m l = .error (ze9 g m e).2
 | [], i, e, h, _, _ => by simp at h
 | a :: r, 0, e, h, _, h2 => by
  simp at h;subst h;rw [zgH, if_pos h2]
 | a :: r, i + 1, e, h, h1, h2 => by
  rw [zgH, if_neg (by simp [h1 a (by simp)]), zjx (l := r) (i := i) (by simpa using h) (fun x hx => h1 x (by simp [hx])) h2]
mutual
def zgi (m : List UInt8 -> Bool) : Exp -> Bool
 | .mk op _ u s args =>
  if op = 0 then decide (u = 4)
  else if op = 1 then m s
  else if op = 2 \/ op = 3 \/ op = 6 \/ op = 7 then zek m args 0
  else if op = 4 then zek m args 0 && zek m args 1
  else if op = 13 then zek m args 1
  else false
def zek (m : List UInt8 -> Bool) : List Exp -> Nat -> Bool
 | [], _ => false
 | e :: _, 0 => zgi m e
 | _ :: r, n + 1 => zek m r n
end
theorem zqo (m) (e : Exp) : zgi m e = if e.op = 0 then decide (e.unit = 4)
  else if e.op = 1 then m e.s
  else if e.op = 2 \/ e.op = 3 \/ e.op = 6 \/ e.op = 7 then zek m e.args 0
  else if e.op = 4 then zek m e.args 0 && zek m e.args 1
  else if e.op = 13 then zek m e.args 1
  else false := by
 cases e with | mk op n u s args => rw [zgi]; rfl
abbrev LM := List (List UInt8 × Int × Int × Bool)
abbrev GM := List (List UInt8 × Int)
def zrx (g : GM) : List (Key × List U) := g.map fun p => (Key.s p.1, [U.int .i64 p.2])
def zwh (m : LM) : List (Key × List U) := m.map fun p => (Key.s p.1, [U.int .i64 p.2.1, .int .i64 p.2.2.1, .bool p.2.2.2])
theorem znZ (g : GM) (x : List UInt8) : zcv (zrx g) (.s x) = (asc g x).map fun u => [U.int .i64 u] := ziG (fun u : Int => [U.int .i64 u]) x g
theorem zuC (g : LM) (x : List UInt8) : zcv (zwh g) (.s x) = (asc g x).map fun q => [U.int .i64 q.1, .int .i64 q.2.1, .bool q.2.2] := ziG (fun q : Int × Int × Bool => [U.int .i64 q.1, .int .i64 q.2.1, .bool q.2.2]) x g
def jU (g : GM) (m : LM) : U := .row [.map .s false (zrx g), .map .s true (zwh m)] 0
def gF (g : GM) : List UInt8 -> Option Int := asc g
def mF (m : LM) : List UInt8 -> Option (Int × Int) := fun x => (asc m x).map fun q => (q.1, q.2.1)
def sF (m : LM) : List UInt8 -> Bool := fun x => ((asc m x).map fun q => q.2.2).getD false
theorem zdT {d : Nat} {e : Exp} (h : zbg (d + 1) e = true) : (e.args.length : Int) = zbU e.op /\ 0 <= e.op /\ e.op < 14 /\ (e.op ≠ 0 -> e.op ≠ 1 -> ∀ x ∈ e.args, zbg d x = true) := by
 rw [zbg, Bool.and_eq_true, decide_eq_true_eq] at h;obtain ⟨h1, h2⟩ := h;have h3 : 0 <= e.op /\ e.op < 14 := by
  unfold zbU at h1;split at h1
  ·omega
  ·split at h1
   ·omega
   ·split at h1
    ·omega
    ·split at h1
     ·omega
     ·omega
 refine ⟨h1, h3.1, h3.2, fun ha hb x hx => ?_⟩;rw [if_neg ha] at h2;split at h2
 ·cases h2
 ·simp only [if_neg hb, Bool.and_eq_true, Bool.not_eq_true', List.any_eq_false, Bool.not_eq_true] at h2;have := h2.2 x hx;simpa using this
theorem znD (g : GM) (m : LM) : ∀ (d : Nat) (e : Exp), zbg d e = true -> Fun Tryz.prog 150 [.u (jU g m), zdo e] (· = .tup [.u (.int .i64 (ze9 (gF g) (mF m) e).1), .u (.int .i64 (ze9 (gF g) (mF m) e).2)])
 | 0, e, h => by simp [zbg] at h
 | d + 1, e, h => by
  obtain ⟨h1, h2, h3, h4⟩ := zdT h;have hg := znZ g e.s;have hm := zuC m e.s;by_cases h0 : e.op = 0
  ·rw [zkk, if_pos h0];refine Fun.run Tryz.func150 Tryz.ntmps150 Tryz.results150 rfl (by simp) fun Γ hn => ?_; simp only [zzE, zzC, zzD];simp only [zdo, jU]
   repeat' (first
  | (refine zaf rfl ?_; simp [h0])
  | fail)
   (refine Pst.of ?_; simp)
  by_cases hnm : e.op = 1
  ·rw [zkk, if_neg h0, if_pos hnm];refine Fun.run Tryz.func150 Tryz.ntmps150 Tryz.results150 rfl (by simp) fun Γ hn => ?_; simp only [zzE, zzC, zzD];simp only [zdo, jU];cases hga : asc g e.s with
   | some u =>
    rw [hga] at hg;simp only [Option.map_some] at hg
    repeat' (first
  | (refine zaf rfl ?_; simp [h0, hnm, hg])
  | (refine ⟨hC _ (by kernel_rfl), hk _ (zdH 8 _ _ _ ?_)⟩; clear hC hk C k; simp [h0, hnm, hg])
  | (refine zdx rfl (by kernel_rfl) (by first | (simp [hn] <;> omega) | fail) fun C k hC hk => ?_; simp [h0, hnm, hg])
  | fail)
    (refine Pst.of ?_; simp)
    simp [gF, hga]
   | none =>
    rw [hga] at hg;simp only [Option.map_none] at hg;cases hma : asc m e.s with
    | some q =>
     rw [hma] at hm;simp only [Option.map_some] at hm
     repeat' (first
  | (refine zaf rfl ?_; simp [h0, hnm, hg, hm])
  | (refine ⟨hC _ (by kernel_rfl), hk _ (zdH 8 _ _ _ ?_)⟩; clear hC hk C k; simp [h0, hnm, hg, hm])
  | (refine zdx rfl (by kernel_rfl) (by first | (simp [hn] <;> omega) | fail) fun C k hC hk => ?_; simp [h0, hnm, hg, hm])
  | fail)
     (refine Pst.of ?_; simp)
     simp [gF, hga, mF, hma]
    | none =>
     rw [hma] at hm;simp only [Option.map_none] at hm
     repeat' (first
  | (refine zaf rfl ?_; simp [h0, hnm, hg, hm])
  | (refine ⟨hC _ (by kernel_rfl), hk _ (zdH 8 _ _ _ ?_)⟩; clear hC hk C k; simp [h0, hnm, hg, hm])
  | (refine zdx rfl (by kernel_rfl) (by first | (simp [hn] <;> omega) | fail) fun C k hC hk => ?_; simp [h0, hnm, hg, hm])
  | fail)
     (refine Pst.of ?_; simp)
     simp [gF, hga, mF, hma]
  rw [zkk, if_neg h0, if_neg hnm];refine Fun.run Tryz.func150 Tryz.ntmps150 Tryz.results150 rfl (by simp) fun Γ hn => ?_; simp only [zzE, zzC, zzD];simp only [zdo, jU];have hr := h4 h0 hnm
  repeat' (first
  | (refine zaf rfl ?_; simp [h0, hnm])
  | fail)
  refine zkX _ (Wk.own 10 3 1 (by decide) rfl) ?_;simp [St.own];refine zbS (α := { p : Nat × List Int // p.1 <= e.args.length /\ p.2 = (e.args.take p.1).map (fun x => (ze9 (gF g) (mF m) x).1) /\ ∀ x ∈ e.args.take p.1, (ze9 (gF g) (mF m) x).2 = 0 }) [0, 3, 53, 54]
   (fun p => [(10, .vec 1 p.1.2.length), (55, .u (.int .i64 p.1.1))]) (fun p => [(1, .vec 3 1 (rowsD (p.1.2.map fun n => [U.int .i64 n]))), (0, .box [.u (.int .i64 e.op), .u (.int .i64 e.n), .u (.int .i64 e.unit), .u (.str e.s), .u (.sl (e.args.map Exp.row))])]) 2
   (fun p => e.args.length - p.1.1) ⟨(0, []), by simp, by simp, by simp⟩ ?_ ?_
  ·exact (Wk.zdw (by simp [hn] <;> grind))
  rintro ⟨⟨i, acc⟩, hi, hacc, hb⟩;simp only at hi hacc hb;simp;rcases hx : e.args[i]? with _ | x
  ·have hge : e.args.length <= i := by simpa using hx
   rw [List.take_of_length_le hge] at hacc hb;have hok := zk9 hb;rw [<- hacc] at hok;have hal : (acc.length : Int) = zbU e.op := by rw [hacc]; simpa using h1
   have h5 := ztR e.op acc (by omega) hal;simp only [ints] at h5;generalize hcb : zjl e.op acc = cb at h5;obtain ⟨c1, c2⟩ := cb
   repeat' (first
  | (refine Cnd.of (fun hc => ?_) (fun hc => ?_) <;> (try (exfalso; omega)) <;> (try simp [hx, h0, hnm]))
  | (refine zaf rfl ?_; simp [hx, h0, hnm])
  | (refine CallP.f2 rfl (h5) (by first | simp [hx, h0, hnm] <;> rfl | fail) ?_; simp [hx, h0, hnm])
  | fail)
   all_goals
    (refine Pst.of ?_; simp)
   all_goals (rw [hok]; simp_all; done)
  ·have hlt : i < e.args.length := (List.getElem?_eq_some_iff.1 hx).1;have h5 := znD g m d x (hr x (List.mem_of_getElem? hx));simp only [zdo, jU] at h5;have hal : acc.length = i := by rw [hacc]; simp; omega
   have h3a : e.args.length <= 3 := by
    have : zbU e.op ≤ 3 := by unfold zbU; repeat' split
                              all_goals omega
    omega
   have her := fun h => zjx (g := gF g) (m := mF m) hx hb h;generalize hun : ze9 (gF g) (mF m) x = un at h5 her;obtain ⟨u, er⟩ := un
   repeat' (first
  | (refine Cnd.of (fun hc => ?_) (fun hc => ?_) <;> (try (exfalso; omega)) <;> (try simp [hx, x.row_eq, h0, hnm]))
  | (refine zaf rfl ?_; simp [hx, x.row_eq, h0, hnm])
  | (refine And.intro (by omega) ?_)
  | (refine CallP.f2 rfl (h5) (by first | simp [hx, x.row_eq, h0, hnm] <;> rfl | fail) ?_; simp [hx, x.row_eq, h0, hnm])
  | fail)
   ·(refine Pst.of ?_; simp)
    rw [her (by simpa using (by assumption : ¬ er = 0))];simp
   ·skip
    refine LoopW.next ⟨(i + 1, acc ++ [u]), (by omega : i + 1 <= e.args.length), (?_ : acc ++ [u] = _), ?_⟩ (by simp; omega) ?_
    ·rw [List.take_succ_eq_append_getElem hlt, List.map_append, <- hacc, (List.getElem?_eq_some_iff.1 hx).2];simp [hun]
    ·exact zbh hx hb (by simp_all)
    ·exact (Wk.ren ((fun i => if i = 1 then 4 else i)) rfl (by first | (simp [hn]; done) | (intro i hi; rw [hn] at hi; constructor <;> (try simp) <;> (try (intro _)) <;> omega)) (by simp [zhQ, St.lp, zax, zaa, getK, zac, zad, D.under, D.le, D.ren] <;> (try (intros; simp_all; done)) <;> (try omega)) (by simp [wkR, St.lp, zaa, getK, zac, zad, obR, leU, zch, za2, Ob.under, D.under, D.le, D.ren] <;> (try (intros; simp_all; done)) <;> (try omega)) (by simp))
end Go.Proofs.YtmlpcgkaonifcaaGreatDoor
