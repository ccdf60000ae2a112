import Derived.Test.YtmlpcgkaonifcaaGreatDoorB1
import Derived.Orders
import Derived.Test.YtmlpcgkaonifcaaGreatDoorRows
import Derived.ProofKit
import Derived.Below
import Derived.ChangeSame
import Derived.Deep.Slices
import Derived.Sort.OwnSortedInts
set_option linter.all false
set_option maxRecDepth 100000
set_option maxHeartbeats 8000000
namespace Go.VL
open Go
def Qx (Γ : Ctx) (Q : Exit -> St -> Prop) : Exit -> St -> Prop
 | .panic ch, s => Γ.pan ch s
 | e, s => Q e s
def zxo : Exit -> Prop
 | .ret => True
 | .panic _ => True
 | _ => False
def VPost (Γ : Ctx) (Q : Exit -> St -> Prop) (e : Exit) (a : Act) (w : World) : Prop := (∃ K s, In Γ K w /\ Sim K Γ.own s a w /\ Qx Γ Q e s) \/ (zxo e /\ Γ.esc e a w)
def V (P : Program) (Γ : Ctx) (c : Code) (s : St) (Q : Exit -> St -> Prop) : Prop :=
 ∀ K a w, In Γ K w -> Sim K Γ.own s a w -> c.wp P (VPost Γ Q) a w
theorem VPost.mono {Γ Q Q' e a w} (h : VPost Γ Q e a w) (hq : ∀ e s, Q e s -> Q' e s) : VPost Γ Q' e a w := by
 rcases h with ⟨K', s', h1, h2, h3⟩ | h
 ·refine .inl ⟨K', s', h1, h2, ?_⟩;cases e with
  | panic ch => exact h3
  | _ => exact hq _ _ h3
 ·exact .inr h
theorem V.mono {P Γ c s Q Q'} (h : V P Γ c s Q) (hq : ∀ e s, Q e s -> Q' e s) : V P Γ c s Q' :=
 fun K a w hin hs => wp_mono (h K a w hin hs) fun _ _ _ h => h.mono hq
inductive Kt where
 | done
 | seq (b : Code) (k : Kt)
 | blk (id : Nat) (k : Kt)
 | loop (I : St -> Prop) (k : Kt)
def zbf (P : Program) (Γ : Ctx) (Q : Exit -> St -> Prop) : Kt -> Exit -> St -> Prop
 | .done, e, s => Q e s
 | .seq b k, .normal, s => V P Γ b s (zbf P Γ Q k)
 | .seq _ k, e, s => zbf P Γ Q k e s
 | .blk id k, .exit id', s => if id' = id then zbf P Γ Q k .normal s else zbf P Γ Q k (.exit id') s
 | .blk _ k, e, s => zbf P Γ Q k e s
 | .loop I _, .normal, s => I s
 | .loop _ k, e, s => zbf P Γ Q k e s
section
variable {P : Program} {Γ : Ctx} {Q : Exit -> St -> Prop} {k : Kt} {s : St}
theorem zv2 {a b : Code} (h : V P Γ a s (zbf P Γ Q (.seq b k))) : V P Γ (.seq a b) s (zbf P Γ Q k) :=
 fun K ac w hin hs => wp_seq (wp_mono (h K ac w hin hs) fun e a' w' h => by
  rcases h with ⟨K', s', h1, h2, h3⟩ | h
  ·cases e with
   | normal => exact h3 K' a' w' h1 h2
   | _ => exact .inl ⟨K', s', h1, h2, h3⟩
  ·cases e with
   | normal => exact h.1.elim
   | _ => exact .inr h)
theorem znt {id : Nat} {c : Code} (h : V P Γ c s (zbf P Γ Q (.blk id k))) : V P Γ (.block id c) s (zbf P Γ Q k) :=
 fun K ac w hin hs => wp_block (wp_mono (h K ac w hin hs) fun e a' w' h => by
  rcases h with ⟨K', s', h1, h2, h3⟩ | h
  ·cases e with
   | exit id' =>
    simp only [Qx, zbf] at h3;simp only [Exit.inBlock];split
    ·rename_i he; rw [if_pos he] at h3; exact .inl ⟨K', s', h1, h2, h3⟩
    ·rename_i he; rw [if_neg he] at h3; exact .inl ⟨K', s', h1, h2, h3⟩
   | _ => exact .inl ⟨K', s', h1, h2, h3⟩
  ·cases e with
   | exit => exact h.1.elim
   | _ => exact .inr h)
theorem zec (h : zbf P Γ Q k .normal s) : V P Γ .skip s (zbf P Γ Q k) := fun K _ _ hin hs => wp_skip (.inl ⟨K, s, hin, hs, h⟩)
theorem zsp {l} (h : zbf P Γ Q k .normal s) : V P Γ (.label l) s (zbf P Γ Q k) := fun K _ _ hin hs => wp_label (.inl ⟨K, s, hin, hs, h⟩)
theorem zfP {id} (h : zbf P Γ Q k (.exit id) s) : V P Γ (.exit id) s (zbf P Γ Q k) := fun K _ _ hin hs => wp_exit (.inl ⟨K, s, hin, hs, h⟩)
theorem zjq (h : zbf P Γ Q k .ret s) : V P Γ .ret s (zbf P Γ Q k) := fun K _ _ hin hs => wp_ret (.inl ⟨K, s, hin, hs, h⟩)
theorem zuN {c : Operand} {x y : Code} {t : Bool} (hc : opd s c = .u (.bool t)) (ht : t = true -> V P Γ x s (zbf P Γ Q k)) (hf : t = false -> V P Γ y s (zbf P Γ Q k)) :
  V P Γ (.cond c x y) s (zbf P Γ Q k) := fun K a w hin hs => by
 have hr := zaX hs c;rw [hc] at hr;exact wp_cond_split (zeH hr) (fun e => ht e K a w hin hs) (fun e => hf e K a w hin hs)
end
def D.ren (ρ : Nat -> Nat) : D -> D
 | .u x => .u x
 | .ptr i o => .ptr (ρ i) o
 | .vec i l => .vec (ρ i) l
 | .elt i a b c => .elt (ρ i) a b c
 | .mp i => .mp (ρ i)
 | .fnc f caps => .fnc f (caps.map fun d => d.ren ρ)
 | .bnd f caps => .bnd f (caps.map fun d => d.ren ρ)
 | .agg cs => .agg (cs.map fun d => d.ren ρ)
 | .tup cs => .tup (cs.map fun d => d.ren ρ)
 | .any => .any
def D.under (n : Nat) : D -> Bool
 | .u _ => true
 | .ptr i _ => decide (i < n)
 | .vec i _ => decide (i < n)
 | .elt i _ _ _ => decide (i < n)
 | .mp i => decide (i < n)
 | .fnc _ caps => (caps.map fun d => d.under n).all id
 | .bnd _ caps => (caps.map fun d => d.under n).all id
 | .agg cs => (cs.map fun d => d.under n).all id
 | .tup cs => (cs.map fun d => d.under n).all id
 | .any => true
def D.le (ρ : Nat -> Nat) (d d' : D) : Prop := d' = .any \/ d = d'.ren ρ \/ (d = .u .nil /\ d' = .u (.sl []))
def Kr.ren (k : Kr) (ρ : Nat -> Nat) (n : Nat) : Kr := { k with hdr := fun i => if i < n then k.hdr (ρ i) else none }
theorem Rep.unren {k : Kr} {ρ : Nat -> Nat} {n : Nat} : ∀ {d : D} {v : Value}, Rep k (d.ren ρ) v -> d.under n = true -> Rep (k.ren ρ n) d v
 | .u x, v, h, _ => by
  rw [D.ren] at h;cases h with | u _ _ h => exact .u _ _ h
 | .any, v, h, _ => .any v
 | .ptr i o, v, h, hb => by
  rw [D.ren] at h;obtain ⟨b, c, h1, rfl⟩ := zeb h;simp [D.under] at hb;exact .ptr _ _ b c (by simp [Kr.ren, hb, h1])
 | .vec i l, v, h, hb => by
  rw [D.ren] at h;obtain ⟨g, h1, rfl⟩ := zfc h;simp [D.under] at hb;exact .vec _ _ g (by simp [Kr.ren, hb, h1])
 | .mp i, v, h, hb => by
  rw [D.ren] at h;obtain ⟨b, c, h1, rfl⟩ := zlq h;simp [D.under] at hb;exact .mp _ b c (by simp [Kr.ren, hb, h1])
 | .elt i a o c, v, h, hb => by
  rw [D.ren] at h;obtain ⟨b, g, h1, rfl⟩ := zim h;simp [D.under] at hb;exact .elt _ _ _ _ b g (by simp [Kr.ren, hb, h1])
 | .fnc f caps, v, h, hb => by
  rw [D.ren] at h;obtain ⟨vs, h1, rfl, h2⟩ := zko h;refine .fnc f caps vs (by simpa using h1) fun j d hj => ?_;have hm := List.mem_of_getElem? hj;have hbd : d.under n = true := by simp_all [D.under]
  exact Rep.unren (h2 j (d.ren ρ) (by simp [hj])) hbd
 | .bnd f caps, v, h, hb => by
  rw [D.ren] at h;obtain ⟨vs, h1, rfl, h2⟩ := zqq h;refine .bnd f caps vs (by simpa using h1) fun j d hj => ?_;have hm := List.mem_of_getElem? hj;have hbd : d.under n = true := by simp_all [D.under]
  exact Rep.unren (h2 j (d.ren ρ) (by simp [hj])) hbd
 | .agg caps, v, h, hb => by
  rw [D.ren] at h;obtain ⟨vs, h1, rfl, h2⟩ := zin h;refine .agg caps vs (by simpa using h1) fun j d hj => ?_;have hm := List.mem_of_getElem? hj;have hbd : d.under n = true := by simp_all [D.under]
  exact Rep.unren (h2 j (d.ren ρ) (by simp [hj])) hbd
 | .tup caps, v, h, hb => by
  rw [D.ren] at h;obtain ⟨vs, h1, rfl, h2⟩ := zhm h;refine .tup caps vs (by simpa using h1) fun j d hj => ?_;have hm := List.mem_of_getElem? hj;have hbd : d.under n = true := by simp_all [D.under]
  exact Rep.unren (h2 j (d.ren ρ) (by simp [hj])) hbd
termination_by d => SizeOf.sizeOf d
decreasing_by
 all_goals
  simp_wf
  have := List.sizeOf_lt_of_mem hm;omega
theorem Rep.weak {k : Kr} {ρ n d d' v} (h : Rep k d v) (hle : D.le ρ d d') (hb : d'.under n = true) : Rep (k.ren ρ n) d' v := by
 rcases hle with rfl | rfl | ⟨rfl, rfl⟩
 ·exact .any v
 ·exact h.unren hb
 ·obtain rfl := zdU h;exact .u _ _ (.slE _ _ fun _ => rfl)
def Ob.le (ρ : Nat -> Nat) : Ob -> Ob -> Prop
 | .box cs, .box cs' => cs.length = cs'.length /\ ∀ (j : Nat) (c c' : D), cs[j]? = some c -> cs'[j]? = some c' -> D.le ρ c c'
 | .vec e sz rows, .vec e' sz' rows' => e = e' /\ sz = sz' /\ rows'.length <= rows.length /\ ∀ (i : Nat) (r r' : List D), rows[i]? = some r -> rows'[i]? = some r' -> r.length = r'.length /\ ∀ (j : Nat) (c c' : D), r[j]? = some c -> r'[j]? = some c' -> D.le ρ c c'
 | .map kk ag es, .map kk' ag' es' => kk = kk' /\ ag = ag' /\ es.map (·.1) = es'.map (·.1) /\ ∀ (i : Nat) (p p' : Key × List D), es[i]? = some p -> es'[i]? = some p' -> p.2.length = p'.2.length /\ ∀ (j : Nat) (c c' : D), p.2[j]? = some c -> p'.2[j]? = some c' -> D.le ρ c c'
 | .it kk ag es left cur, .it kk' ag' es' left' cur' => kk = kk' /\ ag = ag' /\ es = es' /\ left = left' /\ cur = cur'
 | .nw t, .nw t' => t = t'
 | .sit s p, .sit s' p' => s = s' /\ p = p'
 | _, _ => False
def Ob.under (n : Nat) : Ob -> Bool
 | .box cs => cs.all (·.under n)
 | .vec _ _ rows => rows.all fun r => r.all (·.under n)
 | .map _ _ es => es.all fun p => p.2.all (·.under n)
 | .it _ _ _ _ _ => true
 | .nw _ => true
 | .sit _ _ => true
theorem zs6 {α : Type} {R : α -> α -> Prop} {l1 l : List α} (hp : l1.Perm l) : ∀ {es' : List α}, l.length = es'.length -> (∀ (i : Nat) (p p' : α), l[i]? = some p -> es'[i]? = some p' -> R p p') ->
  ∃ l2 : List α, l2.Perm es' /\ l1.length = l2.length /\ ∀ (i : Nat) (p p' : α), l1[i]? = some p -> l2[i]? = some p' -> R p p' := by
 induction hp with
 | nil => intro es' hl h; exact ⟨es', .refl _, hl, h⟩
 | cons x hp ih =>
  intro es' hl h;cases es' with
  | nil => simp at hl
  | cons y t =>
   obtain ⟨l2, h1, h2, h3⟩ := ih (es' := t) (by simpa using hl) (fun i p p' hp hp' => h (i + 1) p p' (by simpa using hp) (by simpa using hp'));refine ⟨y :: l2, h1.cons _, by simp [h2], fun i p p' hp hp' => ?_⟩;cases i with
   | zero => exact h 0 p p' hp hp'
   | succ i => exact h3 i p p' (by simpa using hp) (by simpa using hp')
 | swap x y l =>
  intro es' hl h
  match es', hl, h with
  | a :: b :: t, hl, h =>
   refine ⟨b :: a :: t, .swap _ _ _, by simpa using hl, fun i p p' hp hp' => ?_⟩
   match i, hp, hp' with
   | 0, hp, hp' => exact h 1 p p' hp hp'
   | 1, hp, hp' => exact h 0 p p' hp hp'
   | i + 2, hp, hp' => exact h (i + 2) p p' hp hp'
  | [a], hl, _ => simp at hl
  | [], hl, _ => simp at hl
 | trans p1 p2 ih1 ih2 =>
  intro es' hl h;obtain ⟨l2, h1, h2, h3⟩ := ih2 hl h;obtain ⟨l3, h4, h5, h6⟩ := ih1 h2 h3;exact ⟨l3, h4.trans h1, h5, h6⟩
theorem ObAt.weak {k : Kr} {w ρ n h ob ob'} (ho : ObAt k w h ob) (hle : Ob.le ρ ob ob') (hb : ob'.under n = true) : ObAt (k.ren ρ n) w h ob' := by
 cases ob with
 | it kk ag es left cur =>
  cases ob' with
  | box => exact hle.elim
  | vec => exact hle.elim
  | map => exact hle.elim
  | nw => exact hle.elim
  | sit => exact hle.elim
  | it kk' ag' es' left' cur' =>
   obtain ⟨rfl, rfl, rfl, rfl, rfl⟩ := hle;exact ho
 | nw t =>
  cases ob' with
  | box => exact hle.elim
  | vec => exact hle.elim
  | map => exact hle.elim
  | it => exact hle.elim
  | sit => exact hle.elim
  | nw t' =>
   obtain rfl : t = t' := hle;exact ho
 | sit s p =>
  cases ob' with
  | box => exact hle.elim
  | vec => exact hle.elim
  | map => exact hle.elim
  | it => exact hle.elim
  | nw => exact hle.elim
  | sit s' p' =>
   obtain ⟨rfl, rfl⟩ := hle;exact ho
 | map kk ag es =>
  cases ob' with
  | box => exact hle.elim
  | vec => exact hle.elim
  | it => exact hle.elim
  | nw => exact hle.elim
  | sit => exact hle.elim
  | map kk' ag' es' =>
   obtain ⟨rfl, rfl, hkey, hle⟩ := hle;obtain ⟨b, ents, clock, es1, h1, h2, hpm, h3⟩ := ho;obtain ⟨es2, hpm2, hkey, hle⟩ : ∃ es2 : List (Key × List D), es2.Perm es' /\ es1.map (·.1) = es2.map (·.1) /\ ∀ (i : Nat) (p p' : Key × List D), es1[i]? = some p -> es2[i]? = some p' -> p.2.length = p'.2.length /\ ∀ (j : Nat) (c c' : D), p.2[j]? = some c -> p'.2[j]? = some c' -> D.le ρ c c' := by
    obtain ⟨es2, h4, h5, h6⟩ := zs6 (R := fun p p' => p.1 = p'.1 /\ p.2.length = p'.2.length /\ ∀ (j : Nat) (c c' : D), p.2[j]? = some c -> p'.2[j]? = some c' -> D.le ρ c c') hpm (es' := es') (by have := congrArg List.length hkey; simpa using this) (fun i p p' hp hp' => ⟨by
     have := congrArg (fun l => l[i]?) hkey;simp only [List.getElem?_map, hp, hp', Option.map_some, Option.some.injEq] at this;exact this, hle i p p' hp hp'⟩)
    refine ⟨es2, h4, ?_, fun i p p' hp hp' => (h6 i p p' hp hp').2⟩;refine List.ext_getElem? fun i => ?_;simp only [List.getElem?_map];cases hp : es1[i]? with
    | none =>
     have : es2[i]? = none := by simp at hp ⊢; omega
     rw [this]
    | some p =>
     have hl := (List.getElem?_eq_some_iff.1 hp).1;obtain ⟨p', hp'⟩ : ∃ p', es2[i]? = some p' := ⟨es2[i], List.getElem?_eq_getElem (by omega)⟩;rw [hp'];exact congrArg some (h6 i p p' hp hp').1
   have hb : Ob.under n (.map kk ag es2) = true := by grind [Ob.under, List.all_eq_true]
   clear hpm;generalize es1 = es at *;have hlen : es.length = es2.length := by have := congrArg List.length hkey; simpa using this
   have hrow : ∀ (i : Nat) (p' : Key × List D), es2[i]? = some p' -> ∃ p, es[i]? = some p /\ p.1 = p'.1 := fun i p' hp => by
    have hlt := (List.getElem?_eq_some_iff.1 hp).1;have hp0 : es[i]? = some es[i] := List.getElem?_eq_getElem (by omega);refine ⟨_, hp0, ?_⟩;have := congrArg (fun l => l[i]?) hkey;simp only [List.getElem?_map, hp0, hp, Option.map_some, Option.some.injEq] at this;exact this
   refine ⟨b, ents, clock, es2, h1, h2, hpm2, ⟨by rw [h3.size, hlen], fun p' hp => ?_, ?_, fun i p' hp => ?_, h3.born, h3.apart⟩⟩
   ·obtain ⟨i, hi⟩ := List.getElem?_of_mem hp;obtain ⟨p, h4, h5⟩ := hrow i p' hi;rw [<- h5];exact h3.kind p (List.mem_of_getElem? h4)
   ·have h4 := h3.once;have e1 : es.Pairwise (fun p q => p.1 ≠ q.1) ↔ (es.map (·.1)).Pairwise (· ≠ ·) := by rw [List.pairwise_map]
    have e2 : es2.Pairwise (fun p q => p.1 ≠ q.1) ↔ (es2.map (·.1)).Pairwise (· ≠ ·) := by rw [List.pairwise_map]
    rw [e2, <- hkey, <- e1];exact h4
   ·obtain ⟨p, h4, h5⟩ := hrow i p' hp;obtain ⟨en, h6, h7, h8⟩ := h3.ent i p h4;refine ⟨en, h6, by rw [h7, h5], ?_⟩;obtain ⟨hl2, hc⟩ := hle i p p' h4 hp;have hub : ∀ c ∈ p'.2, c.under n = true := (List.all_eq_true.1 ((List.all_eq_true.1 hb) p' (List.mem_of_getElem? hp)));unfold MV at h8 ⊢;split
    ·rename_i hag;rw [if_pos hag] at h8;obtain ⟨vs, h9, h10, h11⟩ := h8;refine ⟨vs, h9, by omega, fun j d hj => ?_⟩;have hlt := (List.getElem?_eq_some_iff.1 hj).1;have hpj : p.2[j]? = some (p.2[j]'(by omega)) := List.getElem?_eq_getElem (by omega);exact ⟨(h11 j _ hpj).1, (h11 j _ hpj).2.weak (hc j _ _ hpj hj) (hub d (List.mem_of_getElem? hj))⟩
    ·rename_i hag;rw [if_neg hag] at h8;obtain ⟨d, h9, h10⟩ := h8;have hl1 : p'.2.length = 1 := by rw [<- hl2, h9]; rfl
     obtain ⟨d', hd'⟩ := List.length_eq_one_iff.1 hl1;exact ⟨d', hd', h10.1, h10.2.weak (hc 0 d d' (by simp [h9]) (by simp [hd'])) (hub d' (by simp [hd']))⟩
 | box cs =>
  cases ob' with
  | vec => exact hle.elim
  | map => exact hle.elim
  | it => exact hle.elim
  | nw => exact hle.elim
  | sit => exact hle.elim
  | box cs' =>
   obtain ⟨b, vs, t, h1, h2, h3, h4⟩ := ho;obtain ⟨hl, hle⟩ := hle;refine ⟨b, vs, t, h1, h2, by omega, fun j d hj => ?_⟩;have hlt := (List.getElem?_eq_some_iff.1 hj).1;have hc : cs[j]? = some cs[j] := List.getElem?_eq_getElem (by omega);exact ⟨(h4 j _ hc).1, (h4 j _ hc).2.weak (hle j _ _ hc hj) ((List.all_eq_true.1 hb) d (List.mem_of_getElem? hj))⟩
 | vec e sz rows =>
  cases ob' with
  | box => exact hle.elim
  | map => exact hle.elim
  | it => exact hle.elim
  | nw => exact hle.elim
  | sit => exact hle.elim
  | vec e' sz' rows' =>
   obtain ⟨xs, h1, h2, h3, h4⟩ := ho;obtain ⟨rfl, rfl, hl, hle⟩ := hle;have hmul : rows'.length * sz <= rows.length * sz := Nat.mul_le_mul_right _ hl;have hrow : ∀ (i : Nat) (r' : List D), rows'[i]? = some r' -> ∃ r : List D, rows[i]? = some r /\ r.length = r'.length /\ ∀ (j : Nat) (c c' : D), r[j]? = some c -> r'[j]? = some c' -> D.le ρ c c' := fun i r' hi => by grind
   refine ⟨xs.take (rows'.length * sz), zhL h1 hl, h2, fun r' hr => ?_, fun i r' hi j d hj => ?_⟩
   ·obtain ⟨i, hi⟩ := List.getElem?_of_mem hr;obtain ⟨r, hr, hlen, _⟩ := hrow i r' hi;rw [<- hlen];exact h3 r (List.mem_of_getElem? hr)
   ·obtain ⟨r, hr, hlen, hcl⟩ := hrow i r' hi;have hjl := (List.getElem?_eq_some_iff.1 hj).1;have hc : r[j]? = some r[j] := List.getElem?_eq_getElem (by omega);have hrl := h3 r (List.mem_of_getElem? hr);have hil := (List.getElem?_eq_some_iff.1 hi).1;have hlt : i * sz + j < rows'.length * sz := by
     have : (i + 1) * sz <= rows'.length * sz := Nat.mul_le_mul_right _ hil;rw [Nat.add_mul, Nat.one_mul] at this;omega
    have e1 : (xs.take (rows'.length * sz)).getD (i * sz + j) undef = xs.getD (i * sz + j) undef := by
     simp [List.getElem?_take, hlt]
    rw [e1];have := h4 i r hr j _ hc;refine ⟨this.1, this.2.weak (hcl j _ _ hc hj) ?_⟩;exact (List.all_eq_true.1 ((List.all_eq_true.1 hb) r' (List.mem_of_getElem? hi))) d (List.mem_of_getElem? hj)
structure St.Le (n0 : Nat) (ρ : Nat -> Nat) (s s' : St) : Prop where
 n : s'.n = s.n
 env : ∀ x d', getK s'.env x = some d' -> D.le ρ (s.at x) d' /\ d'.under s'.next = true
 dom : ∀ x d', getK s'.env x = some d' -> x < s.n
 obs : ∀ i ob', getK s'.obs i = some ob' -> i < s'.next /\ ∃ ob, getK s.obs (ρ i) = some ob /\ Ob.le ρ ob ob' /\ ob'.under s'.next = true
 inj : ∀ i j ob ob', getK s'.obs i = some ob -> getK s'.obs j = some ob' -> ρ i = ρ j -> i = j
 keep : ∀ i, i < n0 -> ρ i = i /\ i < s'.next
theorem Sim.weak {Γ : Ctx} {k s s' a w ρ} (hin : In Γ k w) (hs : Sim k Γ.own s a w) (hle : St.Le Γ.n0 ρ s s') : In Γ (k.ren ρ s'.next) w /\ Sim (k.ren ρ s'.next) Γ.own s' a w := by
 refine ⟨⟨⟨hin.le.mem, fun i h hi => ?_⟩, hin.none0, hin.memNew, hin.fresh, hin.os, hin.tape, hin.output, hin.size, hin.block⟩,
  ⟨⟨hs.sat.mem, fun i ob' hi => ?_, fun i j x y h g b hx hy hij hh hg hb => ?_⟩, hs.defers, by rw [hle.n]; exact hs.size, fun x d' hx => ?_, fun i hi => ?_⟩⟩
 ·have hlt : i < Γ.n0 := by
   rcases Nat.lt_or_ge i Γ.n0 with h' | h'
   ·exact h'
   ·rw [hin.none0 i h'] at hi; cases hi
  obtain ⟨h1, h2⟩ := hle.keep i hlt;simp only [Kr.ren, h1];rw [if_pos h2];exact hin.le.hdr i h hi
 ·obtain ⟨h1, ob, h2, h3, h4⟩ := hle.obs i ob' hi;obtain ⟨h, h5, h6, h7⟩ := hs.sat.ob _ ob h2;exact ⟨h, by simp [Kr.ren, h1, h5], h6, h7.weak h3 h4⟩
 ·obtain ⟨i1, ox, h2, _⟩ := hle.obs i x hx;obtain ⟨j1, oy, h2', _⟩ := hle.obs j y hy;simp only [Kr.ren, if_pos i1] at hh;simp only [Kr.ren, if_pos j1] at hg;exact hs.sat.apart _ _ ox oy h g b h2 h2' (fun e => hij (hle.inj i j x y hx hy e)) hh hg hb
 ·obtain ⟨h1, h2⟩ := hle.env x d' hx;exact ⟨by rw [hle.n]; exact hle.dom x d' hx, (hs.at x).weak h1 h2⟩
 ·grind [Kr.ren]
theorem V.weak {P Γ c s s' Q ρ} (hle : St.Le Γ.n0 ρ s s') (h : V P Γ c s' Q) : V P Γ c s Q := fun K a w hin hs =>
 let ⟨h1, h2⟩ := Sim.weak hin hs hle
 h _ a w h1 h2
def LoopI {α : Type} (n0 : Nat) (S : α -> St) (μ : α -> Nat) (x : α) (s : St) : Prop := ∃ y ρ, μ y < μ x /\ St.Le n0 ρ s (S y)
end Go.VL
namespace Go.VL
open Go
def G (P : Program) (Γ : Ctx) (all : Array Oper) (ops : List Oper) (s : St) (k : St -> Prop) : Prop :=
 ∀ K a w, In Γ K w -> Sim K Γ.own s a w -> ∀ (Q : Exit -> Act -> World -> Prop), (∀ K' a' w' s', In Γ K' w' -> Sim K' Γ.own s' a' w' -> k s' -> Q .normal a' w') ->
  (∀ ch K' a' w' s', In Γ K' w' -> Sim K' Γ.own s' a' w' -> Γ.pan ch s' -> Q (.panic ch) a' w') -> wpList P all Q ops a w
section
variable {P : Program} {Γ : Ctx} {all : Array Oper} {rest : List Oper} {s : St} {k : St -> Prop}
theorem zw8 (h : k s) : G P Γ all [] s k := fun K a w hin hs Q hQ _ => hQ K a w s hin hs h
theorem zot {dst : Option Tmp} {op : Op} {type : TypeId} {pos : String} {after : Array Edge}
  (h : EffP P Γ { dst, op, type, pos, after, guard := none } s fun s' => G P Γ all rest s' k) : G P Γ all ({ dst, op, type, pos, after, guard := none } :: rest) s k :=
 fun K a w hin hs Q hQ hP => wpList_plain rfl fun Kont hK => h K a w hin hs Kont Q (fun K' a' w' s' h1 h2 h3 => hK a' w' (h3 K' a' w' h1 h2 Q hQ hP)) hP
def za3 (all : Array Oper) (j : Nat) : Option Tmp := (all[j]?).bind (·.dst)
theorem Sim.getK {k own s a w} (h : Sim k own s a w) {x d} (hx : getK s.env x = some d) : x < a.tmps.size /\ Rep k d (a.tmps.getD x undef) :=
 ⟨by rw [h.size]; exact (h.env x d hx).1, (h.env x d hx).2⟩
abbrev D.un : D := .u (.oth undef)
theorem zos {dst : Option Tmp} {op : Op} {type : TypeId} {pos : String} {after : Array Edge} {j : Nat} {want : Bool} {t : Tmp}
  (hj : za3 all j = some t) (hb : getK s.env t = some .un) (hp : zay dst s) (hn : G P Γ all rest (s.put dst .un) k) :
  G P Γ all ({ dst, op, type, pos, after, guard := some (j, want) } :: rest) s k := by
 intro K a w hin hs Q hQ hP;obtain ⟨hlt, hr⟩ := hs.getK hb;have hv := zel hr;have hyd : yielded all a.tmps j = none := by
  unfold yielded;unfold za3 at hj;rw [hj];simp only [Option.bind_some];have : a.tmps[t]? = some undef := by simp_all
  rw [this]
  try rfl
 have e1 : Region.wanted { dst, op, type, pos, after, guard := some (j, want) } (yielded all a.tmps) = false := by
  simp [Region.wanted, hyd]
 refine wpList_skip e1 ?_;exact hn K _ w hin (hs.put hp (.u _ _ (.oth _))) Q hQ hP
theorem zsv {dst : Option Tmp} {op : Op} {type : TypeId} {pos : String} {after : Array Edge} {j : Nat} {want b : Bool} {t : Tmp}
  (hj : za3 all j = some t) (hb : getK s.env t = some (.u (.bool b))) (hp : zay dst s)
  (hy : b = want -> G P Γ all ({ dst, op, type, pos, after, guard := none } :: rest) (s.put (some t) (.u (.bool want))) k)
  (hn : b = !want -> G P Γ all rest ((s.put (some t) (.u (.bool (!want)))).put dst .un) k) :
  G P Γ all ({ dst, op, type, pos, after, guard := some (j, want) } :: rest) s k := by
 intro K a w hin hs Q hQ hP;obtain ⟨hlt, hr⟩ := hs.getK hb;have hv := zeH hr;have hyd : yielded all a.tmps j = some b := by
  unfold yielded;unfold za3 at hj;rw [hj];simp only [Option.bind_some];have : a.tmps[t]? = some (.bool b) := by simp_all
  rw [this]
 have same : ∀ b', b = b' -> Sim K Γ.own (s.put (some t) (.u (.bool b'))) a w := fun b' e => by
  subst e;refine ⟨hs.sat, hs.defers, hs.size, fun x d hx => ?_, hs.hdr⟩;simp only [St.put, zaa] at hx;split at hx
  ·rename_i e;subst e;cases hx;exact hs.env _ _ hb
  ·exact hs.env x d hx
 by_cases hw : b = want
 ·have := hy hw K a w hin (same want hw) Q hQ hP;unfold wpList at this ⊢;have e1 : Region.wanted { dst, op, type, pos, after, guard := some (j, want) } (yielded all a.tmps) = true := by
   simp [Region.wanted, hyd, hw]
  have e2 : Region.wanted { dst, op, type, pos, after, guard := none } (yielded all a.tmps) = true := rfl;rw [if_pos e2] at this;rw [if_pos e1];exact this
 ·have hb' : b = !want := by cases b <;> cases want <;> simp_all
  have e1 : Region.wanted { dst, op, type, pos, after, guard := some (j, want) } (yielded all a.tmps) = false := by
   simp [Region.wanted, hyd, hw]
  refine wpList_skip e1 ?_;exact hn hb' K _ w hin ((same _ hb').put (by cases dst <;> simp_all [zay, St.put]) (.u _ _ (.oth _))) Q hQ hP
theorem zun {Q : Exit -> St -> Prop} {kt : Kt} {id : Nat} {l : List Oper} (h : G P Γ l.toArray l s (zbf P Γ Q kt .normal)) : V P Γ (.region id l.toArray false) s (zbf P Γ Q kt) :=
 fun K a w hin hs => wp_region_lit (h K a w hin hs _ (fun K' a' w' s' h1 h2 h3 => .inl ⟨K', s', h1, h2, h3⟩) fun ch K' a' w' s' h1 h2 h3 => .inl ⟨K', s', h1, h2, h3⟩)
end
def zea (P : Program) (s : St) : List ResultVar -> (List D -> Prop) -> Prop
 | [], k => k []
 | .tmp t :: r, k => zea P s r fun ds => k (s.at t :: ds)
 | .cell a t :: r, k => loadD P s t (s.at a) fun d => zea P s r fun ds => k (d :: ds)
def zaC : List D -> D
 | [d] => d
 | ds => .tup ds
theorem zh2 {P : Program} {s : St} {k : Kr} {own a w} (hs : Sim k own s a w) : ∀ (rs : List ResultVar) (K : List D -> Prop), zea P s rs K ->
  ∃ ds vs, K ds /\ (rs.mapM (fun (r : ResultVar) => match r with | .tmp t => (pure (a.tmps.getD t undef) : Sem Value) | .cell x t => do loadVar t (<- asAddr (a.tmps.getD x undef)))).run P w = .ok vs w /\
   ds.length = vs.length /\ ∀ j d, ds[j]? = some d -> Rep k d (vs.getD j undef)
 | [], K, h => ⟨[], [], h, by simp, rfl, by simp⟩
 | .tmp t :: r, K, h => by
  obtain ⟨ds, vs, h1, h2, h3, h4⟩ := zh2 hs r _ h;refine ⟨_, a.tmps.getD t undef :: vs, h1, ?_, by simp [h3], fun j d hj => ?_⟩
  ·simp_all
  ·cases j with
   | zero => simp at hj; subst hj; exact hs.at t
   | succ j => simpa using h4 j d (by simpa using hj)
 | .cell x t :: r, K, h => by
  obtain ⟨d0, h, u, hu, hr⟩ := zlL h hs (hs.at x);obtain ⟨ds, vs, h1, h2, h3, h4⟩ := zh2 hs r _ h;have hload : (do loadVar t (<- asAddr (a.tmps.getD x undef)) : Sem Value).run P w = .ok u w := by
   unfold Instr.loadAt Instr.sureAddr at hu;split at hu
   ·rename_i ad hv;rw [hv];simpa [asAddr] using hu
   ·simp at hu
  refine ⟨_, u :: vs, h1, ?_, by simp [h3], fun j d hj => ?_⟩
  ·simp only [List.mapM_cons, Sem.run_bind, Result.andThen_ok, Sem.run_pure] at hload ⊢;rw [hload];simp only [Result.andThen_ok, h2]
  ·grind
def Ret (P : Program) (f : FuncId) (ds : List D) (obs : List (Nat × Ob)) (nx : Nat) (post : D -> List (Nat × Ob) -> Nat -> Prop) : Prop :=
 ∀ (k : Kr) (own : Nat -> Prop) (w : World) (vs : Array Value), Sat k own obs w -> (∀ i, nx <= i -> k.hdr i = none) -> (∀ b, w.heap.size <= b -> own b) -> RepL k ds vs ->
  Calls P f vs w fun e w' => ∃ v d obs' nx' k', e = .returned v /\ In (.of own k nx w) k' w' /\ Sat k' own obs' w' /\ (∀ i, nx' <= i -> k'.hdr i = none) /\ nx <= nx' /\ Rep k' d v /\ post d obs' nx'
def FinOK (n0 : Nat) (post : D -> List (Nat × Ob) -> Nat -> Prop) (s : St) (d : D) : Prop :=
 (∃ s' ρ d', St.Le n0 ρ s s' /\ D.le ρ d d' /\ d'.under s'.next = true /\ n0 <= s'.next /\ post d' s'.obs s'.next) \/ (n0 <= s.next /\ post d s.obs s.next)
def EndOK (P : Program) (fn : Func) (n0 : Nat) (post : D -> List (Nat × Ob) -> Nat -> Prop) (e : Exit) (s : St) : Prop :=
 (e = .normal \/ e = .ret) /\ zea P s fn.results.toList fun ds => FinOK n0 post s (zaC ds)
def entry (ds : List D) (nt : Nat) (obs : List (Nat × Ob)) (nx : Nat) : St := { n := nt, env := (ds.zipIdx 0).map fun p => (p.2, p.1), obs, next := nx }
def zzn : Nat -> List D -> List (Nat × D)
 | _, [] => []
 | k, d :: r => (k, d) :: zzn (k + 1) r
theorem zzm : ∀ (ds : List D) (k : Nat), (ds.zipIdx k).map (fun p => (p.2, p.1)) = zzn k ds
 | [], _ => rfl
 | _ :: r, k => congrArg (List.cons _) (zzm r (k + 1))
theorem zzE : (∀ ds nt obs nx, entry ds nt obs nx = { n := nt, env := zzn 0 ds, obs, next := nx }) /\ (∀ k, zzn k [] = []) /\ ∀ k d r, zzn k (d :: r) = (k, d) :: zzn (k + 1) r :=
 ⟨fun ds nt obs nx => by rw [entry, zzm], fun _ => rfl, fun _ _ _ => rfl⟩
theorem zgy (ds : List D) (i x : Nat) : getK ((ds.zipIdx i).map fun p => (p.2, p.1)) x = if i <= x then ds[x - i]? else none := by
 induction ds generalizing i with
 | nil => simp [getK]
 | cons d ds ih =>
  simp only [List.zipIdx_cons, zzC, zaa, ih];by_cases h1 : x = i
  ·subst h1; simp
  ·grind
theorem Ret.of_body {P f fn c ds obs nx post} (hf : P.funcs[f]? = some fn) (hb : fn.body = some c) (hn : ds.length <= fn.ntmps)
  (h : ∀ Γ : Ctx, Γ.n0 = nx -> V P Γ c (entry ds fn.ntmps obs nx) (zbf P Γ (EndOK P fn nx post) .done)) : Ret P f ds obs nx post := by
 intro k own w vs hsat hhdr hfresh hrep;have hsz : vs.size = ds.length := hrep.1;refine calls_of_wp hf hb (wp_mono (h (.of own k nx w) rfl k _ w ⟨.refl _, hhdr, fun b o v e => .inl e, hfresh, rfl, rfl, rfl, Nat.le_refl _, fun _ _ => rfl⟩
  ⟨hsat, rfl, ?_, fun x d hx => ?_, hhdr⟩) ?_)
 ·simp [entry, hsz]; omega
 ·simp only [entry, zgy, Nat.zero_le, if_true, Nat.sub_zero] at hx;have hlt := (List.getElem?_eq_some_iff.1 hx).1;refine ⟨by simp [entry]; omega, ?_⟩;have := hrep.2 x d hx;have e : (vs ++ Array.replicate (fn.ntmps - vs.size) undef).getD x undef = vs.getD x undef := by simp_all [Array.getElem?_append]
  rw [e];exact this
 ·rintro e a' w' (⟨K', s', hin, hs, hend⟩ | hesc)
  case inr => exact hesc.2.elim
  have hend : EndOK P fn nx post e s' := by
   cases e with
   | panic ch => exact False.elim hend
   | _ => exact hend
  obtain ⟨he, hres⟩ := hend;obtain ⟨rs, rv, hfin, hrun, hlen, hr⟩ := zh2 hs _ _ hres;have hres' : (results fn a'.tmps).run P w' = .ok (if h : rv.toArray.size = 1 then rv.toArray[0] else .tuple rv.toArray) w' := by
   unfold results;rw [Array.mapM_eq_mapM_toList];have e : (fn.results.toList.mapM fun (x : ResultVar) => match x with | .tmp t => (pure (a'.tmps.getD t undef) : Sem Value) | .cell a t => do loadVar t (<- asAddr (a'.tmps.getD a undef))).run P w' = .ok rv w' := hrun;simp only [Sem.run_bind, Sem.run_map, Result.andThen_ok]
   erw [e]
   simp
  have hrepv : Rep K' (zaC rs) (if h : rv.toArray.size = 1 then rv.toArray[0] else .tuple rv.toArray) := by
   match rs, rv, hlen, hr with
   | [], [], _, hr => exact .tup [] [] rfl (by simp)
   | [d], [v], _, hr => simpa [zaC] using hr 0 d rfl
   | d :: d1 :: ds, v :: v1 :: vs, hlen, hr =>
    simp only [zaC];rw [dif_neg (by simp)];exact .tup _ _ hlen hr
  have hfinal : bodyPost P fn (fun e w' => ∃ v d obs' nx' k', e = .returned v /\ In (.of own k nx w) k' w' /\ Sat k' own obs' w' /\ (∀ i, nx' <= i -> k'.hdr i = none) /\ nx <= nx' /\ Rep k' d v /\ post d obs' nx') .ret a' w' := by
   rcases hfin with ⟨s2, ρ, d', hle, hd, hu, hnx, hpost⟩ | ⟨hnx, hpost⟩
   ·obtain ⟨h1, h2⟩ := Sim.weak hin hs hle;exact ⟨hs.defers, _, hres', _, d', s2.obs, s2.next, _, rfl, h1, h2.sat, h2.hdr, hnx, hrepv.weak hd hu, hpost⟩
   ·exact ⟨hs.defers, _, hres', _, _, s'.obs, s'.next, K', rfl, hin, hs.sat, hs.hdr, hnx, hrepv, hpost⟩
  rcases he with rfl | rfl
  ·exact hfinal
  ·exact hfinal
end Go.VL
namespace Go.VL
open Go
def zae (P : Program) (f : FuncId) : Bool := match P.funcs[f]? with | some fn => fn.body.isSome && fn.name != "runtime.NumGoroutine" | none => false
def zam : D -> Option (FuncId × List D)
 | .fnc (.func f) caps => some (f, caps)
 | _ => none
theorem zh8 {P : Program} {k own s a w} (hs : Sim k own s a w) {fop : Operand} {args : Array Operand} {ts : Array TypeId} {ty : TypeId} {f caps} (hf : zam (opd s fop) = some (f, caps)) (hc : zae P f = true)
  (dst : Option Tmp) (pos : String) (after : Array Edge) (g : Option (Nat × Bool)) :
  ∃ vs, RepL k (args.toList.map (opd s) ++ caps) vs /\ (execOp a.eval { dst, op := .call { callee := .value fop, args, argTypes := ts }, type := ty, pos, after, guard := g }).run P w = .ok (.enter f vs) w := by
 unfold zam at hf;split at hf
 ·rename_i f' caps' hd;simp at hf;obtain ⟨rfl, rfl⟩ := hf;have hr := zaX hs fop;rw [hd] at hr;obtain ⟨cv, hl, hv, hcap⟩ := zko hr;refine ⟨args.map a.eval ++ cv.toArray, ⟨by simp [hl], fun j d hj => ?_⟩, ?_⟩
  ·by_cases hlt : j < args.size
   ·rw [List.getElem?_append_left (by simpa using hlt)] at hj;have := zfF hs args.toList j d hj;have e : (args.map a.eval ++ cv.toArray).getD j undef = (args.toList.map a.eval).getD j undef := by
     simp [Array.getElem?_append, hlt]
    rw [e];exact this
   ·rw [List.getElem?_append_right (by simpa using Nat.le_of_not_lt hlt)] at hj;have := hcap (j - args.size) d (by simpa using hj);have e : (args.map a.eval ++ cv.toArray).getD j undef = cv.getD (j - args.size) undef := by
     simp [Array.getElem?_append, hlt]
    rw [e];exact this
  ·unfold zae at hc;split at hc
   ·rename_i fn hfn;simp at hc;obtain ⟨hb, hname⟩ := hc;have hb' : fn.body.isNone = false := by cases hbb : fn.body <;> simp_all
    have hname' : (fn.name == "runtime.NumGoroutine") = false := by simpa using hname
    simp only [execOp];simp [resolve, hv, Deferred.ofValue, invoke, callFunc, hfn, hname', hb', hname];intro h0;rw [h0] at hb;simp at hb
   ·cases hc
 ·cases hf
theorem Eff.zwa {P Γ s k} {fop : Operand} {args : Array Operand} {ts : Array TypeId} {ty : TypeId} {f caps dst pos after} {ds : List D} {post : D -> List (Nat × Ob) -> Nat -> Prop}
  (hf : zam (opd s fop) = some (f, caps)) (hc : zae P f = true) (hds : args.toList.map (opd s) ++ caps = ds) (hret : Ret P f ds s.obs s.next post) (hp : zay dst s)
  (hk : ∀ d obs' nx', s.next <= nx' -> post d obs' nx' -> k (({ s with obs := obs', next := nx' } : St).put dst d)) :
  Eff P Γ { dst, op := .call { callee := .value fop, args, argTypes := ts }, type := ty, pos, after, guard := none } s k := by
 intro K a w hin hs Kont Q hK;obtain ⟨vs, hrep, hrun⟩ := zh8 hs (args := args) (ts := ts) (ty := ty) hf hc dst pos after none;rw [hds] at hrep;unfold Oper.wp;rw [hrun];refine Calls.mono (hret K Γ.own w vs hs.sat hs.hdr (fun b hb => hin.own_of_ge hb) hrep) ?_;rintro e w' ⟨v, d, obs', nx', k', rfl, hin', hsat', hhdr', hnx, hr, hpost⟩;have hle : K.le k' := hin'.le;have hin2 : In Γ k' w' := hin.step hle (fun b o v e => hin'.memNew b o v e) hin'.os hin'.tape hin'.output hin'.size hin'.block;have hsim : Sim k' Γ.own ({ s with obs := obs', next := nx' } : St) a w' := ⟨hsat', hs.defers, hs.size, fun x d hx => ⟨(hs.env x d hx).1, (hs.env x d hx).2.mono hle⟩, hhdr'⟩;exact hK k' _ w' _ hin2 (hsim.put (by cases dst <;> simp_all [zay]) hr) (hk d obs' nx' hnx hpost)
def zct : List (List D) -> Option (List (List U))
 | [] => some []
 | r :: l => match zef r, zct l with | some a, some b => some (a :: b) | _, _ => none
theorem zom (l : List U) : zef (l.map .u) = some l := by induction l <;> simp_all [zef]
theorem zh9 : ∀ {l : List D} {r : List U}, zef l = some r -> l = r.map .u
 | [], r, h => by simp [zef] at h; subst h; rfl
 | d :: l, r, h => by
  cases d <;> simp [zef] at h;cases hl : zef l with
  | none => simp [hl] at h
  | some q => simp [hl] at h; subst h; simp [zh9 hl]
theorem zi7 : ∀ {l : List (List D)} {r : List (List U)}, zct l = some r -> l = r.map (·.map .u)
 | [], r, h => by simp [zct] at h; subst h; rfl
 | x :: l, r, h => by
  simp only [zct] at h;split at h
  ·rename_i a b ha hb;simp at h;subst h;simp [zh9 ha, zi7 hb]
  ·cases h
@[simp] theorem zi6 (l : List (List U)) : zct (l.map (·.map .u)) = some l := by induction l <;> simp_all [zct, zom]
@[simp] theorem zvY (l : List (List U)) : zct (rowsD l) = some l := zi6 l
theorem zaz (a b : List (List D)) : zct (a ++ b) = match zct a, zct b with | some x, some y => some (x ++ y) | _, _ => none := by
 induction a with
 | nil => simp only [List.nil_append, zct]; cases zct b <;> rfl
 | cons r a ih =>
  simp only [List.cons_append, zct, ih];cases zef r <;> cases zct a <;> cases zct b <;> rfl
def zc0 : List (Key × List D) -> Option (List (Key × List U))
 | [] => some []
 | p :: l => match zef p.2, zc0 l with | some a, some b => some ((p.1, a) :: b) | _, _ => none
theorem zi5 : ∀ {l : List (Key × List D)} {r : List (Key × List U)}, zc0 l = some r -> l = r.map fun p => (p.1, p.2.map .u)
 | [], r, h => by simp [zc0] at h; subst h; rfl
 | x :: l, r, h => by
  simp only [zc0] at h;split at h
  ·rename_i a b ha hb;simp at h;subst h;simp [<- zh9 ha, <- zi5 hb]
  ·cases h
theorem zjL {es : List (Key × List D)} {us : List (Key × List U)} (h : es.Perm (us.map fun p => (p.1, p.2.map D.u))) : ∃ us' : List (Key × List U), es = (us'.map fun p => (p.1, p.2.map .u)) /\ us'.Perm us := by
 generalize hx : (us.map fun p => (p.1, p.2.map D.u)) = xs at h
 induction h generalizing us with
 | nil => exact ⟨[], rfl, by cases us <;> simp at hx ⊢⟩
 | cons x hp ih =>
  cases us with
  | nil => simp at hx
  | cons q l =>
   simp only [zzC, List.cons.injEq] at hx;obtain ⟨us', e, hp'⟩ := ih hx.2;exact ⟨q :: us', by rw [zzC, hx.1, e], hp'.cons _⟩
 | swap x y l =>
  match us, hx with
  | q :: r :: l', hx =>
   simp only [zzC, List.cons.injEq] at hx;exact ⟨r :: q :: l', by rw [zzC, zzC, hx.1, hx.2.1, hx.2.2], .swap _ _ _⟩
  | [q], hx => simp at hx
  | [], hx => simp at hx
 | trans p1 p2 ih1 ih2 =>
  obtain ⟨us2, e2, hp2⟩ := ih2 hx;obtain ⟨us1, e1, hp1⟩ := ih1 e2.symm;exact ⟨us1, e1, hp1.trans hp2⟩
theorem zaP : ∀ (us : List (Key × List U)), zc0 (zj3 us) = some us
 | [] => rfl
 | p :: l => by
  have h1 : zc0 (zj3 (p :: l)) = match zef (p.2.map .u), zc0 (zj3 l) with | some a, some b => some ((p.1, a) :: b) | _, _ => none := rfl
  rw [h1, zom, zaP l]
def zdc (o : List (Nat × Ob)) : D -> Option (U × List Nat)
 | .u .nil => some (.sl [], [])
 | .u x => some (x, [])
 | .vec i len => match getK o i with
  | some (.vec _ _ rows) => if len <= rows.length then match zct (rows.take len) with
   | some us => some (.sl us, [i])
   | none => none else none
  | _ => none
 | .mp i => match getK o i with
  | some (.map kk ag es) => match zc0 es with
   | some us => some (.map kk ag us, [i])
   | none => none
  | _ => none
 | .ptr i off => match getK o i with
  | some (.box cells) => match zef cells with
   | some us => some (.row us off, [i])
   | none => none
  | _ => none
 | _ => none
def zb4 (o : List (Nat × Ob)) : List D -> Option (List U × List Nat)
 | [] => some ([], [])
 | d :: ds => match zdc o d, zb4 o ds with
  | some (a, l), some (az, ls) => some (a :: az, l ++ ls)
  | _, _ => none
def zdb (o : List (Nat × Ob)) : D -> Option (U × List Nat)
 | .ptr i off => match getK o i with
  | some (.box cells) => match zb4 o cells with
   | some (us, l) => some (.row us off, i :: l)
   | none => none
  | _ => none
 | .agg cells => match zb4 o cells with
  | some (us, l) => some (.agg us, l)
  | none => none
 | d => zdc o d
def zbP (o : List (Nat × Ob)) : List D -> Option (List U × List Nat)
 | [] => some ([], [])
 | d :: ds => match zdb o d, zbP o ds with
  | some (a, l), some (az, ls) => some (a :: az, l ++ ls)
  | _, _ => none
def zfw (o : List (Nat × Ob)) : D -> Option (D × List Nat)
 | .fnc f caps => match zbP o caps with
  | some (us, l) => some (.fnc f (us.map .u), l)
  | none => none
 | d => match zdb o d with
  | some (x, l) => some (.u x, l)
  | none => none
def zcB (o : List (Nat × Ob)) : List D -> Option (List D × List Nat)
 | [] => some ([], [])
 | d :: ds => match zfw o d, zcB o ds with
  | some (a, l), some (az, ls) => some (a :: az, l ++ ls)
  | _, _ => none
def zcm (s : St) (ds : List D) : Option (List D × List Nat) := zcB s.obs ds
section
variable {o o' : List (Nat × Ob)}
theorem zmn {d x l} (h : zdc o d = some (x, l)) (he : ∀ i ∈ l, getK o i = getK o' i) : zdc o' d = some (x, l) := by
 unfold zdc at h ⊢;split at h
 ·exact h
 ·rename_i h';cases h
  try rfl
 ·rename_i i len;split at h
  ·grind
  ·cases h
 ·rename_i i;split at h
  ·grind
  ·cases h
 ·rename_i i off;split at h
  ·grind
  ·cases h
 ·cases h
theorem zhJ : ∀ {ds xs l}, zb4 o ds = some (xs, l) -> (∀ i ∈ l, getK o i = getK o' i) -> zb4 o' ds = some (xs, l)
 | [], _, _, h, _ => h
 | d :: ds, xs, l, h, he => by
  unfold zb4 at h ⊢;split at h
  ·rename_i a l1 az l2 h1 h2;cases h;rw [zmn h1 fun i hi => he i (List.mem_append_left _ hi), zhJ h2 fun i hi => he i (List.mem_append_right _ hi)]
  ·cases h
theorem zml {d x l} (h : zdb o d = some (x, l)) (he : ∀ i ∈ l, getK o i = getK o' i) : zdb o' d = some (x, l) := by
 unfold zdb at h ⊢;split at h
 ·rename_i i off;split at h
  ·rename_i cells hg;split at h
   ·rename_i us l1 h1;cases h;rw [<- he i (by simp), hg];simp only [zhJ h1 fun i hi => he i (List.mem_cons_of_mem _ hi)]
   ·cases h
  ·cases h
 ·grind [zhJ]
 ·exact zmn h he
theorem zj9 : ∀ {ds xs l}, zbP o ds = some (xs, l) -> (∀ i ∈ l, getK o i = getK o' i) -> zbP o' ds = some (xs, l)
 | [], _, _, h, _ => h
 | d :: ds, xs, l, h, he => by
  unfold zbP at h ⊢;split at h
  ·rename_i a l1 az l2 h1 h2;cases h;rw [zml h1 fun i hi => he i (List.mem_append_left _ hi), zj9 h2 fun i hi => he i (List.mem_append_right _ hi)]
  ·cases h
theorem zul {d x l} (h : zfw o d = some (x, l)) (he : ∀ i ∈ l, getK o i = getK o' i) : zfw o' d = some (x, l) := by
 unfold zfw at h ⊢;split at h
 ·grind [zj9]
 ·grind [zml]
theorem zg5 : ∀ {ds xs l}, zcB o ds = some (xs, l) -> (∀ i ∈ l, getK o i = getK o' i) -> zcB o' ds = some (xs, l)
 | [], _, _, h, _ => h
 | d :: ds, xs, l, h, he => by
  unfold zcB at h ⊢;split at h
  ·rename_i a l1 az l2 h1 h2;cases h;rw [zul h1 fun i hi => he i (List.mem_append_left _ hi), zg5 h2 fun i hi => he i (List.mem_append_right _ hi)]
  ·cases h
end
def zbj : U -> Bool
 | .int _ _ | .bool _ | .str _ | .nil | .oth _ => true
 | .agg cs => (cs.map fun c => zbj c).all id
 | _ => false
def zaW : D -> Bool
 | .u x => zbj x
 | .tup ds => (ds.map fun d => zaW d).all id
 | _ => false
theorem RepU.scalar {m m' : Mem} : ∀ {x : U} {v : Value}, RepU m x v -> zbj x = true -> RepU m' x v
 | _, _, .int k n, _ => .int k n
 | _, _, .bool b, _ => .bool b
 | _, _, .str l, _ => .str l
 | _, _, .nil, _ => .nil
 | _, _, .oth v, _ => .oth v
 | _, _, .slE a c _, h => by simp [zbj] at h
 | _, _, .sl .., h => by simp [zbj] at h
 | _, _, .row .., h => by simp [zbj] at h
 | _, _, .map .., h => by simp [zbj] at h
 | _, _, .agg cs vs hl hr, h => .agg cs vs hl fun j u hj => by
  rw [zbj] at h;have hu := (List.all_eq_true.1 h) _ (List.mem_map.2 ⟨u, List.mem_of_getElem? hj, rfl⟩);have hm := List.mem_of_getElem? hj;exact RepU.scalar (hr j u hj) hu
termination_by x => SizeOf.sizeOf x
decreasing_by
 simp_wf
 have := List.sizeOf_lt_of_mem hm;omega
theorem Rep.scalar {k k' : Kr} : ∀ {d : D} {v : Value}, Rep k d v -> zaW d = true -> Rep k' d v
 | .u x, v, h, hs => by
  rw [zaW] at hs;cases h with | u _ _ h => exact .u _ _ (h.scalar hs)
 | .tup ds, v, h, hs => by
  obtain ⟨vs, hl, rfl, hr⟩ := zhm h;refine .tup ds vs hl fun j d hj => ?_;rw [zaW] at hs;have hu := (List.all_eq_true.1 hs) _ (List.mem_map.2 ⟨d, List.mem_of_getElem? hj, rfl⟩);have hm := List.mem_of_getElem? hj;exact Rep.scalar (hr j d hj) hu
 | .any, _, _, hs => by simp [zaW] at hs
 | .ptr .., _, _, hs => by simp [zaW] at hs
 | .vec .., _, _, hs => by simp [zaW] at hs
 | .elt .., _, _, hs => by simp [zaW] at hs
 | .mp .., _, _, hs => by simp [zaW] at hs
 | .fnc .., _, _, hs => by simp [zaW] at hs
 | .bnd .., _, _, hs => by simp [zaW] at hs
 | .agg .., _, _, hs => by simp [zaW] at hs
termination_by d => SizeOf.sizeOf d
decreasing_by
 simp_wf
 have := List.sizeOf_lt_of_mem hm;omega
def zbC : D -> Bool
 | .u _ => true
 | .tup ds => (ds.map fun d => zbC d).all id
 | _ => false
theorem Rep.pure {k k' : Kr} (hm : k.mem.le k'.mem) : ∀ {d : D} {v : Value}, Rep k d v -> zbC d = true -> Rep k' d v
 | .u x, v, h, hs => by
  cases h with | u _ _ h => exact .u _ _ (h.mono hm)
 | .tup ds, v, h, hs => by
  obtain ⟨vs, hl, rfl, hr⟩ := zhm h;refine .tup ds vs hl fun j d hj => ?_;rw [zbC] at hs;have hu := (List.all_eq_true.1 hs) _ (List.mem_map.2 ⟨d, List.mem_of_getElem? hj, rfl⟩);have hmm := List.mem_of_getElem? hj;exact Rep.pure hm (hr j d hj) hu
 | .any, _, _, hs => by simp [zbC] at hs
 | .ptr .., _, _, hs => by simp [zbC] at hs
 | .vec .., _, _, hs => by simp [zbC] at hs
 | .elt .., _, _, hs => by simp [zbC] at hs
 | .mp .., _, _, hs => by simp [zbC] at hs
 | .fnc .., _, _, hs => by simp [zbC] at hs
 | .bnd .., _, _, hs => by simp [zbC] at hs
 | .agg .., _, _, hs => by simp [zbC] at hs
termination_by d => SizeOf.sizeOf d
decreasing_by
 simp_wf
 have := List.sizeOf_lt_of_mem hmm;omega
def zv8 (k : Kr) (L : List Nat) (b : Nat) : Prop := ∃ i ∈ L, ∃ c, k.hdr i = some (some b, c)
open Classical in
noncomputable def lentMem (k : Kr) (L : List Nat) (w : World) : Mem := fun b o => if zv8 k L b then look w b o else k.mem b o
section
variable {k : Kr} {own : Own} {s : St} {a : Act} {w : World} (hs : Sim k own s a w) (L' : List Nat) (h0 : Nat -> Option (Option Nat × Nat))
include hs
theorem zre : k.mem.le (lentMem k L' w) := fun b o x hx => by
 unfold lentMem;split
 ·exact hs.sat.mem b o x hx
 ·exact hx
theorem ze0 : GlobIn (lentMem k L' w) := k.glob.mono (zre hs L')
theorem zmm {d d' L v} (h : zdc s.obs d = some (d', L)) (hr : Rep k d v) (hL : ∀ i ∈ L, i ∈ L') :
  RepU (lentMem k L' w) d' v /\ ∀ i ∈ L, ∃ ob, getK s.obs i = some ob := by
 have hle := zre hs L';unfold zdc at h;split at h
 ·simp at h;obtain ⟨rfl, rfl⟩ := h;obtain rfl := zdU hr;exact ⟨.slE _ _ fun _ => rfl, by simp⟩
 ·simp at h;obtain ⟨rfl, rfl⟩ := h;cases hr with | u _ _ hr => exact ⟨hr.mono hle, by simp⟩
 ·rename_i i len;split at h
  ·rename_i e sz rows hg;split at h
   ·rename_i hlen;split at h
    ·rename_i us hus;simp at h;obtain ⟨rfl, rfl⟩ := h;refine ⟨?_, fun j hj => by simp at hj; subst hj; exact ⟨_, hg⟩⟩;have hinv := zi7 hus;have hul : us.length = len := by
      have := congrArg List.length hinv;simp at this;omega
     obtain ⟨g, hg', rfl⟩ := zfc hr;obtain ⟨g2, xs, hg2, hrow, hpos, hlen2, hcs, hno⟩ := (hs.sat.ob _ _ hg).vec;rw [hg'] at hg2;simp only [Option.some.injEq] at hg2;subst hg2;obtain ⟨gb, gc⟩ := g;by_cases hz : len = 0
     ·subst hz;have : us = [] := List.eq_nil_of_length_eq_zero hul;subst this;exact .slE _ _ fun e => zfC hrow (by simpa using e)
     ·rcases hrow.2 with ⟨hv, hn⟩ | ⟨b, cap, cur, hv, _, hheap, hncap, hcm, hcs', htake⟩
      ·omega
      ·have hgb : gb = some b /\ gc = cap := by simp_all [za8, Value.slice.injEq, Option.map_eq_some_iff, Addr.mk.injEq]
       obtain ⟨rfl, rfl⟩ := hgb;have hlent : zv8 k L' b := ⟨i, hL i (by simp), gc, hg'⟩;have hxl := hrow.1;have hcell : ∀ j u, xs[j]? = some u -> w.cell? ⟨b, j, none⟩ = some u := fun j u hj => by
        have := hrow.cells (g := b) (by simp [za8, Value.ownBlock]) j u hj
        rwa [zde, Nat.zero_add] at this
       have hr0 : ∀ i r, us[i]? = some r -> rows[i]? = some (r.map .u) /\ i < len := fun i r hi => by
        have hil := (List.getElem?_eq_some_iff.1 hi).1;have : (rows.take len)[i]? = some (r.map .u) := by rw [hinv]; simp [hi]
        rw [List.getElem?_take, if_pos (by omega)] at this;exact ⟨this, by omega⟩
       have hmul : ∀ i, i < len -> i * sz + sz <= xs.length := fun i hi => by
        rw [hxl];have : (i + 1) * sz <= rows.length * sz := Nat.mul_le_mul_right _ (by omega);rw [Nat.add_mul, Nat.one_mul] at this;exact this
       have e : za8 (some b, gc) len = .slice (some ⟨b, 0, none⟩) us.length gc := by rw [hul]; rfl
       rw [e];refine (.sl us b 0 sz gc (fun i j => xs.getD (i * sz + j) undef) (by omega) hcm (fun r hr => ?_) (fun i hi j hj => ?_) (fun i r hi j u hj => ?_))
       ·obtain ⟨i, hi⟩ := List.getElem?_of_mem hr;have := hlen2 _ (List.mem_of_getElem? (hr0 i r hi).1);simpa using this
       ·simp only [lentMem, if_pos hlent, Nat.zero_add];have hb := hmul i (by omega);exact zep (hcell _ _ (by simp [show i * sz + j < xs.length by omega]))
       ·obtain ⟨h1, h2⟩ := hr0 i r hi;have := (hcs i _ h1 j (.u u) (by simp [hj])).2;cases this with | u _ _ this => exact this.mono hle
    ·cases h
   ·cases h
  ·cases h
 ·rename_i i;split at h
  ·rename_i kk ag es hg;split at h
   ·rename_i us hus;simp at h;obtain ⟨rfl, rfl⟩ := h;refine ⟨?_, fun j hj => by simp at hj; subst hj; exact ⟨_, hg⟩⟩;obtain ⟨b, c, hg', rfl⟩ := zlq hr;obtain ⟨b', c', ents, clock, es0, hh, hown, hheap, hpm, hm, hno⟩ := (hs.sat.ob _ _ hg).map;rw [hg'] at hh;cases hh;have hlent : zv8 k L' b := ⟨i, hL i (by simp), c, hg'⟩;obtain ⟨us1, e1, hp1⟩ := zjL (es := es0) (us := us) (by rw [<- zi5 hus]; exact hpm);exact hm.toU e1 hp1 (by simp only [lentMem, if_pos hlent]; exact ziE hheap) hle
   ·cases h
  ·cases h
 ·rename_i i off;split at h
  ·rename_i cells hg;split at h
   ·rename_i us hus;simp at h;obtain ⟨rfl, rfl⟩ := h;obtain ⟨b, c, vs, t, hh, hown, hheap, hsz, hcells, hno⟩ := (hs.sat.ob i _ hg).box;obtain ⟨b', c', hh', rfl⟩ := zeb hr;rw [hh] at hh';simp only [Option.some.injEq, Prod.mk.injEq] at hh';obtain ⟨rfl, rfl⟩ := hh';obtain ⟨h1, h2⟩ := zkS hus;have hlent : zv8 k L' b := ⟨i, hL i (by simp), c, hh⟩;refine ⟨?_, fun j hj => by simp at hj; subst hj; exact ⟨_, hg⟩⟩;have := RepU.row (m := lentMem k L' w) us off b 0 (fun j => vs.getD j undef) (fun j hj => by
     simp only [lentMem, if_pos hlent, Nat.zero_add];refine zep ?_;rw [cell_of_row w b j vs t (0, 0) hheap];simp [show j < vs.size by omega]) (fun j u hj => by
     have h3 := (hcells j _ (h2 j u hj)).2;cases h3 with | u _ _ h3 => exact h3.mono hle)
    simpa using this
   ·cases h
  ·cases h
 ·cases h
theorem zhI : ∀ {ds : List D} {xs : List U} {L : List Nat} (f : Nat -> Value), zb4 s.obs ds = some (xs, L) -> (∀ j d, ds[j]? = some d -> Rep k d (f j)) -> (∀ i ∈ L, i ∈ L') ->
  xs.length = ds.length /\ (∀ j x, xs[j]? = some x -> RepU (lentMem k L' w) x (f j)) /\ ∀ i ∈ L, ∃ ob, getK s.obs i = some ob
 | [], xs, L, f, h, hr, hL => by simp_all [zb4]
 | d :: ds, xs, L, f, h, hr, hL => by
  unfold zb4 at h;split at h
  ·rename_i a' l az ls ha has;simp at h;obtain ⟨rfl, rfl⟩ := h;obtain ⟨h1, h2⟩ := zmm hs L' ha (hr 0 d rfl) (fun i hi => hL i (List.mem_append_left _ hi));obtain ⟨h3, h4, h5⟩ := zhI (fun j => f (j + 1)) has (fun j e hj => by simpa using hr (j + 1) e (by simpa using hj)) (fun i hi => hL i (List.mem_append_right _ hi));refine ⟨by simp [h3], fun j e hj => ?_, fun i hi => (List.mem_append.1 hi).elim (h2 i) (h5 i)⟩;cases j with
   | zero => simp at hj; subst hj; exact h1
   | succ j => exact h4 j e (by simpa using hj)
  ·cases h
theorem zmk {d d' L v} (h : zdb s.obs d = some (d', L)) (hr : Rep k d v) (hL : ∀ i ∈ L, i ∈ L') :
  RepU (lentMem k L' w) d' v /\ ∀ i ∈ L, ∃ ob, getK s.obs i = some ob := by
 unfold zdb at h;split at h
 ·rename_i i off;split at h
  ·rename_i cells hg;split at h
   ·rename_i us l hus;simp at h;obtain ⟨rfl, rfl⟩ := h;obtain ⟨b, c, vs, t, hh, hown, hheap, hsz, hcells, hno⟩ := (hs.sat.ob i _ hg).box;obtain ⟨b', c', hh', rfl⟩ := zeb hr;rw [hh] at hh';simp only [Option.some.injEq, Prod.mk.injEq] at hh';obtain ⟨rfl, rfl⟩ := hh';obtain ⟨h1, h2, h3⟩ := zhI hs L' (fun j => vs.getD j undef) hus (fun j d hj => (hcells j d hj).2) (fun i hi => hL i (List.mem_cons_of_mem _ hi));have hlent : zv8 k L' b := ⟨i, hL i (by simp), c, hh⟩;refine ⟨?_, fun j hj => ?_⟩
    ·have := RepU.row (m := lentMem k L' w) us off b 0 (fun j => vs.getD j undef) (fun j hj => by
      simp only [lentMem, if_pos hlent, Nat.zero_add];refine zep ?_;rw [cell_of_row w b j vs t (0, 0) hheap];simp [show j < vs.size by omega]) h2
     simpa using this
    ·grind
   ·cases h
  ·cases h
 ·rename_i cells;split at h
  ·rename_i us l hus;simp at h;obtain ⟨rfl, rfl⟩ := h;obtain ⟨vs, hl, rfl, hrr⟩ := zin hr;obtain ⟨h1, h2, h3⟩ := zhI hs L' (fun j => vs.getD j undef) hus (fun j d hj => hrr j d hj) hL;exact ⟨.agg us vs (by omega) h2, h3⟩
  ·cases h
 ·exact zmm hs L' h hr hL
theorem zj8 : ∀ {ds : List D} {xs : List U} {L : List Nat} (f : Nat -> Value), zbP s.obs ds = some (xs, L) -> (∀ j d, ds[j]? = some d -> Rep k d (f j)) -> (∀ i ∈ L, i ∈ L') ->
  xs.length = ds.length /\ (∀ j x, xs[j]? = some x -> RepU (lentMem k L' w) x (f j)) /\ ∀ i ∈ L, ∃ ob, getK s.obs i = some ob
 | [], xs, L, f, h, hr, hL => by simp_all [zbP]
 | d :: ds, xs, L, f, h, hr, hL => by
  unfold zbP at h;split at h
  ·rename_i a' l az ls ha has;simp at h;obtain ⟨rfl, rfl⟩ := h;obtain ⟨h1, h2⟩ := zmk hs L' ha (hr 0 d rfl) (fun i hi => hL i (List.mem_append_left _ hi));obtain ⟨h3, h4, h5⟩ := zj8 (fun j => f (j + 1)) has (fun j e hj => by simpa using hr (j + 1) e (by simpa using hj)) (fun i hi => hL i (List.mem_append_right _ hi));refine ⟨by simp [h3], fun j e hj => ?_, fun i hi => (List.mem_append.1 hi).elim (h2 i) (h5 i)⟩;cases j with
   | zero => simp at hj; subst hj; exact h1
   | succ j => exact h4 j e (by simpa using hj)
  ·cases h
theorem zuk {d d' L v} (h : zfw s.obs d = some (d', L)) (hr : Rep k d v) (hL : ∀ i ∈ L, i ∈ L') :
  Rep ⟨lentMem k L' w, h0, ze0 hs L'⟩ d' v /\ ∀ i ∈ L, ∃ ob, getK s.obs i = some ob := by
 unfold zfw at h;split at h
 ·rename_i f caps;split at h
  ·rename_i us l hus;simp at h;obtain ⟨rfl, rfl⟩ := h;obtain ⟨vs, hl, rfl, hc⟩ := zko hr;obtain ⟨h1, h2, h3⟩ := zj8 hs L' (fun j => vs.getD j undef) hus hc hL;refine ⟨.fnc f _ vs (by simpa using h1.trans hl) fun j d hj => ?_, h3⟩;rw [List.getElem?_map] at hj;cases hx : us[j]? with
   | none => simp [hx] at hj
   | some x =>
    simp [hx] at hj;subst hj;exact .u _ _ (h2 j x hx)
  ·cases h
 ·split at h
  ·rename_i x l hx;simp at h;obtain ⟨rfl, rfl⟩ := h;obtain ⟨h1, h2⟩ := zmk hs L' hx hr hL;exact ⟨.u _ _ h1, h2⟩
  ·cases h
end
theorem zi4 {k own s a w} (hs : Sim k own s a w) (L' : List Nat) (h0 : Nat -> Option (Option Nat × Nat)) : ∀ {ds ds' : List D} {L : List Nat} {vs : List Value}, zcm s ds = some (ds', L) -> ds.length = vs.length ->
  (∀ j d, ds[j]? = some d -> Rep k d (vs.getD j undef)) -> (∀ i ∈ L, i ∈ L') ->
  ds'.length = vs.length /\ (∀ j d, ds'[j]? = some d -> Rep ⟨lentMem k L' w, h0, ze0 hs L'⟩ d (vs.getD j undef)) /\ ∀ i ∈ L, ∃ ob, getK s.obs i = some ob
 | [], ds', L, vs, h, hl, hr, hL => by simp_all [zcm, zcB]
 | d :: ds, ds', L, [], h, hl, hr, hL => by simp at hl
 | d :: ds, ds', L, v :: vs, h, hl, hr, hL => by
  simp only [zcm, zcB] at h;split at h
  ·rename_i a' l az ls ha has;simp at h;obtain ⟨rfl, rfl⟩ := h;obtain ⟨h1, h2⟩ := zuk hs L' h0 ha (hr 0 d rfl) (fun i hi => hL i (List.mem_append_left _ hi));obtain ⟨h3, h4, h5⟩ := zi4 hs L' h0 has (by simpa using hl) (fun j e hj => by simpa using hr (j + 1) e (by simpa using hj)) (fun i hi => hL i (List.mem_append_right _ hi));refine ⟨by simp [h3], fun j e hj => ?_, fun i hi => (List.mem_append.1 hi).elim (h2 i) (h5 i)⟩;cases j with
   | zero => simp at hj; subst hj; simpa using h1
   | succ j => simpa using h4 j e (by simpa using hj)
  ·cases h
def delAll (obs : List (Nat × Ob)) (L : List Nat) : List (Nat × Ob) := L.foldl del obs
theorem ziN : ∀ (L : List Nat) (obs : List (Nat × Ob)) (j : Nat), getK (delAll obs L) j = if j ∈ L then none else getK obs j
 | [], obs, j => by simp [delAll]
 | i :: L, obs, j => by
  show getK (delAll (del obs i) L) j = _;rw [ziN L, zac];by_cases h1 : j ∈ L
  ·simp [h1]
  ·by_cases h2 : j = i <;> simp [h1, h2]
theorem Sat.delAll {k own w} : ∀ (L : List Nat) {obs : List (Nat × Ob)}, Sat k own obs w -> Sat k own (VL.delAll obs L) w
 | [], _, h => h
 | i :: L, _, h => Sat.delAll L (h.del i)
def Fun (P : Program) (f : FuncId) (ds : List D) (post : D -> Prop) : Prop := Ret P f ds [] 0 fun d _ _ => zbC d = true /\ post d
theorem zhO {P Γ s} {fop : Operand} {args : Array Operand} {ts : Array TypeId} {ty : TypeId} {f caps dst pos after guard} {ds : List D} {L : List Nat} {post : D -> Prop}
  (hf : zam (opd s fop) = some (f, caps)) (hc : zae P f = true) (hds : zcm s (args.toList.map (opd s) ++ caps) = some (ds, L)) (hret : Fun P f ds post)
  {K : Kr} {a : Act} {w : World} (hin : In Γ K w) (hs : Sim K Γ.own s a w) {Kont : Act -> World -> Prop} {Q : Exit -> Act -> World -> Prop}
  (hK : ∀ K' v d w', In Γ K' w' -> K.le K' -> K'.hdr = K.hdr -> Sat K' Γ.own (if zaW d then s.obs else delAll s.obs L) w' -> Rep K' d v -> post d -> Kont (a.put dst v) w') :
  Oper.wp P { dst, op := .call { callee := .value fop, args, argTypes := ts }, type := ty, pos, after, guard } a w Kont Q := by
 obtain ⟨vs, hrep, hrun⟩ := zh8 hs (args := args) (ts := ts) (ty := ty) hf hc dst pos after guard;obtain ⟨h1, h2, hLo⟩ := zi4 hs L (fun _ => none) (vs := vs.toList) hds (by simpa using hrep.1.symm) (fun j d hj => by simpa using hrep.2 j d hj) (fun _ h => h);unfold Oper.wp;rw [hrun];have hmem1 : K.mem.le (lentMem K L w) := fun b o x hx => by
  unfold lentMem;split
  ·exact hs.sat.mem b o x hx
  ·exact hx
 have hsat1 : Sat ⟨lentMem K L w, fun _ => none, ze0 hs L⟩ (fun b => w.heap.size <= b) [] w := ⟨fun b o v hv => by
   simp only [lentMem] at hv;split at hv
   ·exact hv
   ·exact hs.sat.mem b o v hv, fun i ob hi => by simp [VL.getK] at hi, fun i j x y h g b hx => by simp [VL.getK] at hx⟩
 refine Calls.mono (hret ⟨lentMem K L w, fun _ => none, ze0 hs L⟩ (fun b => w.heap.size <= b) w vs hsat1 (fun _ _ => rfl) (fun b hb => hb) ⟨by simpa using h1.symm, fun j d hj => by simpa using h2 j d hj⟩) ?_;rintro e w' ⟨v, d, obs', nx', k', rfl, hin', hsat', hhdr', hnx, hr, hpure, hpost⟩;have hheap : ∀ b, b < w.heap.size -> w'.heap[b]? = w.heap[b]? := fun b hb => hin'.block b (by simpa [Ctx.of] using hb);have hlentOwn : ∀ b, zv8 K L b -> Γ.own b /\ b < w.heap.size := fun b ⟨i, hi, c, hh⟩ => by
  obtain ⟨ob, hob⟩ := hLo i hi;obtain ⟨g, h3, h4, _⟩ := hs.sat.ob i ob hob;rw [hh] at h3;cases h3;exact ⟨(h4 b rfl).1, hs.sat.lt ⟨i, ob, _, hob, hh, rfl⟩⟩
 by_cases hsc : zaW d = true
 ·have hin2 : In Γ K w' := hin.step (.refl _) (fun b o v e => .inl e) hin'.os hin'.tape hin'.output hin'.size fun b hb => by
   rcases Nat.lt_or_ge b w.heap.size with h | h
   ·exact hheap b h
   ·exact absurd (hin.own_of_ge h) hb
  have hsat2 : Sat K Γ.own s.obs w' := hs.sat.keep (.refl _) (fun b hb => hheap b (hs.sat.lt hb)) (fun b o v hv => by
   rw [zd9 (hheap b (hs.sat.memLt hv))];exact hs.sat.mem b o v hv) (fun b ⟨i, ob, g, h3, h4, h5⟩ o => by
   obtain ⟨g', h6, h7, _⟩ := hs.sat.ob i ob h3;rw [h4] at h6;cases h6;exact (h7 b h5).2 o)
  exact hK K v d w' hin2 (.refl _) rfl (by rw [if_pos hsc]; exact hsat2) (hr.scalar hsc) hpost
 ·have hmemk : K.mem.le k'.mem := hmem1.trans hin'.le.mem;have hleK : K.le ⟨k'.mem, K.hdr, k'.glob⟩ := ⟨hmemk, fun _ _ h => h⟩;have hnew : ∀ b o v, k'.mem b o = some v -> K.mem b o = some v \/ zv8 K L b \/ w.heap.size <= b := fun b o v hv => by
   rcases hin'.memNew b o v hv with h | h
   ·simp only [Ctx.of, lentMem] at h;split at h
    ·rename_i hl; exact .inr (.inl hl)
    ·exact .inl h
   ·exact .inr (.inr h)
  have hin2 : In Γ ⟨k'.mem, K.hdr, k'.glob⟩ w' := hin.step hleK (fun b o v e => (hnew b o v e).imp id fun h => h.elim (fun h => (hlentOwn b h).1) fun h => hin.own_of_ge h) hin'.os hin'.tape hin'.output hin'.size fun b hb => by
   rcases Nat.lt_or_ge b w.heap.size with h | h
   ·exact hheap b h
   ·exact absurd (hin.own_of_ge h) hb
  have hd := Sat.delAll L hs.sat;have hsat2 : Sat ⟨k'.mem, K.hdr, k'.glob⟩ Γ.own (delAll s.obs L) w' := hd.keep hleK (fun b hb => hheap b (hd.lt hb)) (fun b o v hv => hsat'.mem b o v hv) (fun b ⟨i, ob, g, h3, h4, h5⟩ o => by
   cases hm : k'.mem b o with
   | none => rfl
   | some v =>
    exfalso;rw [ziN] at h3;split at h3
    ·cases h3
    ·rename_i hiL;obtain ⟨g', h6, h7, _⟩ := hs.sat.ob i ob h3;rw [show K.hdr i = some g from h4] at h6;cases h6;rcases hnew b o v hm with h | ⟨j, hj, c, hh⟩ | h
     ·rw [(h7 b h5).2 o] at h; cases h
     ·obtain ⟨oj, hoj⟩ := hLo j hj;exact hs.sat.apart j i oj ob _ g b hoj h3 (fun e => hiL (e ▸ hj)) hh h4 rfl h5
     ·exact absurd (hs.sat.lt ⟨i, ob, g, h3, h4, h5⟩) (by omega))
  have hfin : Rep ⟨k'.mem, K.hdr, k'.glob⟩ d v := Rep.pure (k := k') (k' := ⟨k'.mem, K.hdr, k'.glob⟩) (fun _ _ _ e => e) hr hpure;exact hK _ v d w' hin2 hleK rfl (by rw [if_neg hsc]; exact hsat2) hfin hpost
theorem Eff.zwb {P Γ s k} {fop : Operand} {args : Array Operand} {ts : Array TypeId} {ty : TypeId} {f caps dst pos after} {ds : List D} {L : List Nat} {post : D -> Prop}
  (hf : zam (opd s fop) = some (f, caps)) (hc : zae P f = true) (hds : zcm s (args.toList.map (opd s) ++ caps) = some (ds, L)) (hret : Fun P f ds post) (hp : zay dst s)
  (hk : ∀ d, post d -> k (({ s with obs := if zaW d then s.obs else delAll s.obs L } : St).put dst d)) :
  Eff P Γ { dst, op := .call { callee := .value fop, args, argTypes := ts }, type := ty, pos, after, guard := none } s k := by
 intro K a w hin hs Kont Q hK;refine zhO hf hc hds hret hin hs fun K' v d w' h1 h2 h3 h4 h5 h6 => ?_;have hsim : Sim K' Γ.own ({ s with obs := if zaW d then s.obs else delAll s.obs L } : St) a w' := ⟨h4, hs.defers, hs.size, fun x d hx => ⟨(hs.env x d hx).1, (hs.env x d hx).2.mono h2⟩, fun i hi => by rw [h3]; exact hs.hdr i hi⟩;exact hK K' _ w' _ h1 (hsim.put (by cases dst <;> simp_all [zay]) h5) (hk d h6)
end Go.VL
namespace Go.VL
open Go
section
variable {P : Program} {Γ : Ctx} {all : Array Oper} {rest : List Oper} {s : St} {k : St -> Prop} {dst : Option Tmp} {type : TypeId} {pos : String} {after : Array Edge}
end
theorem FinOK.val {s : St} {d : D} {post : D -> Prop} (hp : zbC d = true) (h : post d) : FinOK 0 (fun d _ _ => zbC d = true /\ post d) s d :=
 .inl ⟨{ n := s.n, env := [], obs := [], next := 0 }, id, d, ⟨rfl, fun x d' hx => by simp [getK] at hx, fun x d' hx => by simp [getK] at hx, fun i ob hi => by simp [getK] at hi, fun i j a b hi => by simp [getK] at hi, fun i hi => by omega⟩,
  .inr (.inl (ren_pure d hp).symm), under_pure d hp, Nat.le_refl _, hp, h⟩
where
 ren_pure : ∀ (d : D), zbC d = true -> d.ren id = d
  | .u x, _ => by rw [D.ren]
  | .tup ds, h => by
   rw [zbC] at h;rw [D.ren]
   congr 1
   apply List.ext_getElem?;intro j;rw [List.getElem?_map];cases hj : ds[j]? with
   | none => rfl
   | some d =>
    have hm := List.mem_of_getElem? hj;have := (List.all_eq_true.1 h) _ (List.mem_map.2 ⟨d, hm, rfl⟩);simp [ren_pure d this]
  | .any, h => by simp [zbC] at h
  | .ptr .., h => by simp [zbC] at h
  | .vec .., h => by simp [zbC] at h
  | .elt .., h => by simp [zbC] at h
  | .mp .., h => by simp [zbC] at h
  | .fnc .., h => by simp [zbC] at h
  | .bnd .., h => by simp [zbC] at h
  | .agg .., h => by simp [zbC] at h
 termination_by d => SizeOf.sizeOf d
 decreasing_by
  simp_wf
  have := List.sizeOf_lt_of_mem hm;omega
 under_pure : ∀ (d : D), zbC d = true -> d.under 0 = true
  | .u x, _ => by rw [D.under]
  | .tup ds, h => by
   rw [zbC] at h;rw [D.under];refine List.all_eq_true.2 fun b hb => ?_;obtain ⟨d, hm, rfl⟩ := List.mem_map.1 hb;have := (List.all_eq_true.1 h) _ (List.mem_map.2 ⟨d, hm, rfl⟩);exact under_pure d this
  | .any, h => by simp [zbC] at h
  | .ptr .., h => by simp [zbC] at h
  | .vec .., h => by simp [zbC] at h
  | .elt .., h => by simp [zbC] at h
  | .mp .., h => by simp [zbC] at h
  | .fnc .., h => by simp [zbC] at h
  | .bnd .., h => by simp [zbC] at h
  | .agg .., h => by simp [zbC] at h
 termination_by d => SizeOf.sizeOf d
 decreasing_by
  simp_wf
  have := List.sizeOf_lt_of_mem hm;omega
theorem EndOK.val {P fn e s} {post : D -> Prop} (he : e = .normal \/ e = .ret) (h : zea P s fn.results.toList fun ds => zbC (zaC ds) = true /\ post (zaC ds)) :
  EndOK P fn 0 (fun d _ _ => zbC d = true /\ post d) e s := ⟨he, by
 have mono : ∀ (rs : List ResultVar) (K K' : List D -> Prop), (∀ ds, K ds -> K' ds) -> zea P s rs K -> zea P s rs K' := by
  intro rs
  induction rs with
  | nil => intro K K' hk h; exact hk _ h
  | cons r rs ih =>
   intro K K' hk h;cases r with
   | tmp t => exact ih _ _ (fun ds => hk _) h
   | cell a t =>
    have lm : ∀ (x : D) (A B : D -> Prop), (∀ d, A d -> B d) -> loadD P s t x A -> loadD P s t x B := by
     intro x A B hab h;unfold loadD at h ⊢;have cm : ∀ {α : Type} (cells : List α) (off : Nat) (l : Option Nat) (o o' : α -> Prop) (m m' : List α -> Prop), (∀ x, o x -> o' x) -> (∀ x, m x -> m' x) -> cellsAt cells off l o m -> cellsAt cells off l o' m' := by
      intro α cells off l o o' m m' h1 h2 h;unfold cellsAt at h ⊢;split at h
      ·obtain ⟨u, hu, h⟩ := h; exact ⟨u, hu, h1 _ h⟩
      ·exact ⟨h.1, h2 _ h.2⟩
     split at h
     ·exact h
     ·split at h
      ·grind
      ·grind
      ·split at h
       ·obtain ⟨h0, r, hr, h⟩ := h;exact ⟨h0, r, hr, cm _ _ _ _ _ _ _ (fun _ => hab _) (fun _ => hab _) h⟩
       ·exact h
      ·exact h
    exact lm _ _ _ (fun d => ih _ _ (fun ds => hk _)) h
 exact mono _ _ _ (fun ds h => FinOK.val h.1 h.2) h⟩
end Go.VL
namespace Go.VL
open Go
structure O1 where
 dst : Option Tmp
 op : Op
 guard : Option (Tmp × Bool)
def zda (all : Array Oper) (o : Oper) : Option O1 :=
 match o.guard with
 | none => some ⟨o.dst, o.op, none⟩
 | some (j, b) => match za3 all j with
  | some t => some ⟨o.dst, o.op, some (t, b)⟩
  | none => none
def zbz (all : Array Oper) : List Oper -> Option (List O1)
 | [] => some []
 | o :: l => match zda all o, zbz all l with | some a, some b => some (a :: b) | _, _ => none
def H (P : Program) (Γ : Ctx) (l : List O1) (s : St) (k : St -> Prop) : Prop := ∀ all ops, zbz all ops = some l -> G P Γ all ops s k
def CallP (P : Program) (Γ : Ctx) (fop : Operand) (args : List Operand) (dst : Option Tmp) (s : St) (k : St -> Prop) : Prop :=
 ∀ ts ty pos after, EffP P Γ { dst, op := .call { callee := .value fop, args := args.toArray, argTypes := ts }, type := ty, pos, after, guard := none } s k
section
variable {P : Program} {Γ : Ctx} {s : St} {k : St -> Prop} {dst : Option Tmp}
theorem CallP.fun_ {fop : Operand} {args : List Operand} {f caps} {ds : List D} {L : List Nat} {post : D -> Prop} (hret : Fun P f ds post)
  (hf : zam (opd s fop) = some (f, caps)) (hc : zae P f = true) (hds : zcm s (args.map (opd s) ++ caps) = some (ds, L)) (hp : zay dst s)
  (hk : ∀ d, post d -> k (({ s with obs := if zaW d then s.obs else delAll s.obs L } : St).put dst d)) : CallP P Γ fop args dst s k :=
 fun _ _ _ _ => Eff.p (Eff.zwb hf hc hds hret hp hk)
theorem CallP.zxj {fop : Operand} {args : List Operand} {f caps} {ds : List D} {post : D -> List (Nat × Ob) -> Nat -> Prop} (hret : Ret P f ds s.obs s.next post)
  (hf : zam (opd s fop) = some (f, caps)) (hc : zae P f = true) (hds : args.map (opd s) ++ caps = ds) (hp : zay dst s)
  (hk : ∀ d obs' nx', s.next <= nx' -> post d obs' nx' -> k (({ s with obs := obs', next := nx' } : St).put dst d)) : CallP P Γ fop args dst s k :=
 fun _ _ _ _ => Eff.p (Eff.zwa hf hc hds hret hp hk)
end
def zco (d : D) (ret : List PanicEntry -> Prop) : Prop := match d with
 | .u (.oth (.iface t v)) => ret [{ v := .iface t v, recovered := false }]
 | _ => False
theorem EffP.panic {P Γ s k} {dst type pos after guard} {x : Operand} (h : zco (opd s x) fun ch => Γ.pan ch s) : EffP P Γ { dst, op := .panic x, type, pos, after, guard } s k := by
 intro K a w hin hs Kont Q hK hP;unfold zco at h;split at h
 ·rename_i t v hd;have hr := zaX hs x;rw [hd] at hr;have hv := zel hr;unfold Oper.wp;have : (execOp a.eval { dst, op := .panic x, type, pos, after, guard }).run P w = .halt (.panic (.iface t v)) w := by
   simp [execOp, hv]
   try rfl
  rw [this];exact hP _ K a w s hin hs h
 ·exact h.elim
def zcq (P : Program) (Γ : Ctx) (dst : Option Tmp) (op : Op) (s : St) (k : St -> Prop) : Prop :=
 match op with
 | .alloc t => zck P t s dst k
 | .box t x => zfv (opd s x) s dst k
 | .store t x y => dst = none /\ zcj P t (opd s x) (opd s y) s k
 | .buildSlice t n parts => zaw P t n (parts.toList.map fun p => (p.1, opd s p.2)) s dst k
 | .makeSlice t x y => zdg P t (opd s x) (opd s y) s dst k
 | .makeMap t none => zba P t s dst k
 | .mapUpdate t m i v => dst = none /\ zbs P t (opd s m) (opd s i) (opd s v) s k
 | .insert t m i v => dst = none /\ zbs P t (opd s m) (opd s i) (opd s v) s k
 | .range t x => match opd s x with
  | .u (.str z) => rangeS P t z s dst k
  | d => zcn P t d s dst k
 | .next x false => nextD (opd s x) s dst k
 | .next x true => nextS (opd s x) s dst k
 | .entry x => zcr (opd s x) s fun d => zay dst s /\ k (s.put dst d)
 | .panic x => zco (opd s x) fun ch => Γ.pan ch s
 | .call c => match c.callee with
  | .value f => CallP P Γ f c.args.toList dst s k
  | .builtin .append => match c.args, c.argTypes with
   | ⟨[x, y]⟩, ⟨[t, t']⟩ => t = t' /\ zbB P t (opd s x) (opd s y) s dst k
   | _, _ => False
  | _ => evPure P s op fun d => zay dst s /\ k (s.put dst d)
 | _ => evPure P s op fun d => zay dst s /\ k (s.put dst d)
theorem ze2 {P : Program} {Γ : Ctx} {o : Oper} {s : St} {k : St -> Prop} (h : zcq P Γ o.dst o.op s k) : EffP P Γ o s k := by
 obtain ⟨dst, op, type, pos, after, guard⟩ := o;simp only at h;cases op
 case alloc t => exact Eff.p (Eff.alloc rfl h)
 case box t x => exact Eff.p (Eff.box rfl h)
 case store t x y =>
  obtain ⟨h1, h2⟩ := h;exact Eff.p (Eff.store rfl h1 h2)
 case buildSlice t n parts => exact Eff.p (Eff.buildSlice rfl h)
 case makeSlice t x y => exact Eff.p (Eff.make rfl h)
 case makeMap t r =>
  cases r with
  | none => exact Eff.p (Eff.makeMap rfl h)
  | some r => exact Eff.p (Eff.pure h)
 case mapUpdate t m i v =>
  obtain ⟨h1, h2⟩ := h;exact Eff.p (Eff.mapUpdate (.inl rfl) h1 h2)
 case insert t m i v =>
  obtain ⟨h1, h2⟩ := h;exact Eff.p (Eff.mapUpdate (.inr rfl) h1 h2)
 case range t x =>
  simp only [zcq] at h;split at h
  ·rename_i z hz;exact Eff.p (Eff.rangeS rfl hz h)
  ·rename_i hz;exact Eff.p (Eff.range rfl h)
 case next x b =>
  cases b with
  | false => exact Eff.p (Eff.next rfl h)
  | true => exact Eff.p (Eff.nextS rfl h)
 case entry x => exact Eff.p (Eff.entry rfl h)
 case call c =>
  obtain ⟨callee, args, ts⟩ := c;cases callee
  case value f =>
   obtain ⟨args⟩ := args;exact h ts type pos after
  case invoke r m => exact Eff.p (Eff.pure h)
  case builtin b =>
   cases b
   case append =>
    simp only [zcq] at h;split at h
    ·obtain ⟨rfl, h⟩ := h;exact Eff.p (Eff.append rfl h)
    ·exact h.elim
   all_goals exact Eff.p (Eff.pure h)
 case panic x => exact EffP.panic h
 all_goals exact Eff.p (Eff.pure h)
theorem zlT {P : Program} {Γ : Ctx} {o : Oper} {s : St} {k : St -> Prop} (h : zcq P Γ o.dst o.op s k) (_ : o.guard = none) : EffP P Γ o s k := ze2 h
def zc2 (P : Program) (Γ : Ctx) (o : O1) (rest : List O1) (s : St) (k : St -> Prop) : Prop :=
 match o.guard with
 | none => zcq P Γ o.dst o.op s fun s' => H P Γ rest s' k
 | some (t, want) => match getK s.env t with
  | some (.u (.bool b)) => zay o.dst s /\
    (b = want -> zcq P Γ o.dst o.op (s.put (some t) (.u (.bool want))) fun s' => H P Γ rest s' k) /\
    (b = !want -> H P Γ rest ((s.put (some t) (.u (.bool (!want)))).put o.dst .un) k)
  | some (.u (.oth v)) => v = undef /\ zay o.dst s /\ H P Γ rest (s.put o.dst .un) k
  | _ => False
theorem zgo {all : Array Oper} {ops : List Oper} {o : O1} {rest : List O1} (h : zbz all ops = some (o :: rest)) :
  ∃ op ops', ops = op :: ops' /\ zda all op = some o /\ zbz all ops' = some rest := by
 cases ops with
 | nil => simp [zbz] at h
 | cons x l =>
  simp only [zbz] at h;split at h
  ·grind
  ·cases h
theorem zcz {P Γ s k} (h : k s) : H P Γ [] s k := fun all ops e => by
 cases ops with
 | nil => exact zw8 h
 | cons x l => simp only [zbz] at e; split at e <;> simp at e
theorem Eff.mono {P Γ o s} {k k' : St -> Prop} (h : Eff P Γ o s k) (hk : ∀ s, k s -> k' s) : Eff P Γ o s k' :=
 fun K a w hin hs Kont Q hK => h K a w hin hs Kont Q fun K' a' w' s' h1 h2 h3 => hK K' a' w' s' h1 h2 (hk s' h3)
theorem EffP.mono {P Γ o s} {k k' : St -> Prop} (h : EffP P Γ o s k) (hk : ∀ s, k s -> k' s) : EffP P Γ o s k' :=
 fun K a w hin hs Kont Q hK hP => h K a w hin hs Kont Q (fun K' a' w' s' h1 h2 h3 => hK K' a' w' s' h1 h2 (hk s' h3)) hP
theorem zbu {P Γ o rest s k} (h : zc2 P Γ o rest s k) : H P Γ (o :: rest) s k := by
 intro all ops e;obtain ⟨x, ops', rfl, hx, hr⟩ := zgo e;obtain ⟨dst, op, type, pos, after, guard⟩ := x;unfold zda at hx;unfold zc2 at h;simp only at hx;cases guard with
 | none =>
  simp at hx;subst hx;simp only at h;exact zot ((zlT (o := { dst, op, type, pos, after, guard := none }) h rfl).mono fun s' h => h all ops' hr)
 | some g =>
  obtain ⟨j, b⟩ := g;simp only at hx;split at hx
  ·rename_i t ht;simp at hx;subst hx;simp only at h;split at h
   ·rename_i b' hb;obtain ⟨hp, hy, hn⟩ := h;refine zsv ht hb hp (fun e => ?_) (fun e => hn e all ops' hr);exact zot ((zlT (o := { dst, op, type, pos, after, guard := none }) (hy e) rfl).mono fun s' h => h all ops' hr)
   ·rename_i v hb;obtain ⟨rfl, hp, hn⟩ := h;exact zos ht hb hp (hn all ops' hr)
   ·exact h.elim
  ·cases hx
theorem zmp {P Γ s} {Q : Exit -> St -> Prop} {kt : Kt} {id : Nat} {l : List Oper}
  (h : ∀ k : St -> Prop, (∀ s', zbf P Γ Q kt .normal s' -> k s') -> match zbz l.toArray l with | some l' => H P Γ l' s k | none => False) : V P Γ (.region id l.toArray false) s (zbf P Γ Q kt) := by
 refine zun ?_;have := h _ fun _ h => h;split at this
 ·rename_i l' hl;exact this _ _ hl
 ·exact this.elim
theorem zsq {P Γ c s Q} {A : Prop} (hA : ∀ K a w, Sim K Γ.own s a w -> A) (h : A -> V P Γ c s Q) : V P Γ c s Q := fun K a w hin hs => h (hA K a w hs) K a w hin hs
theorem zhK {P Γ c s Q} {x : Nat} {rows : List (List U)} (hx : getK s.env x = some (.u (.sl rows))) (h : rows.length <= 9223372036854775807 -> V P Γ c s Q) : V P Γ c s Q :=
 zsq (fun K a w hs => by
  have hr := (hs.getK hx).2;cases hr with
  | u _ _ hr =>
   generalize a.tmps.getD x undef = v at hr;cases hr with
   | slE => simp
   | sl _ b o sz c f hc hcx => unfold maxLen at hcx; omega) h
end Go.VL
namespace Go.VL
open Go
def Lin {α : Type} (T : (α -> Prop) -> Prop) : Prop := (∀ r r' : α -> Prop, (∀ d, r d -> r' d) -> T r -> T r') /\ ∀ r, T r -> ∃ d, T (· = d) /\ r d
theorem Lin.ret {α : Type} (d : α) : Lin fun r : α -> Prop => r d := ⟨fun _ _ h => h d, fun _ h => ⟨d, rfl, h⟩⟩
theorem Lin.za4 {α : Type} : Lin fun _ : α -> Prop => False := ⟨fun _ _ _ h => h, fun _ h => h.elim⟩
theorem Lin.and {α : Type} {A : Prop} {T : (α -> Prop) -> Prop} (h : Lin T) : Lin fun r => A /\ T r :=
 ⟨fun _ _ hr ⟨a, t⟩ => ⟨a, h.1 _ _ hr t⟩, fun _ ⟨a, t⟩ => let ⟨d, h1, h2⟩ := h.2 _ t; ⟨d, ⟨a, h1⟩, h2⟩⟩
theorem Lin.zCZ {α : Type} {A : Prop} {T : (α -> Prop) -> Prop} (h : Lin T) : Lin fun r => T r /\ A :=
 ⟨fun _ _ hr ⟨t, a⟩ => ⟨h.1 _ _ hr t, a⟩, fun _ ⟨t, a⟩ => let ⟨d, h1, h2⟩ := h.2 _ t; ⟨d, ⟨h1, a⟩, h2⟩⟩
theorem Lin.ex {α β : Type} {T : β -> (α -> Prop) -> Prop} (h : ∀ b, Lin (T b)) : Lin fun r => ∃ b, T b r :=
 ⟨fun _ _ hr ⟨b, t⟩ => ⟨b, (h b).1 _ _ hr t⟩, fun _ ⟨b, t⟩ => let ⟨d, h1, h2⟩ := (h b).2 _ t; ⟨d, ⟨b, h1⟩, h2⟩⟩
theorem Lin.map {α β : Type} {T : (α -> Prop) -> Prop} (h : Lin T) (f : α -> β) : Lin fun r : β -> Prop => T fun a => r (f a) :=
 ⟨fun _ _ hr t => h.1 _ _ (fun a => hr (f a)) t, fun _ t => let ⟨d, h1, h2⟩ := h.2 _ t; ⟨f d, h.1 _ _ (fun _ e => congrArg f e) h1, h2⟩⟩
theorem Lin.arith {k n} : Lin (arith k n) := by
 unfold VL.arith;split <;> first | exact (Lin.ret _).and | exact Lin.ret _
theorem Lin.binI {op k a b} : Lin (binI op k a b) := by
 unfold VL.binI;split <;> first | exact Lin.arith | exact Lin.arith.and | exact (Lin.ret _).and | exact Lin.ret _ | exact Lin.za4
theorem Lin.binS {op a b} : Lin (binS op a b) := by
 unfold VL.binS;split <;> first | exact (Lin.ret _).and | exact Lin.ret _ | exact Lin.za4
theorem Lin.binB {P op t a b} : Lin (binB P op t a b) := by
 unfold VL.binB;refine Lin.and ?_;split <;> first | exact Lin.ret _ | exact Lin.za4
theorem Lin.shiftI {op k a b} : Lin (shiftI op k a b) := by
 unfold VL.shiftI;refine Lin.and ?_;split <;> first | exact Lin.arith | exact Lin.ret _ | exact Lin.za4
theorem Lin.nilD {op b} : Lin (nilD op b) := by
 unfold VL.nilD;split <;> first | exact Lin.ret _ | exact Lin.za4
theorem Lin.aggD {P op t xs ys} : Lin (aggD P op t xs ys) := by
 unfold VL.aggD;split
 ·split
  ·exact Lin.nilD
  ·exact Lin.za4
 ·exact Lin.za4
theorem Lin.binD {P op t x y} : Lin (binD P op t x y) := by
 unfold VL.binD;split <;> first | exact (Lin.nilD.map _).and | exact Lin.aggD.map _ | exact Lin.shiftI.map _ | exact (Lin.binI.map _).and | exact Lin.binS.map _ | exact Lin.binB.map _ | exact Lin.za4
theorem Lin.unD {op x} : Lin (unD op x) := by
 unfold VL.unD;split <;> first | exact Lin.arith.map _ | exact Lin.ret _ | exact Lin.za4
theorem Lin.convD {P a b x} : Lin (convD P a b x) := by
 unfold VL.convD;split
 ·refine Lin.and ?_;split <;> first | exact Lin.arith.map _ | exact Lin.za4
 ·exact (Lin.ret _).and.and
 ·exact Lin.za4
theorem Lin.cellsAt {α : Type} {cells : List α} {off l} {f : α -> D} {g : List α -> D} : Lin fun r : D -> Prop => cellsAt cells off l (fun a => r (f a)) (fun a => r (g a)) := by
 unfold VL.cellsAt;split
 ·exact Lin.ex fun _ => (Lin.ret _).and
 ·exact (Lin.ret _).and
theorem Lin.loadD {P s t x} : Lin (loadD P s t x) := by
 unfold VL.loadD;split
 ·exact Lin.za4
 ·split
  ·exact Lin.cellsAt (f := fun u => .u u) (g := fun u => .u (.agg u))
  ·split
   ·exact Lin.cellsAt (f := id) (g := zcW)
   ·exact Lin.za4
  ·split
   ·exact Lin.and (Lin.ex fun _ => Lin.and (Lin.cellsAt (f := id) (g := zcW)))
   ·exact Lin.za4
  ·exact Lin.za4
theorem Lin.fieldAddrD {P t x f} : Lin (fieldAddrD P t x f) := by
 unfold VL.fieldAddrD;split
 ·exact Lin.za4
 ·split <;> first | exact Lin.ret _ | exact Lin.za4
theorem Lin.fieldD {P t x f} : Lin (fieldD P t x f) := by
 unfold VL.fieldD;split
 ·exact Lin.za4
 ·split
  ·exact Lin.cellsAt (f := fun u => .u u) (g := fun u => .u (.agg u))
  ·exact Lin.cellsAt (f := id) (g := zcW)
  ·exact Lin.za4
theorem Lin.indexSlD {P s t x i} : Lin (indexSlD P s t x i) := by
 unfold VL.indexSlD;split
 ·split
  ·exact Lin.and (Lin.ex fun _ => Lin.and (Lin.and (Lin.ret _)))
  ·exact Lin.and (Lin.and (Lin.zCZ (Lin.ret _)))
  ·exact Lin.za4
 ·exact Lin.za4
theorem Lin.indexAddrD {P s t x i} : Lin (indexAddrD P s t x i) := by
 unfold VL.indexAddrD VL.arrAddr;split
 ·split
  ·exact Lin.and (Lin.and (Lin.ret _))
  ·exact Lin.za4
 ·split
  ·exact Lin.and (Lin.and (Lin.ret _))
  ·exact Lin.za4
 ·exact Lin.indexSlD
theorem Lin.indexD {P t x i} : Lin (indexD P t x i) := by
 unfold VL.indexD;split
 ·exact ((Lin.ex fun _ => (Lin.ret _).and).and).and
 ·exact ((Lin.ex fun _ => (Lin.ret _).and).and).and
 ·exact Lin.za4
theorem Lin.lookR {ag z r ok} : Lin (lookR ag z r ok) := by
 unfold VL.lookR;split
 ·split <;> first | exact Lin.ret _ | exact Lin.za4
 ·split <;> first | exact Lin.ret _ | exact Lin.za4
theorem Lin.lookD {P s t x i ok} : Lin (lookD P s t x i ok) := by
 unfold VL.lookD;split
 ·split
  ·exact Lin.and (Lin.and (Lin.and Lin.lookR))
  ·exact Lin.za4
 ·split
  ·exact Lin.and (Lin.and (Lin.and Lin.lookR))
  ·exact Lin.za4
 ·exact Lin.za4
theorem Lin.cutD {n lo hi} {T : Nat -> Nat -> (D -> Prop) -> Prop} (h : ∀ a b, Lin (T a b)) : Lin fun r => cutD n lo hi fun a b => T a b r := by
 unfold VL.cutD;split <;> first | exact h _ _ | exact (h _ _).and | exact Lin.za4
theorem Lin.sliceD {P s t x lo hi} : Lin (sliceD P s t x lo hi) := by
 unfold VL.sliceD;split
 ·exact Lin.and (Lin.cutD fun a b => Lin.ret _)
 ·split
  ·exact Lin.and (Lin.cutD fun a b => Lin.ret _)
  ·exact Lin.za4
 ·split
  ·exact Lin.and (Lin.and (Lin.cutD fun a b => Lin.and (Lin.ret _)))
  ·exact Lin.za4
 ·exact Lin.and (Lin.and (Lin.and (Lin.and (Lin.ret _))))
 ·exact Lin.za4
theorem Lin.lenD {P s t x} : Lin (lenD P s t x) := by
 unfold VL.lenD;split
 ·exact (Lin.ret _).and
 ·exact (Lin.ret _).and
 ·exact (Lin.ret _).and
 ·refine Lin.and ?_;split <;> first | exact (Lin.ret _).and | exact Lin.za4
 ·exact Lin.za4
theorem Lin.minmaxD {b l} : Lin (minmaxD b l) := by
 unfold VL.minmaxD;split
 ·exact (Lin.ret _).and
 ·exact (Lin.ret _).and.and
 ·exact Lin.za4
theorem Lin.makeFuncD {f first caps} : Lin (makeFuncD f first caps) := by
 unfold VL.makeFuncD;split
 ·exact Lin.ret _
 ·exact Lin.ret _
 ·exact Lin.za4
theorem Lin.nilCheckD {x} : Lin (nilCheckD x) := by
 unfold VL.nilCheckD;split <;> first | exact Lin.ret _ | exact Lin.za4
theorem Lin.fillD {places} : ∀ {parts : List (Nat × D)} {cs : List D}, Lin (fillD places parts cs)
 | [], cs => Lin.ret _
 | (f, d) :: rest, cs => by
  rw [show VL.fillD places ((f, d) :: rest) cs = fun k => match places[f]?, zb0 d with
     | some (off, n), some new => new.length = n /\ off + n <= cs.length /\ VL.fillD places rest (setAll cs off new) k
     | _, _ => False from rfl]
  split
  ·exact Lin.and (Lin.and Lin.fillD)
  ·exact Lin.za4
theorem Lin.buildD {P t parts} : Lin (buildD P t parts) := by
 unfold VL.buildD;split
 ·exact Lin.fillD.map _
 ·exact Lin.za4
theorem Lin.makeIfD {P t x} : Lin (makeIfD P t x) := by
 unfold VL.makeIfD;split
 ·split
  ·exact (Lin.ret _).and
  ·exact Lin.za4
 ·exact Lin.za4
theorem Lin.typeAssertD {P x t ok} : Lin (typeAssertD P x t ok) := by
 unfold VL.typeAssertD;split
 ·exact (((Lin.ret _).and).and).and
 ·exact ((Lin.ex fun _ => ((Lin.ret _).and).and).and).and
 ·exact Lin.za4
theorem Lin.evPure {P s op} : Lin (evPure P s op) := by
 unfold VL.evPure;split
 ·exact Lin.ret _
 ·exact Lin.ret _
 ·split <;> first | exact Lin.ret _ | exact Lin.za4
 ·exact Lin.loadD
 ·exact Lin.binD
 ·exact Lin.unD
 ·exact Lin.convD
 ·exact Lin.fieldAddrD
 ·exact Lin.fieldD
 ·exact Lin.indexAddrD
 ·exact Lin.indexD
 ·exact Lin.lookD
 ·exact Lin.sliceD
 ·split
  ·exact Lin.ex fun _ => (Lin.ret _).and
  ·exact Lin.za4
 ·exact Lin.nilCheckD
 ·exact Lin.makeFuncD
 ·exact Lin.buildD
 ·exact Lin.makeIfD
 ·exact Lin.typeAssertD
 ·split
  ·split <;> first | exact Lin.lenD | exact Lin.za4
  ·exact Lin.minmaxD
  ·exact Lin.minmaxD
  ·exact Lin.za4
 ·exact Lin.za4
end Go.VL
namespace Go.VL
open Go
def zuS (P : Program) (s : St) (fop : Operand) (args : List Operand) (d : D) : Prop :=
 ∃ f caps ds L, zam (opd s fop) = some (f, caps) /\ zae P f = true /\ zcm s (args.map (opd s) ++ caps) = some (ds, L) /\ Fun P f ds (· = d) /\ (zaW d = true \/ L = [])
def CallV (P : Program) (s : St) (fop : Operand) (args : List Operand) (ret : D -> Prop) : Prop := ∃ d, zuS P s fop args d /\ ret d
theorem CallV.fun_ {P s} {fop : Operand} {args : List Operand} {ret : D -> Prop} {f caps} {ds : List D} {L : List Nat} {d : D} (hret : Fun P f ds (· = d)) (hf : zam (opd s fop) = some (f, caps)) (hc : zae P f = true)
  (hds : zcm s (args.map (opd s) ++ caps) = some (ds, L)) (hs : zaW d = true \/ L = []) (hk : ret d) : CallV P s fop args ret := ⟨d, ⟨f, caps, ds, L, hf, hc, hds, hret, hs⟩, hk⟩
theorem Lin.zyd {P s fop args} : Lin (CallV P s fop args) :=
 ⟨fun _ _ hr ⟨d, h1, h2⟩ => ⟨d, h1, hr d h2⟩, fun _ ⟨d, h1, h2⟩ => ⟨d, ⟨d, h1, rfl⟩, h2⟩⟩
def valD (P : Program) (s : St) (op : Op) (ret : D -> Prop) : Prop :=
 match op with
 | .call c => match c.callee with
  | .value f => CallV P s f c.args.toList ret
  | _ => evPure P s op ret
 | _ => evPure P s op ret
theorem Lin.valD {P s op} : Lin (valD P s op) := by
 unfold VL.valD;split
 ·split
  ·exact Lin.zyd
  ·exact Lin.evPure
 ·exact Lin.evPure
theorem zsO {P Γ s} {o : Oper} {d : D} (h : valD P s o.op (· = d)) {K : Kr} {a : Act} {w : World} (hin : In Γ K w) (hs : Sim K Γ.own s a w) {Kont : Act -> World -> Prop} {Q : Exit -> Act -> World -> Prop}
  (hK : ∀ K' v w', In Γ K' w' -> K.le K' -> K'.hdr = K.hdr -> Sat K' Γ.own s.obs w' -> Rep K' d v -> Kont (a.put o.dst v) w') : o.wp P a w Kont Q := by
 have pure : evPure P s o.op (· = d) -> o.wp P a w Kont Q := fun h => by
  obtain ⟨_, rfl, v, hv, hr⟩ := zl7 h K Γ.own a w hs;unfold Oper.wp;rw [hv];exact hK K v w hin (.refl _) rfl hs.sat hr
 obtain ⟨dst, op, type, pos, after, guard⟩ := o;unfold valD at h;simp only at h;split at h
 ·rename_i c;obtain ⟨callee, args, ts⟩ := c;simp only at h;split at h
  ·obtain ⟨_, ⟨f', caps, ds, L, h1, h2, h3, h4, h5⟩, rfl⟩ := h;refine zhO h1 h2 h3 h4 hin hs fun K' v d' w' g1 g2 g3 g4 g5 g6 => ?_;subst g6;refine hK K' v w' g1 g2 g3 ?_ g5;rcases h5 with h5 | rfl
   ·rw [if_pos h5] at g4; exact g4
   ·by_cases hsc : zaW d' = true
    ·rw [if_pos hsc] at g4; exact g4
    ·rw [if_neg hsc] at g4; exact g4
  ·exact pure h
 ·exact pure h
theorem znr {s s' : St} (h : s.obs = s'.obs) (ds : List D) : zcm s ds = zcm s' ds := by
 unfold zcm;rw [h]
theorem zm7 {P} {s s' : St} (h : s.obs = s'.obs) (t : TypeId) (x : D) (r : D -> Prop) : loadD P s t x r = loadD P s' t x r := by unfold loadD; rw [h]
theorem zhW {P} {s s' : St} (h : s.obs = s'.obs) (t : TypeId) (x i : D) (r : D -> Prop) : indexAddrD P s t x i r = indexAddrD P s' t x i r := by unfold indexAddrD indexSlD; rw [h]
theorem zlh {P} {s s' : St} (h : s.obs = s'.obs) (t : TypeId) (x : D) (a b : Option D) (r : D -> Prop) : sliceD P s t x a b r = sliceD P s' t x a b r := by unfold sliceD; rw [h]
theorem zo4 {P} {s s' : St} (h : s.obs = s'.obs) (t : TypeId) (x : D) (r : D -> Prop) : lenD P s t x r = lenD P s' t x r := by unfold lenD; rw [h]
theorem zm6 {P} {s s' : St} (h : s.obs = s'.obs) (t : TypeId) (x i : D) (ok : Bool) (r : D -> Prop) : lookD P s t x i ok r = lookD P s' t x i ok r := by unfold lookD; rw [h]
theorem zhN {P} {s s' : St} {op : Op} {r : D -> Prop} (h : s.obs = s'.obs) (hx : ∀ x ∈ op.operands, opd s x = opd s' x) : evPure P s op r = evPure P s' op r := by
 cases op <;> simp only [Op.operands] at hx <;> unfold evPure <;> (try simp only)
 case move x => rw [hx x (by simp)]
 case assign x => rw [hx x (by simp)]
 case pick c a b => rw [hx c (by simp), hx a (by simp), hx b (by simp)]
 case load t x => rw [hx x (by simp), zm7 h]
 case binOp op t x y _ => rw [hx x (by simp), hx y (by simp)]
 case unOp op _ x => rw [hx x (by simp)]
 case convert a b x => rw [hx x (by simp)]
 case fieldAddr t x f => rw [hx x (by simp)]
 case field t x f => rw [hx x (by simp)]
 case indexAddr t x i => rw [hx x (by simp), hx i (by simp), zhW h]
 case index t x i => rw [hx x (by simp), hx i (by simp)]
 case lookup t x i ok => rw [hx x (by simp), hx i (by simp), zm6 h]
 case slice t x lo hi mx =>
  have e1 : lo.map (opd s) = lo.map (opd s') := by cases lo <;> simp_all
  have e2 : hi.map (opd s) = hi.map (opd s') := by cases hi <;> simp_all
  cases mx with
  | none => simp only; rw [hx x (by simp), e1, e2, zlh h]
  | some m => rfl
 case extract x i => rw [hx x (by simp)]
 case nilCheck x => rw [hx x (by simp)]
 case makeInterface t x => rw [hx x (by simp)]
 case typeAssert x xt t ok => rw [hx x (by simp)]
 case makeFunc f first caps =>
  have e : caps.toList.map (opd s) = caps.toList.map (opd s') := List.map_congr_left fun x hm => hx x (by simp; exact .inr (by simpa using hm));have e2 : first.toList.map (opd s) = first.toList.map (opd s') := List.map_congr_left fun x hm => hx x (by simp; exact .inl (by simpa using hm))
  rw [e, e2]
 case build t parts =>
  have e : (parts.toList.map fun p => (p.1, opd s p.2)) = (parts.toList.map fun p => (p.1, opd s' p.2)) := List.map_congr_left fun p hm => by grind
  rw [e]
 case call c =>
  obtain ⟨callee, args, ts⟩ := c;cases callee with
  | value f => rfl
  | invoke r m => rfl
  | builtin b =>
   have e : args.toList.map (opd s) = args.toList.map (opd s') := List.map_congr_left fun x hm => hx x (by simp [Call.operands]; simpa using hm);cases b <;> simp only <;> try rfl
   case len =>
    obtain ⟨args⟩ := args;obtain ⟨ts⟩ := ts
    match args, ts with
    | [x], [t] => simp only; rw [hx x (by simp [Call.operands]), zo4 h]
    | [], _ => rfl
    | _ :: _ :: _, _ => rfl
    | [_], [] => rfl
    | [_], _ :: _ :: _ => rfl
   case min => rw [e]
   case max => rw [e]
theorem zoy {P} {s s' : St} {op : Op} {r : D -> Prop} (h : s.obs = s'.obs) (hx : ∀ x ∈ op.operands, opd s x = opd s' x) : valD P s op r = valD P s' op r := by
 unfold valD;split
 ·rename_i c;obtain ⟨callee, args, ts⟩ := c;simp only;split
  ·rename_i f;have e : args.toList.map (opd s) = args.toList.map (opd s') := List.map_congr_left fun x hm => hx x (by simp [Op.operands, Call.operands]; exact .inr (by simpa using hm));have ef : opd s f = opd s' f := hx f (by simp [Op.operands, Call.operands]);unfold CallV zuS;simp only [e, ef, znr h]
  ·exact zhN h hx
 ·exact zhN h hx
def zgY (T : Nat -> D) (S : Nat -> Bool) : List Oper -> Nat -> List (Nat × D) -> List (Nat × D)
 | [], _, e => e
 | o :: l, i, e => zgY T S l (i + 1) (if S i then match o.dst with | some x => (x, T i) :: e | none => e else e)
theorem zej (T : Nat -> D) (S S' : Nat -> Bool) (t : Nat) : ∀ (l : List Oper) (i : Nat) (e e' : List (Nat × D)), getK e t = getK e' t ->
  (∀ j o, l[j]? = some o -> o.dst = some t -> S (i + j) = S' (i + j)) -> getK (zgY T S l i e) t = getK (zgY T S' l i e') t
 | [], i, e, e', he, _ => he
 | o :: l, i, e, e', he, h => by
  simp only [zgY];refine zej T S S' t l (i + 1) _ _ ?_ (fun j o' hj ho => ?_)
  ·cases hd : o.dst with
   | none => simp [he]
   | some x =>
    simp only;by_cases hx : x = t
    ·subst hx;have := h 0 o rfl hd;simp only [Nat.add_zero] at this;rw [this];split
     ·simp [zaa]
     ·exact he
    ·have key : ∀ (b : Bool) (f : List (Nat × D)), getK (if b then (x, T i) :: f else f) t = getK f t := fun b f => by
      cases b
      ·rfl
      ·simp [zaa, Ne.symm hx]
     rw [key, key, he]
  ·have := h (j + 1) o' (by simpa using hj) ho;rw [show i + 1 + j = i + (j + 1) by omega];exact this
theorem zoh (T : Nat -> D) (S : Nat -> Bool) (i : Nat) (x : Nat) : ∀ (l : List Oper) (i0 : Nat) (e : List (Nat × D)) (k : Nat) (o : Oper), l[k]? = some o -> i0 + k = i -> o.dst = some x ->
  (∀ j o', l[j]? = some o' -> k < j -> o'.dst = some x -> S (i0 + j) = false) -> getK (zgY T (fun j => S j || j == i) l i0 e) x = some (T i)
 | [], i0, e, k, o, hk, _, _, _ => by simp at hk
 | p :: l, i0, e, 0, o, hk, hi, hd, h => by
  simp at hk hi;subst hk;subst hi;simp only [zgY, hd, beq_self_eq_true, Bool.or_true, if_true];have hf : ∀ j o', l[j]? = some o' -> o'.dst = some x -> (S (i0 + 1 + j) || (i0 + 1 + j == i0)) = false := fun j o' hj ho => by
   have := h (j + 1) o' (by simpa using hj) (by omega) ho;rw [show i0 + 1 + j = i0 + (j + 1) by omega, this];simp
  have := zej T (fun j => S j || j == i0) (fun _ => false) x l (i0 + 1) ((x, T i0) :: e) ((x, T i0) :: e) rfl (fun j o' hj ho => hf j o' hj ho);rw [this];have none : ∀ (l : List Oper) (i : Nat) (e : List (Nat × D)), zgY T (fun _ => false) l i e = e := by
   intro l
   induction l with
   | nil => intro i e; rfl
   | cons o l ih => intro i e; simp [zgY, ih]
  rw [none];simp [zaa]
 | p :: l, i0, e, k + 1, o, hk, hi, hd, h => by
  simp only [zgY];exact zoh T S i x l (i0 + 1) _ k o (by simpa using hk) (by omega) hd fun j o' hj hlt ho => by
   have := h (j + 1) o' (by simpa using hj) (by omega) ho;rw [show i0 + 1 + j = i0 + (j + 1) by omega];exact this
def zeP (o : Oper) : List Nat := (o.after.toList.filter (Region.binds .any ·)).map (·.on)
def zgD (ops : List Oper) : Nat -> Nat -> Nat -> Bool
 | 0, _, _ => false
 | n + 1, i, j => match ops[j]? with
  | some o => (zeP o).any fun p => p == i || zgD ops n i p
  | none => false
def ziB (all : Array Oper) (x y : Oper) : Bool :=
 match x.dst with
 | some d => (y.looksAt all).contains d || y.dst == some d
 | none => false
def zoQ (ops : List Oper) : Bool :=
 let all := ops.toArray
 let n := ops.length
 (List.range n).all fun j => match ops[j]? with
   | none => true
   | some y => (zeP y).all (fun p => decide (p < j)) && (match y.op with | .select .. => false | _ => true) && (List.range j).all fun i => match ops[i]? with
    | none => true
    | some x => !(ziB all x y || ziB all y x) || zgD ops n i j
section
variable {ops : List Oper} (hord : zoQ ops = true)
include hord
theorem zh4 {j y} (hj : ops[j]? = some y) : (∀ p ∈ zeP y, p < j) /\ (∀ cs b, y.op ≠ .select cs b) /\ ∀ i x, i < j -> ops[i]? = some x -> ziB ops.toArray x y = true \/ ziB ops.toArray y x = true -> zgD ops ops.length i j = true := by
 have hlt := (List.getElem?_eq_some_iff.1 hj).1;have h := (List.all_eq_true.1 hord) j (List.mem_range.2 hlt);simp only [hj, Bool.and_eq_true] at h;obtain ⟨⟨h1, h2⟩, h3⟩ := h;refine ⟨fun p hp => by simpa using (List.all_eq_true.1 h1) p hp, fun cs b e => (by rw [e] at h2; cases h2), fun i x hij hi hm => ?_⟩;have h := (List.all_eq_true.1 h3) i (List.mem_range.2 hij);simp only [hi] at h;rcases hm with hm | hm <;> simpa [hm] using h
omit hord in
theorem zhH {S : Nat -> Bool} (hc : ∀ j y, ops[j]? = some y -> S j = true -> ∀ p ∈ zeP y, S p = true) : ∀ (n i j : Nat) (y : Oper), ops[j]? = some y -> (∀ p ∈ zeP y, S p = true) -> zgD ops n i j = true -> S i = true
 | 0, _, _, _, _, _, h => by simp [zgD] at h
 | n + 1, i, j, y, hj, hp, h => by
  simp only [zgD, hj, List.any_eq_true] at h;obtain ⟨p, hpm, h⟩ := h;have hS := hp p hpm;simp only [Bool.or_eq_true, beq_iff_eq] at h;rcases h with rfl | h
  ·exact hS
  ·cases hy : ops[p]? with
   | none =>
    exfalso;cases n with
    | zero => simp [zgD] at h
    | succ n => simp [zgD, hy] at h
   | some y' => exact zhH hc n i p y' hy (hc p y' hy hS) h
end
def St.Eqv (s s' : St) : Prop := s.n = s'.n /\ s.obs = s'.obs /\ s.next = s'.next /\ ∀ x, getK s.env x = getK s'.env x
theorem St.Eqv.refl (s : St) : s.Eqv s := ⟨rfl, rfl, rfl, fun _ => rfl⟩
theorem St.Eqv.trans {a b c : St} (h : a.Eqv b) (g : b.Eqv c) : a.Eqv c := ⟨h.1.trans g.1, h.2.1.trans g.2.1, h.2.2.1.trans g.2.2.1, fun x => (h.2.2.2 x).trans (g.2.2.2 x)⟩
theorem St.Eqv.put {s s' : St} (h : s.Eqv s') (x : Option Tmp) (d : D) : (s.put x d).Eqv (s'.put x d) := by
 cases x with
 | none => exact h
 | some x => exact ⟨h.1, h.2.1, h.2.2.1, fun y => by simp only [St.put, zaa, h.2.2.2 y]⟩
def zCX (P : Program) (s : St) (o : O1) (d : D) : Prop :=
 match o.guard with
 | none => valD P s o.op (· = d)
 | some (t, want) => (∃ b, getK s.env t = some (.u (.bool b)) /\ if b = want then valD P s o.op (· = d) else d = .un) \/ (getK s.env t = some .un /\ d = .un)
def chain (P : Program) : List O1 -> St -> (St -> Prop) -> Prop
 | [], s, k => k s
 | o :: rest, s, k => ∃ d, zay o.dst s /\ zCX P s o d /\ chain P rest (s.put o.dst d) k
def HD (P : Program) (l : List O1) (s : St) (k : St -> Prop) : Prop := ∀ s0 : St, s0.Eqv s -> chain P l s0 fun s1 => ∃ s', s1.Eqv s' /\ k s'
theorem zl9 (T : Nat -> D) (i : Nat) : ∀ (l : List Oper) (i0 : Nat) (e : List (Nat × D)) (o : Oper), i0 <= i -> l[i - i0]? = some o ->
  zgY T (fun j => decide (j < i + 1)) l i0 e = match o.dst with | some x => (x, T i) :: zgY T (fun j => decide (j < i)) l i0 e | none => zgY T (fun j => decide (j < i)) l i0 e
 | [], i0, e, o, _, h => by simp at h
 | p :: l, i0, e, o, hi, h => by
  have stop : ∀ (l : List Oper) (m i0 : Nat) (e : List (Nat × D)), m <= i0 -> zgY T (fun j => decide (j < m)) l i0 e = e := by
   intro l
   induction l with
   | nil => intro m i0 e _; rfl
   | cons q l ih =>
    intro m i0 e hm;simp only [zgY];rw [if_neg (by simp; omega)];exact ih m (i0 + 1) e (by omega)
  by_cases he : i0 = i
  ·simp_all [zgY]
  ·simp only [zgY];have h1 : decide (i0 < i + 1) = true := by simp; omega
   have h2 : decide (i0 < i) = true := by simp; omega
   rw [if_pos h1, if_pos h2];have : i - i0 = (i - (i0 + 1)) + 1 := by omega
   rw [this, List.getElem?_cons_succ] at h;exact zl9 T i l (i0 + 1) _ o (by omega) h
end Go.VL
namespace Go.VL
open Go
theorem Fun.of_body {P f fn c ds post} (hf : P.funcs[f]? = some fn) (hb : fn.body = some c) (hn : ds.length <= fn.ntmps)
  (h : ∀ Γ : Ctx, Γ.n0 = 0 -> V P Γ c (entry ds fn.ntmps [] 0) (zbf P Γ (EndOK P fn 0 fun d _ _ => zbC d = true /\ post d) .done)) : Fun P f ds post := Ret.of_body hf hb hn h
theorem Fun.mono {P f ds} {p q : D -> Prop} (h : Fun P f ds p) (hq : ∀ d, p d -> q d) : Fun P f ds q := fun k own w vs h1 h2 h3 h4 =>
 Calls.mono (h k own w vs h1 h2 h3 h4) fun _ _ ⟨v, d, o, n, k', e, a, b, c, g, r, hp, hpost⟩ => ⟨v, d, o, n, k', e, a, b, c, g, r, hp, hq d hpost⟩
end Go.VL
namespace Go.VL
open Go
end Go.VL
namespace Go.VL
open Go
def D.ids : D -> List Nat
 | .ptr i _ => [i]
 | .vec i _ => [i]
 | .elt i _ _ _ => [i]
 | .mp i => [i]
 | _ => []
def zcu : Op -> Bool
 | .move _ | .assign _ | .pick .. | .binOp .. | .unOp .. | .convert .. | .fieldAddr .. | .field .. | .extract .. | .nilCheck .. | .makeFunc .. | .build .. | .index .. => true
 | .call c => match c.callee with | .builtin .min => true | .builtin .max => true | _ => false
 | _ => false
def zbG (s : St) (f : Operand) (args : List Operand) : List Nat :=
 match zam (opd s f) with
 | some (_, caps) => match zcm s (args.map (opd s) ++ caps) with
  | some (_, l) => l
  | none => []
 | none => []
def zbK : Op -> Option (Operand × List Operand)
 | .call c => match c.callee with | .value f => some (f, c.args.toList) | _ => none
 | _ => none
def zcl (s : St) (op : Op) : List Nat :=
 match zbK op with
 | some (f, args) => zbG s f args
 | none => if zcu op then [] else op.operands.toList.flatMap fun x => (opd s x).ids
section
variable {P : Program} {s s' : St}
theorem zq6 (t : TypeId) (x : D) (r : D -> Prop) (h : ∀ i ∈ x.ids, getK s.obs i = getK s'.obs i) : loadD P s t x r = loadD P s' t x r := by
 unfold loadD;cases x <;> simp only [D.ids, List.mem_singleton, forall_eq] at h ⊢ <;> (try first | rfl | rw [h] | (rename_i y; cases y <;> first | rfl | (rename_i v; cases v <;> first | rfl | (rename_i a n c; cases n <;> rfl)) | (split <;> rfl)))
theorem zjh (t : TypeId) (x i : D) (r : D -> Prop) (h : ∀ i ∈ x.ids, getK s.obs i = getK s'.obs i) : indexAddrD P s t x i r = indexAddrD P s' t x i r := by
 unfold indexAddrD indexSlD;cases x <;> simp only [D.ids, List.mem_singleton, forall_eq] at h ⊢ <;> (try first | rfl | rw [h] | (rename_i y; cases y <;> first | rfl | (rename_i v; cases v <;> first | rfl | (rename_i a n c; cases n <;> rfl)) | (split <;> rfl)))
theorem zoF (t : TypeId) (x : D) (a b : Option D) (r : D -> Prop) (h : ∀ i ∈ x.ids, getK s.obs i = getK s'.obs i) : sliceD P s t x a b r = sliceD P s' t x a b r := by
 unfold sliceD;cases x <;> simp only [D.ids, List.mem_singleton, forall_eq] at h ⊢ <;> (try first | rfl | rw [h] | (rename_i y; cases y <;> first | rfl | (rename_i v; cases v <;> first | rfl | (rename_i a n c; cases n <;> rfl)) | (split <;> rfl)))
theorem zto (t : TypeId) (x : D) (r : D -> Prop) (h : ∀ i ∈ x.ids, getK s.obs i = getK s'.obs i) : lenD P s t x r = lenD P s' t x r := by
 unfold lenD;cases x <;> simp only [D.ids, List.mem_singleton, forall_eq] at h ⊢ <;> (try first | rfl | rw [h] | (rename_i y; cases y <;> first | rfl | (rename_i v; cases v <;> first | rfl | (rename_i a n c; cases n <;> rfl)) | (split <;> rfl)))
theorem zq5 (t : TypeId) (x i : D) (ok : Bool) (r : D -> Prop) (h : ∀ i ∈ x.ids, getK s.obs i = getK s'.obs i) : lookD P s t x i ok r = lookD P s' t x i ok r := by
 unfold lookD;cases zeK P t with
 | none => rfl
 | some q =>
  obtain ⟨kk, ag, z⟩ := q;cases x <;> first | rfl | (simp only [D.ids, List.mem_singleton, forall_eq] at h; cases i <;> first | rfl | (simp only [h])) | (rename_i y; cases y <;> rfl) | (rename_i y; cases y <;> cases i <;> rfl)
theorem rowsOf_loc (x : D) (h : ∀ i ∈ x.ids, getK s.obs i = getK s'.obs i) : rowsOf s x = rowsOf s' x := by
 unfold rowsOf;cases x <;> simp only [D.ids, List.mem_singleton, forall_eq] at h ⊢ <;> (try first | rfl | rw [h] | (rename_i y; cases y <;> first | rfl | (rename_i v; cases v <;> first | rfl | (rename_i a n c; cases n <;> rfl)) | (split <;> rfl)))
theorem zws {op : Op} {x : Operand} (hc : zbK op = none) (hf : zcu op = false) (hx : x ∈ op.operands) {i} (hi : i ∈ (opd s x).ids) : i ∈ zcl s op := by
 unfold zcl;rw [hc, hf];exact List.mem_flatMap.2 ⟨x, by simpa using hx, hi⟩
theorem zj1 {op : Op} {r : D -> Prop} (h : ∀ i ∈ zcl s op, getK s.obs i = getK s'.obs i) (hx : ∀ x ∈ op.operands, opd s x = opd s' x) (hc : zbK op = none) : evPure P s op r = evPure P s' op r := by
 have hl : zcu op = false -> ∀ x ∈ op.operands, ∀ i ∈ (opd s x).ids, getK s.obs i = getK s'.obs i := fun hf x hm i hi => h i (zws hc hf hm hi);clear hc;clear h;cases op <;> simp only [Op.operands] at hx hl <;> unfold evPure <;> (try simp only)
 case move x => rw [hx x (by simp)]
 case assign x => rw [hx x (by simp)]
 case pick c a b => rw [hx c (by simp), hx a (by simp), hx b (by simp)]
 case load t x => rw [zq6 t _ r (hl rfl x (by simp)), hx x (by simp)]
 case binOp op t x y _ => rw [hx x (by simp), hx y (by simp)]
 case unOp op _ x => rw [hx x (by simp)]
 case convert a b x => rw [hx x (by simp)]
 case fieldAddr t x f => rw [hx x (by simp)]
 case field t x f => rw [hx x (by simp)]
 case indexAddr t x i => rw [zjh t _ _ r (hl rfl x (by simp)), hx x (by simp), hx i (by simp)]
 case index t x i => rw [hx x (by simp), hx i (by simp)]
 case lookup t x i ok => rw [zq5 t _ _ ok r (hl rfl x (by simp)), hx x (by simp), hx i (by simp)]
 case slice t x lo hi mx =>
  have e1 : lo.map (opd s) = lo.map (opd s') := by cases lo <;> simp_all
  have e2 : hi.map (opd s) = hi.map (opd s') := by cases hi <;> simp_all
  cases mx with
  | none => simp only; rw [zoF t _ _ _ r (hl rfl x (by simp)), hx x (by simp), e1, e2]
  | some m => rfl
 case extract x i => rw [hx x (by simp)]
 case nilCheck x => rw [hx x (by simp)]
 case makeInterface t x => rw [hx x (by simp)]
 case typeAssert x xt t ok => rw [hx x (by simp)]
 case makeFunc f first caps =>
  have e : caps.toList.map (opd s) = caps.toList.map (opd s') := List.map_congr_left fun x hm => hx x (by simp; exact .inr (by simpa using hm));have e2 : first.toList.map (opd s) = first.toList.map (opd s') := List.map_congr_left fun x hm => hx x (by simp; exact .inl (by simpa using hm))
  rw [e, e2]
 case build t parts =>
  have e : (parts.toList.map fun p => (p.1, opd s p.2)) = (parts.toList.map fun p => (p.1, opd s' p.2)) := List.map_congr_left fun p hm => by grind
  rw [e]
 case call c =>
  obtain ⟨callee, args, ts⟩ := c;cases callee with
  | value f => rfl
  | invoke r m => rfl
  | builtin b =>
   have e : args.toList.map (opd s) = args.toList.map (opd s') := List.map_congr_left fun x hm => hx x (by simp [Call.operands]; simpa using hm);cases b <;> simp only <;> try rfl
   case len =>
    obtain ⟨args⟩ := args;obtain ⟨ts⟩ := ts
    match args, ts with
    | [x], [t] => simp only; rw [zto t _ r (hl rfl x (by simp [Call.operands])), hx x (by simp [Call.operands])]
    | [], _ => rfl
    | _ :: _ :: _, _ => rfl
    | [_], [] => rfl
    | [_], _ :: _ :: _ => rfl
   case min => rw [e]
   case max => rw [e]
theorem zkg {op : Op} {r : D -> Prop} (h : ∀ i ∈ zcl s op, getK s.obs i = getK s'.obs i) (hx : ∀ x ∈ op.operands, opd s x = opd s' x) (hv : valD P s op r) : valD P s' op r := by
 unfold valD at hv ⊢;split at hv
 ·rename_i c;obtain ⟨callee, args, ts⟩ := c;simp only at hv ⊢;split at hv
  ·rename_i f;have e : args.toList.map (opd s) = args.toList.map (opd s') := List.map_congr_left fun x hm => hx x (by simp [Op.operands, Call.operands]; exact .inr (by simpa using hm));have ef : opd s f = opd s' f := hx f (by simp [Op.operands, Call.operands]);obtain ⟨d, ⟨g, caps, ds, L, h1, h2, h3, h4⟩, hr⟩ := hv;have hL : ∀ i ∈ L, getK s.obs i = getK s'.obs i := fun i hi => h i (by
    show i ∈ zbG s f args.toList;unfold zbG;simp only [h1, h3];exact hi)
   refine ⟨d, ⟨g, caps, ds, L, by rw [<- ef]; exact h1, h2, ?_, h4⟩, hr⟩;rw [<- e];exact zg5 h3 hL
  ·rename_i hcal;rw [<- zj1 (s := s) h hx ?_]
   ·exact hv
   ·cases callee <;> first | rfl | exact absurd rfl (hcal _)
 ·rename_i hcal;rw [<- zj1 (s := s) h hx ?_]
  ·exact hv
  ·cases op <;> first | rfl | exact absurd rfl (hcal _)
end
end Go.VL
namespace Go.VL
open Go
abbrev Wr := List (Nat × Option Ob)
def zar : Wr -> List (Nat × Ob) -> List (Nat × Ob)
 | [], o => o
 | (i, some ob) :: L, o => zcw (zar L o) i ob
 | (i, none) :: L, o => del (zar L o) i
theorem zbc : ∀ (L : Wr) (o : List (Nat × Ob)) (y : Nat), getK (zar L o) y = match getK L y with | some x => x | none => getK o y
 | [], _, _ => rfl
 | (i, some ob) :: L, o, y => by
  simp only [zar, zad, zaa];by_cases h : y = i
  ·simp [h]
  ·simp [h, zbc L o y]
 | (i, none) :: L, o, y => by
  simp only [zar, zac, zaa];by_cases h : y = i
  ·simp [h]
  ·simp [h, zbc L o y]
inductive How where
 | ptr
 | vec (n : Nat)
 | mp
structure ERes where
 U : Wr
 nw : Option Ob
 how : How
def mkD : How -> Nat -> D
 | .ptr, x => .ptr x 0
 | .vec n, x => .vec x n
 | .mp, x => .mp x
def mapEff (P : Program) (s : St) (t : TypeId) (x i v : D) (ret : ERes -> Prop) : Prop :=
 match zeK P t, x, i with
 | some (kk, ag, _), .mp m, .u key => match getK s.obs m, zfs key, zfp ag v with
  | some (.map kk' ag' es), some key, some cells => kk = kk' /\ ag = ag' /\ key.kk = kk /\ ret ⟨[(m, some (.map kk ag (zdE es key cells)))], none, .ptr⟩
  | _, _, _ => False
 | _, _, _ => False
theorem Lin.mapEff {P s t x i v} : Lin (mapEff P s t x i v) := by
 unfold VL.mapEff;split
 ·split
  ·exact Lin.and (Lin.and (Lin.and (Lin.ret _)))
  ·exact Lin.za4
 ·exact Lin.za4
theorem zjQ {P : Program} {s : St} {t : TypeId} {x i v : D} {dst : Option Tmp} {F : St -> Prop} {k : ERes -> Prop} (h : mapEff P s t x i v fun e => zay dst s /\ (e.nw = none -> dst = none) /\ k e) (hF : ∀ m ob, k ⟨[(m, some ob)], none, .ptr⟩ -> F { s with obs := zcw s.obs m ob }) :
  dst = none /\ zbs P t x i v s F := by
 unfold mapEff at h;unfold zbs;split at h
 ·grind
 ·exact h.elim
theorem zjR {P : Program} {s s' : St} (t : TypeId) (x i v : D) (r : ERes -> Prop) (h : ∀ i ∈ x.ids, getK s.obs i = getK s'.obs i) : mapEff P s t x i v r = mapEff P s' t x i v r := by
 unfold mapEff;cases zeK P t with
 | none => rfl
 | some q =>
  obtain ⟨kk, ag, z⟩ := q;cases x <;> first | rfl | (simp only [D.ids, List.mem_singleton, forall_eq] at h; cases i <;> first | rfl | (simp only [h]))
theorem ziD {P : Program} {s : St} {t : TypeId} {x i v : D} {r r' : ERes -> Prop} (h : mapEff P s t x i v r) (hr : ∀ m kk ag es key cells, getK s.obs m = some (.map kk ag es) -> zfp ag v = some cells -> r ⟨[(m, some (.map kk ag (zdE es key cells)))], none, .ptr⟩ -> r' ⟨[(m, some (.map kk ag (zdE es key cells)))], none, .ptr⟩) : mapEff P s t x i v r' := by
 unfold mapEff at h ⊢;split at h
 ·grind
 ·exact h.elim
def effD (P : Program) (s : St) (op : Op) (ret : ERes -> Prop) : Prop :=
 match op with
 | .alloc t => match zeC P t with
  | some z => ret ⟨[], some (.box (z.map fun v => .u (uOf v))), .ptr⟩
  | none => False
 | .box _ x => match zb0 (opd s x) with
  | some cs => zeD cs = true /\ ret ⟨[], some (.box cs), .ptr⟩
  | none => False
 | .store t a x => match zb0 (opd s x) with
  | some new => zeD new = true /\ tsz P t = some new.length /\ (match opd s a with
   | .ptr i off => match getK s.obs i with
    | some (.box cells) => off + new.length <= cells.length /\ ret ⟨[(i, some (.box (setAll cells off new)))], none, .ptr⟩
    | _ => False
   | .elt i sz idx off => match getK s.obs i with
    | some (.vec e sz' rows) => sz = sz' /\ exS rows[idx]? fun r => off + new.length <= r.length /\ ret ⟨[(i, some (.vec e sz' (rows.set idx (setAll r off new))))], none, .ptr⟩
    | _ => False
   | _ => False)
  | none => False
 | .buildSlice t n parts => match zeF P t with
  | some (e, sz, _, z) => n * sz <= 16777216 /\ fillD ((List.range n).map fun i => (i * sz, sz)) (parts.toList.map fun p => (p.1, opd s p.2)) (zbT n sz z) fun cs =>
   zeD cs = true /\ ret ⟨[], some (.vec e sz (zbO n sz cs)), How.vec n⟩
  | none => False
 | .makeSlice t x y => match zeF P t, opd s x, opd s y with
  | some (e, sz, bytes, z), .u (.int _ n), .u (.int _ c) => (0 <= n /\ n <= c) /\ c * (bytes : Int) <= 140737488355328 /\ c <= 9223372036854775807 /\
   ret ⟨[], some (.vec e sz (List.replicate n.toNat (z.map fun v => .u (uOf v)))), How.vec n.toNat⟩
  | _, _, _ => False
 | .call c => match c.callee with
  | .builtin .append => match c.args, c.argTypes with
   | ⟨[x, y]⟩, ⟨[t, t']⟩ => t = t' /\ (match zeF P t, rowsOf s (opd s y) with
    | some (e, sz, bytes, _), some rs => zkW sz rs ∧ zkv rs ∧ (match opd s x with
          | .u .nil => rs.length * bytes <= 140737488355328 /\ rs.length <= 9223372036854775807 /\ ret ⟨[], some (.vec e sz rs), How.vec rs.length⟩
          | .vec i len => match getK s.obs i with
           | some (.vec e' sz' rows) => e = e' /\ sz = sz' /\ len <= rows.length /\ (len + rs.length) * bytes <= 140737488355328 /\ len + rs.length <= 9223372036854775807 /\
            ret ⟨[(i, none)], some (.vec e sz (rows.take len ++ rs)), How.vec (len + rs.length)⟩
           | _ => False
          | _ => False)
    | _, _ => False)
   | _, _ => False
  | _ => False
 | .makeMap t none => match zeK P t with
  | some (kk, ag, _) => ret ⟨[], some (.map kk ag []), .mp⟩
  | none => False
 | .mapUpdate t m i v => mapEff P s t (opd s m) (opd s i) (opd s v) ret
 | .insert t m i v => mapEff P s t (opd s m) (opd s i) (opd s v) ret
 | _ => False
def St.effS (s : St) (e : ERes) (dst : Option Tmp) : St :=
 match e.nw with
 | none => { s with obs := zar e.U s.obs }
 | some ob => ({ s with obs := (s.next, ob) :: zar e.U s.obs, next := s.next + 1 } : St).put dst (mkD e.how s.next)
theorem Lin.effD {P s op} : Lin (effD P s op) := by
 unfold VL.effD;split
 ·split
  ·exact Lin.ret _
  ·exact Lin.za4
 ·split
  ·exact (Lin.ret _).and
  ·exact Lin.za4
 ·split
  ·refine Lin.and (Lin.and ?_);split
   ·split
    ·exact (Lin.ret _).and
    ·exact Lin.za4
   ·split
    ·exact Lin.and (Lin.ex fun _ => Lin.and (Lin.and (Lin.ret _)))
    ·exact Lin.za4
   ·exact Lin.za4
  ·exact Lin.za4
 ·split
  ·exact Lin.and ⟨fun r r' hr h => Lin.fillD.1 _ _ (fun cs hcs => ⟨hcs.1, hr _ hcs.2⟩) h, fun r h => by
    obtain ⟨cs, h1, h2, h3⟩ := Lin.fillD.2 _ h;exact ⟨_, Lin.fillD.1 _ _ (fun cs' e => by subst e; exact ⟨h2, rfl⟩) h1, h3⟩⟩
  ·exact Lin.za4
 ·split
  ·exact Lin.and (Lin.and (Lin.and (Lin.ret _)))
  ·exact Lin.za4
 ·split
  ·split
   ·refine Lin.and ?_;split
    ·refine Lin.and (Lin.and ?_);split
     ·exact Lin.and (Lin.and (Lin.ret _))
     ·split
      ·exact Lin.and (Lin.and (Lin.and (Lin.and (Lin.and (Lin.ret _)))))
      ·exact Lin.za4
     ·exact Lin.za4
    ·exact Lin.za4
   ·exact Lin.za4
  ·exact Lin.za4
 ·split
  ·exact Lin.ret _
  ·exact Lin.za4
 ·exact Lin.mapEff
 ·exact Lin.mapEff
 ·exact Lin.za4
theorem zpw {P Γ s op dst k} (h : effD P s op fun e => zay dst s /\ (e.nw = none -> dst = none) /\ k (s.effS e dst)) : zcq P Γ dst op s k := by
 unfold effD at h;split at h
 ·simp only [zcq, zck];split at h
  ·rename_i z hz;rw [hz];exact ⟨h.1, h.2.2⟩
  ·exact h.elim
 ·simp only [zcq, zfv];split at h
  ·rename_i z hz;rw [hz];exact ⟨h.1, h.2.1, h.2.2.2⟩
  ·exact h.elim
 ·simp only [zcq, zcj];split at h
  ·rename_i new hz;obtain ⟨h1, h2, h⟩ := h;rw [hz];split at h
   ·rename_i i off ha;split at h
    ·rename_i cells hg;refine ⟨h.2.2.1 rfl, h1, h2, ?_⟩;rw [ha];simp only [hg];exact ⟨h.1, h.2.2.2⟩
    ·exact h.elim
   ·rename_i i sz idx off ha;split at h
    ·rename_i e sz' rows hg;obtain ⟨g1, r, g2, g3, g4, g5, g6⟩ := h;refine ⟨g5 rfl, h1, h2, ?_⟩;rw [ha];simp only [hg];exact ⟨g1, r, g2, g3, g6⟩
    ·exact h.elim
   ·exact h.elim
  ·exact h.elim
 ·simp only [zcq, zaw];split at h
  ·rename_i e sz b z hz;rw [hz];exact ⟨h.1, Lin.fillD.1 _ _ (fun cs hc => ⟨hc.1, hc.2.1, hc.2.2.2⟩) h.2⟩
  ·exact h.elim
 ·simp only [zcq, zdg];split at h
  ·rename_i e sz b z k1 n k2 c hz hx hy;rw [hz, hx, hy];exact ⟨h.1, h.2.1, h.2.2.1, h.2.2.2.1, h.2.2.2.2.2⟩
  ·exact h.elim
 ·rename_i c;obtain ⟨callee, args, ts⟩ := c;split at h
  ·rename_i hcal;simp only at hcal;subst hcal;simp only at h;split at h
   ·rename_i x y t t';obtain ⟨rfl, h⟩ := h;simp only [zcq, zbB];refine ⟨trivial, ?_⟩;split at h
    ·rename_i e sz b z rs hz hr;rw [hz, hr];obtain ⟨h1, h2, h⟩ := h;split at h
     ·rename_i hx;rw [hx];exact ⟨h1, h2, h.2.2.1, h.1, h.2.1, h.2.2.2.2⟩
     ·rename_i i len hx;rw [hx];split at h
      ·rename_i e' sz' rows hg;simp only [hg];obtain ⟨g1, g2, g3, g4, g5, g6, _, g7⟩ := h;exact ⟨h1, h2, g6, g1, g2, g3, g4, g5, g7⟩
      ·exact h.elim
     ·exact h.elim
    ·exact h.elim
   ·exact h.elim
  ·exact h.elim
 ·simp only [zcq, zba];split at h
  ·rename_i kk ag z hz;rw [hz];exact ⟨h.1, h.2.2⟩
  ·exact h.elim
 ·exact zjQ h fun m ob hk => hk
 ·exact zjQ h fun m ob hk => hk
 ·exact h.elim
theorem zrM {P s op ret} (h : effD P s op ret) : zbK op = none := by
 cases op <;> try rfl
 rename_i c;obtain ⟨callee, args, ts⟩ := c;cases callee with
 | value f => exact h.elim
 | _ => rfl
theorem zrL {P} {s s' : St} {op : Op} {r : ERes -> Prop} (h : ∀ i ∈ zcl s op, getK s.obs i = getK s'.obs i) (hx : ∀ x ∈ op.operands, opd s x = opd s' x) (hc : zbK op = none) : effD P s op r = effD P s' op r := by
 have hl : zcu op = false -> ∀ x ∈ op.operands, ∀ i ∈ (opd s x).ids, getK s.obs i = getK s'.obs i := fun hf x hm i hi => h i (zws hc hf hm hi);clear h hc;cases op <;> try rfl
 all_goals simp only [Op.operands] at hx hl
 case box t x => simp only [effD]; rw [hx x (by simp)]
 case store t a x =>
  have h1 := hl rfl a (by simp);have ea := hx a (by simp);simp only [effD];rw [<- hx x (by simp), <- ea];cases hd : opd s a <;> try rfl
  all_goals rw [hd] at h1
  all_goals simp only [D.ids, List.mem_singleton, forall_eq] at h1
  all_goals simp only [h1]
 case buildSlice t n parts =>
  have e : (parts.toList.map fun p => (p.1, opd s p.2)) = (parts.toList.map fun p => (p.1, opd s' p.2)) := List.map_congr_left fun p hm => by grind
  simp only [effD, e]
 case makeSlice t x y => simp only [effD]; rw [hx x (by simp), hx y (by simp)]
 case makeMap t r => cases r <;> rfl
 case mapUpdate t m i v => simp only [effD]; rw [zjR t _ _ _ r (hl rfl m (by simp)), hx m (by simp), hx i (by simp), hx v (by simp)]
 case insert t m i v => simp only [effD]; rw [zjR t _ _ _ r (hl rfl m (by simp)), hx m (by simp), hx i (by simp), hx v (by simp)]
 case call c =>
  obtain ⟨callee, args, ts⟩ := c;cases callee with
  | value f => rfl
  | invoke r m => rfl
  | builtin b =>
   cases b <;> try rfl
   obtain ⟨args⟩ := args;obtain ⟨ts⟩ := ts
   match args, ts with
   | [x, y], [t, t'] =>
    have h1 := hl rfl x (by simp [Call.operands]);have ex := hx x (by simp [Call.operands]);have e : rowsOf s (opd s y) = rowsOf s' (opd s' y) := by
     rw [rowsOf_loc _ (hl rfl y (by simp [Call.operands])), hx y (by simp [Call.operands])]
    simp only [effD];rw [e, <- ex];cases hd : opd s x <;> try rfl
    all_goals rw [hd] at h1
    all_goals simp only [D.ids, List.mem_singleton, forall_eq] at h1
    all_goals first | simp only [h1] | (rename_i y; cases y <;> rfl)
   | [], _ => rfl
   | [_], _ => rfl
   | _ :: _ :: _ :: _, _ => rfl
   | [_, _], [] => rfl
   | [_, _], [_] => rfl
   | [_, _], _ :: _ :: _ :: _ => rfl
theorem zgZ {P} {s s' : St} {op : Op} {r : ERes -> Prop} (h : ∀ i ∈ zcl s op, getK s.obs i = getK s'.obs i) (hx : ∀ x ∈ op.operands, opd s x = opd s' x) (he : effD P s op r) : effD P s' op r := by
 rw [<- zrL h hx (zrM he)];exact he
def Ob.all (g : D -> Prop) : Ob -> Prop
 | .box cs => ∀ c ∈ cs, g c
 | .vec _ _ rows => ∀ r ∈ rows, ∀ c ∈ r, g c
 | .map _ _ es => ∀ p ∈ es, ∀ c ∈ p.2, g c
 | .it _ _ _ _ _ => True
 | .nw _ => True
 | .sit _ _ => True
theorem zfS {g : D -> Prop} : ∀ (new cs : List D) (o : Nat), (∀ c ∈ new, g c) -> (∀ c ∈ cs, g c) -> ∀ c ∈ setAll cs o new, g c
 | [], _, _, _, h => h
 | d :: ds, cs, o, hn, h => zfS ds (cs.set o d) (o + 1) (fun c hc => hn c (by simp [hc])) fun c hc => by grind
theorem zkj {g : D -> Prop} {key : Key} {cells : List D} (hc : ∀ c ∈ cells, g c) : ∀ {es : List (Key × List D)}, (∀ p ∈ es, ∀ c ∈ p.2, g c) -> ∀ p ∈ zdE es key cells, ∀ c ∈ p.2, g c
 | [], _, p, hp => by simp [zdE] at hp; subst hp; exact hc
 | (k, d) :: l, h, p, hp => by
  rw [zdE] at hp;split at hp
  ·grind
  ·rcases List.mem_cons.1 hp with rfl | hp
   ·exact h (k, d) (by simp)
   ·exact zkj hc (fun q hq => h q (by simp [hq])) p hp
section
variable {g : D -> Prop} (hu : ∀ x, g (.u x)) (ha : ∀ cs, g (.agg cs) -> ∀ c ∈ cs, g c)
include hu ha
theorem zhF {d cs} (h : zb0 d = some cs) (hd : g d) : ∀ c ∈ cs, g c := by
 unfold zb0 at h;split at h
 ·cases h; exact ha _ hd
 ·grind
 ·grind
theorem zl4 {places k} : ∀ {parts : List (Nat × D)} {cs : List D}, fillD places parts cs k -> (∀ p ∈ parts, g p.2) -> (∀ c ∈ cs, g c) -> fillD places parts cs fun r => k r /\ ∀ c ∈ r, g c
 | [], cs, h, _, hc => ⟨h, hc⟩
 | (f, d) :: rest, cs, h, hp, hc => by
  unfold fillD at h ⊢;split at h
  ·rename_i off n new e1 e2;exact ⟨h.1, h.2.1, zl4 h.2.2 (fun p hm => hp p (by simp [hm])) (zfS _ _ _ (zhF hu ha e2 (hp (f, d) (by simp))) hc)⟩
  ·exact h.elim
theorem znC {ag d cs} (h : zfp ag d = some cs) (hd : g d) : ∀ c ∈ cs, g c := by
 unfold zfp at h;split at h
 ·grind
 ·grind
 ·grind
 ·cases h
theorem ztN {P s op ret} (h : effD P s op ret) (hx : ∀ x ∈ op.operands, g (opd s x)) (ho : ∀ i ob, getK s.obs i = some ob -> ob.all g) :
  effD P s op fun e => ret e /\ (∀ p ∈ e.U, ∀ ob, p.2 = some ob -> ob.all g /\ ∃ o, getK s.obs p.1 = some o) /\ ∀ ob, e.nw = some ob -> ob.all g := by
 unfold effD at h ⊢;split at h
 ·split at h
  ·refine ⟨h, by simp, fun ob e => ?_⟩;cases e;intro c hc;obtain ⟨v, _, rfl⟩ := List.mem_map.1 hc;exact hu _
  ·exact h.elim
 ·rename_i t x;split at h
  ·rename_i cs hc;refine ⟨h.1, h.2, by simp, fun ob e => ?_⟩;cases e;exact zhF hu ha hc (hx x (by simp [Op.operands]))
  ·exact h.elim
 ·rename_i t a x;split at h
  ·rename_i new hc;have hn := zhF hu ha hc (hx x (by simp [Op.operands]));refine ⟨h.1, h.2.1, ?_⟩
   replace h := h.2.2
   split at h
   ·rename_i i off hd;split at h
    ·rename_i cells hg;refine ⟨h.1, h.2, fun p hp ob e => ?_, fun ob e => by cases e⟩;simp at hp;subst hp;cases e;exact ⟨zfS _ _ _ hn (ho i _ hg), _, hg⟩
    ·exact h.elim
   ·rename_i i sz idx off hd;split at h
    ·rename_i e sz' rows hg;obtain ⟨h1, r, h2, h3, h4⟩ := h;refine ⟨h1, r, h2, h3, h4, fun p hp ob e => ?_, fun ob e => by cases e⟩;simp at hp;subst hp;cases e;refine ⟨?_, _, hg⟩;intro r' hr' c hc';have hrow := ho i _ hg;rcases List.mem_or_eq_of_mem_set hr' with hr' | rfl
     ·exact hrow r' hr' c hc'
     ·exact zfS _ _ _ hn (hrow r (List.mem_of_getElem? h2)) c hc'
    ·exact h.elim
   ·exact h.elim
  ·exact h.elim
 ·rename_i t n parts;split at h
  ·rename_i e sz b z hz;refine ⟨h.1, Lin.fillD.1 _ _ (fun cs hcs => ?_) (zl4 hu ha h.2 (fun p hp => ?_) (fun c hc => ?_))⟩
   ·refine ⟨hcs.1.1, hcs.1.2, by simp, fun ob e => ?_⟩;cases e;intro r hr c hc;obtain ⟨i, _, rfl⟩ := List.mem_map.1 hr;exact hcs.2 c (List.mem_of_mem_drop (List.mem_of_mem_take hc))
   ·grind [Op.operands]
   ·obtain ⟨j, _, rfl⟩ := List.mem_map.1 hc;exact hu _
  ·exact h.elim
 ·split at h
  ·refine ⟨h.1, h.2.1, h.2.2.1, h.2.2.2, by simp, fun ob e => ?_⟩;cases e;intro r hr c hc;obtain ⟨_, rfl⟩ := List.mem_replicate.1 hr;obtain ⟨v, _, rfl⟩ := List.mem_map.1 hc;exact hu _
  ·exact h.elim
 ·rename_i c;obtain ⟨callee, args, ts⟩ := c;simp only at h hx ⊢;split at h
  ·split at h
   ·rename_i x y t t';refine ⟨h.1, ?_⟩
    replace h := h.2
    split at h
    ·rename_i e sz b z rs hz hr;have hrs : ∀ r ∈ rs, ∀ c ∈ r, g c := by
      have := hr;unfold rowsOf at this;split at this
      ·cases this;intro r hr c hc;obtain ⟨q, _, rfl⟩ := List.mem_map.1 hr;obtain ⟨v, _, rfl⟩ := List.mem_map.1 hc;exact hu _
      ·cases this; simp
      ·cases this; simp
      ·rename_i i len hy;split at this
       ·rename_i e' sz' rows hg;split at this
        ·cases this;intro r hr c hc;exact ho i _ hg r (List.mem_of_mem_take hr) c hc
        ·cases this
       ·cases this
      ·cases this
     refine ⟨h.1, h.2.1, ?_⟩
     replace h := h.2.2
     split at h
     ·refine ⟨h.1, h.2.1, h.2.2, by simp, fun ob e => ?_⟩;cases e;exact hrs
     ·rename_i i len hx';split at h
      ·rename_i e' sz' rows hg;refine ⟨h.1, h.2.1, h.2.2.1, h.2.2.2.1, h.2.2.2.2.1, h.2.2.2.2.2, (fun p hp ob e => by simp at hp; subst hp; cases e), fun ob e => ?_⟩;cases e;intro r hr c hc;rcases List.mem_append.1 hr with hr | hr
       ·exact ho i _ hg r (List.mem_of_mem_take hr) c hc
       ·exact hrs r hr c hc
      ·exact h.elim
     ·exact h.elim
    ·exact h.elim
   ·exact h.elim
  ·exact h.elim
 ·split at h
  ·exact ⟨h, by simp, fun ob e => by cases e; exact fun p hp => by cases hp⟩
  ·exact h.elim
 ·rename_i t m i v;refine ziD h fun mm kk ag es key cells hg hv hr => ⟨hr, fun p hp ob e => ?_, fun ob e => by cases e⟩;simp at hp;subst hp;cases e;exact ⟨zkj (znC hu ha hv (hx v (by simp [Op.operands]))) (ho _ _ hg), _, hg⟩
 ·rename_i t m i v;refine ziD h fun mm kk ag es key cells hg hv hr => ⟨hr, fun p hp ob e => ?_, fun ob e => by cases e⟩;simp at hp;subst hp;cases e;exact ⟨zkj (znC hu ha hv (hx v (by simp [Op.operands]))) (ho _ _ hg), _, hg⟩
 ·exact h.elim
end
end Go.VL
namespace Go.VL
open Go
def zgm (W : Nat -> Wr) (S : Nat -> Bool) : Nat -> Wr
 | 0 => []
 | m + 1 => if S m then W m ++ zgm W S m else zgm W S m
theorem zab {α : Type} (a b : List (Nat × α)) (y : Nat) : getK (a ++ b) y = match getK a y with | some x => some x | none => getK b y := by
 induction a with
 | nil => rfl
 | cons p a ih =>
  obtain ⟨k, d⟩ := p;rw [List.cons_append, zaa, zaa, ih];split <;> rfl
def ze6 (w : Wr) : List Nat := w.map (·.1)
theorem zcX {α : Type} : ∀ (w : List (Nat × α)) (y : Nat), y ∉ w.map (·.1) -> getK w y = none
 | [], _, _ => rfl
 | (k, d) :: w, y, h => by
  simp only [zzC, List.mem_cons, not_or] at h;rw [zaa, if_neg h.1];exact zcX w y h.2
theorem zfZ {α : Type} : ∀ (w : List (Nat × α)) (y : Nat), y ∈ w.map (·.1) -> ∃ x, getK w y = some x
 | [], _, h => by cases h
 | (k, d) :: w, y, h => by
  rw [zaa];by_cases hy : y = k
  ·exact ⟨d, by rw [if_pos hy]⟩
  ·rw [if_neg hy];simp only [zzC, List.mem_cons] at h;exact zfZ w y (h.resolve_left hy)
theorem zdR (W : Nat -> Wr) (S S' : Nat -> Bool) (y : Nat) : ∀ m, (∀ j, j < m -> y ∈ ze6 (W j) -> S j = S' j) -> getK (zgm W S m) y = getK (zgm W S' m) y
 | 0, _ => rfl
 | m + 1, h => by
  have ih := zdR W S S' y m fun j hj => h j (by omega);simp only [zgm];by_cases hy : y ∈ ze6 (W m)
  ·grind [zab]
  ·have hk := zcX (W m) y hy;have : ∀ (b : Bool) (L : Wr), getK (if b then W m ++ L else L) y = getK L y := fun b L => by grind [zab]
   rw [this, this, ih]
theorem zke (W : Nat -> Wr) (S : Nat -> Bool) (i y : Nat) (hy : y ∈ ze6 (W i)) : ∀ m, i < m -> (∀ j, j < m -> i < j -> y ∈ ze6 (W j) -> S j = false) ->
  getK (zgm W (fun j => S j || j == i) m) y = getK (W i) y
 | 0, h, _ => absurd h (Nat.not_lt_zero _)
 | m + 1, h, hj => by
  simp only [zgm];by_cases he : m = i
  ·subst he;obtain ⟨x, hx⟩ := zfZ (W m) y hy;simp only [beq_self_eq_true, Bool.or_true, if_true, zab, hx]
  ·have ih := zke W S i y hy m (by omega) fun j h1 h2 => hj j (by omega) h2;by_cases hk : y ∈ ze6 (W m)
   ·grind
   ·have hkn := zcX (W m) y hk;split
    ·rw [zab, hkn]; exact ih
    ·exact ih
def St.Eqo (s s' : St) : Prop := s.n = s'.n /\ (∀ x, getK s.obs x = getK s'.obs x) /\ s.next = s'.next /\ ∀ x, getK s.env x = getK s'.env x
theorem Sat.eqo {k own obs obs' w} (h : Sat k own obs w) (e : ∀ x, getK obs x = getK obs' x) : Sat k own obs' w :=
 ⟨h.mem, fun i ob hi => h.ob i ob (by rw [e]; exact hi), fun i j x y hh g b hx hy => h.apart i j x y hh g b (by rw [e]; exact hx) (by rw [e]; exact hy)⟩
theorem Sim.eqo {k own s s' a w} (h : Sim k own s a w) (e : s.Eqo s') : Sim k own s' a w :=
 ⟨h.sat.eqo e.2.1, h.defers, by rw [<- e.1]; exact h.size, fun x d hx => by rw [<- e.1]; exact h.env x d (by rw [e.2.2.2 x]; exact hx), by rw [<- e.2.2.1]; exact h.hdr⟩
def Good (ρ : Nat -> Nat) (M : Nat) (d : D) : Prop := d.ren ρ = d /\ d.under M = true
theorem zgT {ρ M} {cs : List D} {k : Kr} {vs : List Value} (hl : cs.length = vs.length) (ih : ∀ (j : Nat) (d : D), cs[j]? = some d -> Good ρ M d) : cs.map (fun d => d.ren ρ) = cs /\ (cs.map fun d => d.under M).all id = true := by
 refine ⟨?_, ?_⟩
 ·refine List.ext_getElem? fun j => ?_;rw [List.getElem?_map];cases hj : cs[j]? with
  | none => rfl
  | some d => simp [(ih j d hj).1]
 ·simp only [List.all_map, List.all_eq_true];intro d hd;obtain ⟨j, hj⟩ := List.getElem?_of_mem hd;exact (ih j d hj).2
theorem Rep.good {ρ : Nat -> Nat} {M : Nat} {k : Kr} (hk : ∀ i h, k.hdr i = some h -> ρ i = i /\ i < M) {d : D} {v : Value} (h : Rep k d v) : Good ρ M d := by
 induction h with
 | u x v h => exact ⟨by simp [D.ren], by simp [D.under]⟩
 | any v => exact ⟨by simp [D.ren], by simp [D.under]⟩
 | ptr i off b c h => obtain ⟨h1, h2⟩ := hk _ _ h; exact ⟨by simp [D.ren, h1], by simp [D.under, h2]⟩
 | vec i len h hh => obtain ⟨h1, h2⟩ := hk _ _ hh; exact ⟨by simp [D.ren, h1], by simp [D.under, h2]⟩
 | mp i b c h => obtain ⟨h1, h2⟩ := hk _ _ h; exact ⟨by simp [D.ren, h1], by simp [D.under, h2]⟩
 | elt i sz idx off b c h => obtain ⟨h1, h2⟩ := hk _ _ h; exact ⟨by simp [D.ren, h1], by simp [D.under, h2]⟩
 | fnc f caps vs hl hr ih => obtain ⟨h1, h2⟩ := zgT (k := k) hl ih; exact ⟨by rw [D.ren, h1], by rw [D.under]; exact h2⟩
 | bnd f caps vs hl hr ih => obtain ⟨h1, h2⟩ := zgT (k := k) hl ih; exact ⟨by rw [D.ren, h1], by rw [D.under]; exact h2⟩
 | agg cells vs hl hr ih => obtain ⟨h1, h2⟩ := zgT (k := k) hl ih; exact ⟨by rw [D.ren, h1], by rw [D.under]; exact h2⟩
 | tup cells vs hl hr ih => obtain ⟨h1, h2⟩ := zgT (k := k) hl ih; exact ⟨by rw [D.ren, h1], by rw [D.under]; exact h2⟩
theorem Good.agg {ρ M cs} (h : Good ρ M (.agg cs)) : ∀ c ∈ cs, Good ρ M c := by
 intro c hc;obtain ⟨h1, h2⟩ := h;rw [D.ren] at h1;rw [D.under] at h2;obtain ⟨j, hj⟩ := List.getElem?_of_mem hc;have e : cs.map (fun d => d.ren ρ) = cs := by injection h1
 refine ⟨?_, ?_⟩
 ·grind
 ·simp_all
theorem ObOK.good {ρ M k own w i ob} (hk : ∀ i h, k.hdr i = some h -> ρ i = i /\ i < M) (h : ObOK k own w i ob) : ob.all (Good ρ M) := by
 cases ob with
 | it => trivial
 | nw => trivial
 | sit => trivial
 | map kk ag es =>
  obtain ⟨b, c, ents, clock, es0, _, _, _, hpm, hm, _⟩ := h.map;intro p hp d hd
  replace hp := hpm.mem_iff.2 hp
  obtain ⟨q, hq⟩ := List.getElem?_of_mem hp;obtain ⟨j, hj⟩ := List.getElem?_of_mem hd;obtain ⟨en, _, _, hv⟩ := hm.ent q p hq;unfold MV at hv;split at hv
  ·obtain ⟨vs, _, _, h3⟩ := hv;exact (h3 j d hj).2.good hk
  ·obtain ⟨x, h1, h2⟩ := hv;rw [h1] at hd;simp at hd;subst hd;exact h2.2.good hk
 | box cells =>
  obtain ⟨b, c, vs, t, _, _, _, _, hc, _⟩ := h.box;intro c hm;obtain ⟨j, hj⟩ := List.getElem?_of_mem hm;exact (hc j c hj).2.good hk
 | vec e sz rows =>
  obtain ⟨_, xs, _, _, _, _, hc, _⟩ := h.vec;intro r hr c hm;obtain ⟨q, hq⟩ := List.getElem?_of_mem hr;obtain ⟨j, hj⟩ := List.getElem?_of_mem hm;exact (hc q r hq j c hj).2.good hk
theorem Ob.zeM {ρ M ob} (h : Ob.all (Good ρ M) ob) : Ob.le ρ ob ob /\ ob.under M = true := by
 have le : ∀ c, Good ρ M c -> D.le ρ c c := fun c hc => .inr (.inl hc.1.symm)
 cases ob with
 | it => exact ⟨⟨rfl, rfl, rfl, rfl, rfl⟩, rfl⟩
 | nw t => exact ⟨(rfl : t = t), rfl⟩
 | sit => exact ⟨⟨rfl, rfl⟩, rfl⟩
 | map kk ag es =>
  refine ⟨⟨rfl, rfl, rfl, fun i p p' hi hi' => ?_⟩, List.all_eq_true.2 fun p hp => List.all_eq_true.2 fun c hc => (h p hp c hc).2⟩;rw [hi] at hi';cases hi';refine ⟨rfl, fun j c c' hj hj' => ?_⟩;rw [hj] at hj';cases hj';exact le c (h p (List.mem_of_getElem? hi) c (List.mem_of_getElem? hj))
 | box cs =>
  refine ⟨⟨rfl, fun j c c' hj hj' => ?_⟩, List.all_eq_true.2 fun c hc => (h c hc).2⟩;rw [hj] at hj';cases hj';exact le c (h c (List.mem_of_getElem? hj))
 | vec e sz rows =>
  refine ⟨⟨rfl, rfl, Nat.le_refl _, fun i r r' hi hi' => ?_⟩, List.all_eq_true.2 fun r hr => List.all_eq_true.2 fun c hc => (h r hr c hc).2⟩;rw [hi] at hi';cases hi';refine ⟨rfl, fun j c c' hj hj' => ?_⟩;rw [hj] at hj';cases hj';exact le c (h r (List.mem_of_getElem? hi) c (List.mem_of_getElem? hj))
def stW (ops : List Oper) (T : Nat -> D) (W : Nat -> Wr) (s : St) (M : Nat) (S : Nat -> Bool) : St :=
 { n := s.n, env := zgY T S ops 0 s.env, obs := zar (zgm W S ops.length) s.obs, next := M }
def Op1 (P : Program) (s : St) (op : Op) (dst : Option Tmp) (d : D) (W : Wr) (cr : Option Nat) (R : List Nat) : Prop :=
 (valD P s op (· = d) /\ W = [] /\ cr = none /\ R = zcl s op) \/
 ∃ e, effD P s op (· = e) /\ R = zcl s op /\ match e.nw with
  | none => dst = none /\ W = e.U /\ cr = none
  | some ob => ∃ x, cr = some x /\ W = (x, some ob) :: e.U /\ d = mkD e.how x
end Go.VL
namespace Go.VL
open Go
abbrev Ent := D × Wr × Option Nat × List Nat
def tT (E : Nat -> Ent) (j : Nat) : D := (E j).1
def tW (E : Nat -> Ent) (j : Nat) : Wr := (E j).2.1
def tC (E : Nat -> Ent) (j : Nat) : Option Nat := (E j).2.2.1
def tR (E : Nat -> Ent) (j : Nat) : List Nat := (E j).2.2.2
def cnt (E : Nat -> Ent) : Nat -> Nat
 | 0 => 0
 | i + 1 => cnt E i + if (tC E i).isSome then 1 else 0
abbrev Fp := List (List Nat × List Nat)
def Op2 (P : Program) (s : St) (o : O1) (e : Ent) : Prop :=
 match o.guard with
 | none => Op1 P s o.op o.dst e.1 e.2.1 e.2.2.1 e.2.2.2
 | some (t, want) => (∃ b, getK s.env t = some (.u (.bool b)) /\ if b = want then Op1 P s o.op o.dst e.1 e.2.1 e.2.2.1 e.2.2.2 else e.1 = .un /\ e.2.1 = [] /\ e.2.2.1 = none) \/
  (getK s.env t = some .un /\ e.1 = .un /\ e.2.1 = [] /\ e.2.2.1 = none)
def St.app (s : St) (dst : Option Tmp) (e : Ent) : St :=
 ({ s with obs := zar e.2.1 s.obs, next := s.next + if e.2.2.1.isSome then 1 else 0 } : St).put dst e.1
def zuK (P : Program) : List O1 -> St -> Fp -> (St -> Fp -> Prop) -> Prop
 | [], s, fp, k => k s fp
 | o :: rest, s, fp, k => ∃ e : Ent, zay o.dst s /\ Op2 P s o e /\ (∀ x, e.2.2.1 = some x -> x = s.next) /\ zuK P rest (s.app o.dst e) (fp ++ [(e.2.2.2, ze6 e.2.1)]) k
def HD2 (P : Program) (l : List O1) (s : St) (fp : Fp) (C : Fp -> Prop) (k : St -> Prop) : Prop :=
 ∀ s0 : St, s0.Eqo s -> zuK P l s0 fp fun s1 fp => C fp /\ ∃ s', s1.Eqo s' /\ k s'
theorem St.Eqo.refl (s : St) : s.Eqo s := ⟨rfl, fun _ => rfl, rfl, fun _ => rfl⟩
theorem St.Eqo.trans {a b c : St} (h : a.Eqo b) (g : b.Eqo c) : a.Eqo c := ⟨h.1.trans g.1, fun x => (h.2.1 x).trans (g.2.1 x), h.2.2.1.trans g.2.2.1, fun x => (h.2.2.2 x).trans (g.2.2.2 x)⟩
theorem St.Eqo.put {s s' : St} (h : s.Eqo s') (x : Option Tmp) (d : D) : (s.put x d).Eqo (s'.put x d) := by
 cases x with
 | none => exact h
 | some x => exact ⟨h.1, h.2.1, h.2.2.1, fun y => by simp only [St.put, zaa, h.2.2.2 y]⟩
theorem zeO {s s' : St} (h : s.Eqo s') (x : Operand) : opd s x = opd s' x := by
 cases x with
 | tmp t => simp only [opd, St.at, h.2.2.2 t]
 | _ => rfl
theorem zsl {s s' : St} (h : s.Eqo s') (ds : List D) : zcm s ds = zcm s' ds := by
 cases hx : zcm s ds with
 | some p => exact (zg5 (o' := s'.obs) hx fun i _ => h.2.1 i).symm
 | none =>
  cases hy : zcm s' ds with
  | none => rfl
  | some p => rw [show zcm s ds = some p from zg5 (o' := s.obs) hy fun i _ => (h.2.1 i).symm] at hx; cases hx
theorem zio {s s' : St} (h : s.Eqo s') (op : Op) : zcl s op = zcl s' op := by
 unfold zcl;have e : (opd s) = opd s' := funext fun x => zeO h x;split
 ·unfold zbG;simp only [e, zsl h]
 ·simp_all
theorem St.Eqo.symm {s s' : St} (h : s.Eqo s') : s'.Eqo s := ⟨h.1.symm, fun x => (h.2.1 x).symm, h.2.2.1.symm, fun x => (h.2.2.2 x).symm⟩
theorem zsP {P} {s s' : St} (h : s.Eqo s') (op : Op) (r : D -> Prop) : valD P s op r = valD P s' op r :=
 propext ⟨zkg (fun _ _ => h.2.1 _) fun x _ => zeO h x, zkg (fun _ _ => h.symm.2.1 _) fun x _ => zeO h.symm x⟩
theorem ztM {P} {s s' : St} (h : s.Eqo s') (op : Op) (r : ERes -> Prop) : effD P s op r = effD P s' op r :=
 propext ⟨zgZ (fun _ _ => h.2.1 _) fun x _ => zeO h x, zgZ (fun _ _ => h.symm.2.1 _) fun x _ => zeO h.symm x⟩
def stE (ops : List Oper) (s0 : St) (E : Nat -> Ent) (i : Nat) : St :=
 { n := s0.n, env := zgY (tT E) (fun j => decide (j < i)) ops 0 s0.env, obs := zar (zgm (tW E) (fun _ => true) i) s0.obs, next := s0.next + cnt E i }
theorem zgB (T T' : Nat -> D) (S : Nat -> Bool) (h : ∀ j, S j = true -> T j = T' j) : ∀ (l : List Oper) (i : Nat) (e : List (Nat × D)), zgY T S l i e = zgY T' S l i e
 | [], _, _ => rfl
 | o :: l, i, e => by
  simp only [zgY];cases hS : S i with
  | true => rw [h i hS]; exact zgB T T' S h l (i + 1) _
  | false => exact zgB T T' S h l (i + 1) _
theorem ze7 (W W' : Nat -> Wr) (S : Nat -> Bool) : ∀ m, (∀ j, j < m -> W j = W' j) -> zgm W S m = zgm W' S m
 | 0, _ => rfl
 | m + 1, h => by simp only [zgm, h m (by omega), ze7 W W' S m fun j hj => h j (by omega)]
theorem ziY (E E' : Nat -> Ent) : ∀ i, (∀ j, j < i -> E j = E' j) -> cnt E i = cnt E' i
 | 0, _ => rfl
 | i + 1, h => by
  simp only [cnt, tC, h i (by omega), ziY E E' i fun j hj => h j (by omega)]
  try rfl
theorem zld {ops s0} {E E' : Nat -> Ent} {i : Nat} (h : ∀ j, j < i -> E j = E' j) : stE ops s0 E i = stE ops s0 E' i := by
 simp only [stE];rw [zgB (tT E) (tT E') _ (fun j hj => by simp at hj; simp only [tT, h j hj]), ze7 (tW E) (tW E') _ i (fun j hj => by simp only [tW, h j hj]), ziY E E' i h]
theorem zfm : ∀ (a b : Wr) (o : List (Nat × Ob)), zar (a ++ b) o = zar a (zar b o)
 | [], _, _ => rfl
 | (i, some ob) :: a, b, o => by simp only [List.cons_append, zar, zfm a b o]
 | (i, none) :: a, b, o => by simp only [List.cons_append, zar, zfm a b o]
theorem zk0 (W : Nat -> Wr) (i : Nat) : ∀ m, i <= m -> zgm W (fun j => decide (j < i)) m = zgm W (fun _ => true) i
 | 0, h => by obtain rfl : i = 0 := by omega
              try rfl
 | m + 1, h => by
  by_cases he : i = m + 1
  ·subst he;have : ∀ q, q <= m + 1 -> zgm W (fun j => decide (j < m + 1)) q = zgm W (fun _ => true) q := by
    intro q
    induction q with
    | zero => intro _; rfl
    | succ q ih =>
     intro hq;simp only [zgm];rw [ih (by omega), if_pos (by simp; omega), if_pos trivial]
   exact this _ (Nat.le_refl _)
  ·simp only [zgm];rw [if_neg (by simp; omega)];exact zk0 W i m (by omega)
def zpx (a b : List Nat) : Bool := a.all fun y => !b.contains y
def okP (ops : List Oper) (fp : Fp) : Bool :=
 (List.range ops.length).all fun j => (List.range j).all fun i => zgD ops ops.length i j ||
   (zpx (fp.getD i ([], [])).2 ((fp.getD j ([], [])).1 ++ (fp.getD j ([], [])).2) && zpx (fp.getD j ([], [])).2 (fp.getD i ([], [])).1)
theorem zma {a b : List Nat} (h : zpx a b = true) : ∀ y ∈ a, y ∉ b := fun y hy => by
 have := (List.all_eq_true.1 h) y hy;simpa using this
end Go.VL
namespace Go.VL
open Go
def zbH : Op -> Bool
 | .alloc _ | .box .. | .store .. | .buildSlice .. | .makeSlice .. | .makeMap _ none | .mapUpdate .. | .insert .. => true
 | .call c => match c.callee with | .builtin .append => true | _ => false
 | _ => false
end Go.VL
namespace Go.VL
open Go
def zxn (ρ : Nat -> Nat) (s : St) (nx : Nat) : List (Nat × D) -> Prop
 | [] => True
 | p :: l => (D.le ρ (s.at p.1) p.2 /\ p.2.under nx = true /\ p.1 < s.n) /\ zxn ρ s nx l
def leL (ρ : Nat -> Nat) : List D -> List D -> Prop
 | [], [] => True
 | a :: az, b :: bs => D.le ρ a b /\ leL ρ az bs
 | _, _ => False
theorem zrj {ρ} : ∀ {a b : List D}, leL ρ a b -> a.length = b.length /\ ∀ (j : Nat) (c c' : D), a[j]? = some c -> b[j]? = some c' -> D.le ρ c c'
 | [], [], _ => ⟨rfl, by simp⟩
 | a :: az, b :: bs, h => by
  obtain ⟨h1, h2⟩ := zrj h.2;refine ⟨by simp [h1], fun j c c' hj hj' => ?_⟩;cases j with
  | zero => simp at hj hj'; subst hj; subst hj'; exact h.1
  | succ j => exact h2 j c c' (by simpa using hj) (by simpa using hj')
 | [], b :: bs, h => h.elim
 | a :: az, [], h => h.elim
theorem zfY {α : Type} : ∀ {l : List (Nat × α)} {x : Nat} {d : α}, getK l x = some d -> x ∈ l.map (·.1)
 | [], x, d, h => by simp [getK] at h
 | (y, e) :: l, x, d, h => by
  rw [zaa] at h;by_cases hx : x = y
  ·subst hx; simp
  ·rw [if_neg hx] at h; exact List.mem_cons_of_mem _ (zfY h)
theorem Ob.zw6 {ρ cs cs'} (h : leL ρ cs cs') : Ob.le ρ (.box cs) (.box cs') := zrj h
def zmH (rows : List (List D)) : Prop := ∀ r ∈ rows, ∀ c ∈ r, ∃ x, c = .u x
theorem zqc : zmH [] := fun _ h => by cases h
theorem zoA {r : List D} {a : List (List D)} (hr : ∀ c ∈ r, ∃ x, c = D.u x) (ha : zmH a) : zmH (r :: a) := fun q hq => by
 rcases List.mem_cons.1 hq with rfl | hq
 ·exact hr
 ·exact ha q hq
theorem Ob.zw5 {ρ e sz rows rows'} (hu : zmH rows) (hl : rows'.length <= rows.length) (hp : ∀ i, i < rows'.length -> rows'[i]? = rows[i]?) : Ob.le ρ (.vec e sz rows) (.vec e sz rows') := by
 refine ⟨rfl, rfl, hl, fun i r r' hi hi' => ?_⟩;have := hp i (List.getElem?_eq_some_iff.1 hi').1;rw [hi, hi'] at this;cases this;refine ⟨rfl, fun j c c' hj hj' => ?_⟩;rw [hj] at hj';cases hj';obtain ⟨x, rfl⟩ := hu _ (List.mem_of_getElem? hi) _ (List.mem_of_getElem? hj);exact .inr (.inl (by simp [D.ren]))
theorem Ob.znw {ρ e sz rows} (hu : zmH rows) : Ob.le ρ (.vec e sz rows) (.vec e sz rows) := Ob.zw5 hu (Nat.le_refl _) fun _ _ => rfl
theorem Ob.zmr {n e sz rows} (hu : zmH rows) : Ob.under n (.vec e sz rows) = true := by
 simp only [Ob.under, List.all_eq_true];intro r hr c hc;obtain ⟨x, rfl⟩ := hu r hr c hc;simp [D.under]
theorem LoopI.next {α : Type} {n0 : Nat} {S : α -> St} {μ : α -> Nat} {x : α} {s : St} (y : α) (ρ : Nat -> Nat) (h1 : μ y < μ x) (h2 : St.Le n0 ρ s (S y)) : LoopI n0 S μ x s := ⟨y, ρ, h1, h2⟩
theorem EndOK.fin {P : Program} {fn : Func} {n0 : Nat} {e : Exit} {s : St} {post : D -> List (Nat × Ob) -> Nat -> Prop} (he : e = .normal \/ e = .ret)
  (h : zea P s fn.results.toList fun ds => FinOK n0 post s (zaC ds)) : EndOK P fn n0 post e s := ⟨he, h⟩
theorem FinOK.intro {n0 : Nat} {post : D -> List (Nat × Ob) -> Nat -> Prop} {s : St} {d : D} (s' : St) (ρ : Nat -> Nat) (d' : D) (h1 : St.Le n0 ρ s s') (h2 : D.le ρ d d') (h3 : d'.under s'.next = true)
  (h4 : n0 <= s'.next) (h5 : post d' s'.obs s'.next) : FinOK n0 post s d := .inl ⟨s', ρ, d', h1, h2, h3, h4, h5⟩
theorem FinOK.here {n0 : Nat} {post : D -> List (Nat × Ob) -> Nat -> Prop} {s : St} {d : D} (hn : n0 <= s.next) (h : post d s.obs s.next) : FinOK n0 post s d := .inr ⟨hn, h⟩
theorem ziC {f : D -> D} : ∀ {l : List D}, (∀ d ∈ l, f d = d) -> l.map f = l
 | [], _ => rfl
 | d :: l, h => by rw [zzC, h d (by simp), ziC fun e he => h e (by simp [he])]
theorem D.zmw : ∀ d : D, d.ren (fun i => i) = d
 | .u _ => by rw [D.ren]
 | .any => by rw [D.ren]
 | .ptr .. => by rw [D.ren]
 | .vec .. => by rw [D.ren]
 | .elt .. => by rw [D.ren]
 | .mp .. => by rw [D.ren]
 | .fnc f caps => by rw [D.ren, ziC fun d hd => D.zmw d]
 | .bnd f caps => by rw [D.ren, ziC fun d hd => D.zmw d]
 | .agg cs => by rw [D.ren, ziC fun d hd => D.zmw d]
 | .tup cs => by rw [D.ren, ziC fun d hd => D.zmw d]
termination_by d => SizeOf.sizeOf d
decreasing_by
 all_goals
  simp_wf
  have := List.sizeOf_lt_of_mem hd;omega
theorem D.le_id (d : D) : D.le (fun i => i) d d := .inr (.inl (D.zmw d).symm)
theorem Ob.le_id (ob : Ob) : Ob.le (fun i => i) ob ob := by
 cases ob with
 | it => exact ⟨rfl, rfl, rfl, rfl, rfl⟩
 | nw t => exact (rfl : t = t)
 | sit => exact ⟨rfl, rfl⟩
 | map kk ag es => exact ⟨rfl, rfl, rfl, fun i r r' h h' => by
   rw [h] at h';cases h';exact ⟨rfl, fun j c c' h h' => by rw [h] at h'; cases h'; exact D.le_id _⟩⟩
 | box cs => exact ⟨rfl, fun j c c' h h' => by rw [h] at h'; cases h'; exact D.le_id _⟩
 | vec e sz rows => exact ⟨rfl, rfl, Nat.le_refl _, fun i r r' h h' => by
   rw [h] at h';cases h';exact ⟨rfl, fun j c c' h h' => by rw [h] at h'; cases h'; exact D.le_id _⟩⟩
theorem FinOK.same {n0 : Nat} {post : D -> List (Nat × Ob) -> Nat -> Prop} {s : St} {d : D} (ho : ∀ p ∈ s.obs, p.1 < s.next /\ p.2.under s.next = true) (hd : d.under s.next = true) (hn : n0 <= s.next)
  (h : post d s.obs s.next) : FinOK n0 post s d := by
 have hg : ∀ i ob, getK s.obs i = some ob -> (i, ob) ∈ s.obs := by
  have : ∀ (l : List (Nat × Ob)) i ob, getK l i = some ob -> (i, ob) ∈ l := by
   intro l
   induction l with
   | nil => intro i ob h; simp [getK] at h
   | cons p l ih =>
    obtain ⟨k, o⟩ := p;intro i ob h;rw [zaa] at h;by_cases hk : i = k
    ·simp_all
    ·simp_all
  exact this s.obs
 exact .inl ⟨{ s with env := [] }, fun i => i, d, ⟨rfl, fun x d' hx => by simp [getK] at hx, fun x d' hx => by simp [getK] at hx,
  fun i ob hi => ⟨(ho _ (hg i ob hi)).1, ob, hi, Ob.le_id ob, (ho _ (hg i ob hi)).2⟩, fun _ _ _ _ _ _ h => h, fun i hi => ⟨rfl, Nat.lt_of_lt_of_le hi hn⟩⟩, D.le_id d, hd, hn, h⟩
theorem zgz {α : Type} : ∀ {l : List (Nat × α)} {i : Nat} {ob : α}, getK l i = some ob -> (i, ob) ∈ l
 | [], i, ob, h => by simp [getK] at h
 | (k, o) :: l, i, ob, h => by
  rw [zaa] at h;by_cases hk : i = k
  ·simp_all
  ·rw [if_neg hk] at h; exact List.mem_cons_of_mem _ (zgz h)
theorem FinOK.sub {n0 : Nat} {post : D -> List (Nat × Ob) -> Nat -> Prop} {s : St} {d : D} (obs : List (Nat × Ob)) (ho : ∀ p ∈ obs, getK s.obs p.1 = some p.2 /\ p.1 < s.next /\ p.2.under s.next = true) (hd : d.under s.next = true) (hn : n0 <= s.next)
  (h : post d obs s.next) : FinOK n0 post s d :=
 .inl ⟨{ s with env := [], obs := obs }, fun i => i, d, ⟨rfl, fun x d' hx => by simp [getK] at hx, fun x d' hx => by simp [getK] at hx,
  fun i ob hi => ⟨(ho _ (zgz hi)).2.1, ob, (ho _ (zgz hi)).1, Ob.le_id ob, (ho _ (zgz hi)).2.2⟩, fun _ _ _ _ _ _ h => h, fun i hi => ⟨rfl, Nat.lt_of_lt_of_le hi hn⟩⟩, D.le_id d, hd, hn, h⟩
theorem Ret.mono {P f ds obs nx} {p q : D -> List (Nat × Ob) -> Nat -> Prop} (h : Ret P f ds obs nx p) (hq : ∀ d o n, p d o n -> q d o n) : Ret P f ds obs nx q := fun k own w vs h1 h2 h3 h4 =>
 Calls.mono (h k own w vs h1 h2 h3 h4) fun _ _ ⟨v, d, o, n, k', e, a, b, c, g, r, hpost⟩ => ⟨v, d, o, n, k', e, a, b, c, g, r, hq d o n hpost⟩
end Go.VL
namespace Go.VL
open Go
def Wk (Γ : Ctx) (s s' : St) : Prop := ∀ K a w, In Γ K w -> Sim K Γ.own s a w -> ∃ K', In Γ K' w /\ Sim K' Γ.own s' a w
theorem Wk.refl {Γ : Ctx} (s : St) : Wk Γ s s := fun K _ _ h g => ⟨K, h, g⟩
theorem Wk.trans {Γ : Ctx} {a b c : St} (h : Wk Γ a b) (g : Wk Γ b c) : Wk Γ a c := fun K x w h1 h2 =>
 let ⟨K1, h3, h4⟩ := h K x w h1 h2
 g K1 x w h3 h4
theorem Wk.le {Γ : Ctx} {s s' : St} (ρ : Nat -> Nat) (h : St.Le Γ.n0 ρ s s') : Wk Γ s s' := fun _ _ _ h1 h2 => ⟨_, Sim.weak h1 h2 h⟩
theorem zkX {P Γ c s Q} (s' : St) (hw : Wk Γ s s') (h : V P Γ c s' Q) : V P Γ c s Q := fun K a w hin hs =>
 let ⟨K', h1, h2⟩ := hw K a w hin hs
 h K' a w h1 h2
def LoopW {α : Type} (Γ : Ctx) (S : α -> St) (μ : α -> Nat) (x : α) (s : St) : Prop := ∃ y, μ y < μ x /\ Wk Γ s (S y)
theorem LoopW.next {α : Type} {Γ : Ctx} {S : α -> St} {μ : α -> Nat} {x : α} {s : St} (y : α) (h1 : μ y < μ x) (h2 : Wk Γ s (S y)) : LoopW Γ S μ x s := ⟨y, h1, h2⟩
theorem zso {P Γ Q k s} {c : Code} {α : Type} (S : α -> St) (μ : α -> Nat) (x0 : α) (h0 : Wk Γ s (S x0))
  (h : ∀ x, V P Γ c (S x) (zbf P Γ Q (.loop (LoopW Γ S μ x) k))) : V P Γ (.loop c) s (zbf P Γ Q k) := by
 intro K a w hin hs;obtain ⟨K0, hin0, hs0⟩ := h0 K a w hin hs;have key : ∀ (m : Nat) (x : α) (K : Kr) (a : Act) (w : World), μ x = m -> In Γ K w -> Sim K Γ.own (S x) a w ->
   ∀ (b : Frame) (kk : List Item) (cs : List Frame), ∃ e a' w', VPost Γ (zbf P Γ Q k) e a' w' /\
    Arrives P (lone (b.at a (.code c :: .inLoop c :: kk)) cs w) b kk cs e a' w' := by
  intro m
  induction m using Nat.strongRecOn with
  | _ m ih =>
   intro x K a w hm hin hs b kk cs;obtain ⟨e, a1, w1, hv1, harr⟩ := h x K a w hin hs b (.inLoop c :: kk) cs;rcases hv1 with ⟨K1, s1, h1, h2, h3⟩ | hv1
   ·cases e with
    | normal =>
     obtain ⟨y, hlt, hle⟩ := h3;obtain ⟨K2, h4, h5⟩ := hle K1 a1 w1 h1 h2;obtain ⟨e2, a2, w2, hq, harr2⟩ := ih (μ y) (hm ▸ hlt) y _ a1 w1 rfl h4 h5 b kk cs;exact ⟨e2, a2, w2, hq, .of_steps (Steps.trans harr (.one step_inLoop)) harr2⟩
    | exit id => exact ⟨.exit id, a1, w1, .inl ⟨K1, s1, h1, h2, h3⟩, .pass (x := .inLoop c) rfl (fun _ _ => .inl (by simp)) harr⟩
    | goto l => exact ⟨.goto l, a1, w1, .inl ⟨K1, s1, h1, h2, h3⟩, .pass (x := .inLoop c) rfl (fun _ _ => .inl (by simp)) harr⟩
    | ret => exact ⟨.ret, a1, w1, .inl ⟨K1, s1, h1, h2, h3⟩, .pass (x := .inLoop c) rfl (fun _ _ => .inl (by simp)) harr⟩
    | panic ch => exact ⟨.panic ch, a1, w1, .inl ⟨K1, s1, h1, h2, h3⟩, .pass (x := .inLoop c) rfl (fun _ _ => .inl (by simp)) harr⟩
    | outgrown => exact ⟨.outgrown, a1, w1, .inl ⟨K1, s1, h1, h2, h3⟩, .pass (x := .inLoop c) rfl (fun _ _ => .inl (by simp)) harr⟩
   ·cases e with
    | normal => exact hv1.1.elim
    | _ => exact ⟨_, a1, w1, .inr hv1, .pass (x := .inLoop c) rfl (fun _ _ => .inl (by simp)) harr⟩
 intro b kk cs;obtain ⟨e, a', w', hq, harr⟩ := key _ x0 K0 a w rfl hin0 hs0 b kk cs;exact ⟨e, a', w', hq, .of_steps (.one step_loop) harr⟩
def EndW (P : Program) (Γ : Ctx) (fn : Func) (n0 : Nat) (post : D -> List (Nat × Ob) -> Nat -> Prop) (e : Exit) (s : St) : Prop := ∃ s', Wk Γ s s' /\ EndOK P fn n0 post e s'
theorem EndW.here {P Γ fn n0 post e s} (h : EndOK P fn n0 post e s) : EndW P Γ fn n0 post e s := ⟨s, .refl s, h⟩
theorem EndW.wk {P Γ fn n0 post e s} (s' : St) (hw : Wk Γ s s') (h : EndW P Γ fn n0 post e s') : EndW P Γ fn n0 post e s :=
 let ⟨s2, h1, h2⟩ := h
 ⟨s2, hw.trans h1, h2⟩
theorem zsr {P Γ c s fn n0 post} (h : V P Γ c s (zbf P Γ (EndW P Γ fn n0 post) .done)) : V P Γ c s (zbf P Γ (EndOK P fn n0 post) .done) := by
 intro K a w hin hs;have h1 := h K a w hin hs;refine Code.wp_mono ?_ h1;rintro e a' w' (⟨K', s', h2, h3, hq⟩ | h2)
 ·cases e with
  | panic ch => exact .inl ⟨K', s', h2, h3, hq⟩
  | _ =>
   obtain ⟨s2, hw, he⟩ := hq;obtain ⟨K2, h4, h5⟩ := hw K' a' w' h2 h3;exact .inl ⟨K2, s2, h4, h5, he⟩
 ·exact .inr h2
theorem Fun.of_bodyW {P f fn c ds post} (hf : P.funcs[f]? = some fn) (hb : fn.body = some c) (hn : ds.length <= fn.ntmps)
  (h : ∀ Γ : Ctx, Γ.n0 = 0 -> V P Γ c (entry ds fn.ntmps [] 0) (zbf P Γ (EndW P Γ fn 0 fun d _ _ => zbC d = true /\ post d) .done)) : Fun P f ds post :=
 Fun.of_body hf hb hn fun Γ hn => zsr (h Γ hn)
theorem Ret.of_bodyW {P f fn c ds obs nx post} (hf : P.funcs[f]? = some fn) (hb : fn.body = some c) (hn : ds.length <= fn.ntmps)
  (h : ∀ Γ : Ctx, Γ.n0 = nx -> V P Γ c (entry ds fn.ntmps obs nx) (zbf P Γ (EndW P Γ fn nx post) .done)) : Ret P f ds obs nx post :=
 Ret.of_body hf hb hn fun Γ hn => zsr (h Γ hn)
def St.own (s : St) (x e sz : Nat) : St := { s with env := (x, .vec s.next 0) :: s.env, obs := (s.next, .vec e sz []) :: s.obs, next := s.next + 1 }
theorem zsm {Γ : Ctx} {k s a w} (e sz : Nat) (hsz : 0 < sz) (hin : In Γ k w) (hs : Sim k Γ.own s a w) :
  In Γ (k.add s.next (none, 0)) w /\ Sim (k.add s.next (none, 0)) Γ.own { s with obs := (s.next, .vec e sz []) :: s.obs, next := s.next + 1 } a w := by
 have hi := hs.hdr s.next (Nat.le_refl _)
 have hle := Kr.zg7 (h := (none, 0)) hi;refine ⟨hin.step hle (fun b o v e => .inl e) rfl rfl rfl (Nat.le_refl _) fun _ _ => rfl, ⟨?_, hs.defers, hs.size, fun x d hx => ⟨(hs.env x d hx).1, (hs.env x d hx).2.mono hle⟩, fun i hi' => ?_⟩⟩
 ·exact hs.sat.add hi (fun b hb => by cases hb) (fun _ _ => rfl) ⟨[], ⟨by simp, .inl ⟨rfl, rfl⟩⟩, hsz, by simp, by simp⟩
 ·simp only [Kr.add];rw [if_neg (by simp only at hi'; omega)];exact hs.hdr i (by simp only at hi'; omega)
theorem Wk.own {Γ : Ctx} {s : St} (x e sz : Nat) (hsz : 0 < sz) (hx : getK s.env x = some (.u .nil)) : Wk Γ s (s.own x e sz) := by
 intro k a w hin hs;obtain ⟨h1, h2⟩ := zsm e sz hsz hin hs;refine ⟨_, h1, ⟨h2.sat, h2.defers, h2.size, fun y d hy => ?_, h2.hdr⟩⟩;simp only [St.own, zaa] at hy;by_cases hyx : y = x
 ·subst hyx;rw [if_pos rfl] at hy;cases hy;obtain ⟨h3, h4⟩ := hs.env y _ hx;refine ⟨h3, ?_⟩;rw [zdU h4];exact .vec s.next 0 (none, 0) (by simp [Kr.add])
 ·rw [if_neg hyx] at hy;exact h2.env y d hy
def St.ownC (s : St) (i : Nat) (cells : List D) (j e sz : Nat) : St := { s with obs := (s.next, .vec e sz []) :: zcw s.obs i (.box (cells.set j (.vec s.next 0))), next := s.next + 1 }
theorem Wk.ownC {Γ : Ctx} {s : St} (i : Nat) (cells : List D) (j e sz : Nat) (hsz : 0 < sz) (hi : getK s.obs i = some (.box cells)) (hj : cells[j]? = some (.u .nil)) : Wk Γ s (s.ownC i cells j e sz) := by
 intro k a w hin hs;obtain ⟨h1, h2⟩ := zsm e sz hsz hin hs;have hne : i ≠ s.next := fun h => by
  obtain ⟨g, h3, _⟩ := hs.sat.ob i _ hi;rw [h, hs.hdr s.next (Nat.le_refl _)] at h3;cases h3
 refine ⟨_, h1, ⟨?_, h2.defers, h2.size, h2.env, h2.hdr⟩⟩;have hi' : getK ((s.next, Ob.vec e sz []) :: s.obs) i = some (.box cells) := by rw [zaa, if_neg hne]; exact hi
 obtain ⟨g, hg, hg1, b, vs, t, e1, h3, h4, h5⟩ := h2.sat.ob i _ hi';refine Sat.congr (Sat.set h2.sat hi' hg (fun _ _ => rfl) (ob' := .box (cells.set j (.vec s.next 0))) ⟨b, vs, t, e1, h3, by simpa using h4, fun y d hy => ?_⟩) fun y => ?_
 ·rw [List.getElem?_set] at hy;by_cases hyj : j = y
  ·subst hyj;rw [if_pos rfl] at hy;have hlt := (List.getElem?_eq_some_iff.1 hj).1;rw [if_pos hlt] at hy;cases hy;obtain ⟨h6, h7⟩ := h5 j _ hj;refine ⟨h6, ?_⟩;rw [zdU h7];exact .vec s.next 0 (none, 0) (by simp [Kr.add])
  ·rw [if_neg hyj] at hy;exact h5 y d hy
 ·grind [St.ownC, zaa, zad]
def fv (σ : D -> Option U) (d : D) : D := match σ d with | some u => .u u | none => d
def frzS (σ : D -> Option U) : D -> D
 | .u x => .u x
 | .ptr j o => fv σ (.ptr j o)
 | .vec j len => fv σ (.vec j len)
 | .elt j a b c => .elt j a b c
 | .mp j => fv σ (.mp j)
 | .fnc f caps => .fnc f (caps.map fun d => frzS σ d)
 | .bnd f caps => .bnd f (caps.map fun d => frzS σ d)
 | .agg cs => zcW (cs.map fun d => frzS σ d)
 | .tup cs => .tup (cs.map fun d => frzS σ d)
 | .any => .any
theorem Rep.frz {k k' : Kr} {σ : D -> Option U} (hle : k.le k') (hf : ∀ d u v, σ d = some u -> Rep k d v -> RepU k'.mem u v) :
  ∀ {d : D} {v : Value}, Rep k d v -> Rep k' (frzS σ d) v := by
 intro d v h;have leaf : ∀ d v, Rep k d v -> Rep k' (fv σ d) v := fun d v h => by
  unfold fv;split
  ·rename_i u hu;exact .u _ _ (hf d u v hu h)
  ·exact h.mono hle
 induction h with
 | u x v h => rw [VL.frzS]; exact .u x v (h.mono hle.mem)
 | any v => rw [VL.frzS]; exact .any v
 | ptr j off b c h => rw [VL.frzS]; exact leaf _ _ (.ptr j off b c h)
 | vec j len h hh => rw [VL.frzS]; exact leaf _ _ (.vec j len h hh)
 | mp j b c h => rw [VL.frzS]; exact leaf _ _ (.mp j b c h)
 | elt j sz idx off b c h => rw [VL.frzS]; exact .elt j sz idx off b c (hle.hdr _ _ h)
 | fnc f caps vs hl hr ih =>
  rw [VL.frzS];refine .fnc f _ vs (by simpa using hl) fun j d hj => ?_;rw [List.getElem?_map] at hj;cases hc : caps[j]? with
  | none => rw [hc] at hj; cases hj
  | some e => rw [hc] at hj; cases hj; exact ih j e hc
 | bnd f caps vs hl hr ih =>
  rw [VL.frzS];refine .bnd f _ vs (by simpa using hl) fun j d hj => ?_;rw [List.getElem?_map] at hj;cases hc : caps[j]? with
  | none => rw [hc] at hj; cases hj
  | some e => rw [hc] at hj; cases hj; exact ih j e hc
 | agg cells vs hl hr ih =>
  rw [VL.frzS];refine zeY (by simpa using hl) fun j d hj => ?_;rw [List.getElem?_map] at hj;cases hc : cells[j]? with
  | none => rw [hc] at hj; cases hj
  | some e => rw [hc] at hj; cases hj; exact ih j e hc
 | tup cells vs hl hr ih =>
  rw [VL.frzS];refine .tup _ vs (by simpa using hl) fun j d hj => ?_;rw [List.getElem?_map] at hj;cases hc : cells[j]? with
  | none => rw [hc] at hj; cases hj
  | some e => rw [hc] at hj; cases hj; exact ih j e hc
def frzObS (σ : D -> Option U) : Ob -> Ob
 | .box cs => .box (cs.map (frzS σ))
 | .vec e sz rows => .vec e sz (rows.map fun r => r.map (frzS σ))
 | .map kk ag es => .map kk ag (es.map fun p => (p.1, p.2.map (frzS σ)))
 | .it kk ag es left cur => .it kk ag es left cur
 | .nw t => .nw t
 | .sit s p => .sit s p
theorem ObAt.frz {k k' : Kr} {σ : D -> Option U} (hle : k.le k') (hf : ∀ d u v, σ d = some u -> Rep k d v -> RepU k'.mem u v) {w h ob} (ho : ObAt k w h ob) : ObAt k' w h (frzObS σ ob) := by
 cases ob with
 | box cs =>
  obtain ⟨b, vs, t, e, h1, h2, h3⟩ := ho;refine ⟨b, vs, t, e, h1, by simpa using h2, fun j d hj => ?_⟩;rw [List.getElem?_map] at hj;cases hc : cs[j]? with
  | none => rw [hc] at hj; cases hj
  | some e => rw [hc] at hj; cases hj; exact ⟨(h3 j e hc).1, (h3 j e hc).2.frz hle hf⟩
 | it kk ag es left cur =>
  obtain ⟨b, e, h1⟩ := ho;exact ⟨b, e, h1.keep hle.mem rfl⟩
 | nw t => exact ho
 | sit => exact ho
 | map kk ag es =>
  obtain ⟨b, ents, clock, es0, e, h1, hpm, h2⟩ := ho;have hget : ∀ i (p : Key × List D), (es0.map fun p => (p.1, p.2.map (frzS σ)))[i]? = some p -> ∃ q : Key × List D, es0[i]? = some q /\ p = (q.1, q.2.map (frzS σ)) := fun i p hp => by
   rw [List.getElem?_map] at hp;cases hc : es0[i]? with
   | none => rw [hc] at hp; cases hp
   | some q => rw [hc] at hp; cases hp; exact ⟨q, hc, rfl⟩
  refine ⟨b, ents, clock, _, e, h1, hpm.map _, ⟨by simpa using h2.size, fun p hp => ?_, by rw [List.pairwise_map]; exact h2.once, fun i p hp => ?_, h2.born, h2.apart⟩⟩
  ·obtain ⟨q, hq, rfl⟩ := List.mem_map.1 hp;exact h2.kind q hq
  ·obtain ⟨q, hq, rfl⟩ := hget i p hp;obtain ⟨en, h3, h4, h5⟩ := h2.ent i q hq;refine ⟨en, h3, h4, ?_⟩;unfold MV at h5 ⊢;split at h5
   ·rename_i hag;obtain ⟨vs, h6, h7, h8⟩ := h5;rw [if_pos hag];refine ⟨vs, h6, by simpa using h7, fun j d hj => ?_⟩;rw [List.getElem?_map] at hj;cases hc : q.2[j]? with
    | none => rw [hc] at hj; cases hj
    | some x => rw [hc] at hj; cases hj; exact ⟨(h8 j x hc).1, (h8 j x hc).2.frz hle hf⟩
   ·rename_i hag;obtain ⟨d, h6, h7⟩ := h5;rw [if_neg hag];exact ⟨_, by rw [h6]; rfl, h7.1, h7.2.frz hle hf⟩
 | vec e sz rows =>
  obtain ⟨xs, h1, h2, h3, h4⟩ := ho;refine ⟨xs, by simpa using h1, h2, fun r hr => ?_, fun j r hr y d hy => ?_⟩
  ·grind
  ·rw [List.getElem?_map] at hr;cases hc : rows[j]? with
   | none => rw [hc] at hr; cases hr
   | some q =>
    rw [hc] at hr;cases hr;rw [List.getElem?_map] at hy;cases hd : q[y]? with
    | none => rw [hd] at hy; cases hy
    | some e => rw [hd] at hy; cases hy; exact ⟨(h4 j q hc y e hd).1, (h4 j q hc y e hd).2.frz hle hf⟩
def St.frzS (s : St) (i : Nat) (σ : D -> Option U) (js : List Nat) : St :=
 { s with env := s.env.map (fun p => (p.1, VL.frzS σ p.2)), obs := (del s.obs i).map fun p => if js.contains p.1 then (p.1, frzObS σ p.2) else p }
theorem zd2 {α β : Type} (f : Nat -> α -> β) : ∀ (l : List (Nat × α)) (x : Nat), getK (l.map fun p => (p.1, f p.1 p.2)) x = (getK l x).map (f x)
 | [], _ => rfl
 | (k, d) :: l, x => by
  simp only [zzC, zaa, zd2 f l x];by_cases h : x = k
  ·subst h; simp
  ·simp [h]
theorem Wk.frzS {Γ : Ctx} {s : St} (i : Nat) (js : List Nat) {ob : Ob} {σ : D -> Option U} (hi : getK s.obs i = some ob)
  (hσ : ∀ (k : Kr) (w : World) (h : Option Nat × Nat) (m : Mem), k.hdr i = some h -> ObAt k w h ob -> k.mem.le m -> (∀ b, h.1 = some b -> ∀ o v, look w b o = some v -> m b o = some v) -> ∀ d u v, σ d = some u -> Rep k d v -> RepU m u v) : Wk Γ s (s.frzS i σ js) := by
 intro k a w hin hs;obtain ⟨h, hh, hno, hat⟩ := hs.sat.ob i ob hi;have hgl : ∀ b o v, k.mem b o = some v -> (if h.1 = some b then look w b o else k.mem b o) = some v := fun b o v hv => by grind
 let k' : Kr := { mem := fun b o => if h.1 = some b then look w b o else k.mem b o, hdr := k.hdr, glob := k.glob.mono hgl }
 have hle : k.le k' := ⟨fun b o v hm => by
  show (if h.1 = some b then _ else _) = _;rw [if_neg (fun hb => by rw [(hno b hb).2 o] at hm; cases hm)];exact hm, fun _ _ h => h⟩
 have hmem' : ∀ b o v, k'.mem b o = some v -> look w b o = some v := fun b o v hm => by
  have hm' : (if h.1 = some b then look w b o else k.mem b o) = some v := hm;by_cases hb : h.1 = some b
  ·rw [if_pos hb] at hm';exact hm'
  ·rw [if_neg hb] at hm';exact hs.sat.mem b o v hm'
 have hf : ∀ d u v, σ d = some u -> Rep k d v -> RepU k'.mem u v := hσ k w h k'.mem hh hat hle.mem fun b hb o v hv => by grind
 have conv : ∀ x ox, getK (s.frzS i σ js).obs x = some ox -> ∃ o', getK s.obs x = some o' /\ x ≠ i /\ (ox = o' \/ ox = frzObS σ o') := fun x ox hx => by
  have : getK ((del s.obs i).map fun p => (p.1, if js.contains p.1 then frzObS σ p.2 else p.2)) x = some ox := by grind [St.frzS]
  rw [zd2 (fun x (o : Ob) => if js.contains x then frzObS σ o else o), zac] at this;by_cases hji : x = i
  ·rw [if_pos hji] at this; cases this
  ·rw [if_neg hji] at this;cases ho : getK s.obs x with
   | none => rw [ho] at this; cases this
   | some ob0 =>
    rw [ho] at this;simp only [Option.map_some, Option.some.injEq] at this;refine ⟨ob0, rfl, hji, ?_⟩;rw [<- this];split
    ·exact .inr rfl
    ·exact .inl rfl
 refine ⟨k', hin.step hle (fun b o v hm => ?_) rfl rfl rfl (Nat.le_refl _) (fun _ _ => rfl), ⟨⟨hmem', fun j ob' hj => ?_, fun x y ox oy g g' b hx hy hxy hg hg' hb' => ?_⟩, hs.defers, hs.size, fun x d hx => ?_, hs.hdr⟩⟩
 ·grind
 ·obtain ⟨ob0, h1, h2, h3⟩ := conv j ob' hj;obtain ⟨g, hg, hg1, hg2⟩ := hs.sat.ob j ob0 h1;refine ⟨g, hg, fun b hb => ⟨(hg1 b hb).1, fun o => ?_⟩, ?_⟩
  ·have hne : h.1 ≠ some b := fun e => hs.sat.apart i j _ ob0 h g b hi h1 (Ne.symm h2) hh hg e hb;show (if h.1 = some b then _ else _) = _;rw [if_neg hne];exact (hg1 b hb).2 o
  ·rcases h3 with rfl | rfl
   ·exact hg2.keep hle fun _ _ => rfl
   ·exact hg2.frz hle hf
 ·obtain ⟨o1, h1, _⟩ := conv x ox hx;obtain ⟨o2, h2, _⟩ := conv y oy hy;exact hs.sat.apart x y o1 o2 g g' b h1 h2 hxy hg hg' hb'
 ·have hx' : getK (s.env.map fun p => (p.1, VL.frzS σ p.2)) x = some d := hx;rw [zd2 (fun _ d => VL.frzS σ d)] at hx';cases he : getK s.env x with
  | none => rw [he] at hx'; cases hx'
  | some d0 =>
   rw [he] at hx';cases hx';exact ⟨(hs.env x d0 he).1, (hs.env x d0 he).2.frz hle hf⟩
def za1 (i : Nat) (us : List (List U)) : D -> Option U
 | .vec j len => if j = i /\ len <= us.length then some (.sl (us.take len)) else none
 | _ => none
def zbm (i : Nat) (kk : KK) (ag : Bool) (us : List (Key × List U)) : D -> Option U
 | .mp j => if j = i then some (.map kk ag us) else none
 | _ => none
def zbn (i : Nat) (us : List U) : D -> Option U
 | .ptr j off => if j = i then some (.row us off) else none
 | _ => none
abbrev frz (i : Nat) (us : List (List U)) : D -> D := frzS (za1 i us)
abbrev zbL (i : Nat) (us : List (List U)) : Ob -> Ob := frzObS (za1 i us)
abbrev St.frz (s : St) (i : Nat) (us : List (List U)) (js : List Nat) : St := s.frzS i (za1 i us) js
theorem Wk.frz {Γ : Ctx} {s : St} (i : Nat) (js : List Nat) {e sz : Nat} {rows : List (List D)} {us : List (List U)} (hi : getK s.obs i = some (.vec e sz rows)) (hu : zct rows = some us) : Wk Γ s (s.frz i us js) := by
 refine Wk.frzS i js hi fun k w h m hh hat hkm hlk d u v hd hr => ?_;obtain ⟨xs, hrow, hpos, hlen, hcells⟩ := hat;have hrw := zi7 hu;have hul : us.length = rows.length := by rw [hrw]; simp
 unfold za1 at hd;split at hd
 ·rename_i j len;split at hd
  ·rename_i hc;cases hd;obtain ⟨rfl, hl⟩ := hc;obtain ⟨g, hg, rfl⟩ := zfc hr;rw [hh] at hg;cases hg;have hcell : ∀ b, h.1 = some b -> ∀ j u, xs[j]? = some u -> w.cell? ⟨b, j, none⟩ = some u := fun b hb j u hj => by
    have := hrow.cells (g := b) (by simp [za8, Value.ownBlock, hb]) j u hj
    rwa [zde, Nat.zero_add] at this
   by_cases h0 : len = 0
   ·subst h0;rw [List.take_zero];exact .slE _ _ fun e => zfC hrow (by simpa using e)
   ·rcases hrow.2 with ⟨hv, hz⟩ | ⟨g, cap, cur, hv, _, hheap, hncap, hcm, _, htake⟩
    ·omega
    ·obtain ⟨hb1, hb2⟩ : h.1 = some g /\ h.2 = cap := by
      simp only [za8, Value.slice.injEq, Option.map_eq_some_iff] at hv;obtain ⟨⟨b, hb, e⟩, _, e2⟩ := hv;simp only [Addr.mk.injEq] at e;exact ⟨by rw [hb, e.1], e2⟩
     have hxl := hrow.1;have := RepU.sl (m := m) (us.take len) g 0 sz h.2 (fun p q => xs.getD (p * sz + q) undef) (by simp; omega) (by omega) (fun r hr => ?_) (fun p hp q hq => ?_) (fun p r hr q u hq => ?_)
     ·simpa [za8, hb1, Nat.min_eq_left hl] using this
     ·have hm := List.mem_of_mem_take hr;have : r.map D.u ∈ rows := by rw [hrw]; exact List.mem_map.2 ⟨r, hm, rfl⟩
      simpa using hlen _ this
     ·have hp' : p < rows.length := by simp at hp; omega
      have hb : p * sz + q < rows.length * sz := by
       have : (p + 1) * sz <= rows.length * sz := Nat.mul_le_mul_right _ hp';rw [Nat.add_mul, Nat.one_mul] at this;omega
      refine hlk g hb1 _ _ (zep (hcell g hb1 _ _ ?_));rw [Nat.zero_add, List.getD_eq_getElem?_getD, List.getElem?_eq_getElem (by omega)]
      try rfl
     ·rw [List.getElem?_take] at hr;split at hr
      ·have hr' : rows[p]? = some (r.map D.u) := by rw [hrw, List.getElem?_map, hr]; rfl
       have hd := (hcells p _ hr' q (.u u) (by rw [List.getElem?_map, hq]; rfl)).2;cases hd with | u _ _ hd => exact hd.mono hkm
      ·cases hr
  ·cases hd
 ·cases hd
theorem Wk.zyX {Γ : Ctx} {s : St} (i : Nat) (js : List Nat) {kk : KK} {ag : Bool} {es : List (Key × List D)} {us : List (Key × List U)} (hi : getK s.obs i = some (.map kk ag es)) (hu : zc0 es = some us) : Wk Γ s (s.frzS i (zbm i kk ag us) js) := by
 refine Wk.frzS i js hi fun k w h m hh hat hkm hlk d u v hd hr => ?_;obtain ⟨b, ents, clock, es0, hb, hheap, hpm, hm⟩ := hat;unfold zbm at hd;split at hd
 ·rename_i j;split at hd
  ·rename_i hc;cases hd;subst hc;obtain ⟨b', c, hg, rfl⟩ := zlq hr;rw [hh] at hg;cases hg;simp only [Option.some.injEq] at hb;subst hb;obtain ⟨us1, e1, hp1⟩ := zjL (es := es0) (us := us) (by rw [<- zi5 hu]; exact hpm);exact hm.toU e1 hp1 (hlk _ rfl _ _ (ziE hheap)) hkm
  ·cases hd
 ·cases hd
theorem Wk.frzB {Γ : Ctx} {s : St} (i : Nat) (js : List Nat) {cells : List D} {us : List U} (hi : getK s.obs i = some (.box cells)) (hu : zef cells = some us) : Wk Γ s (s.frzS i (zbn i us) js) := by
 refine Wk.frzS i js hi fun k w h m hh hat hkm hlk d u v hd hr => ?_;obtain ⟨b, vs, t, hb, hheap, hsz, hcells⟩ := hat;have hinv := zh9 hu;have hul : us.length = cells.length := by rw [hinv]; simp
 unfold zbn at hd;split at hd
 ·rename_i j off;split at hd
  ·rename_i hc;cases hd;subst hc;obtain ⟨b', c, hg, rfl⟩ := zeb hr;rw [hh] at hg;cases hg;simp only [Option.some.injEq] at hb;subst hb;have := RepU.row (m := m) us off b' 0 (fun j => vs.getD j undef) (fun j hj => by
    refine hlk _ rfl _ _ (zep ?_);rw [Nat.zero_add, cell_of_row w b' j vs t (0, 0) hheap];simp [show j < vs.size by omega]) (fun j u hj => by
    have := (hcells j (.u u) (by rw [hinv, List.getElem?_map, hj]; rfl)).2;cases this with | u _ _ this => exact this.mono hkm)
   simpa using this
  ·cases hd
 ·cases hd
def zax (env : List (Nat × D)) : List Nat -> List (Nat × D)
 | [] => []
 | x :: l => match getK env x with
  | some d => (x, d) :: zax env l
  | none => zax env l
def St.only (s : St) (live : List Nat) : St := { s with env := zax s.env live }
theorem ziJ {env : List (Nat × D)} : ∀ {live : List Nat} {x d}, getK (zax env live) x = some d -> getK env x = some d
 | [], x, d, h => by simp [zax, getK] at h
 | y :: l, x, d, h => by
  simp only [zax] at h;split at h
  ·rename_i e he;rw [zaa] at h;by_cases hx : x = y
   ·simp_all
   ·rw [if_neg hx] at h; exact ziJ h
  ·exact ziJ h
theorem Wk.only {Γ : Ctx} {s : St} (live : List Nat) : Wk Γ s (s.only live) := fun k _ _ hin hs =>
 ⟨k, hin, ⟨hs.sat, hs.defers, hs.size, fun x d hx => hs.env x d (ziJ hx), hs.hdr⟩⟩
def St.lp (s : St) (live : List Nat) (F : List (Nat × D)) : St := { s with env := F ++ zax s.env live }
def wkE (s : St) : List (Nat × D) -> Prop
 | [] => True
 | p :: l => (∃ d, getK s.env p.1 = some d /\ (d = p.2 \/ p.2 = .any \/ (d = .u .nil /\ p.2 = .u (.sl [])))) /\ wkE s l
theorem zpY {s : St} : ∀ {l : List (Nat × D)} {x d}, wkE s l -> getK l x = some d -> ∃ d0, getK s.env x = some d0 /\ (d0 = d \/ d = .any \/ (d0 = .u .nil /\ d = .u (.sl [])))
 | [], x, d, _, h => by simp [getK] at h
 | (y, e) :: l, x, d, hw, h => by
  rw [zaa] at h;by_cases hx : x = y
  ·rw [if_pos hx] at h; cases h; subst hx; exact hw.1
  ·rw [if_neg hx] at h; exact zpY hw.2 h
theorem Wk.env {Γ : Ctx} {s s' : St} (hn : s'.n = s.n) (ho : s'.obs = s.obs) (hx : s'.next = s.next) (he : wkE s s'.env) : Wk Γ s s' := by
 intro k a w hin hs;refine ⟨k, hin, ⟨by rw [ho]; exact hs.sat, hs.defers, by rw [hn]; exact hs.size, fun x d hxd => ?_, fun i hi => hs.hdr i (by rw [<- hx]; exact hi)⟩⟩;obtain ⟨d0, h1, h2⟩ := zpY he hxd;obtain ⟨h3, h4⟩ := hs.env x d0 h1;refine ⟨by rw [hn]; exact h3, ?_⟩;rcases h2 with rfl | rfl | ⟨rfl, rfl⟩
 ·exact h4
 ·exact .any _
 ·rw [zdU h4];exact .u _ _ (.slE _ _ fun _ => rfl)
theorem zdd {P Γ Q k s} {c : Code} {α : Type} (live : List Nat) (F : α -> List (Nat × D)) (μ : α -> Nat) (x0 : α) (h0 : Wk Γ s (s.lp live (F x0)))
  (h : ∀ x, V P Γ c (s.lp live (F x)) (zbf P Γ Q (.loop (LoopW Γ (fun x => s.lp live (F x)) μ x) k))) : V P Γ (.loop c) s (zbf P Γ Q k) := zso _ μ x0 h0 h
theorem zbS {P Γ Q k s} {c : Code} {α : Type} (live : List Nat) (F : α -> List (Nat × D)) (O : α -> List (Nat × Ob)) (nx : Nat) (μ : α -> Nat) (x0 : α) (h0 : Wk Γ s { s.lp live (F x0) with obs := O x0, next := nx })
  (h : ∀ x, V P Γ c { s.lp live (F x) with obs := O x, next := nx } (zbf P Γ Q (.loop (LoopW Γ (fun x => { s.lp live (F x) with obs := O x, next := nx }) μ x) k))) : V P Γ (.loop c) s (zbf P Γ Q k) := zso _ μ x0 h0 h
theorem zpN {P Γ c s Q} {x : Nat} (hx : getK s.env x = some (.u (.sl []))) (h1 : V P Γ c { s with env := (x, .u .nil) :: s.env } Q)
  (h2 : ∀ a cp, V P Γ c { s with env := (x, .u (.oth (.slice (some a) 0 cp))) :: s.env } Q) : V P Γ c s Q := by
 intro K a w hin hs;obtain ⟨hlt, hr⟩ := hs.env x _ hx;have put : ∀ d, Rep K d (a.tmps.getD x undef) -> Sim K Γ.own { s with env := (x, d) :: s.env } a w := fun d hd => ⟨hs.sat, hs.defers, hs.size, fun y e hy => by
  rw [zaa] at hy;by_cases hyx : y = x
  ·simp_all
  ·rw [if_neg hyx] at hy; exact hs.env y e hy, hs.hdr⟩
 generalize hv : a.tmps.getD x undef = v at hr;cases hr with
 | u _ _ hr =>
  cases hr with
  | slE ad cp hn =>
   cases ad with
   | none =>
    have : cp = 0 := hn rfl;subst this;exact h1 K a w hin (put _ (by rw [hv]; exact .u _ _ .nil))
   | some ad => exact h2 ad cp K a w hin (put _ (by rw [hv]; exact .u _ _ (.oth _)))
  | sl _ b o sz cp f hc hxm hsz hm hr => exact h2 ⟨b, o, none⟩ cp K a w hin (put _ (by rw [hv]; exact .u _ _ (.oth _)))
theorem Ret.congr {P f ds obs obs' nx post} (h : Ret P f ds obs nx post) (e : ∀ i, getK obs' i = getK obs i) : Ret P f ds obs' nx post :=
 fun k own w vs hsat hhdr hfresh hrep => h k own w vs (Sat.congr hsat fun i => (e i).symm) hhdr hfresh hrep
theorem Ret.frame {P f ds obs nx post} (F : List (Nat × Ob)) (hF : ∀ i ob, getK F i = some ob -> getK obs i = none) (h : Ret P f ds obs nx post) :
  Ret P f ds (F ++ obs) nx (fun d o n => ∃ o1, o = F ++ o1 /\ post d o1 n) := by
 intro k own w vs hsat hhdr hfresh hrep;have hob : ∀ i ob, getK obs i = some ob -> getK F i = none /\ getK (F ++ obs) i = some ob := fun i ob hi => by
  have hn : getK F i = none := by
   cases hf : getK F i with
   | none => rfl
   | some x => rw [hF i x hf] at hi; cases hi
  exact ⟨hn, by rw [zab, hn]; exact hi⟩
 have hfo : ∀ i ob, getK F i = some ob -> getK (F ++ obs) i = some ob := fun i ob hi => by rw [zab, hi]
 have hbf : ∀ b, Blk k F b -> Blk k (F ++ obs) b := fun b ⟨i, ob, g, h1, h2, h3⟩ => ⟨i, ob, g, hfo i ob h1, h2, h3⟩;have hsat' : Sat k (fun b => own b /\ ¬ Blk k F b) obs w := by
  refine ⟨hsat.mem, fun i ob hi => ?_, fun i j x y g g' b hx hy hij => ?_⟩
  ·obtain ⟨hn, hi'⟩ := hob i ob hi;obtain ⟨g, h1, h2, h3⟩ := hsat.ob i ob hi';refine ⟨g, h1, fun b hb => ⟨⟨(h2 b hb).1, ?_⟩, (h2 b hb).2⟩, h3⟩;rintro ⟨j, oj, g', h4, h5, h6⟩;exact hsat.apart i j ob oj g g' b hi' (hfo j oj h4) (fun e => by subst e; rw [hn] at h4; cases h4) h1 h5 hb h6
  ·exact hsat.apart i j x y g g' b (hob i x hx).2 (hob j y hy).2 hij
 refine (h k _ w vs hsat' hhdr (fun b hb => ⟨hfresh b hb, fun hB => absurd (hsat.lt (hbf b hB)) (by omega)⟩) hrep).mono ?_;rintro e w' ⟨v, d, o1, n', k', he, hin, hs1, hh1, hle, hr1, hp⟩;refine ⟨v, d, F ++ o1, n', k', he, ⟨hin.le, hin.none0, fun b o x hx => (hin.memNew b o x hx).imp id (·.1), hfresh, hin.os, hin.tape, hin.output, hin.size, fun b hb => hin.block b fun hb' => hb hb'.1⟩, ?_, hh1, hle, hr1, o1, rfl, hp⟩;have hFat : ∀ i ob, getK F i = some ob -> ∃ g, k.hdr i = some g /\ k'.hdr i = some g /\ (∀ b, g.1 = some b -> own b /\ (∀ o, k'.mem b o = none) /\ Blk k F b) /\ ObAt k' w' g ob := fun i ob hi => by
  obtain ⟨g, h1, h2, h3⟩ := hsat.ob i ob (hfo i ob hi);have hB : ∀ b, g.1 = some b -> Blk k F b := fun b hb => ⟨i, ob, g, hi, h1, hb⟩;refine ⟨g, h1, hin.le.hdr i g h1, fun b hb => ⟨(h2 b hb).1, fun o => ?_, hB b hb⟩, h3.keep hin.le fun b hb => hin.block b fun hb' => hb'.2 (hB b hb)⟩;cases hm : k'.mem b o with
  | none => rfl
  | some x =>
   rcases hin.memNew b o x hm with h4 | h4
   ·simp_all
   ·exact absurd (hB b hb) h4.2
 refine ⟨hs1.mem, fun i ob hi => ?_, fun i j x y g g' b hx hy hij hg hg' hb => ?_⟩
 ·rw [zab] at hi;cases hf : getK F i with
  | some x =>
   rw [hf] at hi;cases hi;obtain ⟨g, _, h2, h3, h4⟩ := hFat i _ hf;exact ⟨g, h2, fun b hb => ⟨(h3 b hb).1, (h3 b hb).2.1⟩, h4⟩
  | none =>
   rw [hf] at hi;obtain ⟨g, h1, h2, h3⟩ := hs1.ob i ob hi;exact ⟨g, h1, fun b hb => ⟨(h2 b hb).1.1, (h2 b hb).2⟩, h3⟩
 ·rw [zab] at hx hy;cases hfx : getK F i with
  | some x' =>
   obtain ⟨g1, k1, k2, k3, _⟩ := hFat i _ hfx;rw [hg] at k2;cases k2;cases hfy : getK F j with
   | some y' =>
    obtain ⟨g2, l1, l2, l3, _⟩ := hFat j _ hfy;rw [hg'] at l2;cases l2;exact hsat.apart i j x' y' g g' b (hfo i _ hfx) (hfo j _ hfy) hij k1 l1 hb
   | none =>
    rw [hfy] at hy;obtain ⟨g2, l1, l2, _⟩ := hs1.ob j y hy;rw [hg'] at l1;cases l1;exact fun e => (l2 b e).1.2 (k3 b hb).2.2
  | none =>
   rw [hfx] at hx;cases hfy : getK F j with
   | some y' =>
    obtain ⟨g2, l1, l2, l3, _⟩ := hFat j _ hfy;rw [hg'] at l2;cases l2;obtain ⟨g1, k1, k2, _⟩ := hs1.ob i x hx;rw [hg] at k1;cases k1;exact fun e => (k2 b hb).1.2 (l3 b e).2.2
   | none =>
    rw [hfy] at hy;exact hs1.apart i j x y g g' b hx hy hij hg hg' hb
theorem CallP.zy0 {P : Program} {Γ : Ctx} {s : St} {k : St -> Prop} {dst : Option Tmp} {fop : Operand} {args : List Operand} {f caps} {ds : List D} {post : D -> List (Nat × Ob) -> Nat -> Prop} (F obs : List (Nat × Ob)) (hret : Ret P f ds obs s.next post)
  (heq : ∀ i, getK s.obs i = getK (F ++ obs) i) (hF : ∀ i ob, getK F i = some ob -> getK obs i = none)
  (hf : zam (opd s fop) = some (f, caps)) (hc : zae P f = true) (hds : args.map (opd s) ++ caps = ds) (hp : zay dst s)
  (hk : ∀ d o1 nx', s.next <= nx' -> post d o1 nx' -> k (({ s with obs := F ++ o1, next := nx' } : St).put dst d)) : CallP P Γ fop args dst s k :=
 CallP.zxj ((hret.frame F hF).congr heq) hf hc hds hp fun d o n hn ⟨o1, ho, hpo⟩ => by subst ho; exact hk d o1 n hn hpo
def stT (P : Program) (t : TypeId) : Option (List TypeId) := match P.underlying t with | some (.struct fs) => some (fs.toList.map (·.type)) | _ => none
end Go.VL
namespace Go.VL
open Go Go.ChangeShapes Go.WideShapes Go.ChangeAt Go.RowKit Go.Deep
open Go.Proofs.YtmlpcgkaonifcaaGreatDoor.Rows (uptoBulk uptoBulkAll)
def zju (w : World) : Mem := fun b o => look w b o
inductive HasRow (P : Program) : TypeId -> List U -> Prop
 | bool {t b} (h : P.underlying t = some .bool) : HasRow P t [.bool b]
 | int {t k n} (h : P.underlying t = some (.int k)) (h1 : k.min <= n) (h2 : n <= k.max) : HasRow P t [.int k n]
 | str {t l} (h : P.underlying t = some .string) (h1 : l.length <= maxLen) : HasRow P t [.str l]
 | slice {t e rows} (h : P.underlying t = some (.slice e)) (h1 : rows.length <= maxLen) (h2 : ∀ r ∈ rows, HasRow P e r) : HasRow P t [.sl rows]
 | struct {t fs} (rs : List (List U)) (h : P.underlying t = some (.struct fs)) (h1 : rs.length = fs.size) (h2 : ∀ (i : Nat) (f : Field) (r : List U), fs[i]? = some f -> rs[i]? = some r -> HasRow P f.type r) : HasRow P t rs.flatten
 | other {t r} (h : match P.underlying t with | some .bool | some (.int _) | some .string | some (.struct _) => False | some (.slice e) => P.cellsOf e = 0 | _ => True) : HasRow P t r
def zwd (P : Program) : Nat -> List Field -> Nat -> Bool
 | o, [], n => o == n
 | o, f :: l, n => f.offset == o && zwd P (o + P.cellsOf f.type) l n
def zjC (P : Program) : Bool := (List.range P.types.size).all fun t => match P.underlying t with
 | some (.struct fs) => zwd P 0 fs.toList (P.cellsOf t) && fs.toList.all fun f => decide (f.type < P.types.size)
 | some (.slice e) => decide (e < P.types.size)
 | _ => true
theorem zkn {P : Program} (h : zjC P = true) {t fs} (hlt : t < P.types.size) (ht : P.underlying t = some (.struct fs)) : zwd P 0 fs.toList (P.cellsOf t) = true /\ ∀ f ∈ fs.toList, f.type < P.types.size := by
 have := List.all_eq_true.1 h t (List.mem_range.2 hlt);simp only [ht, Bool.and_eq_true, List.all_eq_true, decide_eq_true_eq] at this;exact this
theorem zli {P : Program} (h : zjC P = true) {t e} (hlt : t < P.types.size) (ht : P.underlying t = some (.slice e)) : e < P.types.size := by
 have := List.all_eq_true.1 h t (List.mem_range.2 hlt);simp only [ht, decide_eq_true_eq] at this;exact this
def RepRow (m : Mem) (r : List U) (cs : List Value) : Prop := r.length = cs.length /\ ∀ (j : Nat) (u : U), r[j]? = some u -> RepU m u (cs.getD j undef)
theorem RepRow.one {m : Mem} {u : U} {v : Value} (h : RepU m u v) : RepRow m [u] [v] := ⟨rfl, fun j w hj => by
 cases j with
 | zero => simp at hj; subst hj; exact h
 | succ j => simp at hj⟩
theorem RepRow.append {m : Mem} {a b : List U} {x y : List Value} (h : RepRow m a x) (g : RepRow m b y) : RepRow m (a ++ b) (x ++ y) := by
 refine ⟨by simp [h.1, g.1], fun j u hj => ?_⟩;rw [List.getElem?_append] at hj;rw [List.getD_eq_getElem?_getD, List.getElem?_append, <- h.1];by_cases hl : j < a.length
 ·rw [if_pos hl] at hj ⊢;rw [<- List.getD_eq_getElem?_getD];exact h.2 j u hj
 ·rw [if_neg hl] at hj ⊢;rw [<- List.getD_eq_getElem?_getD];exact g.2 _ u hj
theorem RepRow.flatten {m : Mem} : ∀ {rs : List (List U)} {xs : List (List Value)}, rs.length = xs.length -> (∀ (i : Nat) r x, rs[i]? = some r -> xs[i]? = some x -> RepRow m r x) -> RepRow m rs.flatten xs.flatten
 | [], [], _, _ => ⟨rfl, by simp⟩
 | r :: rs, x :: xs, hl, h => by
  rw [List.flatten_cons, List.flatten_cons];exact (h 0 r x rfl rfl).append (RepRow.flatten (by simpa using hl) fun i r x h1 h2 => h (i + 1) r x (by simpa using h1) (by simpa using h2))
 | [], _ :: _, hl, _ => by simp at hl
 | _ :: _, [], hl, _ => by simp at hl
theorem zjB {P : Program} {cs : List Value} : ∀ (l : List Field) (o : Nat), zwd P o l cs.length = true -> cs.drop o = (l.map fun f => (cs.drop f.offset).take (P.cellsOf f.type)).flatten
 | [], o, h => by
  simp [zwd] at h;subst h;simp
 | f :: l, o, h => by
  simp only [zwd, Bool.and_eq_true, beq_iff_eq] at h;obtain ⟨h1, h2⟩ := h;rw [zzC, List.flatten_cons, <- zjB l _ h2, h1]
  conv => lhs; rw [<- List.take_append_drop (P.cellsOf f.type) (cs.drop o)]
  rw [List.drop_drop]
theorem zgA {α : Type} {p : Nat -> α -> Prop} : ∀ (n : Nat), (∀ i, i < n -> ∃ x, p i x) -> ∃ l : List α, l.length = n /\ ∀ i x, l[i]? = some x -> p i x
 | 0, _ => ⟨[], rfl, by simp⟩
 | n + 1, h => by
  obtain ⟨l, hl, hp⟩ := zgA n fun i hi => h i (by omega);obtain ⟨x, hx⟩ := h n (by omega);refine ⟨l ++ [x], by simp [hl], fun i y hy => ?_⟩;rw [List.getElem?_append] at hy;by_cases hi : i < l.length
  ·rw [if_pos hi] at hy; exact hp i y hy
  ·grind
theorem zpI {w : World} {base : Nat} {a : Addr} {n : Nat} {cs : List Value} (h : w.cells? base a n = some cs) (hn : 0 < n) : a.spot = none := by
 obtain ⟨_, hl, hc⟩ := World.cells?_some h;have h0 := hc 0 hn;have hlt : 0 < cs.length := by omega
 rw [List.getElem?_eq_getElem hlt] at h0;simp only [Addr.add, if_true] at h0;unfold World.cell? at h0;cases hs : a.spot with
 | none => rfl
 | some x =>
  exfalso;split at h0
  ·simp [hs] at h0
  ·simp at h0
def szU : U -> Nat
 | .str l => l.length
 | .sl rows => (rows.map fun r => 1 + (r.map fun u => szU u).sum).sum
 | .agg cs => (cs.map fun u => szU u).sum
 | _ => 0
termination_by u => SizeOf.sizeOf u
decreasing_by
 ·rename_i h1 h2;have h1 := List.sizeOf_lt_of_mem h1;have h2 := List.sizeOf_lt_of_mem h2
  simp_wf
  omega
 ·rename_i h2;have h2 := List.sizeOf_lt_of_mem h2
  simp_wf
  omega
theorem zwo (rows : List (List U)) : szU (.sl rows) = (rows.map fun r => 1 + (r.map szU).sum).sum := by rw [szU]
theorem zu4 (cs : List U) : szU (.agg cs) = (cs.map szU).sum := by rw [szU]
theorem zwp (v : Value) : szU (.oth v) = 0 := by simp [szU]
open Go.Proofs.YtmlpcgkaonifcaaGreatDoor.Rows (uptoBulk uptoBulkAll)
theorem zkR {H : Type} (d : DataW H) : 1 <= uptoBulk d := by
 cases d with
 | lit l => cases l <;> simp [uptoBulk]
 | _ => simp [uptoBulk]
theorem zhG {H : Type} : ∀ {l : List (DataW H)} {ns : List Nat}, ns.length = l.length -> (∀ (i n : Nat) (d : DataW H), ns[i]? = some n -> l[i]? = some d -> n <= uptoBulk d) -> ns.sum <= uptoBulkAll l
 | [], [], _, _ => by simp
 | d :: l, n :: ns, hl, h => by
  have h1 := h 0 n d rfl rfl;have h2 := zhG (l := l) (ns := ns) (by simpa using hl) fun i n d hn hd => h (i + 1) n d (by simpa using hn) (by simpa using hd);simp only [uptoBulkAll, List.sum_cons];omega
 | [], _ :: _, hl, _ => by simp at hl
 | _ :: _, [], hl, _ => by simp at hl
theorem zmI (cs : List Value) : ((cs.map U.oth).map szU).sum = 0 := by
 induction cs with
 | nil => rfl
 | cons c cs ih => simp only [zzC, List.sum_cons, ih, zwp]
theorem zij (f : U -> Nat) : ∀ (rs : List (List U)), (rs.flatten.map f).sum = (rs.map fun r => (r.map f).sum).sum
 | [] => rfl
 | r :: rs => by rw [List.flatten_cons, List.map_append, List.sum_append, zzC, List.sum_cons, zij f rs]
theorem zkl {H : Type} {enc : TypeId × Value -> H} {P : Program} (hseq : zjC P = true) {w : World} {base : Nat} {spare : Nat -> Bool} {held : Bool} : ∀ (fuel : Nat) {t : TypeId} {cs : List Value} {x : DataW H × List MemPlace}, t < P.types.size ->
  DataW.trod enc P w base spare held fuel t cs = some x -> ∃ r, HasRow P t r /\ RepRow (zju w) r cs /\ 1 + (r.map szU).sum <= uptoBulk x.1
 | 0, t, cs, x, _, h => by simp [DataW.trod] at h
 | fuel + 1, t, cs, x, hts, h => by
  have h0 := h;have hb1 := zkR x.1;have oth : ∀ cs : List Value, RepRow (zju w) (cs.map .oth) cs := fun cs => ⟨by simp, fun j u hj => by
   rw [List.getElem?_map] at hj;cases hc : cs[j]? with
   | none => rw [hc] at hj; cases hj
   | some v => rw [hc] at hj; cases hj; rw [List.getD_eq_getElem?_getD, hc]; exact .oth v⟩
  cases hu : P.underlying t with
  | none => exact ⟨_, .other (by rw [hu]; trivial), oth cs, by rw [zmI]; exact hb1⟩
  | some td =>
   cases td with
   | bool =>
    unfold DataW.trod at h;rw [hu] at h;split at h <;> simp_all;exact ⟨_, .bool hu, .one (.bool _), by simp [szU]; omega⟩
   | int k =>
    unfold DataW.trod at h;rw [hu] at h;split at h <;> simp_all [Lit.wf];rename_i hk;obtain ⟨⟨hk1, h1, h2⟩, _⟩ := h;subst hk1;exact ⟨_, .int hu h1 h2, .one (.int _ _), by simp [szU]; omega⟩
   | string =>
    unfold DataW.trod at h;rw [hu] at h;split at h <;> simp_all;rename_i s;refine ⟨[.str s.data.toList], .str hu (by simpa using h.1), .one ?_, ?_⟩
    ·have h := RepU.str (m := zju w) s.data.toList;simpa using h
    ·rw [<- h.2];simp [szU, uptoBulk, uptoBulk, ByteArray.toList_eq];omega
   | slice e =>
    rcases DataW.trod_slice hu h with ⟨rfl, rfl⟩ | ⟨a, len, cap, elems, rest, n, hn, rfl, rfl, hb, hl, hm, hlen, hel, _, _⟩
    ·exact ⟨[.sl []], .slice hu (by simp) (by simp), .one (.slE none 0 fun _ => rfl), by simp [szU]; exact zkR _⟩
    ·have hnf : n = fuel := by omega
     subst hnf;by_cases h0 : len = 0
     ·subst h0;exact ⟨[.sl []], .slice hu (by simp) (by simp), .one (.slE (some a) cap fun e => by cases e), by simp [szU]; exact zkR _⟩
     ·have hrow : ∀ i, i < len -> ∃ q, ∃ cs', w.cells? base (a.add (i * P.cellsOf e)) (P.cellsOf e) = some cs' /\ HasRow P e q /\ RepRow (zju w) q cs' /\ ∀ d, elems[i]? = some d -> 1 + (q.map szU).sum <= uptoBulk d.1 := fun i hi => by
       have h1 := hel i hi;rw [List.getElem?_eq_getElem (by omega)] at h1;cases hc : w.cells? base (a.add (i * P.cellsOf e)) (P.cellsOf e) with
       | none => rw [hc] at h1; cases h1
       | some cs' =>
        rw [hc] at h1;obtain ⟨q, h2, h3, h4⟩ := zkl hseq n (zli hseq hts hu) (by simpa using h1);exact ⟨q, cs', rfl, h2, h3, fun d hd => by rw [List.getElem?_eq_getElem (by omega)] at hd; cases hd; exact h4⟩
      obtain ⟨rows, hrl, hrows⟩ := zgA len hrow;by_cases hz : P.cellsOf e = 0
      ·exact ⟨_, .other (by rw [hu]; exact hz), oth _, by rw [zmI]; exact hb1⟩
      ·have hsp : a.spot = none := by
        obtain ⟨cs', h1, _⟩ := hrows 0 rows[0] (List.getElem?_eq_getElem (by omega));have := zpI h1 (by omega);simpa [Addr.add] using this
       obtain ⟨b, o, sp⟩ := a;simp only at hsp;subst hsp;refine ⟨[.sl rows], .slice hu (by omega) fun r hr => ?_, .one ?_, ?_⟩
       ·obtain ⟨i, hi⟩ := List.getElem?_of_mem hr;obtain ⟨_, _, h2, _⟩ := hrows i r hi;exact h2
       ·have hat : ∀ i r, rows[i]? = some r -> r.length = P.cellsOf e /\ ∀ j, j < P.cellsOf e -> ∃ v, w.cell? ⟨b, o + i * P.cellsOf e + j, none⟩ = some v /\ ∀ u, r[j]? = some u -> RepU (zju w) u v := fun i r hi => by
         obtain ⟨cs', h1, _, h3, _⟩ := hrows i r hi;obtain ⟨_, h4, h5⟩ := World.cells?_some h1;refine ⟨by rw [h3.1, h4], fun j hj => ?_⟩;have h6 := h5 j hj;rw [zde, zde, List.getElem?_eq_getElem (by omega)] at h6;refine ⟨_, h6, fun u hu => ?_⟩;have := h3.2 j u hu;rw [List.getD_eq_getElem?_getD, List.getElem?_eq_getElem (by omega)] at this;exact this
        have := RepU.sl (m := zju w) rows b o (P.cellsOf e) cap (fun i j => (w.cell? ⟨b, o + i * P.cellsOf e + j, none⟩).getD undef) (by omega) hm (fun r hr => by
          obtain ⟨i, hi⟩ := List.getElem?_of_mem hr;exact (hat i r hi).1)
         (fun i hi j hj => by
           obtain ⟨v, hv, _⟩ := (hat i rows[i] (List.getElem?_eq_getElem hi)).2 j hj;exact zep (by simp [hv]))
         (fun i r hi j u hj => by
           have hl := (hat i r hi).1;obtain ⟨v, hv, hr⟩ := (hat i r hi).2 j (by have := (List.getElem?_eq_some_iff.1 hj).1; omega);rw [hv];exact hr u hj)
        rw [hrl] at this;exact this
       ·have := zhG (l := elems.map (·.1)) (ns := rows.map fun r => 1 + (r.map szU).sum) (by simp [hrl, hlen]) fun i n' d hn' hd => by grind
        simp only [zzC, zzD, List.sum_cons, List.sum_nil, zwo, uptoBulk];omega
   | struct fs =>
    obtain ⟨xs, n, hn, rfl, hcl, hxl, hf⟩ := DataW.trod_struct hu h;have hnf : n = fuel := by omega
    subst hnf;obtain ⟨hs, hfl⟩ := zkn hseq hts hu;rw [<- hcl] at hs;have hp := zjB fs.toList 0 hs;rw [List.drop_zero] at hp;have hrow : ∀ i, i < fs.size -> ∃ q, ∃ f, fs[i]? = some f /\ HasRow P f.type q /\ RepRow (zju w) q ((cs.drop f.offset).take (P.cellsOf f.type)) /\ ∀ d, xs[i]? = some d -> (q.map szU).sum <= uptoBulk d.1 := fun i hi => by
     have h1 := hf i fs[i] (Array.getElem?_eq_getElem hi);rw [List.getElem?_eq_getElem (by omega)] at h1;obtain ⟨q, h2, h3, h4⟩ := zkl hseq n (hfl _ (by rw [<- Array.getElem_toList]; exact List.getElem_mem _)) h1;exact ⟨q, fs[i], Array.getElem?_eq_getElem hi, h2, h3, fun d hd => by rw [List.getElem?_eq_getElem (by omega)] at hd; cases hd; omega⟩
    obtain ⟨rs, hrl, hrs⟩ := zgA fs.size hrow;refine ⟨rs.flatten, .struct rs hu hrl fun i f r hi hr => ?_, ?_, ?_⟩
    ·grind
    ·rw [hp];refine RepRow.flatten (by simp [hrl]) fun i r x hr hx => ?_;obtain ⟨f', h1, _, h3, _⟩ := hrs i r hr;rw [List.getElem?_map, Array.getElem?_toList, h1] at hx;cases hx;exact h3
    ·have := zhG (l := xs.map (·.1)) (ns := rs.map fun r => (r.map szU).sum) (by simp [hrl, hxl]) fun i n' d hn' hd => by grind
     rw [zij];simp only [uptoBulk];omega
   | _ => exact ⟨_, .other (by rw [hu]; trivial), oth cs, by rw [zmI]; exact hb1⟩
end Go.VL
namespace Go.VL
open Go Go.ChangeShapes Go.WideShapes Go.ChangeAt Go.RowKit Go.Deep
open Go.Proofs.YtmlpcgkaonifcaaGreatDoor.Rows (uptoBulk uptoBulkAll)
def zny (P : Program) : List TypeId -> List (List U) -> Prop
 | [], [] => True
 | t :: ts, r :: rs => HasRow P t r /\ zny P ts rs
 | _, _ => False
section
variable {P : Program} {t : TypeId} {r : List U}
theorem HasRow.of_int {k : IntKind} (h : HasRow P t r) (ht : zlQ P t = some k) : ∃ n, r = [.int k n] /\ k.min <= n /\ n <= k.max := by
 have hu := ziL ht;cases h with
 | int h h1 h2 => rw [hu] at h; cases h; exact ⟨_, rfl, h1, h2⟩
 | other h => rw [hu] at h; exact h.elim
 | struct rs h => rw [hu] at h; cases h
 | _ h => rw [hu] at h; cases h
theorem HasRow.of_bool (h : HasRow P t r) (hu : P.underlying t = some .bool) : ∃ b, r = [.bool b] := by
 cases h with
 | bool h => exact ⟨_, rfl⟩
 | other h => rw [hu] at h; exact h.elim
 | struct rs h => rw [hu] at h; cases h
 | _ h => rw [hu] at h; cases h
theorem HasRow.of_str (h : HasRow P t r) (ht : zbA P t = true) : ∃ l, r = [.str l] /\ l.length <= maxLen := by
 have hu := zeh ht;cases h with
 | str h h1 => exact ⟨_, rfl, h1⟩
 | other h => rw [hu] at h; exact h.elim
 | struct rs h => rw [hu] at h; cases h
 | _ h => rw [hu] at h; cases h
theorem HasRow.of_slice {e sz : Nat} (h : HasRow P t r) (ht : ziV P t = some (e, sz + 1)) : ∃ rows, r = [.sl rows] /\ rows.length <= maxLen /\ ∀ q ∈ rows, HasRow P e q := by
 obtain ⟨hu, hs⟩ := zfL ht;cases h with
 | slice h h1 h2 => rw [hu] at h; cases h; exact ⟨_, rfl, h1, h2⟩
 | other h =>
  rw [hu] at h;unfold tsz at hs;unfold Program.cellsOf at h;simp only at h;rw [hs] at h;simp at h
 | struct rs h => rw [hu] at h; cases h
 | _ h => rw [hu] at h; cases h
theorem HasRow.of_struct {ts : List TypeId} (h : HasRow P t r) (ht : stT P t = some ts) : ∃ rs, r = rs.flatten /\ zny P ts rs := by
 unfold stT at ht;split at ht
 ·rename_i fs hu;cases ht;cases h with
  | struct rs h h1 h2 =>
   rw [hu] at h;cases h;refine ⟨rs, rfl, ?_⟩;have key : ∀ (l : List Field) (rs : List (List U)), rs.length = l.length -> (∀ (i : Nat) (f : Field) (r : List U), l[i]? = some f -> rs[i]? = some r -> HasRow P f.type r) -> zny P (l.map (·.type)) rs := by
    intro l
    induction l with
    | nil => intro rs hl _; simp at hl; subst hl; trivial
    | cons f l ih =>
     intro rs hl h;cases rs with
     | nil => simp at hl
     | cons r rs => exact ⟨h 0 f r rfl rfl, ih rs (by simpa using hl) fun i f r h1 h2 => h (i + 1) f r (by simpa using h1) (by simpa using h2)⟩
   exact key fs.toList rs (by simpa using h1) fun i f r hf hr => h2 i f r (by simpa using hf) hr
  | other h => rw [hu] at h; exact h.elim
  | _ h => rw [hu] at h; cases h
 ·cases ht
end
theorem rows_list {α : Type} (f : α -> List U) (Q : α -> Prop) : ∀ {rows : List (List U)}, (∀ r ∈ rows, ∃ x, r = f x /\ Q x) -> ∃ l : List α, rows = l.map f /\ ∀ x ∈ l, Q x
 | [], _ => ⟨[], rfl, by simp⟩
 | r :: rows, h => by
  obtain ⟨x, rfl, hx⟩ := h r (by simp);obtain ⟨l, rfl, hl⟩ := rows_list f Q (rows := rows) fun r hr => h r (by simp [hr]);exact ⟨x :: l, rfl, by simpa using ⟨hx, hl⟩⟩
def ArgU (P : Program) (t : TypeId) (u : U) : Prop := match P.underlying t with
 | some (.struct _) => ∃ r, u = .agg r /\ HasRow P t r
 | some (.array _ _) => True
 | _ => HasRow P t [u]
theorem ArgU.one {P : Program} {t u} (h : ArgU P t u) (hn : stT P t = none) (ha : zaY P t = true) : HasRow P t [u] := by grind [ArgU, stT, zaY]
theorem ArgU.agg {P : Program} {t u ts} (h : ArgU P t u) (hn : stT P t = some ts) : ∃ r, u = .agg r /\ HasRow P t r := by grind [ArgU, stT]
def zus (P : Program) : List TypeId -> List U -> Prop
 | [], [] => True
 | t :: ts, u :: us => ArgU P t u /\ zus P ts us
 | _, _ => False
theorem zoR {P : Program} {w r b t v} (h : Value.okWide P w r b t v) (h1 : ∀ fs, P.underlying t ≠ some (.struct fs)) (h2 : ∀ n e, P.underlying t ≠ some (.array n e)) : v.cells = #[v] := by
 unfold Value.okWide at h;split at h
 ·simp_all
 ·simp_all
 ·cases v <;> first | rfl | (exfalso; unfold Cell.okWide at h; split at h <;> simp_all [Cell.ok])
theorem zok {H : Type} {enc : TypeId × Value -> H} {P : Program} (hseq : zjC P = true) {w : World} {spare : Nat -> Bool} {held : Bool} {r : Reach} {b : Nat} : ∀ {ts : List TypeId} {vs : List Value} {ds : List (DataW H)} {p : List MemPlace},
  DataW.TrodAll enc P w 0 spare held ts vs ds p -> (∀ t ∈ ts, t < P.types.size) -> (∀ (j : Nat) t v, ts[j]? = some t -> vs[j]? = some v -> Value.okWide P w r b t v) -> ∃ us, zus P ts us /\ RepRow (zju w) us vs /\ (us.map szU).sum <= uptoBulkAll ds
 | [], [], [], _, _, _, _ => ⟨[], trivial, ⟨rfl, by simp⟩, by simp⟩
 | t :: ts, v :: vs, d :: ds, p, h, hlt, hok => by
  obtain ⟨p1, q1, ⟨fuel, h1⟩, h2, _⟩ := h;obtain ⟨us, h3, h4, hsz⟩ := zok hseq h2 (fun t ht => hlt t (by simp [ht])) fun j t v ht hv => hok (j + 1) t v (by simpa using ht) (by simpa using hv);have hv := hok 0 t v rfl rfl;obtain ⟨row, h5, h6, h6s⟩ := zkl hseq fuel (hlt t (by simp)) h1;simp only at h6s;have hone : ∀ (_ : ∀ fs, P.underlying t ≠ some (.struct fs)) (_ : ∀ n e, P.underlying t ≠ some (.array n e)), ∃ u, HasRow P t [u] /\ RepU (zju w) u v /\ szU u <= uptoBulk d := fun n1 n2 => by
   have hc := zoR hv n1 n2;rw [hc] at h6;have hl := h6.1
   match row, hl with
   | [u], _ => exact ⟨u, h5, by simpa using h6.2 0 u rfl, by simp at h6s; omega⟩
  have zc2 : ∀ u, ArgU P t u -> RepU (zju w) u v -> szU u <= uptoBulk d -> ∃ us, zus P (t :: ts) us /\ RepRow (zju w) us (v :: vs) /\ (us.map szU).sum <= uptoBulkAll (d :: ds) := fun u hu hr hz => ⟨u :: us, ⟨hu, h3⟩, (RepRow.one hr).append h4, by
   simp only [zzC, List.sum_cons, uptoBulkAll];omega⟩
  cases hu : P.underlying t with
  | none =>
   obtain ⟨u, h7, h8, h9⟩ := hone (fun fs e => by rw [hu] at e; cases e) (fun n x e => by rw [hu] at e; cases e);exact zc2 u (by unfold ArgU; rw [hu]; exact h7) h8 h9
  | some td =>
   cases td with
   | struct fs =>
    unfold Value.okWide at hv;rw [hu] at hv;obtain ⟨cs, rfl, _⟩ := hv;refine zc2 (.agg row) (by unfold ArgU; rw [hu]; exact ⟨row, rfl, h5⟩) ?_ (by rw [zu4]; omega);have := RepU.agg (m := zju w) row cs.toList (by simpa [Value.cells] using h6.1) (by simpa [Value.cells] using h6.2);simpa using this
   | array n e => exact zc2 (.oth v) (by unfold ArgU; rw [hu]; trivial) (.oth v) (by rw [zwp]; exact Nat.zero_le _)
   | _ =>
    obtain ⟨u, h7, h8, h9⟩ := hone (fun fs e => by rw [hu] at e; cases e) (fun n x e => by rw [hu] at e; cases e);exact zc2 u (by unfold ArgU; rw [hu]; exact h7) h8 h9
theorem zmh {P : Program} {f : FuncId} {us : List U} {b : Bool} (h : Fun P f (us.map .u) (· = .u (.bool b))) {W : World} {args : Array Value} (hg : GlobIn (zju W)) (ha : RepRow (zju W) us args.toList) :
  Calls P f args W fun e W' => e = .returned (.bool b) /\ Below W.heap.size W W' := by
 have := h ⟨zju W, fun _ => none, hg⟩ (W.heap.size <= ·) W args ⟨fun _ _ _ h => h, by simp [getK], by simp [getK]⟩ (fun _ _ => rfl) (fun _ h => h)
  ⟨by simpa using ha.1.symm, fun j d hj => by
   rw [List.getElem?_map] at hj;cases hu : us[j]? with
   | none => rw [hu] at hj; cases hj
   | some u =>
      rw [hu] at hj;cases hj;have := ha.2 j u hu;have e : args.getD j undef = args.toList.getD j undef := by simp
      rw [e];exact Rep.u _ _ this⟩
 refine this.mono ?_;rintro e W' ⟨v, d, o, n, k', rfl, hin, _, _, _, hr, _, rfl⟩;exact ⟨by rw [zeH hr], ⟨hin.os, hin.tape, hin.output, hin.size, fun k hk => hin.block k (by omega)⟩⟩
theorem zgJ {H : Type} {enc : TypeId × Value -> H} {P : Program} (hl : laidOutB P = true) {W W' : World} (hb : Below W.heap.size W W') {sp : Nat -> Bool} : ∀ {ts : List TypeId} {vs : List Value} {ds : List (DataW H)} {ps : List MemPlace},
  (∀ t ∈ ts, P.readableRec t = true /\ t < P.types.size) -> DataW.TrodAll enc P W 0 (fun _ => true) true ts vs ds ps -> (∀ x ∈ ps, x.block < W.heap.size) -> (∀ x ∈ ps, sp x.block = true) -> DataW.TrodAll enc P W' 0 sp true ts vs ds ps
 | [], [], [], _, _, h, _, _ => h
 | t :: ts, v :: vs, d :: ds, ps, hr, h, hlt, hsp => by
  obtain ⟨p, q, h1, h2, rfl⟩ := h;obtain ⟨h3, h4⟩ := hr t (by simp);refine ⟨p, q, WideElems.Trod_stays hl h3 h4 h1 (fun x hx => hb.same (hlt x (by simp [hx]))) (fun x hx => hsp x (by simp [hx])), zgJ hl hb (fun t ht => hr t (by simp [ht])) h2 (fun x hx => hlt x (by simp [hx])) (fun x hx => hsp x (by simp [hx])), rfl⟩
theorem zoN {H : Type} {enc : TypeId × Value -> H} {P : Program} {f : Func} {s : ChangeSpec} {apart fresh handsOn again : Bool} {W W' : World} {args : Array Value} {v : Value} {ds gs : List (DataW H)} {before pa pv : List MemPlace}
  (hW : DataW.Whole enc P f.params.toList s.vars apart W args.toList ds gs before)
  (hres : ∀ (b : Nat) (sp : Nat -> Bool) (hd : Bool), DataW.TrodAll enc P W' b sp hd f.resultTypes.toList (v.resultList f.resultTypes.size) (s.fn H (ds ++ gs)).results [])
  (hargs : ∀ sp : Nat -> Bool, (∀ p ∈ before, sp p.block = true) -> DataW.TrodAll enc P W' 0 sp true f.params.toList args.toList (s.fn H (ds ++ gs)).args pa)
  (hvars : ∀ sp : Nat -> Bool, (∀ p ∈ before, sp p.block = true) -> DataW.TrodVars enc P W' sp s.vars (s.fn H (ds ++ gs)).vars pv)
  (hps : before = pa ++ pv) (hb : Below W.heap.size W W')
  (hok : ∀ (j : Nat) (t : TypeId) (r : Value), f.resultTypes[j]? = some t -> (v.resultList f.resultTypes.size)[j]? = some r -> Value.okWide P W' .any 0 t r) :
  s.post enc P f apart fresh handsOn again W args v W' := by
 have hlt : ∀ p ∈ before, p.block < W.heap.size := fun p hp => hW.lt p hp;have hold : ∀ p ∈ before, (fun b => decide (b < W.heap.size)) p.block = true := fun p hp => by simpa using hlt p hp
 refine ⟨ds, gs, before, [], pa, pv, hW, hres _ _ _, hargs _ hold, hvars _ hold, World.keptBut_mono (fun p hp => ⟨hp, ?_⟩) (hb.frame (· ∈ before)), fun _ => ?_⟩
 ·simp_all
 ·obtain ⟨_, _, _, _, _, hz, hn⟩ := hW;refine ⟨hok, _, _, ([] ++ pa) ++ pv, ⟨[] ++ pa, pv, trodAll_append (hargs _ (fun _ _ => rfl)) (hres _ _ _), hvars _ (fun _ _ => rfl), rfl, ?_, ?_⟩, ?_⟩
  ·intro b off hp;have hin : MemPlace.cell b off ∈ before := by rw [hps]; simpa using hp
   rw [hb.frozen (hlt _ hin)];exact hz b off hin
  ·simp_all
  ·intro p hp _;rw [hps];simpa using hp
end Go.VL
namespace Go.VL
open Go
theorem zlW (obs : List (Nat × Ob)) (i : Nat) (σ : D -> Option U) (js : List Nat) (x : Nat) : getK ((del obs i).map fun p => if js.contains p.1 then (p.1, frzObS σ p.2) else p) x =
  if x = i then none else (getK obs x).map fun ob => if js.contains x then frzObS σ ob else ob := by
 have e : ((del obs i).map fun p => if js.contains p.1 then (p.1, frzObS σ p.2) else p) = (del obs i).map fun p => (p.1, if js.contains p.1 then frzObS σ p.2 else p.2) := by grind
 rw [e, zd2 (fun x (o : Ob) => if js.contains x then frzObS σ o else o), zac];by_cases h : x = i <;> simp [h]
theorem zau (s : St) (i : Nat) (σ : D -> Option U) (js : List Nat) (x : Nat) : getK (s.frzS i σ js).obs x = if x = i then none else (getK s.obs x).map fun ob => if js.contains x then frzObS σ ob else ob := zlW s.obs i σ js x
theorem zav (s : St) (i : Nat) (σ : D -> Option U) (js : List Nat) (x : Nat) : getK (s.frzS i σ js).env x = (getK s.env x).map (VL.frzS σ) := zd2 (fun _ d => VL.frzS σ d) s.env x
def zcc : U -> U
 | .nil => .sl []
 | x => x
def zb5 : U -> U
 | .nil => .sl []
 | .agg cs => .agg (cs.map zcc)
 | x => x
def zbN : D -> D
 | .u x => .u (zb5 x)
 | d => d
def za7 : Ob -> Ob
 | .box cs => .box (cs.map zbN)
 | ob => ob
def St.norm (s : St) : St := { s with env := s.env.map fun p => (p.1, zbN p.2), obs := s.obs.map fun p => (p.1, za7 p.2) }
theorem zpk (obs : List (Nat × Ob)) (x : Nat) : getK (obs.map fun p => (p.1, za7 p.2)) x = (getK obs x).map za7 := zd2 (fun _ o => za7 o) obs x
theorem zbq (s : St) (x : Nat) : getK s.norm.obs x = (getK s.obs x).map za7 := zpk s.obs x
theorem zbr (s : St) (x : Nat) : getK s.norm.env x = (getK s.env x).map zbN := zd2 (fun _ d => zbN d) s.env x
theorem zqN {m : Mem} {x : U} {v : Value} (h : RepU m x v) : RepU m (zcc x) v := by
 cases h with
 | nil => exact .slE none 0 fun _ => rfl
 | int k n => exact .int k n
 | bool b => exact .bool b
 | str l => exact .str l
 | oth v => exact .oth v
 | slE a c h => exact .slE a c h
 | sl rows b o sz c f h1 h2 h3 h4 h5 => exact .sl rows b o sz c f h1 h2 h3 h4 h5
 | row cells off b o f h1 h2 => exact .row cells off b o f h1 h2
 | agg cells vs h1 h2 => exact .agg cells vs h1 h2
 | map kk ag es0 es hp b ents clock f h1 h2 h3 h4 => exact .map kk ag es0 es hp b ents clock f h1 h2 h3 h4
theorem zqM {m : Mem} {x : U} {v : Value} (h : RepU m x v) : RepU m (zb5 x) v := by
 cases h with
 | map kk ag es0 es hp b ents clock f h1 h2 h3 h4 => exact .map kk ag es0 es hp b ents clock f h1 h2 h3 h4
 | nil => exact .slE none 0 fun _ => rfl
 | int k n => exact .int k n
 | bool b => exact .bool b
 | str l => exact .str l
 | oth v => exact .oth v
 | slE a c h => exact .slE a c h
 | sl rows b o sz c f h1 h2 h3 h4 h5 => exact .sl rows b o sz c f h1 h2 h3 h4 h5
 | row cells off b o f h1 h2 => exact .row cells off b o f h1 h2
 | agg cells vs h1 h2 =>
  refine .agg _ vs (by simpa using h1) fun j u hj => ?_;rw [List.getElem?_map] at hj;cases hc : cells[j]? with
  | none => rw [hc] at hj; cases hj
  | some e => rw [hc] at hj; cases hj; exact zqN (h2 j e hc)
theorem ziv {k : Kr} {d : D} {v : Value} (h : Rep k d v) : Rep k (zbN d) v := by
 cases h with
 | u x v h => exact .u _ _ (zqM h)
 | any v => exact .any v
 | ptr i off b c h => exact .ptr i off b c h
 | vec i len h hh => exact .vec i len h hh
 | mp i b c h => exact .mp i b c h
 | elt i sz idx off b c h => exact .elt i sz idx off b c h
 | fnc f caps vs hl hr => exact .fnc f caps vs hl hr
 | bnd f caps vs hl hr => exact .bnd f caps vs hl hr
 | agg cells vs hl hr => exact .agg cells vs hl hr
 | tup cells vs hl hr => exact .tup cells vs hl hr
theorem Wk.norm {Γ : Ctx} (s : St) : Wk Γ s s.norm := by
 intro k a w hin hs;have ho : ∀ i ob, getK s.norm.obs i = some ob -> ∃ ob0, getK s.obs i = some ob0 /\ ob = za7 ob0 := fun i ob hi => by
  have : getK (s.obs.map fun p => (p.1, za7 p.2)) i = some ob := hi;rw [zd2 (fun _ o => za7 o)] at this;cases hc : getK s.obs i with
  | none => rw [hc] at this; cases this
  | some o => rw [hc] at this; cases this; exact ⟨o, rfl, rfl⟩
 refine ⟨k, hin, ⟨⟨hs.sat.mem, fun i ob hi => ?_, fun i j x y g g' b hx hy hij => ?_⟩, hs.defers, hs.size, fun x d hx => ?_, hs.hdr⟩⟩
 ·obtain ⟨ob0, h1, rfl⟩ := ho i ob hi;obtain ⟨g, h2, h3, h4⟩ := hs.sat.ob i ob0 h1;refine ⟨g, h2, h3, ?_⟩;cases ob0 with
  | box cs =>
   obtain ⟨b, vs, t, e, h5, h6, h7⟩ := h4;refine ⟨b, vs, t, e, h5, by simpa using h6, fun j d hj => ?_⟩;rw [List.getElem?_map] at hj;cases hc : cs[j]? with
   | none => rw [hc] at hj; cases hj
   | some e => rw [hc] at hj; cases hj; exact ⟨(h7 j e hc).1, ziv (h7 j e hc).2⟩
  | vec e sz rows => exact h4
  | map kk ag es => exact h4
  | it => exact h4
  | nw => exact h4
  | sit => exact h4
 ·obtain ⟨o1, h1, _⟩ := ho i x hx;obtain ⟨o2, h2, _⟩ := ho j y hy;exact hs.sat.apart i j o1 o2 g g' b h1 h2 hij
 ·have hx' : getK (s.env.map fun p => (p.1, zbN p.2)) x = some d := hx;rw [zd2 (fun _ d => zbN d)] at hx';cases hc : getK s.env x with
  | none => rw [hc] at hx'; cases hx'
  | some e => rw [hc] at hx'; cases hx'; exact ⟨(hs.env x e hc).1, ziv (hs.env x e hc).2⟩
end Go.VL
namespace Go.VL
open Go
def frz1 (s : St) : List Nat -> Option St
 | [] => none
 | i :: l => match getK s.obs i with
  | some (.vec _ _ rows) => match zct rows with
   | some us => some (s.frz i us (s.obs.map (·.1)))
   | none => frz1 s l
  | some (.map kk ag es) => match zc0 es with
   | some us => some (s.frzS i (zbm i kk ag us) (s.obs.map (·.1)))
   | none => frz1 s l
  | _ => frz1 s l
def frzN : Nat -> St -> St
 | 0, s => s
 | n + 1, s => match frz1 s (s.obs.map (·.1)) with
  | some s' => frzN n s'
  | none => s
theorem Wk.frz1 {Γ : Ctx} {s s' : St} : ∀ {l : List Nat}, frz1 s l = some s' -> Wk Γ s s'
 | [], h => by cases h
 | i :: l, h => by
  rw [VL.frz1] at h;split at h
  ·rename_i e sz rows hg;split at h
   ·rename_i us hu;cases h;exact Wk.frz i _ hg hu
   ·exact Wk.frz1 h
  ·rename_i kk ag es hg;split at h
   ·rename_i us hu;cases h;exact Wk.zyX i _ hg hu
   ·exact Wk.frz1 h
  ·exact Wk.frz1 h
theorem Wk.frzN {Γ : Ctx} : ∀ (n : Nat) (s : St), Wk Γ s (frzN n s)
 | 0, s => .refl s
 | n + 1, s => by
  rw [VL.frzN];split
  ·rename_i s' h;exact (Wk.frz1 h).trans (Wk.frzN n s')
  ·exact .refl s
theorem EndW.frzN {P Γ fn n0 post e s} (n : Nat) (h : EndW P Γ fn n0 post e (frzN n s)) : EndW P Γ fn n0 post e s := .wk _ (Wk.frzN n s) h
theorem EndW.norm {P Γ fn n0 post e s} (h : EndW P Γ fn n0 post e s.norm) : EndW P Γ fn n0 post e s := .wk _ (Wk.norm s) h
def frzB (i : Nat) (s : St) : St := match getK s.obs i with
 | some (.box cs) => match zef cs with
  | some us => s.frzS i (zbn i us) (s.obs.map (·.1))
  | none => s
 | _ => s
theorem Wk.zum {Γ : Ctx} (i : Nat) (s : St) : Wk Γ s (VL.frzB i s) := by
 unfold VL.frzB;split
 ·rename_i cs hg;split
  ·rename_i us hu;exact Wk.frzB i _ hg hu
  ·exact .refl s
 ·exact .refl s
theorem EndW.frzB {P Γ fn n0 post e s} (i : Nat) (h : EndW P Γ fn n0 post e (VL.frzB i s)) : EndW P Γ fn n0 post e s := .wk _ (Wk.zum i s) h
theorem zhP {P Γ c s Q} (i : Nat) (h : V P Γ c (VL.frzB i s) Q) : V P Γ c s Q := zkX _ (Wk.zum i s) h
end Go.VL
namespace Go.VL
open Go
theorem zCf {P Γ l s s' k} (h : s = s') : H P Γ l s k = H P Γ l s' k := by rw [h]
theorem zt1 {P Γ o r s s' k} (h : s = s') : zc2 P Γ o r s k = zc2 P Γ o r s' k := by rw [h]
theorem zx4 {P l s s' k} (h : s = s') : HD P l s k = HD P l s' k := by rw [h]
theorem zwN {P l s s' fp fp' C k} (h : s = s') (h' : fp = fp') : HD2 P l s fp C k = HD2 P l s' fp' C k := by rw [h, h']
theorem zCe {P Γ c s s' Q} (h : s = s') : V P Γ c s Q = V P Γ c s' Q := by rw [h]
theorem zvR {P Γ Q k e s s'} (h : s = s') : zbf P Γ Q k e s = zbf P Γ Q k e s' := by rw [h]
theorem zt5 {α : Type} {Γ : Ctx} {S : α -> St} {μ : α -> Nat} {x : α} {s s' : St} (h : s = s') : LoopW Γ S μ x s = LoopW Γ S μ x s' := by rw [h]
theorem zt6 {α : Type} {n0 : Nat} {S : α -> St} {μ : α -> Nat} {x : α} {s s' : St} (h : s = s') : LoopI n0 S μ x s = LoopI n0 S μ x s' := by rw [h]
attribute [congr] zCf zt1 zx4 zwN zCe zvR zt5 zt6
theorem zcF {P Γ Q b k s} : zbf P Γ Q (.seq b k) .normal s = V P Γ b s (zbf P Γ Q k) := rfl
theorem zaU {P Γ Q b k s} : zbf P Γ Q (.seq b k) .ret s = zbf P Γ Q k .ret s := rfl
theorem zaH {P Γ Q b k s i} : zbf P Γ Q (.seq b k) (.exit i) s = zbf P Γ Q k (.exit i) s := rfl
theorem zcG {P Γ Q i k s} : zbf P Γ Q (.blk i k) .normal s = zbf P Γ Q k .normal s := rfl
theorem zaV {P Γ Q i k s} : zbf P Γ Q (.blk i k) .ret s = zbf P Γ Q k .ret s := rfl
theorem zaJ {P Γ Q i j k s} : zbf P Γ Q (.blk i k) (.exit j) s = if j = i then zbf P Γ Q k .normal s else zbf P Γ Q k (.exit j) s := rfl
theorem zbY {P Γ Q I k s} : zbf P Γ Q (.loop I k) .normal s = I s := rfl
theorem zaI {P Γ Q I k s} : zbf P Γ Q (.loop I k) .ret s = zbf P Γ Q k .ret s := rfl
theorem zaA {P Γ Q I k s i} : zbf P Γ Q (.loop I k) (.exit i) s = zbf P Γ Q k (.exit i) s := rfl
theorem zbZ {P Γ Q e s} : zbf P Γ Q .done e s = Q e s := rfl
def zc8 (P : Program) (Γ : Ctx) (Q : Exit -> St -> Prop) : Code -> Kt -> St -> Prop
 | .seq a b, k, s => zc8 P Γ Q a (.seq b k) s
 | .block id c, k, s => zc8 P Γ Q c (.blk id k) s
 | .skip, k, s => zbf P Γ Q k .normal s
 | .label _, k, s => zbf P Γ Q k .normal s
 | .exit id, k, s => zbf P Γ Q k (.exit id) s
 | .ret, k, s => zbf P Γ Q k .ret s
 | .cond c x y, k, s => match opd s c with
  | .u (.bool t) => (t = true -> V P Γ x s (zbf P Γ Q k)) /\ (t = false -> V P Γ y s (zbf P Γ Q k))
  | _ => False
 | .region _ l false, k, s => match zbz l l.toList with | some l' => H P Γ l' s (zbf P Γ Q k .normal) | none => False
 | c, k, s => V P Γ c s (zbf P Γ Q k)
theorem zkb {P Γ Q} : ∀ {c : Code} {k : Kt} {s : St}, zc8 P Γ Q c k s -> V P Γ c s (zbf P Γ Q k)
 | .seq a b, k, s, h => zv2 (zkb (c := a) (by rw [zc8] at h; exact h))
 | .block id c, k, s, h => znt (zkb (c := c) (by rw [zc8] at h; exact h))
 | .skip, k, s, h => zec (by rw [zc8] at h; exact h)
 | .label _, k, s, h => zsp (by rw [zc8] at h; exact h)
 | .exit id, k, s, h => zfP (by rw [zc8] at h; exact h)
 | .ret, k, s, h => zjq (by rw [zc8] at h; exact h)
 | .cond c x y, k, s, h => by
  rw [zc8] at h;split at h
  ·rename_i t ht;exact zuN ht h.1 h.2
  ·exact h.elim
 | .region id l false, k, s, h => by
  rw [zc8] at h;have := zmp (P := P) (Γ := Γ) (s := s) (Q := Q) (kt := k) (id := id) (l := l.toList) fun K hK => by
   split at h
   ·rename_i l' hl;simp only [Array.toArray_toList]
    try rw [hl]
    exact fun all ops e K' a w h1 h2 Q' hQ => h all ops e K' a w h1 h2 Q' fun K2 a2 w2 s2 h3 h4 h5 => hQ K2 a2 w2 s2 h3 h4 (hK _ h5)
   ·exact h.elim
  simpa using this
 | .region _ _ true, k, s, h => by rw [zc8] at h; exact h; all_goals simp
 | .loop c, k, s, h => by rw [zc8] at h; exact h; all_goals simp
 | .rangeFunc .., k, s, h => by rw [zc8] at h; exact h; all_goals simp
 | .scope .., k, s, h => by rw [zc8] at h; exact h; all_goals simp
 | .goto .., k, s, h => by rw [zc8] at h; exact h; all_goals simp
 | .refuse .., k, s, h => by rw [zc8] at h; exact h; all_goals simp
theorem ztT {P Γ Q c k s s'} (h : s = s') : zc8 P Γ Q c k s = zc8 P Γ Q c k s' := by rw [h]
attribute [congr] ztT
section
variable {P : Program} {Γ : Ctx} {Q : Exit -> St -> Prop} {k : Kt} {s : St}
theorem zcD {a b : Code} : zc8 P Γ Q (.seq a b) k s = zc8 P Γ Q a (.seq b k) s := by rw [zc8]
theorem zbv {i} {a : Code} : zc8 P Γ Q (.block i a) k s = zc8 P Γ Q a (.blk i k) s := by rw [zc8]
theorem zbX {c x y} : zc8 P Γ Q (.cond c x y) k s = match opd s c with
  | .u (.bool t) => (t = true -> V P Γ x s (zbf P Γ Q k)) /\ (t = false -> V P Γ y s (zbf P Γ Q k))
  | _ => False := by rw [zc8]
theorem za9 {i} {l : List Oper} : zc8 P Γ Q (.region i l.toArray false) k s = match zbz l.toArray l with | some l' => H P Γ l' s (zbf P Γ Q k .normal) | none => False := by rw [zc8]
theorem zbV {c} : zc8 P Γ Q (.loop c) k s = V P Γ (.loop c) s (zbf P Γ Q k) := by rw [zc8] <;> simp
theorem zbW {i l} : zc8 P Γ Q (.region i l true) k s = V P Γ (.region i l true) s (zbf P Γ Q k) := by rw [zc8] <;> simp
theorem zbJ {a b : Code} (h : zc8 P Γ Q a (.seq b k) s) : V P Γ (.seq a b) s (zbf P Γ Q k) := zv2 (zkb h)
theorem zeL {i} {a : Code} (h : zc8 P Γ Q a (.blk i k) s) : V P Γ (.block i a) s (zbf P Γ Q k) := znt (zkb h)
theorem zdZ {c x y} (h : zc8 P Γ Q (.cond c x y) k s) : V P Γ (.cond c x y) s (zbf P Γ Q k) := zkb h
theorem zdA {i} {l : List Oper} (h : zc8 P Γ Q (.region i l.toArray false) k s) : V P Γ (.region i l.toArray false) s (zbf P Γ Q k) := zkb h
end
def wkO (s : St) (nx : Nat) : List (Nat × Ob) -> Prop
 | [] => True
 | p :: l => (p.1 < nx /\ getK s.obs p.1 = some p.2 /\ p.2.under nx = true) /\ wkO s nx l
def wkU (nx : Nat) : List (Nat × D) -> Prop
 | [] => True
 | p :: l => p.2.under nx = true /\ wkU nx l
theorem zpX {s nx} : ∀ {l : List (Nat × Ob)} {x ob}, wkO s nx l -> getK l x = some ob -> x < nx /\ getK s.obs x = some ob /\ ob.under nx = true
 | [], x, ob, _, h => by simp [getK] at h
 | (y, e) :: l, x, ob, hw, h => by
  rw [zaa] at h;by_cases hx : x = y
  ·rw [if_pos hx] at h; cases h; subst hx; exact hw.1
  ·rw [if_neg hx] at h; exact zpX hw.2 h
theorem zpT {nx} : ∀ {l : List (Nat × D)} {x d}, wkU nx l -> getK l x = some d -> d.under nx = true
 | [], x, d, _, h => by simp [getK] at h
 | (y, e) :: l, x, d, hw, h => by
  rw [zaa] at h;by_cases hx : x = y
  ·rw [if_pos hx] at h; cases h; subst hx; exact hw.1
  ·rw [if_neg hx] at h; exact zpT hw.2 h
theorem Wk.cut {Γ : Ctx} {s s' : St} (hn : s'.n = s.n) (hx : Γ.n0 <= s'.next) (ho : wkO s s'.next s'.obs) (hu : wkU s'.next s'.env) (he : wkE s s'.env) : Wk Γ s s' := by
 intro K0 a w hin0 hs0
 let s1 : St := { s with env := s'.env }
 obtain ⟨K1, hin1, hs1⟩ := (Wk.env (s := s) (s' := s1) (Γ := Γ) rfl rfl rfl he) K0 a w hin0 hs0;refine ⟨_, Sim.weak (ρ := fun i => i) hin1 hs1 ⟨hn, fun x d' h => ⟨?_, zpT hu h⟩, fun x d' h => (hs1.env x d' h).1, fun i ob' h => ?_, fun i j ob ob' _ _ e => e, fun i hi => ⟨rfl, by omega⟩⟩⟩
 ·have : s1.at x = d' := by show (getK s'.env x).getD .any = d'; rw [h]; rfl
  rw [this];exact D.le_id d'
 ·obtain ⟨h1, h2, h3⟩ := zpX ho h;exact ⟨h1, ob', h2, Ob.le_id ob', h3⟩
theorem zaj (n : Nat) (us : List (List U)) : ((rowsD us).all fun r => r.all (·.under n)) = true := by simp_all [rowsD, List.all_eq_true, D.under]
theorem zak (n : Nat) (us : List (Key × List U)) : ((zj3 us).all fun p => p.2.all (·.under n)) = true := by
 simp [zj3, List.all_eq_true, D.under]
def zch : List D -> Prop
 | [] => True
 | .u _ :: l => zch l
 | _ => False
def za2 : List (List D) -> Prop
 | [] => True
 | r :: l => zch r /\ za2 l
theorem zir : ∀ {r : List D}, zch r -> ∀ c ∈ r, ∃ x, c = D.u x
 | [], _, c, hc => by cases hc
 | d :: l, h, c, hc => by
  cases d <;> simp only [zch] at h;rcases List.mem_cons.1 hc with rfl | hc
  ·exact ⟨_, rfl⟩
  ·exact zir h c hc
theorem zfB : ∀ {r : List (List D)}, za2 r -> zmH r
 | [], _ => zqc
 | r :: l, h => zoA (zir h.1) (zfB h.2)
@[simp] theorem zu8 (l : List U) : zch (l.map .u) = True := by
 induction l with
 | nil => simp [zch]
 | cons a l ih => simpa [zch] using ih
@[simp] theorem zsz (l : List (List U)) : za2 (rowsD l) = True := by
 induction l with
 | nil => simp [za2]
 | cons a l ih => simpa [za2] using ih
@[simp] theorem zqs (a b : List (List D)) : za2 (a ++ b) = (za2 a /\ za2 b) := by
 induction a with
 | nil => simp [za2]
 | cons r l ih => simp [za2, ih, and_assoc]
def zwt (es : List (Key × List D)) : Prop := ∃ us, es = zj3 us
def leU (ρ : Nat -> Nat) (nx : Nat) : List D -> List D -> Prop
 | [], [] => True
 | a :: az, b :: bs => (D.le ρ a b /\ b.under nx = true) /\ leU ρ nx az bs
 | _, _ => False
def zvz (ρ : Nat -> Nat) (nx : Nat) (B : List (List D)) : Prop := ∀ r ∈ B, ∀ c ∈ r, c = c.ren ρ /\ c.under nx = true
def obR (ρ : Nat -> Nat) (nx : Nat) : Ob -> Ob -> Prop
 | .box cs, .box cs' => leU ρ nx cs cs'
 | .vec e sz A, .vec e' sz' B => e = e' /\ sz = sz' /\ A = B /\ (za2 B \/ zvz ρ nx B)
 | .map kk ag es, .map kk' ag' es' => kk = kk' /\ ag = ag' /\ es = es' /\ zwt es'
 | .it kk ag es left cur, .it kk' ag' es' left' cur' => kk = kk' /\ ag = ag' /\ es = es' /\ left = left' /\ cur = cur'
 | .nw t, .nw t' => t = t'
 | .sit s p, .sit s' p' => s = s' /\ p = p'
 | _, _ => False
def wkR (s : St) (ρ : Nat -> Nat) (nx : Nat) : List (Nat × Ob) -> Prop
 | [] => True
 | p :: l => (p.1 < nx /\ (match getK s.obs (ρ p.1) with | some ob => obR ρ nx ob p.2 | none => False)) /\ wkR s ρ nx l
def zhQ (s : St) (ρ : Nat -> Nat) (nx : Nat) : List (Nat × D) -> Prop
 | [] => True
 | p :: l => ((match getK s.env p.1 with | some d => D.le ρ d p.2 | none => False) /\ p.2.under nx = true) /\ zhQ s ρ nx l
theorem zri {ρ nx} : ∀ {a b : List D}, leU ρ nx a b -> leL ρ a b /\ b.all (·.under nx) = true
 | [], [], _ => ⟨trivial, rfl⟩
 | a :: az, b :: bs, h => by
  obtain ⟨h1, h2⟩ := zri h.2;exact ⟨⟨h.1.1, h1⟩, by simp [h.1.2, h2]⟩
 | [], b :: bs, h => h.elim
 | a :: az, [], h => h.elim
theorem zvb {ρ nx ob ob'} (h : obR ρ nx ob ob') : Ob.le ρ ob ob' /\ ob'.under nx = true := by
 cases ob <;> cases ob' <;> simp only [obR] at h
 ·obtain ⟨h1, h2⟩ := zri h;exact ⟨Ob.zw6 h1, h2⟩
 ·obtain ⟨rfl, rfl, rfl, h⟩ := h;rcases h with h | h
  ·have hu := zfB h;exact ⟨Ob.znw hu, Ob.zmr hu⟩
  ·refine ⟨⟨rfl, rfl, Nat.le_refl _, fun i r r' hi hi' => ?_⟩, ?_⟩
   ·rw [hi] at hi';cases hi';refine ⟨rfl, fun j c c' hj hj' => ?_⟩;rw [hj] at hj';cases hj';exact .inr (.inl (h r (List.mem_of_getElem? hi) c (List.mem_of_getElem? hj)).1)
   ·simp only [Ob.under, List.all_eq_true];exact fun r hr c hc => (h r hr c hc).2
 ·obtain ⟨rfl, rfl, rfl, us, rfl⟩ := h;refine ⟨⟨rfl, rfl, rfl, fun i p p' hi hi' => ?_⟩, zak _ _⟩;rw [hi] at hi';cases hi';refine ⟨rfl, fun j c c' hj hj' => ?_⟩;rw [hj] at hj';cases hj';rw [zj3, List.getElem?_map] at hi;cases hq : us[i]? with
  | none => rw [hq] at hi; cases hi
  | some q =>
   rw [hq] at hi;cases hi;simp only [List.getElem?_map] at hj;cases hx : q.2[j]? with
   | none => rw [hx] at hj; cases hj
   | some x => rw [hx] at hj; cases hj; exact .inr (.inl (by simp [D.ren]))
 ·exact ⟨h, rfl⟩
 ·exact ⟨h, rfl⟩
 ·exact ⟨h, rfl⟩
theorem zmB {s ρ nx} : ∀ {l : List (Nat × Ob)}, wkR s ρ nx l -> ∀ x ob', getK l x = some ob' -> x < nx /\ ∃ ob, getK s.obs (ρ x) = some ob /\ Ob.le ρ ob ob' /\ ob'.under nx = true
 | [], _, x, d', h => by simp [getK] at h
 | (y, d) :: l, h, x, d', hx => by
  rw [zaa] at hx;by_cases e : x = y
  ·rw [if_pos e] at hx;cases hx;subst e;obtain ⟨⟨h1, h2⟩, _⟩ := h;refine ⟨h1, ?_⟩;split at h2
   ·rename_i ob hg;exact ⟨ob, hg, zvb h2⟩
   ·exact h2.elim
  ·rw [if_neg e] at hx; exact zmB h.2 x d' hx
theorem zgF {s ρ nx} : ∀ {l : List (Nat × D)}, zhQ s ρ nx l -> ∀ x d', getK l x = some d' -> (∃ d, getK s.env x = some d /\ D.le ρ d d') /\ d'.under nx = true
 | [], _, x, d', h => by simp [getK] at h
 | (y, d) :: l, h, x, d', hx => by
  rw [zaa] at hx;by_cases e : x = y
  ·rw [if_pos e] at hx;cases hx;subst e;obtain ⟨⟨h1, h2⟩, _⟩ := h;refine ⟨?_, h2⟩;split at h1
   ·rename_i d0 hg;exact ⟨d0, hg, h1⟩
   ·exact h1.elim
  ·rw [if_neg e] at hx; exact zgF h.2 x d' hx
theorem Wk.ren {Γ : Ctx} {s s' : St} (ρ : Nat -> Nat) (hn : s'.n = s.n) (hx : ∀ i, i < Γ.n0 -> ρ i = i /\ i < s'.next) (he : zhQ s ρ s'.next s'.env) (ho : wkR s ρ s'.next s'.obs)
  (hi : ∀ i ∈ s'.obs.map (·.1), ∀ j ∈ s'.obs.map (·.1), ρ i = ρ j -> i = j) : Wk Γ s s' := by
 intro K0 a w hin0 hs0;refine ⟨_, Sim.weak (ρ := ρ) hin0 hs0 ⟨hn, fun x d' h => ?_, fun x d' h => ?_, fun i ob h => zmB ho i ob h, fun i j ob ob' hi' hj' e => hi i (zfY hi') j (zfY hj') e, hx⟩⟩
 ·obtain ⟨⟨d, h1, h2⟩, h3⟩ := zgF he x d' h;have : s.at x = d := by show (getK s.env x).getD .any = d; rw [h1]; rfl
  rw [this];exact ⟨h2, h3⟩
 ·obtain ⟨⟨d, h1, h2⟩, h3⟩ := zgF he x d' h;exact (hs0.env x d h1).1
theorem zat (σ : D -> Option U) (us : List (Key × List U)) : (zj3 us).map (fun p => (p.1, p.2.map (frzS σ))) = zj3 us := by simp_all [zj3, List.map_map, frzS, Function.comp]
theorem zan (σ : D -> Option U) (us : List (List U)) : (rowsD us).map (fun r => r.map (frzS σ)) = rowsD us := by simp_all [rowsD, List.map_map, Function.comp, frzS]
end Go.VL
namespace Go.VL
open Go
abbrev znx := Nat × Key × List D
def zym (o : List (Nat × Ob)) (e : znx) : List (Nat × Ob) := match getK o e.1 with | some (.map kk ag es) => zcw o e.1 (.map kk ag (zdE es e.2.1 e.2.2)) | _ => o
def zxg : List znx -> List (Nat × Ob) -> List (Nat × Ob)
 | [], o => o
 | e :: L, o => zxg L (zym o e)
def obE (e : znx) (x : Option Ob) : Option Ob := match x with | some (.map kk ag es) => some (.map kk ag (zdE es e.2.1 e.2.2)) | x => x
def zxp : List znx -> Nat -> Option Ob -> Option Ob
 | [], _, x => x
 | e :: L, z, x => zxp L z (if z = e.1 then obE e x else x)
theorem zlV : ∀ (L : List znx) (o : List (Nat × Ob)) (z : Nat), getK (zxg L o) z = zxp L z (getK o z)
 | [], _, _ => rfl
 | e :: L, o, z => by
  rw [zxg, zlV L, zxp]
  congr 1
  unfold zym obE;by_cases hz : z = e.1
  ·subst hz;rw [if_pos rfl];cases hg : getK o e.1 with
   | none => exact hg
   | some ob => cases ob <;> simp [hg, zad, zaa]
  ·rw [if_neg hz];cases hg : getK o e.1 with
   | none => rfl
   | some ob => cases ob <;> simp [zad, zaa, hz]
def InsOK (P : Program) (st : St) (op : Op) (e : znx) : Prop :=
 ∃ t x ki v kk ag z ku, (op = .mapUpdate t x ki v \/ op = .insert t x ki v) /\ zeK P t = some (kk, ag, z) /\ opd st x = .mp e.1 /\ opd st ki = .u ku /\ zfs ku = some e.2.1 /\ e.2.1.kk = kk /\ zfp ag (opd st v) = some e.2.2 /\ getK st.obs e.1 = some (.map kk ag [])
theorem InsOK.base {P st op e} (h : InsOK P st op e) : ∃ kk ag, getK st.obs e.1 = some (.map kk ag []) := by
 obtain ⟨t, x, ki, v, kk, ag, z, ku, _, _, _, _, _, _, _, h⟩ := h;exact ⟨kk, ag, h⟩
end Go.VL
namespace Go.VL
open Go
abbrev Ent.no : Ent := (.un, [], none, [])
def Op3 (P : Program) (s : St) (o : O1) (e : Ent) : Option znx -> Prop
 | none => zay o.dst s /\ Op2 P s o e
 | some q => e = Ent.no /\ o.guard = none /\ o.dst = none /\ InsOK P s o.op q
def zuJ (P : Program) : List O1 -> St -> Fp -> List (Option znx) -> (St -> Fp -> List (Option znx) -> Prop) -> Prop
 | [], s, fp, ins, k => k s fp ins
 | o :: rest, s, fp, ins, k => ∃ (e : Ent) (q : Option znx), Op3 P s o e q /\ (∀ x, e.2.2.1 = some x -> x = s.next) /\ zuJ P rest (s.app o.dst e) (fp ++ [(e.2.2.2, ze6 e.2.1)]) (ins ++ [q]) k
def St.ins (s : St) (ins : List (Option znx)) : St := { s with obs := zxg (ins.filterMap id) s.obs }
def HD3 (P : Program) (l : List O1) (s : St) (fp : Fp) (ins : List (Option znx)) (C : Fp -> List (Option znx) -> Prop) (k : St -> Prop) : Prop :=
 ∀ s0 : St, s0.Eqo s -> zuJ P l s0 fp ins fun s1 fp ins => C fp ins /\ ∃ s', (s1.ins ins).Eqo s' /\ k s'
theorem St.Eqo.ins {s s' : St} (h : s.Eqo s') (L : List (Option znx)) : (s.ins L).Eqo (s'.ins L) :=
 ⟨h.1, fun x => by simp only [St.ins, zlV, h.2.1 x], h.2.2.1, h.2.2.2⟩
theorem InsOK.eqo {P : Program} {s s' : St} {op : Op} {q : znx} (e : s'.Eqo s) (h : InsOK P s op q) : InsOK P s' op q := by
 obtain ⟨t, x, ki, v, kk, ag, z, ku, h1, h2, h3, h4, h5, h6, h7, h8⟩ := h;have ho : ∀ x, opd s' x = opd s x := fun x => by cases x <;> simp [opd, St.at, e.2.2.2]
 exact ⟨t, x, ki, v, kk, ag, z, ku, h1, h2, by rw [ho]; exact h3, by rw [ho]; exact h4, h5, h6, by rw [ho]; exact h7, by rw [e.2.1]; exact h8⟩
theorem zwM {P l s s' fp fp' ins ins' C k} (h : s = s') (h' : fp = fp') (h'' : ins = ins') : HD3 P l s fp ins C k = HD3 P l s' fp' ins' C k := by rw [h, h', h'']
attribute [congr] zwM
end Go.VL
namespace Go.VL
open Go
def zxq : D -> Option Nat
 | .ptr i _ => some i
 | .vec i _ => some i
 | .elt i _ _ _ => some i
 | .mp i => some i
 | _ => none
def zxb (e : List (Nat × D)) : List (Nat × D) -> List (Nat × Nat)
 | [] => []
 | p :: l => match zxq p.2, (getK e p.1).bind zxq with
  | some i, some m => (i, m) :: zxb e l
  | _, _ => zxb e l
def zsy : List (Nat × Nat) -> Nat -> Nat
 | [], i => i
 | p :: l, i => if i = p.1 then p.2 else zsy l i
theorem Wk.zCW {Γ : Ctx} {s s' : St} (l : List (Nat × Nat)) (_ : zxb s.env s'.env = l) (hn : s'.n = s.n) (hx : ∀ i, i < Γ.n0 -> zsy l i = i /\ i < s'.next) (he : zhQ s (zsy l) s'.next s'.env) (ho : wkR s (zsy l) s'.next s'.obs)
  (hi : ∀ i ∈ s'.obs.map (·.1), ∀ j ∈ s'.obs.map (·.1), zsy l i = zsy l j -> i = j) : Wk Γ s s' := Wk.ren (zsy l) hn hx he ho hi
theorem zv1 {P : Program} {Γ : Ctx} {S : St} {R : Prop} (c : Code) (Q : Exit -> St -> Prop) (main : V P Γ c S Q -> R) (key : V P Γ c S Q) : R := main key
end Go.VL
namespace Go.VL
open Go Go.Sort Go.Proofs
def intR (zs : List Int) : List (List D) := zs.map fun z => [.u (.int .i64 z)]
theorem zlP (zs : List Int) : rowsD (zs.map fun z => [U.int .i64 z]) = intR zs := by simp [rowsD, intR]
theorem Ret.zv5 {P : Program} {f : FuncId} {t : Nat} {zs zs' : List Int} {d : D} {ret : Option Addr -> Nat -> Value} {j nx : Nat} (hj : j < nx) (hl : zs'.length = zs.length) (hmax : zs.length <= maxLen)
  (hc : ∀ (blk cap : Nat) (w : World), Holds (Value.int .i64) w blk 0 zs.toArray -> blk < w.heap.size -> zs.length <= cap -> zs ≠ [] -> Calls P f #[.slice (some ⟨blk, 0, none⟩) zs.length cap] w fun e w' =>
    e = .returned (ret (some ⟨blk, 0, none⟩) cap) /\ ∃ n os, w' = grow (putRow (Value.int .i64) (Sort.ahead w n) blk 0 zs'.toArray) os)
  (h0 : zs = [] -> ∀ (p : Option Addr) (cap : Nat) (w : World), Calls P f #[.slice p 0 cap] w fun e w' => e = .returned (ret p cap) /\ w' = w)
  (hret : (d = .tup [] /\ ∀ a c, ret a c = .tuple #[]) \/ ∃ m, d = .vec j m /\ ∀ a c, ret a c = .slice a m c) :
  Ret P f [.vec j zs.length] [(j, .vec t 1 (intR zs))] nx fun d' obs nx' => d' = d /\ obs = [(j, .vec t 1 (intR zs'))] /\ nx' = nx := by
 intro k own w vs hsat hhdr hown hrep;obtain ⟨h, xs, hh, hrow, _, _, hcell, hblk⟩ := (hsat.ob j (.vec t 1 (intR zs)) (by simp [getK])).vec;have hlen : (intR zs).length = zs.length := by simp [intR]
 rw [hlen] at hrow;have hvs : vs = #[za8 h zs.length] := by
  obtain ⟨h1, h2⟩ := hrep;have h3 := h2 0 _ rfl;obtain ⟨h', hh', e⟩ := zfc h3;rw [hh] at hh';cases hh';have hs1 : vs.size = 1 := by simpa using h1
  apply Array.ext_getElem?;intro i
  match i with
  | 0 =>
   have h4 : 0 < vs.size := by omega
   rw [<- e];simp [h4]
  | i + 1 => rw [Array.getElem?_eq_none (by omega), Array.getElem?_eq_none (by simp)]
 have hd : ∀ h', k.hdr j = some h' -> Rep k d (ret (h'.1.map fun b => ⟨b, 0, none⟩) h'.2) := fun h' e => by
  rcases hret with ⟨rfl, hr⟩ | ⟨m, rfl, hr⟩
  ·rw [hr]; exact .tup [] [] rfl (fun j d hj => by simp at hj)
  ·rw [hr]; exact .vec j m h' e
 subst hvs;by_cases hz : zs = []
 ·subst hz;obtain rfl : zs' = [] := List.eq_nil_of_length_eq_zero (by simpa using hl);refine (h0 rfl _ _ w).mono ?_;rintro e w' ⟨rfl, rfl⟩;exact ⟨_, d, _, nx, k, rfl, ⟨.refl _, hhdr, fun _ _ _ e => .inl e, hown, rfl, rfl, rfl, Nat.le_refl _, fun _ _ => rfl⟩, hsat, hhdr, Nat.le_refl _, hd h hh, rfl, rfl, rfl⟩
 ·rcases hrow with ⟨hxl, ⟨hv, hn⟩ | ⟨g, cap, cur, hv, hb, hg, hn, hcap, hsz, htk⟩⟩
  ·exact absurd (List.eq_nil_of_length_eq_zero hn) hz
  ·have hh1 : h.1 = some g /\ h.2 = cap := by
    simp only [za8, Value.slice.injEq, Option.map_eq_some_iff] at hv;obtain ⟨⟨b, hb, e⟩, _, e2⟩ := hv;simp only [Addr.mk.injEq] at e;exact ⟨by rw [hb, e.1], e2⟩
   rw [hv];have hxs : xs = zs.map (Value.int .i64) := by
    apply List.ext_getElem?;intro i;by_cases hj : i < zs.length
    ·have h1 := (hcell i [.u (.int .i64 zs[i])] (by simp [intR, hj]) 0 (.u (.int .i64 zs[i])) rfl).2;have h2 := zcb h1;have h3 : i < xs.length := by omega
     simp [h3] at h2;simp [h3, hj, h2]
    ·rw [List.getElem?_eq_none (by omega), List.getElem?_eq_none (by simpa using hj)]
   rw [hxs] at htk;have hgl : g < w.heap.size := (Array.getElem?_eq_some_iff.1 hg).1;refine (hc g cap w (holds_of_blockI hg (by simpa using htk)) hgl hn hz).mono ?_;rintro e w' ⟨rfl, n, os, rfl⟩;have hgr : w.grownBy (grow (putRow (Value.int .i64) (Sort.ahead w n) g 0 zs'.toArray) os) (some g) := grownBy_sortedI _;have hin0 : In (.of own k nx w) k w := ⟨.refl _, hhdr, fun _ _ _ e => .inl e, hown, rfl, rfl, rfl, Nat.le_refl _, fun _ _ => rfl⟩;have hin := hin0.grown hgr (fun b e => by cases e; exact (hblk g hh1.1).1);have hold : ∀ b, b < w.heap.size -> b ≠ g -> (grow (putRow (Value.int .i64) (Sort.ahead w n) g 0 zs'.toArray) os).heap[b]? = w.heap[b]? := fun b hb hne => hgr.block b hb (fun e => hne (by cases e; rfl));refine ⟨_, d, [(j, .vec t 1 (intR zs'))], nx, k, rfl, hin, ?_, hhdr, Nat.le_refl _, ?_, rfl, rfl, rfl⟩
   ·have hown2 := ownsRow_sortedI (w := w) (n := n) (os := os) hl hb hg hn hcap hsz;refine ⟨fun b o v hm => ?_, fun i ob hi => ?_, fun i i' x y g1 g2 b hi hj hij => ?_⟩
    ·have hlt := hsat.memLt hm;have hne : b ≠ g := fun e => by subst e; have := (hblk b hh1.1).2 o; rw [hm] at this; cases this
     rw [zd9 (hold b hlt hne)];exact hsat.mem b o v hm
    ·simp only [getK] at hi;split at hi
     ·rename_i hi0;subst hi0;cases hi;refine ⟨h, hh, hblk, _, (?_ : World.ownsRow _ 0 t 1 (za8 h (intR zs').length) (intR zs').length (zs'.map (Value.int .i64))), Nat.one_pos, fun r hr => ?_, fun i r hi q d hq => ?_⟩
      ·have e : (intR zs').length = zs.length := by simp [intR, hl]
       rw [e, hv];exact hown2
      ·obtain ⟨z, _, rfl⟩ := List.mem_map.1 hr
       try rfl
      ·simp only [intR, List.getElem?_map, Option.map_eq_some_iff] at hi;obtain ⟨z, hz', rfl⟩ := hi
       match q, hq with
       | 0, hq =>
        cases hq;have h3 : i < zs'.length := (List.getElem?_eq_some_iff.1 hz').1;have h4 : zs'[i] = z := (List.getElem?_eq_some_iff.1 hz').2;have : (zs'.map (Value.int .i64)).getD (i * 1 + 0) undef = .int .i64 z := by simp [h3, h4]
        rw [this];exact ⟨rfl, .u _ _ (.int _ _)⟩
     ·cases hi
    ·simp only [getK] at hi hj;split at hi
     ·split at hj
      ·omega
      ·cases hj
     ·cases hi
   ·have := hd h hh;rw [hh1.1, hh1.2] at this;exact this
theorem CallP.zy1 {P : Program} {Γ : Ctx} {s : St} {k : St -> Prop} {dst : Option Tmp} {fop : Operand} {args : List Operand} {f caps} {ds : List D} {post : D -> List (Nat × Ob) -> Nat -> Prop} (hret : Ret P f ds [] s.next post)
  (hf : zam (opd s fop) = some (f, caps)) (hc : zae P f = true) (hds : args.map (opd s) ++ caps = ds) (hp : zay dst s)
  (hk : ∀ d o1 nx', s.next <= nx' -> post d o1 nx' -> k (({ s with obs := s.obs ++ o1, next := nx' } : St).put dst d)) : CallP P Γ fop args dst s k :=
 CallP.zy0 s.obs [] hret (fun i => by simp) (fun i ob _ => rfl) hf hc hds hp hk
theorem CallP.zyh {P : Program} {Γ : Ctx} {s : St} {k : St -> Prop} {dst : Option Tmp} {fop : Operand} {args : List Operand} {f caps} {ds : List D} {post : D -> List (Nat × Ob) -> Nat -> Prop} {j : Nat} {ob : Ob} (hret : Ret P f ds [(j, ob)] s.next post)
  (hj : getK s.obs j = some ob) (hf : zam (opd s fop) = some (f, caps)) (hc : zae P f = true) (hds : args.map (opd s) ++ caps = ds) (hp : zay dst s)
  (hk : ∀ d o1 nx', s.next <= nx' -> post d o1 nx' -> k (({ s with obs := del s.obs j ++ o1, next := nx' } : St).put dst d)) : CallP P Γ fop args dst s k :=
 CallP.zy0 (del s.obs j) [(j, ob)] hret (fun i => by
  rw [zab, zac];by_cases h : i = j
  ·subst h; simp [hj, getK]
  ·simp only [if_neg h, getK];cases getK s.obs i <;> rfl) (fun i o hi => by
  rw [zac] at hi;by_cases h : i = j
  ·rw [if_pos h] at hi; cases hi
  ·simp [getK, h]) hf hc hds hp hk
end Go.VL
namespace Go.VL
open Go
def fam (b : Nat) : List Ob -> List (Nat × Ob)
 | [] => []
 | o :: l => (b, o) :: fam (b + 1) l
theorem zf0 : ∀ (b : Nat) (l : List Ob) (j : Nat), getK (fam b l) j = if b <= j then l[j - b]? else none
 | b, [], j => by simp [fam, getK]
 | b, o :: l, j => by
  rw [fam, zaa, zf0 (b + 1) l j];by_cases h : j = b
  ·subst h; simp
  ·rw [if_neg h];by_cases h2 : b <= j
   ·rw [if_pos (show b + 1 <= j by omega), if_pos h2, show j - b = (j - (b + 1)) + 1 by omega, List.getElem?_cons_succ]
   ·rw [if_neg (by omega), if_neg h2]
theorem zfI (b : Nat) (l : List Ob) (i : Nat) : getK (fam b l) (i + b) = l[i]? := by rw [zf0, if_pos (by omega), Nat.add_sub_cancel]
theorem zoc : ∀ (b : Nat) (l : List Ob) (p : Nat × Ob), p ∈ fam b l -> b <= p.1 /\ p.1 < b + l.length
 | b, [], p, h => by simp [fam] at h
 | b, o :: l, p, h => by
  rcases List.mem_cons.1 h with rfl | h
  ·simp
  ·have := zoc (b + 1) l p h;simp only [List.length_cons];omega
theorem zpq {b : Nat} {l : List Ob} {j : Nat} (h : j < b \/ l.length + b <= j) : (fam b l).filter (fun p => !(p.1 == j)) = fam b l := by
 refine List.filter_eq_self.2 fun p hp => ?_;have := zoc b l p hp;simp;omega
theorem zfi {b : Nat} {l : List Ob} {j : Nat} (h : j < b \/ l.length + b <= j) : del (fam b l) j = fam b l := zpq h
theorem zcU {p : Nat × Ob} {l : List (Nat × Ob)} {j : Nat} : del (p :: l) j = if p.1 = j then del l j else p :: del l j := by
 unfold del;by_cases h : p.1 = j <;> simp [h]
theorem zpW (s : St) (nx : Nat) : ∀ (l : List (Nat × Ob)), wkO s nx l ↔ ∀ p ∈ l, p.1 < nx /\ getK s.obs p.1 = some p.2 /\ p.2.under nx = true
 | [] => by simp [wkO]
 | p :: l => by simp [wkO, zpW s nx l]
theorem ziA : ∀ (b : Nat) (l : List Ob) (p : Nat × Ob), p ∈ fam b l ↔ ∃ i o, l[i]? = some o /\ p = (i + b, o)
 | b, [], p => by simp [fam]
 | b, o :: l, p => by
  rw [fam, List.mem_cons, ziA (b + 1) l p];constructor
  ·rintro (rfl | ⟨i, o', h, rfl⟩)
   ·exact ⟨0, o, rfl, by simp⟩
   ·exact ⟨i + 1, o', h, by rw [zzA, Nat.add_comm 1 b]⟩
  ·rintro ⟨i, o', h, rfl⟩;cases i with
   | zero => left; simp at h; simp [h]
   | succ i => right; exact ⟨i, o', h, by rw [zzA, Nat.add_comm 1 b]⟩
theorem zuT (s : St) (nx b : Nat) (l : List Ob) : wkO s nx (fam b l) ↔ ∀ i o, l[i]? = some o -> i + b < nx /\ getK s.obs (i + b) = some o /\ o.under nx = true := by
 rw [zpW];constructor
 ·intro h i o hi;exact h (i + b, o) ((ziA _ _ _).2 ⟨i, o, hi, rfl⟩)
 ·intro h p hp;obtain ⟨i, o, hi, rfl⟩ := (ziA _ _ _).1 hp;exact h i o hi
theorem zmC (s : St) (ρ : Nat -> Nat) (nx : Nat) : ∀ (l : List (Nat × Ob)), wkR s ρ nx l ↔ ∀ p ∈ l, p.1 < nx /\ (match getK s.obs (ρ p.1) with | some ob => obR ρ nx ob p.2 | none => False)
 | [] => by simp [wkR]
 | p :: l => by
  rw [wkR, zmC s ρ nx l];exact ⟨fun h q hq => (List.mem_cons.1 hq).elim (fun e => by subst e; exact h.1) (h.2 q), fun h => ⟨h p (by simp), fun q hq => h q (by simp [hq])⟩⟩
theorem zpV (s : St) (ρ : Nat -> Nat) (nx b : Nat) (l : List Ob) : wkR s ρ nx (fam b l) ↔ ∀ i o, l[i]? = some o -> i + b < nx /\ (match getK s.obs (ρ (i + b)) with | some ob => obR ρ nx ob o | none => False) := by
 rw [zmC];constructor
 ·intro h i o hi;exact h (i + b, o) ((ziA _ _ _).2 ⟨i, o, hi, rfl⟩)
 ·intro h p hp;obtain ⟨i, o, hi, rfl⟩ := (ziA _ _ _).1 hp;exact h i o hi
def zfA (a c : Nat) (i : Nat) : Nat := if i = a then c else i
theorem Wk.eqo {Γ : Ctx} {s s' : St} (h : s.Eqo s') : Wk Γ s s' := fun K _ _ h1 h2 => ⟨K, h1, h2.eqo h⟩
def zux (b : Nat) : D -> Prop
 | .u _ => True
 | .any => True
 | .vec j _ => j < b
 | .ptr j _ => j < b
 | _ => False
theorem ztD {b i : Nat} {us : List (List U)} {d : D} (h : zux b d) (hi : b <= i) : VL.frz i us d = d := by
 cases d with
 | vec j n =>
  simp only [zux] at h;simp only [VL.frz, frzS, fv, za1];rw [if_neg (by omega)]
 | ptr j n => simp [VL.frz, VL.frzS, fv, za1]
 | u x => simp [VL.frz, VL.frzS]
 | any => simp [VL.frz, VL.frzS]
 | _ => exact h.elim
theorem zqE {b : Nat} {d : D} (h : zux b d) : zux (b + 1) d := by
 cases d <;> simp only [zux] at h ⊢ <;> omega
theorem zky {α : Type} {f : α -> α} {l : List α} (h : ∀ x ∈ l, f x = x) : l.map f = l := by
 conv => rhs; rw [<- List.map_id l]
 exact List.map_congr_left h
def EndsIn (T : List (Nat × Ob)) (b k : Nat) : List (Nat × Ob) -> Prop
 | [] => T = []
 | p :: l => (p :: l = T) \/ ((p.1 < b \/ k + b <= p.1) /\ EndsIn T b k l)
theorem zc4 (T b k) : EndsIn T b k T = True := eq_true (by cases T <;> simp [EndsIn])
theorem zc5 {T b k p l} : EndsIn T b k (p :: l) = ((p :: l = T) \/ ((p.1 < b \/ k + b <= p.1) /\ EndsIn T b k l)) := rfl
theorem EndsIn.out {T b k} : ∀ {obs}, EndsIn T b k obs -> ∃ A, obs = A ++ T /\ ∀ p ∈ A, p.1 < b \/ k + b <= p.1
 | [], h => ⟨[], by rw [show T = [] from h]; rfl, by simp⟩
 | p :: l, h => by
  rcases h with h | ⟨h1, h2⟩
  ·exact ⟨[], by rw [h]; rfl, by simp⟩
  ·obtain ⟨A, e, h3⟩ := EndsIn.out h2;exact ⟨p :: A, by rw [e]; rfl, fun q hq => (List.mem_cons.1 hq).elim (fun e => by rw [e]; exact h1) (h3 q)⟩
theorem EndsIn.get {L : List Ob} {b obs} (h : EndsIn (fam b L) b L.length obs) {i : Nat} (hi : i < L.length) : getK obs (i + b) = L[i]? := by
 obtain ⟨A, rfl, h2⟩ := h.out;rw [zab];have : getK A (i + b) = none := by
  cases hq : getK A (i + b) with
  | none => rfl
  | some o =>
   obtain ⟨p, hp, e⟩ := List.mem_map.1 (zfY hq);have := h2 p hp;omega
 rw [this, zfI]
def famPure (L : List Ob) : Prop := ∀ o ∈ L, ∃ e sz B, o = .vec e sz B /\ za2 B
theorem famPure.under {L : List Ob} (h : famPure L) {o : Ob} (ho : o ∈ L) (nx : Nat) : o.under nx = true := by
 obtain ⟨e, sz, B, rfl, hB⟩ := h o ho;exact Ob.zmr (zfB hB)
theorem zh0 {s : St} {nx b : Nat} {L : List Ob} (h : EndsIn (fam b L) b L.length s.obs) (hp : famPure L) (hx : L.length + b <= nx) : wkO s nx (fam b L) = True := by
 refine eq_true ((zuT s nx b L).2 fun i o hi => ?_);have hlt := (List.getElem?_eq_some_iff.1 hi).1;exact ⟨by omega, by rw [h.get hlt, hi], hp.under (List.mem_of_getElem? hi) nx⟩
theorem zsC {s : St} {ρ : Nat -> Nat} {nx b : Nat} {L : List Ob} (h : EndsIn (fam b L) b L.length s.obs) (hp : famPure L) (hx : L.length + b <= nx) (hρ : ∀ i, i < L.length -> ρ (i + b) = i + b) : wkR s ρ nx (fam b L) := by
 refine (zpV s ρ nx b L).2 fun i o hi => ?_;have hlt := (List.getElem?_eq_some_iff.1 hi).1;refine ⟨by omega, ?_⟩;rw [hρ i hlt, h.get hlt, hi];obtain ⟨e, sz, B, rfl, hB⟩ := hp o (List.mem_of_getElem? hi);exact ⟨rfl, rfl, rfl, .inl hB⟩
theorem zfx {s : St} {a c nx b : Nat} {L : List Ob} (h : EndsIn (fam b L) b L.length s.obs) (hp : famPure L) (hx : L.length + b <= nx) (ha : a < b \/ L.length + b <= a) : wkR s (zfA a c) nx (fam b L) = True :=
 eq_true (zsC h hp hx fun i hi => by rw [zfA, if_neg (by omega)])
theorem Wk.zwX {Γ : Ctx} {s s' : St} (a c : Nat) (hn : s'.n = s.n) (h0 : Γ.n0 <= a) (h1 : Γ.n0 <= s'.next) (hc : s'.next <= c) (he : zhQ s (zfA a c) s'.next s'.env) (ho : wkR s (zfA a c) s'.next s'.obs) : Wk Γ s s' := by
 refine Wk.ren (zfA a c) hn (fun i hi => ⟨by rw [zfA, if_neg (by omega)], by omega⟩) he ho fun i hi j hj e => ?_;have key : ∀ i ∈ s'.obs.map (·.1), i < s'.next := fun i hi => by
  obtain ⟨p, hp, rfl⟩ := List.mem_map.1 hi;exact ((zmC _ _ _ _).1 ho p hp).1
 have h2 := key i hi;have h3 := key j hj;unfold zfA at e;split at e <;> split at e <;> omega
theorem Ret.re {P : Program} {f : FuncId} {ds : List D} {obs : List (Nat × Ob)} {nx : Nat} {p q : D -> List (Nat × Ob) -> Nat -> Prop} (h : Ret P f ds obs nx p) (hq : ∀ d o n, p d o n -> ∃ o', (∀ j, getK o' j = getK o j) /\ q d o' n) : Ret P f ds obs nx q :=
 fun k own w vs h1 h2 h3 h4 => (h k own w vs h1 h2 h3 h4).mono fun e w' ⟨v, d, o, nx', k', a1, a2, a3, a4, a5, a6, a7⟩ =>
  let ⟨o', b1, b2⟩ := hq d o nx' a7
  ⟨v, d, o', nx', k', a1, a2, a3.congr b1, a4, a5, a6, b2⟩
end Go.VL
namespace Go.VL
open Go
theorem zhb {P : Program} {Γ : Ctx} {s s' : St} {k : St -> Prop} {dst : Option Tmp} {fop : Operand} {args : List Operand} (hw : Wk Γ s s') (h : CallP P Γ fop args dst s' k) : CallP P Γ fop args dst s k := fun ts ty pos after K a w hin hs =>
 let ⟨K', h1, h2⟩ := hw K a w hin hs
 h ts ty pos after K' a w h1 h2
def ziu : Ob -> Ob
 | .vec e sz rows => .vec e sz (rows.map fun r => r.map zbN)
 | ob => ob
def St.normV (s : St) : St := { s with obs := s.obs.map fun p => (p.1, ziu p.2) }
theorem Wk.normV {Γ : Ctx} (s : St) : Wk Γ s s.normV := by
 intro k a w hin hs;have ho : ∀ i ob, getK s.normV.obs i = some ob -> ∃ ob0, getK s.obs i = some ob0 /\ ob = ziu ob0 := fun i ob hi => by
  have : getK (s.obs.map fun p => (p.1, ziu p.2)) i = some ob := hi;rw [zd2 (fun _ o => ziu o)] at this;cases hc : getK s.obs i with
  | none => rw [hc] at this; cases this
  | some o => rw [hc] at this; cases this; exact ⟨o, rfl, rfl⟩
 refine ⟨k, hin, ⟨⟨hs.sat.mem, fun i ob hi => ?_, fun i j x y g g' b hx hy hij => ?_⟩, hs.defers, hs.size, hs.env, hs.hdr⟩⟩
 ·obtain ⟨ob0, h1, rfl⟩ := ho i ob hi;obtain ⟨g, h2, h3, h4⟩ := hs.sat.ob i ob0 h1;refine ⟨g, h2, h3, ?_⟩;cases ob0 with
  | vec e sz rows =>
   obtain ⟨xs, h5, h6, h7, h8⟩ := h4;refine ⟨xs, by simpa using h5, h6, fun r hr => ?_, fun i r hr j d hj => ?_⟩
   ·obtain ⟨q, hq, rfl⟩ := List.mem_map.1 hr;simpa using h7 q hq
   ·rw [List.getElem?_map] at hr;cases hc : rows[i]? with
    | none => rw [hc] at hr; cases hr
    | some q =>
     rw [hc] at hr;cases hr;rw [List.getElem?_map] at hj;cases hd : q[j]? with
     | none => rw [hd] at hj; cases hj
     | some e => rw [hd] at hj; cases hj; exact ⟨(h8 i q hc j e hd).1, ziv (h8 i q hc j e hd).2⟩
  | box cs => exact h4
  | map kk ag es => exact h4
  | it => exact h4
  | nw => exact h4
  | sit => exact h4
 ·obtain ⟨o1, h1, _⟩ := ho i x hx;obtain ⟨o2, h2, _⟩ := ho j y hy;exact hs.sat.apart i j o1 o2 g g' b h1 h2 hij
end Go.VL
