import Derived.Test.YtepiegcjnaohjaaGreatDoorJ1
import Derived.Orders
set_option linter.all false
set_option maxRecDepth 100000
set_option maxHeartbeats 8000000
namespace Go.VL
open Go
def Qx (Γ : Ctx) (Q : Exit -> St -> Prop) : Exit -> St -> Prop
 | .panic ch, s => Γ.pan ch s
 | e, s => Q e s
def zs8 : Exit -> Prop
 | .ret => True
 | .panic _ => True
 | _ => False
def VPost (Γ : Ctx) (Q : Exit -> St -> Prop) (e : Exit) (a : Act) (w : World) : Prop := (∃ K s, In Γ K w /\ Sim K Γ.own s a w /\ Qx Γ Q e s) \/ (zs8 e /\ Γ.esc e a w)
def V (P : Program) (Γ : Ctx) (c : Code) (s : St) (Q : Exit -> St -> Prop) : Prop :=
 ∀ K a w, In Γ K w -> Sim K Γ.own s a w -> c.wp P (VPost Γ Q) a w
theorem VPost.mono {Γ Q Q' e a w} (h : VPost Γ Q e a w) (hq : ∀ e s, Q e s -> Q' e s) : VPost Γ Q' e a w := by
 rcases h with ⟨K', s', h1, h2, h3⟩ | h
 ·refine .inl ⟨K', s', h1, h2, ?_⟩;cases e with
  | panic ch => exact h3
  | _ => exact hq _ _ h3
 ·exact .inr h
theorem V.mono {P Γ c s Q Q'} (h : V P Γ c s Q) (hq : ∀ e s, Q e s -> Q' e s) : V P Γ c s Q' :=
 fun K a w hin hs => wp_mono (h K a w hin hs) fun _ _ _ h => h.mono hq
inductive Kt where
 | done
 | seq (b : Code) (k : Kt)
 | blk (id : Nat) (k : Kt)
 | loop (I : St -> Prop) (k : Kt)
def zan (P : Program) (Γ : Ctx) (Q : Exit -> St -> Prop) : Kt -> Exit -> St -> Prop
 | .done, e, s => Q e s
 | .seq b k, .normal, s => V P Γ b s (zan P Γ Q k)
 | .seq _ k, e, s => zan P Γ Q k e s
 | .blk id k, .exit id', s => if id' = id then zan P Γ Q k .normal s else zan P Γ Q k (.exit id') s
 | .blk _ k, e, s => zan P Γ Q k e s
 | .loop I _, .normal, s => I s
 | .loop _ k, e, s => zan P Γ Q k e s
section
variable {P : Program} {Γ : Ctx} {Q : Exit -> St -> Prop} {k : Kt} {s : St}
theorem zsN {a b : Code} (h : V P Γ a s (zan P Γ Q (.seq b k))) : V P Γ (.seq a b) s (zan P Γ Q k) :=
 fun K ac w hin hs => wp_seq (wp_mono (h K ac w hin hs) fun e a' w' h => by
  rcases h with ⟨K', s', h1, h2, h3⟩ | h
  ·cases e with
   | normal => exact h3 K' a' w' h1 h2
   | _ => exact .inl ⟨K', s', h1, h2, h3⟩
  ·cases e with
   | normal => exact h.1.elim
   | _ => exact .inr h)
theorem zpd {id : Nat} {c : Code} (h : V P Γ c s (zan P Γ Q (.blk id k))) : V P Γ (.block id c) s (zan P Γ Q k) :=
 fun K ac w hin hs => wp_block (wp_mono (h K ac w hin hs) fun e a' w' h => by
  rcases h with ⟨K', s', h1, h2, h3⟩ | h
  ·cases e with
   | exit id' =>
    simp only [Qx, zan] at h3;simp only [Exit.inBlock];split
    ·rename_i he; rw [if_pos he] at h3; exact .inl ⟨K', s', h1, h2, h3⟩
    ·rename_i he; rw [if_neg he] at h3; exact .inl ⟨K', s', h1, h2, h3⟩
   | _ => exact .inl ⟨K', s', h1, h2, h3⟩
  ·cases e with
   | exit => exact h.1.elim
   | _ => exact .inr h)
theorem zap (h : zan P Γ Q k .normal s) : V P Γ .skip s (zan P Γ Q k) := fun K _ _ hin hs => wp_skip (.inl ⟨K, s, hin, hs, h⟩)
theorem zrR {l} (h : zan P Γ Q k .normal s) : V P Γ (.label l) s (zan P Γ Q k) := fun K _ _ hin hs => wp_label (.inl ⟨K, s, hin, hs, h⟩)
theorem zaZ {id} (h : zan P Γ Q k (.exit id) s) : V P Γ (.exit id) s (zan P Γ Q k) := fun K _ _ hin hs => wp_exit (.inl ⟨K, s, hin, hs, h⟩)
theorem zar (h : zan P Γ Q k .ret s) : V P Γ .ret s (zan P Γ Q k) := fun K _ _ hin hs => wp_ret (.inl ⟨K, s, hin, hs, h⟩)
theorem zsQ {c : Operand} {x y : Code} {t : Bool} (hc : opd s c = .u (.bool t)) (ht : t = true -> V P Γ x s (zan P Γ Q k)) (hf : t = false -> V P Γ y s (zan P Γ Q k)) :
  V P Γ (.cond c x y) s (zan P Γ Q k) := fun K a w hin hs => by
 have hr := zaM hs c;rw [hc] at hr;exact wp_cond_split (zcK hr) (fun e => ht e K a w hin hs) (fun e => hf e K a w hin hs)
end
def D.ren (ρ : Nat -> Nat) : D -> D
 | .u x => .u x
 | .ptr i o => .ptr (ρ i) o
 | .vec i l => .vec (ρ i) l
 | .elt i a b c => .elt (ρ i) a b c
 | .mp i => .mp (ρ i)
 | .fnc f caps => .fnc f (caps.map fun d => d.ren ρ)
 | .bnd f caps => .bnd f (caps.map fun d => d.ren ρ)
 | .agg cs => .agg (cs.map fun d => d.ren ρ)
 | .tup cs => .tup (cs.map fun d => d.ren ρ)
 | .any => .any
def D.under (n : Nat) : D -> Bool
 | .u _ => true
 | .ptr i _ => decide (i < n)
 | .vec i _ => decide (i < n)
 | .elt i _ _ _ => decide (i < n)
 | .mp i => decide (i < n)
 | .fnc _ caps => (caps.map fun d => d.under n).all id
 | .bnd _ caps => (caps.map fun d => d.under n).all id
 | .agg cs => (cs.map fun d => d.under n).all id
 | .tup cs => (cs.map fun d => d.under n).all id
 | .any => true
def D.le (ρ : Nat -> Nat) (d d' : D) : Prop := d' = .any \/ d = d'.ren ρ \/ (d = .u .nil /\ d' = .u (.sl []))
def Kr.ren (k : Kr) (ρ : Nat -> Nat) (n : Nat) : Kr := { k with hdr := fun i => if i < n then k.hdr (ρ i) else none }
theorem Rep.unren {k : Kr} {ρ : Nat -> Nat} {n : Nat} : ∀ {d : D} {v : Value}, Rep k (d.ren ρ) v -> d.under n = true -> Rep (k.ren ρ n) d v
 | .u x, v, h, _ => by
  rw [D.ren] at h;cases h with | u _ _ h => exact .u _ _ h
 | .any, v, h, _ => .any v
 | .ptr i o, v, h, hb => by
  rw [D.ren] at h;obtain ⟨b, c, h1, rfl⟩ := zd7 h;simp [D.under] at hb;exact .ptr _ _ b c (by simp [Kr.ren, hb, h1])
 | .vec i l, v, h, hb => by
  rw [D.ren] at h;obtain ⟨g, h1, rfl⟩ := zey h;simp [D.under] at hb;exact .vec _ _ g (by simp [Kr.ren, hb, h1])
 | .mp i, v, h, hb => by
  rw [D.ren] at h;obtain ⟨b, c, h1, rfl⟩ := zim h;simp [D.under] at hb;exact .mp _ b c (by simp [Kr.ren, hb, h1])
 | .elt i a o c, v, h, hb => by
  rw [D.ren] at h;obtain ⟨b, g, h1, rfl⟩ := zhh h;simp [D.under] at hb;exact .elt _ _ _ _ b g (by simp [Kr.ren, hb, h1])
 | .fnc f caps, v, h, hb => by
  rw [D.ren] at h;obtain ⟨vs, h1, rfl, h2⟩ := zi4 h;refine .fnc f caps vs (by simpa using h1) fun j d hj => ?_;have hm := List.mem_of_getElem? hj;have hbd : d.under n = true := by
   rw [D.under] at hb;exact (List.all_eq_true.1 hb) _ (List.mem_map.2 ⟨d, hm, rfl⟩)
  exact Rep.unren (h2 j (d.ren ρ) (by simp [hj])) hbd
 | .bnd f caps, v, h, hb => by
  rw [D.ren] at h;obtain ⟨vs, h1, rfl, h2⟩ := znF h;refine .bnd f caps vs (by simpa using h1) fun j d hj => ?_;have hm := List.mem_of_getElem? hj;have hbd : d.under n = true := by
   rw [D.under] at hb;exact (List.all_eq_true.1 hb) _ (List.mem_map.2 ⟨d, hm, rfl⟩)
  exact Rep.unren (h2 j (d.ren ρ) (by simp [hj])) hbd
 | .agg caps, v, h, hb => by
  rw [D.ren] at h;obtain ⟨vs, h1, rfl, h2⟩ := zhi h;refine .agg caps vs (by simpa using h1) fun j d hj => ?_;have hm := List.mem_of_getElem? hj;have hbd : d.under n = true := by
   rw [D.under] at hb;exact (List.all_eq_true.1 hb) _ (List.mem_map.2 ⟨d, hm, rfl⟩)
  exact Rep.unren (h2 j (d.ren ρ) (by simp [hj])) hbd
 | .tup caps, v, h, hb => by
  rw [D.ren] at h;obtain ⟨vs, h1, rfl, h2⟩ := zgj h;refine .tup caps vs (by simpa using h1) fun j d hj => ?_;have hm := List.mem_of_getElem? hj;have hbd : d.under n = true := by
   rw [D.under] at hb;exact (List.all_eq_true.1 hb) _ (List.mem_map.2 ⟨d, hm, rfl⟩)
  exact Rep.unren (h2 j (d.ren ρ) (by simp [hj])) hbd
termination_by d => SizeOf.sizeOf d
decreasing_by
 all_goals
  simp_wf
  have := List.sizeOf_lt_of_mem hm;omega
theorem Rep.weak {k : Kr} {ρ n d d' v} (h : Rep k d v) (hle : D.le ρ d d') (hb : d'.under n = true) : Rep (k.ren ρ n) d' v := by
 rcases hle with rfl | rfl | ⟨rfl, rfl⟩
 ·exact .any v
 ·exact h.unren hb
 ·obtain rfl := zdo h;exact .u _ _ (.slE _ _ fun _ => rfl)
def Ob.le (ρ : Nat -> Nat) : Ob -> Ob -> Prop
 | .box cs, .box cs' => cs.length = cs'.length /\ ∀ (j : Nat) (c c' : D), cs[j]? = some c -> cs'[j]? = some c' -> D.le ρ c c'
 | .vec e sz rows, .vec e' sz' rows' => e = e' /\ sz = sz' /\ rows'.length <= rows.length /\ ∀ (i : Nat) (r r' : List D), rows[i]? = some r -> rows'[i]? = some r' -> r.length = r'.length /\ ∀ (j : Nat) (c c' : D), r[j]? = some c -> r'[j]? = some c' -> D.le ρ c c'
 | .map kk ag es, .map kk' ag' es' => kk = kk' /\ ag = ag' /\ es.map (·.1) = es'.map (·.1) /\ ∀ (i : Nat) (p p' : Key × List D), es[i]? = some p -> es'[i]? = some p' -> p.2.length = p'.2.length /\ ∀ (j : Nat) (c c' : D), p.2[j]? = some c -> p'.2[j]? = some c' -> D.le ρ c c'
 | .it kk ag es left cur, .it kk' ag' es' left' cur' => kk = kk' /\ ag = ag' /\ es = es' /\ left = left' /\ cur = cur'
 | .nw t, .nw t' => t = t'
 | _, _ => False
def Ob.under (n : Nat) : Ob -> Bool
 | .box cs => cs.all (·.under n)
 | .vec _ _ rows => rows.all fun r => r.all (·.under n)
 | .map _ _ es => es.all fun p => p.2.all (·.under n)
 | .it _ _ _ _ _ => true
 | .nw _ => true
theorem zpB {α : Type} {R : α -> α -> Prop} {l1 l : List α} (hp : l1.Perm l) : ∀ {es' : List α}, l.length = es'.length -> (∀ (i : Nat) (p p' : α), l[i]? = some p -> es'[i]? = some p' -> R p p') ->
  ∃ l2 : List α, l2.Perm es' /\ l1.length = l2.length /\ ∀ (i : Nat) (p p' : α), l1[i]? = some p -> l2[i]? = some p' -> R p p' := by
 induction hp with
 | nil => intro es' hl h; exact ⟨es', .refl _, hl, h⟩
 | cons x hp ih =>
  intro es' hl h;cases es' with
  | nil => simp at hl
  | cons y t =>
   obtain ⟨l2, h1, h2, h3⟩ := ih (es' := t) (by simpa using hl) (fun i p p' hp hp' => h (i + 1) p p' (by simpa using hp) (by simpa using hp'));refine ⟨y :: l2, h1.cons _, by simp [h2], fun i p p' hp hp' => ?_⟩;cases i with
   | zero => exact h 0 p p' hp hp'
   | succ i => exact h3 i p p' (by simpa using hp) (by simpa using hp')
 | swap x y l =>
  intro es' hl h
  match es', hl, h with
  | a :: b :: t, hl, h =>
   refine ⟨b :: a :: t, .swap _ _ _, by simpa using hl, fun i p p' hp hp' => ?_⟩
   match i, hp, hp' with
   | 0, hp, hp' => exact h 1 p p' hp hp'
   | 1, hp, hp' => exact h 0 p p' hp hp'
   | i + 2, hp, hp' => exact h (i + 2) p p' hp hp'
  | [a], hl, _ => simp at hl
  | [], hl, _ => simp at hl
 | trans p1 p2 ih1 ih2 =>
  intro es' hl h;obtain ⟨l2, h1, h2, h3⟩ := ih2 hl h;obtain ⟨l3, h4, h5, h6⟩ := ih1 h2 h3;exact ⟨l3, h4.trans h1, h5, h6⟩
theorem ObAt.weak {k : Kr} {w ρ n h ob ob'} (ho : ObAt k w h ob) (hle : Ob.le ρ ob ob') (hb : ob'.under n = true) : ObAt (k.ren ρ n) w h ob' := by
 cases ob with
 | it kk ag es left cur =>
  cases ob' with
  | box => exact hle.elim
  | vec => exact hle.elim
  | map => exact hle.elim
  | nw => exact hle.elim
  | it kk' ag' es' left' cur' =>
   obtain ⟨rfl, rfl, rfl, rfl, rfl⟩ := hle;exact ho
 | nw t =>
  cases ob' with
  | box => exact hle.elim
  | vec => exact hle.elim
  | map => exact hle.elim
  | it => exact hle.elim
  | nw t' =>
   obtain rfl : t = t' := hle;exact ho
 | map kk ag es =>
  cases ob' with
  | box => exact hle.elim
  | vec => exact hle.elim
  | it => exact hle.elim
  | nw => exact hle.elim
  | map kk' ag' es' =>
   obtain ⟨rfl, rfl, hkey, hle⟩ := hle;obtain ⟨b, ents, clock, es1, h1, h2, hpm, h3⟩ := ho;obtain ⟨es2, hpm2, hkey, hle⟩ : ∃ es2 : List (Key × List D), es2.Perm es' /\ es1.map (·.1) = es2.map (·.1) /\ ∀ (i : Nat) (p p' : Key × List D), es1[i]? = some p -> es2[i]? = some p' -> p.2.length = p'.2.length /\ ∀ (j : Nat) (c c' : D), p.2[j]? = some c -> p'.2[j]? = some c' -> D.le ρ c c' := by
    obtain ⟨es2, h4, h5, h6⟩ := zpB (R := fun p p' => p.1 = p'.1 /\ p.2.length = p'.2.length /\ ∀ (j : Nat) (c c' : D), p.2[j]? = some c -> p'.2[j]? = some c' -> D.le ρ c c') hpm (es' := es') (by have := congrArg List.length hkey; simpa using this) (fun i p p' hp hp' => ⟨by
     have := congrArg (fun l => l[i]?) hkey;simp only [List.getElem?_map, hp, hp', Option.map_some, Option.some.injEq] at this;exact this, hle i p p' hp hp'⟩)
    refine ⟨es2, h4, ?_, fun i p p' hp hp' => (h6 i p p' hp hp').2⟩;refine List.ext_getElem? fun i => ?_;simp only [List.getElem?_map];cases hp : es1[i]? with
    | none =>
     have : es2[i]? = none := by simp at hp ⊢; omega
     rw [this]
    | some p =>
     have hl := (lGE.1 hp).1;obtain ⟨p', hp'⟩ : ∃ p', es2[i]? = some p' := ⟨es2[i], List.getElem?_eq_getElem (by omega)⟩;rw [hp'];exact congrArg some (h6 i p p' hp hp').1
   have hb : Ob.under n (.map kk ag es2) = true := by
    simp only [Ob.under, List.all_eq_true] at hb ⊢;exact fun p hp => hb p (hpm2.mem_iff.1 hp)
   clear hpm;generalize es1 = es at *;have hlen : es.length = es2.length := by have := congrArg List.length hkey; simpa using this
   have hrow : ∀ (i : Nat) (p' : Key × List D), es2[i]? = some p' -> ∃ p, es[i]? = some p /\ p.1 = p'.1 := fun i p' hp => by
    have hlt := (lGE.1 hp).1;have hp0 : es[i]? = some es[i] := List.getElem?_eq_getElem (by omega);refine ⟨_, hp0, ?_⟩;have := congrArg (fun l => l[i]?) hkey;simp only [List.getElem?_map, hp0, hp, Option.map_some, Option.some.injEq] at this;exact this
   refine ⟨b, ents, clock, es2, h1, h2, hpm2, ⟨by rw [h3.size, hlen], fun p' hp => ?_, ?_, fun i p' hp => ?_, h3.born, h3.apart⟩⟩
   ·obtain ⟨i, hi⟩ := List.getElem?_of_mem hp;obtain ⟨p, h4, h5⟩ := hrow i p' hi;rw [<- h5];exact h3.kind p (List.mem_of_getElem? h4)
   ·have h4 := h3.once;have e1 : es.Pairwise (fun p q => p.1 ≠ q.1) ↔ (es.map (·.1)).Pairwise (· ≠ ·) := by rw [List.pairwise_map]
    have e2 : es2.Pairwise (fun p q => p.1 ≠ q.1) ↔ (es2.map (·.1)).Pairwise (· ≠ ·) := by rw [List.pairwise_map]
    rw [e2, <- hkey, <- e1];exact h4
   ·obtain ⟨p, h4, h5⟩ := hrow i p' hp;obtain ⟨en, h6, h7, h8⟩ := h3.ent i p h4;refine ⟨en, h6, by rw [h7, h5], ?_⟩;obtain ⟨hl2, hc⟩ := hle i p p' h4 hp;have hub : ∀ c ∈ p'.2, c.under n = true := (List.all_eq_true.1 ((List.all_eq_true.1 hb) p' (List.mem_of_getElem? hp)));unfold MV at h8 ⊢;split
    ·rename_i hag;rw [if_pos hag] at h8;obtain ⟨vs, h9, h10, h11⟩ := h8;refine ⟨vs, h9, by omega, fun j d hj => ?_⟩;have hlt := (lGE.1 hj).1;have hpj : p.2[j]? = some (p.2[j]'(by omega)) := List.getElem?_eq_getElem (by omega);exact ⟨(h11 j _ hpj).1, (h11 j _ hpj).2.weak (hc j _ _ hpj hj) (hub d (List.mem_of_getElem? hj))⟩
    ·rename_i hag;rw [if_neg hag] at h8;obtain ⟨d, h9, h10⟩ := h8;have hl1 : p'.2.length = 1 := by rw [<- hl2, h9]; rfl
     obtain ⟨d', hd'⟩ := List.length_eq_one_iff.1 hl1;exact ⟨d', hd', h10.1, h10.2.weak (hc 0 d d' (by simp [h9]) (by simp [hd'])) (hub d' (by simp [hd']))⟩
 | box cs =>
  cases ob' with
  | vec => exact hle.elim
  | map => exact hle.elim
  | it => exact hle.elim
  | nw => exact hle.elim
  | box cs' =>
   obtain ⟨b, vs, t, h1, h2, h3, h4⟩ := ho;obtain ⟨hl, hle⟩ := hle;refine ⟨b, vs, t, h1, h2, by omega, fun j d hj => ?_⟩;have hlt := (lGE.1 hj).1;have hc : cs[j]? = some cs[j] := List.getElem?_eq_getElem (by omega);exact ⟨(h4 j _ hc).1, (h4 j _ hc).2.weak (hle j _ _ hc hj) ((List.all_eq_true.1 hb) d (List.mem_of_getElem? hj))⟩
 | vec e sz rows =>
  cases ob' with
  | box => exact hle.elim
  | map => exact hle.elim
  | it => exact hle.elim
  | nw => exact hle.elim
  | vec e' sz' rows' =>
   obtain ⟨xs, h1, h2, h3, h4⟩ := ho;obtain ⟨rfl, rfl, hl, hle⟩ := hle;have hmul : rows'.length * sz <= rows.length * sz := Nat.mul_le_mul_right _ hl;have hrow : ∀ (i : Nat) (r' : List D), rows'[i]? = some r' -> ∃ r : List D, rows[i]? = some r /\ r.length = r'.length /\ ∀ (j : Nat) (c c' : D), r[j]? = some c -> r'[j]? = some c' -> D.le ρ c c' := fun i r' hi => by
    have hlt := (lGE.1 hi).1;have hr : rows[i]? = some rows[i] := List.getElem?_eq_getElem (by omega);exact ⟨_, hr, hle i _ _ hr hi⟩
   refine ⟨xs.take (rows'.length * sz), zgF h1 hl, h2, fun r' hr => ?_, fun i r' hi j d hj => ?_⟩
   ·obtain ⟨i, hi⟩ := List.getElem?_of_mem hr;obtain ⟨r, hr, hlen, _⟩ := hrow i r' hi;rw [<- hlen];exact h3 r (List.mem_of_getElem? hr)
   ·obtain ⟨r, hr, hlen, hcl⟩ := hrow i r' hi;have hjl := (lGE.1 hj).1;have hc : r[j]? = some r[j] := List.getElem?_eq_getElem (by omega);have hrl := h3 r (List.mem_of_getElem? hr);have hil := (lGE.1 hi).1;have hlt : i * sz + j < rows'.length * sz := by
     have : (i + 1) * sz <= rows'.length * sz := Nat.mul_le_mul_right _ hil;rw [Nat.add_mul, Nat.one_mul] at this;omega
    have e1 : (xs.take (rows'.length * sz)).getD (i * sz + j) undef = xs.getD (i * sz + j) undef := by
     simp [List.getElem?_take, hlt]
    rw [e1];have := h4 i r hr j _ hc;refine ⟨this.1, this.2.weak (hcl j _ _ hc hj) ?_⟩;exact (List.all_eq_true.1 ((List.all_eq_true.1 hb) r' (List.mem_of_getElem? hi))) d (List.mem_of_getElem? hj)
structure St.Le (n0 : Nat) (ρ : Nat -> Nat) (s s' : St) : Prop where
 n : s'.n = s.n
 env : ∀ x d', getK s'.env x = some d' -> D.le ρ (s.at x) d' /\ d'.under s'.next = true
 dom : ∀ x d', getK s'.env x = some d' -> x < s.n
 obs : ∀ i ob', getK s'.obs i = some ob' -> i < s'.next /\ ∃ ob, getK s.obs (ρ i) = some ob /\ Ob.le ρ ob ob' /\ ob'.under s'.next = true
 inj : ∀ i j ob ob', getK s'.obs i = some ob -> getK s'.obs j = some ob' -> ρ i = ρ j -> i = j
 keep : ∀ i, i < n0 -> ρ i = i /\ i < s'.next
theorem Sim.weak {Γ : Ctx} {k s s' a w ρ} (hin : In Γ k w) (hs : Sim k Γ.own s a w) (hle : St.Le Γ.n0 ρ s s') : In Γ (k.ren ρ s'.next) w /\ Sim (k.ren ρ s'.next) Γ.own s' a w := by
 refine ⟨⟨⟨hin.le.mem, fun i h hi => ?_⟩, hin.none0, hin.memNew, hin.fresh, hin.os, hin.tape, hin.output, hin.size, hin.block⟩,
  ⟨⟨hs.sat.mem, fun i ob' hi => ?_, fun i j x y h g b hx hy hij hh hg hb => ?_⟩, hs.defers, by rw [hle.n]; exact hs.size, fun x d' hx => ?_, fun i hi => ?_⟩⟩
 ·have hlt : i < Γ.n0 := by
   rcases Nat.lt_or_ge i Γ.n0 with h' | h'
   ·exact h'
   ·rw [hin.none0 i h'] at hi; cases hi
  obtain ⟨h1, h2⟩ := hle.keep i hlt;simp only [Kr.ren, h1];rw [if_pos h2];exact hin.le.hdr i h hi
 ·obtain ⟨h1, ob, h2, h3, h4⟩ := hle.obs i ob' hi;obtain ⟨h, h5, h6, h7⟩ := hs.sat.ob _ ob h2;exact ⟨h, by simp [Kr.ren, h1, h5], h6, h7.weak h3 h4⟩
 ·obtain ⟨i1, ox, h2, _⟩ := hle.obs i x hx;obtain ⟨j1, oy, h2', _⟩ := hle.obs j y hy;simp only [Kr.ren, if_pos i1] at hh;simp only [Kr.ren, if_pos j1] at hg;exact hs.sat.apart _ _ ox oy h g b h2 h2' (fun e => hij (hle.inj i j x y hx hy e)) hh hg hb
 ·obtain ⟨h1, h2⟩ := hle.env x d' hx;exact ⟨by rw [hle.n]; exact hle.dom x d' hx, (hs.at x).weak h1 h2⟩
 ·simp only [Kr.ren];rw [if_neg (by omega)]
theorem V.weak {P Γ c s s' Q ρ} (hle : St.Le Γ.n0 ρ s s') (h : V P Γ c s' Q) : V P Γ c s Q := fun K a w hin hs =>
 let ⟨h1, h2⟩ := Sim.weak hin hs hle
 h _ a w h1 h2
def LoopI {α : Type} (n0 : Nat) (S : α -> St) (μ : α -> Nat) (x : α) (s : St) : Prop := ∃ y ρ, μ y < μ x /\ St.Le n0 ρ s (S y)
end Go.VL
namespace Go.VL
open Go
def G (P : Program) (Γ : Ctx) (all : Array Oper) (ops : List Oper) (s : St) (k : St -> Prop) : Prop :=
 ∀ K a w, In Γ K w -> Sim K Γ.own s a w -> ∀ (Q : Exit -> Act -> World -> Prop), (∀ K' a' w' s', In Γ K' w' -> Sim K' Γ.own s' a' w' -> k s' -> Q .normal a' w') ->
  (∀ ch K' a' w' s', In Γ K' w' -> Sim K' Γ.own s' a' w' -> Γ.pan ch s' -> Q (.panic ch) a' w') -> wpList P all Q ops a w
section
variable {P : Program} {Γ : Ctx} {all : Array Oper} {rest : List Oper} {s : St} {k : St -> Prop}
theorem ztT (h : k s) : G P Γ all [] s k := fun K a w hin hs Q hQ _ => hQ K a w s hin hs h
theorem zq9 {dst : Option Tmp} {op : Op} {type : TypeId} {pos : String} {after : Array Edge}
  (h : EffP P Γ { dst, op, type, pos, after, guard := none } s fun s' => G P Γ all rest s' k) : G P Γ all ({ dst, op, type, pos, after, guard := none } :: rest) s k :=
 fun K a w hin hs Q hQ hP => wpList_plain rfl fun Kont hK => h K a w hin hs Kont Q (fun K' a' w' s' h1 h2 h3 => hK a' w' (h3 K' a' w' h1 h2 Q hQ hP)) hP
def zaN (all : Array Oper) (j : Nat) : Option Tmp := (all[j]?).bind (·.dst)
theorem Sim.getK {k own s a w} (h : Sim k own s a w) {x d} (hx : getK s.env x = some d) : x < a.tmps.size /\ Rep k d (a.tmps.getD x undef) :=
 ⟨by rw [h.size]; exact (h.env x d hx).1, (h.env x d hx).2⟩
abbrev D.un : D := .u (.oth undef)
theorem zqO {dst : Option Tmp} {op : Op} {type : TypeId} {pos : String} {after : Array Edge} {j : Nat} {want : Bool} {t : Tmp}
  (hj : zaN all j = some t) (hb : getK s.env t = some .un) (hp : zaI dst s) (hn : G P Γ all rest (s.put dst .un) k) :
  G P Γ all ({ dst, op, type, pos, after, guard := some (j, want) } :: rest) s k := by
 intro K a w hin hs Q hQ hP;obtain ⟨hlt, hr⟩ := hs.getK hb;have hv := zdc hr;have hyd : yielded all a.tmps j = none := by
  unfold yielded;unfold zaN at hj;rw [hj];simp only [Option.bind_some];have : a.tmps[t]? = some undef := by
   rw [Array.getElem?_eq_getElem hlt];simp [hlt] at hv;rw [hv]
  rw [this]
  try rfl
 have e1 : Region.wanted { dst, op, type, pos, after, guard := some (j, want) } (yielded all a.tmps) = false := by
  simp [Region.wanted, hyd]
 refine wpList_skip e1 ?_;exact hn K _ w hin (hs.put hp (.u _ _ (.oth _))) Q hQ hP
theorem zr9 {dst : Option Tmp} {op : Op} {type : TypeId} {pos : String} {after : Array Edge} {j : Nat} {want b : Bool} {t : Tmp}
  (hj : zaN all j = some t) (hb : getK s.env t = some (.u (.bool b))) (hp : zaI dst s)
  (hy : b = want -> G P Γ all ({ dst, op, type, pos, after, guard := none } :: rest) (s.put (some t) (.u (.bool want))) k)
  (hn : b = !want -> G P Γ all rest ((s.put (some t) (.u (.bool (!want)))).put dst .un) k) :
  G P Γ all ({ dst, op, type, pos, after, guard := some (j, want) } :: rest) s k := by
 intro K a w hin hs Q hQ hP;obtain ⟨hlt, hr⟩ := hs.getK hb;have hv := zcK hr;have hyd : yielded all a.tmps j = some b := by
  unfold yielded;unfold zaN at hj;rw [hj];simp only [Option.bind_some];have : a.tmps[t]? = some (.bool b) := by
   rw [Array.getElem?_eq_getElem hlt];simp [hlt] at hv;rw [hv]
  rw [this]
 have same : ∀ b', b = b' -> Sim K Γ.own (s.put (some t) (.u (.bool b'))) a w := fun b' e => by
  subst e;refine ⟨hs.sat, hs.defers, hs.size, fun x d hx => ?_, hs.hdr⟩;simp only [St.put, zaa] at hx;split at hx
  ·rename_i e;subst e;cases hx;exact hs.env _ _ hb
  ·exact hs.env x d hx
 by_cases hw : b = want
 ·have := hy hw K a w hin (same want hw) Q hQ hP;unfold wpList at this ⊢;have e1 : Region.wanted { dst, op, type, pos, after, guard := some (j, want) } (yielded all a.tmps) = true := by
   simp [Region.wanted, hyd, hw]
  have e2 : Region.wanted { dst, op, type, pos, after, guard := none } (yielded all a.tmps) = true := rfl;rw [if_pos e2] at this;rw [if_pos e1];exact this
 ·have hb' : b = !want := by cases b <;> cases want <;> simp_all
  have e1 : Region.wanted { dst, op, type, pos, after, guard := some (j, want) } (yielded all a.tmps) = false := by
   simp [Region.wanted, hyd, hw]
  refine wpList_skip e1 ?_;exact hn hb' K _ w hin ((same _ hb').put (by cases dst <;> simp_all [zaI, St.put]) (.u _ _ (.oth _))) Q hQ hP
theorem zqC {Q : Exit -> St -> Prop} {kt : Kt} {id : Nat} {l : List Oper} (h : G P Γ l.toArray l s (zan P Γ Q kt .normal)) : V P Γ (.region id l.toArray false) s (zan P Γ Q kt) :=
 fun K a w hin hs => wp_region_lit (h K a w hin hs _ (fun K' a' w' s' h1 h2 h3 => .inl ⟨K', s', h1, h2, h3⟩) fun ch K' a' w' s' h1 h2 h3 => .inl ⟨K', s', h1, h2, h3⟩)
end
def zaK (P : Program) (s : St) : List ResultVar -> (List D -> Prop) -> Prop
 | [], k => k []
 | .tmp t :: r, k => zaK P s r fun ds => k (s.at t :: ds)
 | .cell a t :: r, k => loadD P s t (s.at a) fun d => zaK P s r fun ds => k (d :: ds)
def zaf : List D -> D
 | [d] => d
 | ds => .tup ds
theorem zgV {P : Program} {s : St} {k : Kr} {own a w} (hs : Sim k own s a w) : ∀ (rs : List ResultVar) (K : List D -> Prop), zaK P s rs K ->
  ∃ ds vs, K ds /\ (rs.mapM (fun (r : ResultVar) => match r with | .tmp t => (pure (a.tmps.getD t undef) : Sem Value) | .cell x t => do loadVar t (<- asAddr (a.tmps.getD x undef)))).run P w = .ok vs w /\
   ds.length = vs.length /\ ∀ j d, ds[j]? = some d -> Rep k d (vs.getD j undef)
 | [], K, h => ⟨[], [], h, by simp, rfl, by simp⟩
 | .tmp t :: r, K, h => by
  obtain ⟨ds, vs, h1, h2, h3, h4⟩ := zgV hs r _ h;refine ⟨_, a.tmps.getD t undef :: vs, h1, ?_, by simp [h3], fun j d hj => ?_⟩
  ·simp only [List.mapM_cons, Sem.run_bind, Sem.run_pure, Result.andThen_ok, h2]
  ·cases j with
   | zero => simp at hj; subst hj; exact hs.at t
   | succ j => simpa using h4 j d (by simpa using hj)
 | .cell x t :: r, K, h => by
  obtain ⟨d0, h, u, hu, hr⟩ := zj9 h hs (hs.at x);obtain ⟨ds, vs, h1, h2, h3, h4⟩ := zgV hs r _ h;have hload : (do loadVar t (<- asAddr (a.tmps.getD x undef)) : Sem Value).run P w = .ok u w := by
   unfold Instr.loadAt Instr.sureAddr at hu;split at hu
   ·rename_i ad hv;rw [hv];simpa [asAddr] using hu
   ·simp at hu
  refine ⟨_, u :: vs, h1, ?_, by simp [h3], fun j d hj => ?_⟩
  ·simp only [List.mapM_cons, Sem.run_bind, Result.andThen_ok, Sem.run_pure] at hload ⊢;rw [hload];simp only [Result.andThen_ok, h2]
  ·cases j with
   | zero => simp at hj; subst hj; simpa using hr
   | succ j => simpa using h4 j d (by simpa using hj)
def Ret (P : Program) (f : FuncId) (ds : List D) (obs : List (Nat × Ob)) (nx : Nat) (post : D -> List (Nat × Ob) -> Nat -> Prop) : Prop :=
 ∀ (k : Kr) (own : Nat -> Prop) (w : World) (vs : Array Value), Sat k own obs w -> (∀ i, nx <= i -> k.hdr i = none) -> (∀ b, w.heap.size <= b -> own b) -> RepL k ds vs ->
  Calls P f vs w fun e w' => ∃ v d obs' nx' k', e = .returned v /\ In (.of own k nx w) k' w' /\ Sat k' own obs' w' /\ (∀ i, nx' <= i -> k'.hdr i = none) /\ nx <= nx' /\ Rep k' d v /\ post d obs' nx'
def FinOK (n0 : Nat) (post : D -> List (Nat × Ob) -> Nat -> Prop) (s : St) (d : D) : Prop :=
 (∃ s' ρ d', St.Le n0 ρ s s' /\ D.le ρ d d' /\ d'.under s'.next = true /\ n0 <= s'.next /\ post d' s'.obs s'.next) \/ (n0 <= s.next /\ post d s.obs s.next)
def EndOK (P : Program) (fn : Func) (n0 : Nat) (post : D -> List (Nat × Ob) -> Nat -> Prop) (e : Exit) (s : St) : Prop :=
 (e = .normal \/ e = .ret) /\ zaK P s fn.results.toList fun ds => FinOK n0 post s (zaf ds)
def entry (ds : List D) (nt : Nat) (obs : List (Nat × Ob)) (nx : Nat) : St := { n := nt, env := (ds.zipIdx 0).map fun p => (p.2, p.1), obs, next := nx }
theorem ziC {α : Type} {x : α} {l : List α} {k : Nat} : (x :: l).zipIdx k = (x, k) :: l.zipIdx (k + 1) := List.zipIdx_cons
theorem ziN {α : Type} {k : Nat} : ([] : List α).zipIdx k = [] := List.zipIdx_nil
theorem maC {α β : Type} {f : α -> β} {x : α} {l : List α} : (x :: l).map f = f x :: l.map f := List.map_cons
theorem maN {α β : Type} {f : α -> β} : [].map f = [] := List.map_nil
theorem oA {n : Nat} : 0 + n = n := Nat.zero_add n
theorem zfz (ds : List D) (i x : Nat) : getK ((ds.zipIdx i).map fun p => (p.2, p.1)) x = if i <= x then ds[x - i]? else none := by
 induction ds generalizing i with
 | nil => simp [getK]
 | cons d ds ih =>
  simp only [List.zipIdx_cons, List.map_cons, zaa, ih];by_cases h1 : x = i
  ·subst h1; simp
  ·rw [if_neg h1];by_cases h2 : i + 1 <= x
   ·rw [if_pos h2, if_pos (by omega)];have : x - i = (x - (i + 1)) + 1 := by omega
    rw [this, List.getElem?_cons_succ]
   ·rw [if_neg h2, if_neg (by omega)]
theorem Ret.of_body {P f fn c ds obs nx post} (hf : P.funcs[f]? = some fn) (hb : fn.body = some c) (hn : ds.length <= fn.ntmps)
  (h : ∀ Γ : Ctx, Γ.n0 = nx -> V P Γ c (entry ds fn.ntmps obs nx) (zan P Γ (EndOK P fn nx post) .done)) : Ret P f ds obs nx post := by
 intro k own w vs hsat hhdr hfresh hrep;have hsz : vs.size = ds.length := hrep.1;refine calls_of_wp hf hb (wp_mono (h (.of own k nx w) rfl k _ w ⟨.refl _, hhdr, fun b o v e => .inl e, hfresh, rfl, rfl, rfl, Nat.le_refl _, fun _ _ => rfl⟩
  ⟨hsat, rfl, ?_, fun x d hx => ?_, hhdr⟩) ?_)
 ·simp [entry, hsz]; omega
 ·simp only [entry, zfz, Nat.zero_le, if_true, Nat.sub_zero] at hx;have hlt := (lGE.1 hx).1;refine ⟨by simp [entry]; omega, ?_⟩;have := hrep.2 x d hx;have e : (vs ++ Array.replicate (fn.ntmps - vs.size) undef).getD x undef = vs.getD x undef := by
   simp [Array.getElem?_append, show x < vs.size by omega]
  rw [e];exact this
 ·rintro e a' w' (⟨K', s', hin, hs, hend⟩ | hesc)
  case inr => exact hesc.2.elim
  have hend : EndOK P fn nx post e s' := by
   cases e with
   | panic ch => exact False.elim hend
   | _ => exact hend
  obtain ⟨he, hres⟩ := hend;obtain ⟨rs, rv, hfin, hrun, hlen, hr⟩ := zgV hs _ _ hres;have hres' : (results fn a'.tmps).run P w' = .ok (if h : rv.toArray.size = 1 then rv.toArray[0] else .tuple rv.toArray) w' := by
   unfold results;rw [Array.mapM_eq_mapM_toList];have e : (fn.results.toList.mapM fun (x : ResultVar) => match x with | .tmp t => (pure (a'.tmps.getD t undef) : Sem Value) | .cell a t => do loadVar t (<- asAddr (a'.tmps.getD a undef))).run P w' = .ok rv w' := hrun;simp only [Sem.run_bind, Sem.run_map, Result.andThen_ok]
   erw [e]
   simp
  have hrepv : Rep K' (zaf rs) (if h : rv.toArray.size = 1 then rv.toArray[0] else .tuple rv.toArray) := by
   match rs, rv, hlen, hr with
   | [], [], _, hr => exact .tup [] [] rfl (by simp)
   | [d], [v], _, hr => simpa [zaf] using hr 0 d rfl
   | d :: d1 :: ds, v :: v1 :: vs, hlen, hr =>
    simp only [zaf];rw [dif_neg (by simp)];exact .tup _ _ hlen hr
  have hfinal : bodyPost P fn (fun e w' => ∃ v d obs' nx' k', e = .returned v /\ In (.of own k nx w) k' w' /\ Sat k' own obs' w' /\ (∀ i, nx' <= i -> k'.hdr i = none) /\ nx <= nx' /\ Rep k' d v /\ post d obs' nx') .ret a' w' := by
   rcases hfin with ⟨s2, ρ, d', hle, hd, hu, hnx, hpost⟩ | ⟨hnx, hpost⟩
   ·obtain ⟨h1, h2⟩ := Sim.weak hin hs hle;exact ⟨hs.defers, _, hres', _, d', s2.obs, s2.next, _, rfl, h1, h2.sat, h2.hdr, hnx, hrepv.weak hd hu, hpost⟩
   ·exact ⟨hs.defers, _, hres', _, _, s'.obs, s'.next, K', rfl, hin, hs.sat, hs.hdr, hnx, hrepv, hpost⟩
  rcases he with rfl | rfl
  ·exact hfinal
  ·exact hfinal
end Go.VL
namespace Go.VL
open Go
def zak (P : Program) (f : FuncId) : Bool := match P.funcs[f]? with | some fn => fn.body.isSome && fn.name != "runtime.NumGoroutine" | none => false
def zaz : D -> Option (FuncId × List D)
 | .fnc (.func f) caps => some (f, caps)
 | _ => none
theorem zg2 {P : Program} {k own s a w} (hs : Sim k own s a w) {fop : Operand} {args : Array Operand} {ts : Array TypeId} {ty : TypeId} {f caps} (hf : zaz (opd s fop) = some (f, caps)) (hc : zak P f = true)
  (dst : Option Tmp) (pos : String) (after : Array Edge) (g : Option (Nat × Bool)) :
  ∃ vs, RepL k (args.toList.map (opd s) ++ caps) vs /\ (execOp a.eval { dst, op := .call { callee := .value fop, args, argTypes := ts }, type := ty, pos, after, guard := g }).run P w = .ok (.enter f vs) w := by
 unfold zaz at hf;split at hf
 ·rename_i f' caps' hd;simp at hf;obtain ⟨rfl, rfl⟩ := hf;have hr := zaM hs fop;rw [hd] at hr;obtain ⟨cv, hl, hv, hcap⟩ := zi4 hr;refine ⟨args.map a.eval ++ cv.toArray, ⟨by simp [hl], fun j d hj => ?_⟩, ?_⟩
  ·by_cases hlt : j < args.size
   ·rw [List.getElem?_append_left (by simpa using hlt)] at hj;have := zeZ hs args.toList j d hj;have e : (args.map a.eval ++ cv.toArray).getD j undef = (args.toList.map a.eval).getD j undef := by
     simp [Array.getElem?_append, hlt]
    rw [e];exact this
   ·rw [List.getElem?_append_right (by simpa using Nat.le_of_not_lt hlt)] at hj;have := hcap (j - args.size) d (by simpa using hj);have e : (args.map a.eval ++ cv.toArray).getD j undef = cv.getD (j - args.size) undef := by
     simp [Array.getElem?_append, hlt]
    rw [e];exact this
  ·unfold zak at hc;split at hc
   ·rename_i fn hfn;simp at hc;obtain ⟨hb, hname⟩ := hc;have hb' : fn.body.isNone = false := by cases hbb : fn.body <;> simp_all
    have hname' : (fn.name == "runtime.NumGoroutine") = false := by simpa using hname
    simp only [execOp];simp [resolve, hv, Deferred.ofValue, invoke, callFunc, hfn, hname', hb', hname];intro h0;rw [h0] at hb;simp at hb
   ·cases hc
 ·cases hf
theorem Eff.zsa {P Γ s k} {fop : Operand} {args : Array Operand} {ts : Array TypeId} {ty : TypeId} {f caps dst pos after} {ds : List D} {post : D -> List (Nat × Ob) -> Nat -> Prop}
  (hf : zaz (opd s fop) = some (f, caps)) (hc : zak P f = true) (hds : args.toList.map (opd s) ++ caps = ds) (hret : Ret P f ds s.obs s.next post) (hp : zaI dst s)
  (hk : ∀ d obs' nx', s.next <= nx' -> post d obs' nx' -> k (({ s with obs := obs', next := nx' } : St).put dst d)) :
  Eff P Γ { dst, op := .call { callee := .value fop, args, argTypes := ts }, type := ty, pos, after, guard := none } s k := by
 intro K a w hin hs Kont Q hK;obtain ⟨vs, hrep, hrun⟩ := zg2 hs (args := args) (ts := ts) (ty := ty) hf hc dst pos after none;rw [hds] at hrep;unfold Oper.wp;rw [hrun];refine Calls.mono (hret K Γ.own w vs hs.sat hs.hdr (fun b hb => hin.own_of_ge hb) hrep) ?_;rintro e w' ⟨v, d, obs', nx', k', rfl, hin', hsat', hhdr', hnx, hr, hpost⟩;have hle : K.le k' := hin'.le;have hin2 : In Γ k' w' := hin.step hle (fun b o v e => hin'.memNew b o v e) hin'.os hin'.tape hin'.output hin'.size hin'.block;have hsim : Sim k' Γ.own ({ s with obs := obs', next := nx' } : St) a w' := ⟨hsat', hs.defers, hs.size, fun x d hx => ⟨(hs.env x d hx).1, (hs.env x d hx).2.mono hle⟩, hhdr'⟩;exact hK k' _ w' _ hin2 (hsim.put (by cases dst <;> simp_all [zaI]) hr) (hk d obs' nx' hnx hpost)
def zcg : List (List D) -> Option (List (List U))
 | [] => some []
 | r :: l => match zeI r, zcg l with | some a, some b => some (a :: b) | _, _ => none
theorem zma (l : List U) : zeI (l.map .u) = some l := by induction l <;> simp_all [zeI]
theorem zg4 : ∀ {l : List D} {r : List U}, zeI l = some r -> l = r.map .u
 | [], r, h => by simp [zeI] at h; subst h; rfl
 | d :: l, r, h => by
  cases d <;> simp [zeI] at h;cases hl : zeI l with
  | none => simp [hl] at h
  | some q => simp [hl] at h; subst h; simp [zg4 hl]
theorem zhN : ∀ {l : List (List D)} {r : List (List U)}, zcg l = some r -> l = r.map (·.map .u)
 | [], r, h => by simp [zcg] at h; subst h; rfl
 | x :: l, r, h => by
  simp only [zcg] at h;split at h
  ·rename_i a b ha hb;simp at h;subst h;simp [zg4 ha, zhN hb]
  ·cases h
@[simp] theorem zo6 (l : List (List U)) : zcg (l.map (·.map .u)) = some l := by induction l <;> simp_all [zcg, zma]
@[simp] theorem zrO (l : List (List U)) : zcg (rowsD l) = some l := zo6 l
theorem zaS (a b : List (List D)) : zcg (a ++ b) = match zcg a, zcg b with | some x, some y => some (x ++ y) | _, _ => none := by
 induction a with
 | nil => simp only [List.nil_append, zcg]; cases zcg b <;> rfl
 | cons r a ih =>
  simp only [List.cons_append, zcg, ih];cases zeI r <;> cases zcg a <;> cases zcg b <;> rfl
def zda : List (Key × List D) -> Option (List (Key × List U))
 | [] => some []
 | p :: l => match zeI p.2, zda l with | some a, some b => some ((p.1, a) :: b) | _, _ => none
theorem zhM : ∀ {l : List (Key × List D)} {r : List (Key × List U)}, zda l = some r -> l = r.map fun p => (p.1, p.2.map .u)
 | [], r, h => by simp [zda] at h; subst h; rfl
 | x :: l, r, h => by
  simp only [zda] at h;split at h
  ·rename_i a b ha hb;simp at h;subst h;simp [<- zg4 ha, <- zhM hb]
  ·cases h
theorem zin {es : List (Key × List D)} {us : List (Key × List U)} (h : es.Perm (us.map fun p => (p.1, p.2.map D.u))) : ∃ us' : List (Key × List U), es = (us'.map fun p => (p.1, p.2.map .u)) /\ us'.Perm us := by
 generalize hx : (us.map fun p => (p.1, p.2.map D.u)) = xs at h
 induction h generalizing us with
 | nil => exact ⟨[], rfl, by cases us <;> simp at hx ⊢⟩
 | cons x hp ih =>
  cases us with
  | nil => simp at hx
  | cons q l =>
   simp only [List.map_cons, List.cons.injEq] at hx;obtain ⟨us', e, hp'⟩ := ih hx.2;exact ⟨q :: us', by rw [List.map_cons, hx.1, e], hp'.cons _⟩
 | swap x y l =>
  match us, hx with
  | q :: r :: l', hx =>
   simp only [List.map_cons, List.cons.injEq] at hx;exact ⟨r :: q :: l', by rw [List.map_cons, List.map_cons, hx.1, hx.2.1, hx.2.2], .swap _ _ _⟩
  | [q], hx => simp at hx
  | [], hx => simp at hx
 | trans p1 p2 ih1 ih2 =>
  obtain ⟨us2, e2, hp2⟩ := ih2 hx;obtain ⟨us1, e1, hp1⟩ := ih1 e2.symm;exact ⟨us1, e1, hp1.trans hp2⟩
theorem zbb : ∀ (us : List (Key × List U)), zda (zg1 us) = some us
 | [] => rfl
 | p :: l => by
  have h1 : zda (zg1 (p :: l)) = match zeI (p.2.map .u), zda (zg1 l) with | some a, some b => some ((p.1, a) :: b) | _, _ => none := rfl
  rw [h1, zma, zbb l]
def zds (o : List (Nat × Ob)) : D -> Option (U × List Nat)
 | .u .nil => some (.sl [], [])
 | .u x => some (x, [])
 | .vec i len => match getK o i with
  | some (.vec _ _ rows) => if len <= rows.length then match zcg (rows.take len) with
   | some us => some (.sl us, [i])
   | none => none else none
  | _ => none
 | .mp i => match getK o i with
  | some (.map kk ag es) => match zda es with
   | some us => some (.map kk ag us, [i])
   | none => none
  | _ => none
 | .ptr i off => match getK o i with
  | some (.box cells) => match zeI cells with
   | some us => some (.row us off, [i])
   | none => none
  | _ => none
 | _ => none
def zcc (o : List (Nat × Ob)) : List D -> Option (List U × List Nat)
 | [] => some ([], [])
 | d :: ds => match zds o d, zcc o ds with
  | some (a, l), some (az, ls) => some (a :: az, l ++ ls)
  | _, _ => none
def zdr (o : List (Nat × Ob)) : D -> Option (U × List Nat)
 | .ptr i off => match getK o i with
  | some (.box cells) => match zcc o cells with
   | some (us, l) => some (.row us off, i :: l)
   | none => none
  | _ => none
 | .agg cells => match zcc o cells with
  | some (us, l) => some (.agg us, l)
  | none => none
 | d => zds o d
def zbN (o : List (Nat × Ob)) : List D -> Option (List U × List Nat)
 | [] => some ([], [])
 | d :: ds => match zdr o d, zbN o ds with
  | some (a, l), some (az, ls) => some (a :: az, l ++ ls)
  | _, _ => none
def zgK (o : List (Nat × Ob)) : D -> Option (D × List Nat)
 | .fnc f caps => match zbN o caps with
  | some (us, l) => some (.fnc f (us.map .u), l)
  | none => none
 | d => match zdr o d with
  | some (x, l) => some (.u x, l)
  | none => none
def zcp (o : List (Nat × Ob)) : List D -> Option (List D × List Nat)
 | [] => some ([], [])
 | d :: ds => match zgK o d, zcp o ds with
  | some (a, l), some (az, ls) => some (a :: az, l ++ ls)
  | _, _ => none
def zcb (s : St) (ds : List D) : Option (List D × List Nat) := zcp s.obs ds
section
variable {o o' : List (Nat × Ob)}
theorem zkG {d x l} (h : zds o d = some (x, l)) (he : ∀ i ∈ l, getK o i = getK o' i) : zds o' d = some (x, l) := by
 unfold zds at h ⊢;split at h
 ·exact h
 ·rename_i h';cases h
  try rfl
 ·rename_i i len;split at h
  ·rename_i e sz rows hg;split at h
   ·rename_i hl;split at h
    ·rename_i us hu;cases h;rw [<- he i (by simp), hg];simp only [if_pos hl, hu]
    ·cases h
   ·cases h
  ·cases h
 ·rename_i i;split at h
  ·rename_i kk ag es hg;split at h
   ·rename_i us hu;cases h;rw [<- he i (by simp), hg];simp only [hu]
   ·cases h
  ·cases h
 ·rename_i i off;split at h
  ·rename_i cells hg;split at h
   ·rename_i us hu;cases h;rw [<- he i (by simp), hg];simp only [hu]
   ·cases h
  ·cases h
 ·cases h
theorem zgC : ∀ {ds xs l}, zcc o ds = some (xs, l) -> (∀ i ∈ l, getK o i = getK o' i) -> zcc o' ds = some (xs, l)
 | [], _, _, h, _ => h
 | d :: ds, xs, l, h, he => by
  unfold zcc at h ⊢;split at h
  ·rename_i a l1 az l2 h1 h2;cases h;rw [zkG h1 fun i hi => he i (List.mem_append_left _ hi), zgC h2 fun i hi => he i (List.mem_append_right _ hi)]
  ·cases h
theorem zkE {d x l} (h : zdr o d = some (x, l)) (he : ∀ i ∈ l, getK o i = getK o' i) : zdr o' d = some (x, l) := by
 unfold zdr at h ⊢;split at h
 ·rename_i i off;split at h
  ·rename_i cells hg;split at h
   ·rename_i us l1 h1;cases h;rw [<- he i (by simp), hg];simp only [zgC h1 fun i hi => he i (List.mem_cons_of_mem _ hi)]
   ·cases h
  ·cases h
 ·split at h
  ·rename_i us l1 h1;cases h;simp only [zgC h1 he]
  ·cases h
 ·exact zkG h he
theorem ziM : ∀ {ds xs l}, zbN o ds = some (xs, l) -> (∀ i ∈ l, getK o i = getK o' i) -> zbN o' ds = some (xs, l)
 | [], _, _, h, _ => h
 | d :: ds, xs, l, h, he => by
  unfold zbN at h ⊢;split at h
  ·rename_i a l1 az l2 h1 h2;cases h;rw [zkE h1 fun i hi => he i (List.mem_append_left _ hi), ziM h2 fun i hi => he i (List.mem_append_right _ hi)]
  ·cases h
theorem zqB {d x l} (h : zgK o d = some (x, l)) (he : ∀ i ∈ l, getK o i = getK o' i) : zgK o' d = some (x, l) := by
 unfold zgK at h ⊢;split at h
 ·split at h
  ·rename_i us l1 h1;cases h;simp only [ziM h1 he]
  ·cases h
 ·split at h
  ·rename_i x1 l1 h1;cases h;rw [zkE h1 he]
  ·cases h
theorem zf8 : ∀ {ds xs l}, zcp o ds = some (xs, l) -> (∀ i ∈ l, getK o i = getK o' i) -> zcp o' ds = some (xs, l)
 | [], _, _, h, _ => h
 | d :: ds, xs, l, h, he => by
  unfold zcp at h ⊢;split at h
  ·rename_i a l1 az l2 h1 h2;cases h;rw [zqB h1 fun i hi => he i (List.mem_append_left _ hi), zf8 h2 fun i hi => he i (List.mem_append_right _ hi)]
  ·cases h
end
def zbn : U -> Bool
 | .int _ _ | .bool _ | .str _ | .nil | .oth _ => true
 | .agg cs => (cs.map fun c => zbn c).all id
 | _ => false
def za1 : D -> Bool
 | .u x => zbn x
 | .tup ds => (ds.map fun d => za1 d).all id
 | _ => false
theorem RepU.scalar {m m' : Mem} : ∀ {x : U} {v : Value}, RepU m x v -> zbn x = true -> RepU m' x v
 | _, _, .int k n, _ => .int k n
 | _, _, .bool b, _ => .bool b
 | _, _, .str l, _ => .str l
 | _, _, .nil, _ => .nil
 | _, _, .oth v, _ => .oth v
 | _, _, .slE a c _, h => by simp [zbn] at h
 | _, _, .sl .., h => by simp [zbn] at h
 | _, _, .row .., h => by simp [zbn] at h
 | _, _, .map .., h => by simp [zbn] at h
 | _, _, .agg cs vs hl hr, h => .agg cs vs hl fun j u hj => by
  rw [zbn] at h;have hu := (List.all_eq_true.1 h) _ (List.mem_map.2 ⟨u, List.mem_of_getElem? hj, rfl⟩);have hm := List.mem_of_getElem? hj;exact RepU.scalar (hr j u hj) hu
termination_by x => SizeOf.sizeOf x
decreasing_by
 simp_wf
 have := List.sizeOf_lt_of_mem hm;omega
theorem Rep.scalar {k k' : Kr} : ∀ {d : D} {v : Value}, Rep k d v -> za1 d = true -> Rep k' d v
 | .u x, v, h, hs => by
  rw [za1] at hs;cases h with | u _ _ h => exact .u _ _ (h.scalar hs)
 | .tup ds, v, h, hs => by
  obtain ⟨vs, hl, rfl, hr⟩ := zgj h;refine .tup ds vs hl fun j d hj => ?_;rw [za1] at hs;have hu := (List.all_eq_true.1 hs) _ (List.mem_map.2 ⟨d, List.mem_of_getElem? hj, rfl⟩);have hm := List.mem_of_getElem? hj;exact Rep.scalar (hr j d hj) hu
 | .any, _, _, hs => by simp [za1] at hs
 | .ptr .., _, _, hs => by simp [za1] at hs
 | .vec .., _, _, hs => by simp [za1] at hs
 | .elt .., _, _, hs => by simp [za1] at hs
 | .mp .., _, _, hs => by simp [za1] at hs
 | .fnc .., _, _, hs => by simp [za1] at hs
 | .bnd .., _, _, hs => by simp [za1] at hs
 | .agg .., _, _, hs => by simp [za1] at hs
termination_by d => SizeOf.sizeOf d
decreasing_by
 simp_wf
 have := List.sizeOf_lt_of_mem hm;omega
def zas : D -> Bool
 | .u _ => true
 | .tup ds => (ds.map fun d => zas d).all id
 | _ => false
theorem Rep.pure {k k' : Kr} (hm : k.mem.le k'.mem) : ∀ {d : D} {v : Value}, Rep k d v -> zas d = true -> Rep k' d v
 | .u x, v, h, hs => by
  cases h with | u _ _ h => exact .u _ _ (h.mono hm)
 | .tup ds, v, h, hs => by
  obtain ⟨vs, hl, rfl, hr⟩ := zgj h;refine .tup ds vs hl fun j d hj => ?_;rw [zas] at hs;have hu := (List.all_eq_true.1 hs) _ (List.mem_map.2 ⟨d, List.mem_of_getElem? hj, rfl⟩);have hmm := List.mem_of_getElem? hj;exact Rep.pure hm (hr j d hj) hu
 | .any, _, _, hs => by simp [zas] at hs
 | .ptr .., _, _, hs => by simp [zas] at hs
 | .vec .., _, _, hs => by simp [zas] at hs
 | .elt .., _, _, hs => by simp [zas] at hs
 | .mp .., _, _, hs => by simp [zas] at hs
 | .fnc .., _, _, hs => by simp [zas] at hs
 | .bnd .., _, _, hs => by simp [zas] at hs
 | .agg .., _, _, hs => by simp [zas] at hs
termination_by d => SizeOf.sizeOf d
decreasing_by
 simp_wf
 have := List.sizeOf_lt_of_mem hmm;omega
def zr1 (k : Kr) (L : List Nat) (b : Nat) : Prop := ∃ i ∈ L, ∃ c, k.hdr i = some (some b, c)
open Classical in
noncomputable def lentMem (k : Kr) (L : List Nat) (w : World) : Mem := fun b o => if zr1 k L b then look w b o else k.mem b o
section
variable {k : Kr} {own : Own} {s : St} {a : Act} {w : World} (hs : Sim k own s a w) (L' : List Nat) (h0 : Nat -> Option (Option Nat × Nat))
include hs
theorem zoh : k.mem.le (lentMem k L' w) := fun b o x hx => by
 unfold lentMem;split
 ·exact hs.sat.mem b o x hx
 ·exact hx
theorem zej : GlobIn (lentMem k L' w) := k.glob.mono (zoh hs L')
theorem zkF {d d' L v} (h : zds s.obs d = some (d', L)) (hr : Rep k d v) (hL : ∀ i ∈ L, i ∈ L') :
  RepU (lentMem k L' w) d' v /\ ∀ i ∈ L, ∃ ob, getK s.obs i = some ob := by
 have hle := zoh hs L';unfold zds at h;split at h
 ·simp at h;obtain ⟨rfl, rfl⟩ := h;obtain rfl := zdo hr;exact ⟨.slE _ _ fun _ => rfl, by simp⟩
 ·simp at h;obtain ⟨rfl, rfl⟩ := h;cases hr with | u _ _ hr => exact ⟨hr.mono hle, by simp⟩
 ·rename_i i len;split at h
  ·rename_i e sz rows hg;split at h
   ·rename_i hlen;split at h
    ·rename_i us hus;simp at h;obtain ⟨rfl, rfl⟩ := h;refine ⟨?_, fun j hj => by simp at hj; subst hj; exact ⟨_, hg⟩⟩;have hinv := zhN hus;have hul : us.length = len := by
      have := congrArg List.length hinv;simp at this;omega
     obtain ⟨g, hg', rfl⟩ := zey hr;obtain ⟨g2, xs, hg2, hrow, hpos, hlen2, hcs, hno⟩ := (hs.sat.ob _ _ hg).vec;rw [hg'] at hg2;simp only [Option.some.injEq] at hg2;subst hg2;obtain ⟨gb, gc⟩ := g;by_cases hz : len = 0
     ·subst hz;have : us = [] := List.eq_nil_of_length_eq_zero hul;subst this;exact .slE _ _ fun e => zeW hrow (by simpa using e)
     ·rcases hrow.2 with ⟨hv, hn⟩ | ⟨b, cap, cur, hv, _, hheap, hncap, hcm, hcs', htake⟩
      ·omega
      ·have hgb : gb = some b /\ gc = cap := by
        simp only [zaU, Value.slice.injEq, Option.map_eq_some_iff] at hv;obtain ⟨⟨b', hb', e⟩, _, hc⟩ := hv;simp only [Addr.mk.injEq] at e;exact ⟨by rw [hb', e.1], hc⟩
       obtain ⟨rfl, rfl⟩ := hgb;have hlent : zr1 k L' b := ⟨i, hL i (by simp), gc, hg'⟩;have hxl := hrow.1;have hcell : ∀ j u, xs[j]? = some u -> w.cell? ⟨b, j, none⟩ = some u := fun j u hj => by
        have := hrow.cells (g := b) (by simp [zaU, Value.ownBlock]) j u hj
        rwa [zc0, Nat.zero_add] at this
       have hr0 : ∀ i r, us[i]? = some r -> rows[i]? = some (r.map .u) /\ i < len := fun i r hi => by
        have hil := (lGE.1 hi).1;have : (rows.take len)[i]? = some (r.map .u) := by rw [hinv]; simp [hi]
        rw [List.getElem?_take, if_pos (by omega)] at this;exact ⟨this, by omega⟩
       have hmul : ∀ i, i < len -> i * sz + sz <= xs.length := fun i hi => by
        rw [hxl];have : (i + 1) * sz <= rows.length * sz := Nat.mul_le_mul_right _ (by omega);rw [Nat.add_mul, Nat.one_mul] at this;exact this
       have e : zaU (some b, gc) len = .slice (some ⟨b, 0, none⟩) us.length gc := by rw [hul]; rfl
       rw [e];refine (.sl us b 0 sz gc (fun i j => xs.getD (i * sz + j) undef) (by omega) hcm (fun r hr => ?_) (fun i hi j hj => ?_) (fun i r hi j u hj => ?_))
       ·obtain ⟨i, hi⟩ := List.getElem?_of_mem hr;have := hlen2 _ (List.mem_of_getElem? (hr0 i r hi).1);simpa using this
       ·simp only [lentMem, if_pos hlent, Nat.zero_add];have hb := hmul i (by omega);exact zdS (hcell _ _ (by simp [show i * sz + j < xs.length by omega]))
       ·obtain ⟨h1, h2⟩ := hr0 i r hi;have := (hcs i _ h1 j (.u u) (by simp [hj])).2;cases this with | u _ _ this => exact this.mono hle
    ·cases h
   ·cases h
  ·cases h
 ·rename_i i;split at h
  ·rename_i kk ag es hg;split at h
   ·rename_i us hus;simp at h;obtain ⟨rfl, rfl⟩ := h;refine ⟨?_, fun j hj => by simp at hj; subst hj; exact ⟨_, hg⟩⟩;obtain ⟨b, c, hg', rfl⟩ := zim hr;obtain ⟨b', c', ents, clock, es0, hh, hown, hheap, hpm, hm, hno⟩ := (hs.sat.ob _ _ hg).map;rw [hg'] at hh;cases hh;have hlent : zr1 k L' b := ⟨i, hL i (by simp), c, hg'⟩;obtain ⟨us1, e1, hp1⟩ := zin (es := es0) (us := us) (by rw [<- zhM hus]; exact hpm);exact hm.toU e1 hp1 (by simp only [lentMem, if_pos hlent]; exact zhq hheap) hle
   ·cases h
  ·cases h
 ·rename_i i off;split at h
  ·rename_i cells hg;split at h
   ·rename_i us hus;simp at h;obtain ⟨rfl, rfl⟩ := h;obtain ⟨b, c, vs, t, hh, hown, hheap, hsz, hcells, hno⟩ := (hs.sat.ob i _ hg).box;obtain ⟨b', c', hh', rfl⟩ := zd7 hr;rw [hh] at hh';simp only [Option.some.injEq, Prod.mk.injEq] at hh';obtain ⟨rfl, rfl⟩ := hh';obtain ⟨h1, h2⟩ := zjw hus;have hlent : zr1 k L' b := ⟨i, hL i (by simp), c, hh⟩;refine ⟨?_, fun j hj => by simp at hj; subst hj; exact ⟨_, hg⟩⟩;have := RepU.row (m := lentMem k L' w) us off b 0 (fun j => vs.getD j undef) (fun j hj => by
     simp only [lentMem, if_pos hlent, Nat.zero_add];refine zdS ?_;rw [cell_of_row w b j vs t (0, 0) hheap];simp [show j < vs.size by omega]) (fun j u hj => by
     have h3 := (hcells j _ (h2 j u hj)).2;cases h3 with | u _ _ h3 => exact h3.mono hle)
    simpa using this
   ·cases h
  ·cases h
 ·cases h
theorem zgB : ∀ {ds : List D} {xs : List U} {L : List Nat} (f : Nat -> Value), zcc s.obs ds = some (xs, L) -> (∀ j d, ds[j]? = some d -> Rep k d (f j)) -> (∀ i ∈ L, i ∈ L') ->
  xs.length = ds.length /\ (∀ j x, xs[j]? = some x -> RepU (lentMem k L' w) x (f j)) /\ ∀ i ∈ L, ∃ ob, getK s.obs i = some ob
 | [], xs, L, f, h, hr, hL => by
  simp [zcc] at h;obtain ⟨rfl, rfl⟩ := h;exact ⟨rfl, by simp, by simp⟩
 | d :: ds, xs, L, f, h, hr, hL => by
  unfold zcc at h;split at h
  ·rename_i a' l az ls ha has;simp at h;obtain ⟨rfl, rfl⟩ := h;obtain ⟨h1, h2⟩ := zkF hs L' ha (hr 0 d rfl) (fun i hi => hL i (List.mem_append_left _ hi));obtain ⟨h3, h4, h5⟩ := zgB (fun j => f (j + 1)) has (fun j e hj => by simpa using hr (j + 1) e (by simpa using hj)) (fun i hi => hL i (List.mem_append_right _ hi));refine ⟨by simp [h3], fun j e hj => ?_, fun i hi => (List.mem_append.1 hi).elim (h2 i) (h5 i)⟩;cases j with
   | zero => simp at hj; subst hj; exact h1
   | succ j => exact h4 j e (by simpa using hj)
  ·cases h
theorem zkD {d d' L v} (h : zdr s.obs d = some (d', L)) (hr : Rep k d v) (hL : ∀ i ∈ L, i ∈ L') :
  RepU (lentMem k L' w) d' v /\ ∀ i ∈ L, ∃ ob, getK s.obs i = some ob := by
 unfold zdr at h;split at h
 ·rename_i i off;split at h
  ·rename_i cells hg;split at h
   ·rename_i us l hus;simp at h;obtain ⟨rfl, rfl⟩ := h;obtain ⟨b, c, vs, t, hh, hown, hheap, hsz, hcells, hno⟩ := (hs.sat.ob i _ hg).box;obtain ⟨b', c', hh', rfl⟩ := zd7 hr;rw [hh] at hh';simp only [Option.some.injEq, Prod.mk.injEq] at hh';obtain ⟨rfl, rfl⟩ := hh';obtain ⟨h1, h2, h3⟩ := zgB hs L' (fun j => vs.getD j undef) hus (fun j d hj => (hcells j d hj).2) (fun i hi => hL i (List.mem_cons_of_mem _ hi));have hlent : zr1 k L' b := ⟨i, hL i (by simp), c, hh⟩;refine ⟨?_, fun j hj => ?_⟩
    ·have := RepU.row (m := lentMem k L' w) us off b 0 (fun j => vs.getD j undef) (fun j hj => by
      simp only [lentMem, if_pos hlent, Nat.zero_add];refine zdS ?_;rw [cell_of_row w b j vs t (0, 0) hheap];simp [show j < vs.size by omega]) h2
     simpa using this
    ·rcases List.mem_cons.1 hj with rfl | hj
     ·exact ⟨_, hg⟩
     ·exact h3 j hj
   ·cases h
  ·cases h
 ·rename_i cells;split at h
  ·rename_i us l hus;simp at h;obtain ⟨rfl, rfl⟩ := h;obtain ⟨vs, hl, rfl, hrr⟩ := zhi hr;obtain ⟨h1, h2, h3⟩ := zgB hs L' (fun j => vs.getD j undef) hus (fun j d hj => hrr j d hj) hL;exact ⟨.agg us vs (by omega) h2, h3⟩
  ·cases h
 ·exact zkF hs L' h hr hL
theorem ziL : ∀ {ds : List D} {xs : List U} {L : List Nat} (f : Nat -> Value), zbN s.obs ds = some (xs, L) -> (∀ j d, ds[j]? = some d -> Rep k d (f j)) -> (∀ i ∈ L, i ∈ L') ->
  xs.length = ds.length /\ (∀ j x, xs[j]? = some x -> RepU (lentMem k L' w) x (f j)) /\ ∀ i ∈ L, ∃ ob, getK s.obs i = some ob
 | [], xs, L, f, h, hr, hL => by
  simp [zbN] at h;obtain ⟨rfl, rfl⟩ := h;exact ⟨rfl, by simp, by simp⟩
 | d :: ds, xs, L, f, h, hr, hL => by
  unfold zbN at h;split at h
  ·rename_i a' l az ls ha has;simp at h;obtain ⟨rfl, rfl⟩ := h;obtain ⟨h1, h2⟩ := zkD hs L' ha (hr 0 d rfl) (fun i hi => hL i (List.mem_append_left _ hi));obtain ⟨h3, h4, h5⟩ := ziL (fun j => f (j + 1)) has (fun j e hj => by simpa using hr (j + 1) e (by simpa using hj)) (fun i hi => hL i (List.mem_append_right _ hi));refine ⟨by simp [h3], fun j e hj => ?_, fun i hi => (List.mem_append.1 hi).elim (h2 i) (h5 i)⟩;cases j with
   | zero => simp at hj; subst hj; exact h1
   | succ j => exact h4 j e (by simpa using hj)
  ·cases h
theorem zqA {d d' L v} (h : zgK s.obs d = some (d', L)) (hr : Rep k d v) (hL : ∀ i ∈ L, i ∈ L') :
  Rep ⟨lentMem k L' w, h0, zej hs L'⟩ d' v /\ ∀ i ∈ L, ∃ ob, getK s.obs i = some ob := by
 unfold zgK at h;split at h
 ·rename_i f caps;split at h
  ·rename_i us l hus;simp at h;obtain ⟨rfl, rfl⟩ := h;obtain ⟨vs, hl, rfl, hc⟩ := zi4 hr;obtain ⟨h1, h2, h3⟩ := ziL hs L' (fun j => vs.getD j undef) hus hc hL;refine ⟨.fnc f _ vs (by simpa using h1.trans hl) fun j d hj => ?_, h3⟩;rw [List.getElem?_map] at hj;cases hx : us[j]? with
   | none => simp [hx] at hj
   | some x =>
    simp [hx] at hj;subst hj;exact .u _ _ (h2 j x hx)
  ·cases h
 ·split at h
  ·rename_i x l hx;simp at h;obtain ⟨rfl, rfl⟩ := h;obtain ⟨h1, h2⟩ := zkD hs L' hx hr hL;exact ⟨.u _ _ h1, h2⟩
  ·cases h
end
theorem zhL {k own s a w} (hs : Sim k own s a w) (L' : List Nat) (h0 : Nat -> Option (Option Nat × Nat)) : ∀ {ds ds' : List D} {L : List Nat} {vs : List Value}, zcb s ds = some (ds', L) -> ds.length = vs.length ->
  (∀ j d, ds[j]? = some d -> Rep k d (vs.getD j undef)) -> (∀ i ∈ L, i ∈ L') ->
  ds'.length = vs.length /\ (∀ j d, ds'[j]? = some d -> Rep ⟨lentMem k L' w, h0, zej hs L'⟩ d (vs.getD j undef)) /\ ∀ i ∈ L, ∃ ob, getK s.obs i = some ob
 | [], ds', L, vs, h, hl, hr, hL => by
  simp [zcb, zcp] at h;obtain ⟨rfl, rfl⟩ := h;exact ⟨hl, by simp, by simp⟩
 | d :: ds, ds', L, [], h, hl, hr, hL => by simp at hl
 | d :: ds, ds', L, v :: vs, h, hl, hr, hL => by
  simp only [zcb, zcp] at h;split at h
  ·rename_i a' l az ls ha has;simp at h;obtain ⟨rfl, rfl⟩ := h;obtain ⟨h1, h2⟩ := zqA hs L' h0 ha (hr 0 d rfl) (fun i hi => hL i (List.mem_append_left _ hi));obtain ⟨h3, h4, h5⟩ := zhL hs L' h0 has (by simpa using hl) (fun j e hj => by simpa using hr (j + 1) e (by simpa using hj)) (fun i hi => hL i (List.mem_append_right _ hi));refine ⟨by simp [h3], fun j e hj => ?_, fun i hi => (List.mem_append.1 hi).elim (h2 i) (h5 i)⟩;cases j with
   | zero => simp at hj; subst hj; simpa using h1
   | succ j => simpa using h4 j e (by simpa using hj)
  ·cases h
def delAll (obs : List (Nat × Ob)) (L : List Nat) : List (Nat × Ob) := L.foldl del obs
theorem zhB : ∀ (L : List Nat) (obs : List (Nat × Ob)) (j : Nat), getK (delAll obs L) j = if j ∈ L then none else getK obs j
 | [], obs, j => by simp [delAll]
 | i :: L, obs, j => by
  show getK (delAll (del obs i) L) j = _;rw [zhB L, zac];by_cases h1 : j ∈ L
  ·simp [h1]
  ·by_cases h2 : j = i <;> simp [h1, h2]
theorem Sat.delAll {k own w} : ∀ (L : List Nat) {obs : List (Nat × Ob)}, Sat k own obs w -> Sat k own (VL.delAll obs L) w
 | [], _, h => h
 | i :: L, _, h => Sat.delAll L (h.del i)
def Fun (P : Program) (f : FuncId) (ds : List D) (post : D -> Prop) : Prop := Ret P f ds [] 0 fun d _ _ => zas d = true /\ post d
theorem zgJ {P Γ s} {fop : Operand} {args : Array Operand} {ts : Array TypeId} {ty : TypeId} {f caps dst pos after guard} {ds : List D} {L : List Nat} {post : D -> Prop}
  (hf : zaz (opd s fop) = some (f, caps)) (hc : zak P f = true) (hds : zcb s (args.toList.map (opd s) ++ caps) = some (ds, L)) (hret : Fun P f ds post)
  {K : Kr} {a : Act} {w : World} (hin : In Γ K w) (hs : Sim K Γ.own s a w) {Kont : Act -> World -> Prop} {Q : Exit -> Act -> World -> Prop}
  (hK : ∀ K' v d w', In Γ K' w' -> K.le K' -> K'.hdr = K.hdr -> Sat K' Γ.own (if za1 d then s.obs else delAll s.obs L) w' -> Rep K' d v -> post d -> Kont (a.put dst v) w') :
  Oper.wp P { dst, op := .call { callee := .value fop, args, argTypes := ts }, type := ty, pos, after, guard } a w Kont Q := by
 obtain ⟨vs, hrep, hrun⟩ := zg2 hs (args := args) (ts := ts) (ty := ty) hf hc dst pos after guard;obtain ⟨h1, h2, hLo⟩ := zhL hs L (fun _ => none) (vs := vs.toList) hds (by simpa using hrep.1.symm) (fun j d hj => by simpa using hrep.2 j d hj) (fun _ h => h);unfold Oper.wp;rw [hrun];have hmem1 : K.mem.le (lentMem K L w) := fun b o x hx => by
  unfold lentMem;split
  ·exact hs.sat.mem b o x hx
  ·exact hx
 have hsat1 : Sat ⟨lentMem K L w, fun _ => none, zej hs L⟩ (fun b => w.heap.size <= b) [] w := ⟨fun b o v hv => by
   simp only [lentMem] at hv;split at hv
   ·exact hv
   ·exact hs.sat.mem b o v hv, fun i ob hi => by simp [VL.getK] at hi, fun i j x y h g b hx => by simp [VL.getK] at hx⟩
 refine Calls.mono (hret ⟨lentMem K L w, fun _ => none, zej hs L⟩ (fun b => w.heap.size <= b) w vs hsat1 (fun _ _ => rfl) (fun b hb => hb) ⟨by simpa using h1.symm, fun j d hj => by simpa using h2 j d hj⟩) ?_;rintro e w' ⟨v, d, obs', nx', k', rfl, hin', hsat', hhdr', hnx, hr, hpure, hpost⟩;have hheap : ∀ b, b < w.heap.size -> w'.heap[b]? = w.heap[b]? := fun b hb => hin'.block b (by simpa [Ctx.of] using hb)
 -- the lent blocks are of the call's own
 have hlentOwn : ∀ b, zr1 K L b -> Γ.own b /\ b < w.heap.size := fun b ⟨i, hi, c, hh⟩ => by
  obtain ⟨ob, hob⟩ := hLo i hi;obtain ⟨g, h3, h4, _⟩ := hs.sat.ob i ob hob;rw [hh] at h3;cases h3;exact ⟨(h4 b rfl).1, hs.sat.lt ⟨i, ob, _, hob, hh, rfl⟩⟩
 by_cases hsc : za1 d = true
 ·have hin2 : In Γ K w' := hin.step (.refl _) (fun b o v e => .inl e) hin'.os hin'.tape hin'.output hin'.size fun b hb => by
   rcases Nat.lt_or_ge b w.heap.size with h | h
   ·exact hheap b h
   ·exact absurd (hin.own_of_ge h) hb
  have hsat2 : Sat K Γ.own s.obs w' := hs.sat.keep (.refl _) (fun b hb => hheap b (hs.sat.lt hb)) (fun b o v hv => by
   rw [zdD (hheap b (hs.sat.memLt hv))];exact hs.sat.mem b o v hv) (fun b ⟨i, ob, g, h3, h4, h5⟩ o => by
   obtain ⟨g', h6, h7, _⟩ := hs.sat.ob i ob h3;rw [h4] at h6;cases h6;exact (h7 b h5).2 o)
  exact hK K v d w' hin2 (.refl _) rfl (by rw [if_pos hsc]; exact hsat2) (hr.scalar hsc) hpost
 ·have hmemk : K.mem.le k'.mem := hmem1.trans hin'.le.mem;have hleK : K.le ⟨k'.mem, K.hdr, k'.glob⟩ := ⟨hmemk, fun _ _ h => h⟩;have hnew : ∀ b o v, k'.mem b o = some v -> K.mem b o = some v \/ zr1 K L b \/ w.heap.size <= b := fun b o v hv => by
   rcases hin'.memNew b o v hv with h | h
   ·simp only [Ctx.of, lentMem] at h;split at h
    ·rename_i hl; exact .inr (.inl hl)
    ·exact .inl h
   ·exact .inr (.inr h)
  have hin2 : In Γ ⟨k'.mem, K.hdr, k'.glob⟩ w' := hin.step hleK (fun b o v e => (hnew b o v e).imp id fun h => h.elim (fun h => (hlentOwn b h).1) fun h => hin.own_of_ge h) hin'.os hin'.tape hin'.output hin'.size fun b hb => by
   rcases Nat.lt_or_ge b w.heap.size with h | h
   ·exact hheap b h
   ·exact absurd (hin.own_of_ge h) hb
  have hd := Sat.delAll L hs.sat;have hsat2 : Sat ⟨k'.mem, K.hdr, k'.glob⟩ Γ.own (delAll s.obs L) w' := hd.keep hleK (fun b hb => hheap b (hd.lt hb)) (fun b o v hv => hsat'.mem b o v hv) (fun b ⟨i, ob, g, h3, h4, h5⟩ o => by
   cases hm : k'.mem b o with
   | none => rfl
   | some v =>
    exfalso;rw [zhB] at h3;split at h3
    ·cases h3
    ·rename_i hiL;obtain ⟨g', h6, h7, _⟩ := hs.sat.ob i ob h3;rw [show K.hdr i = some g from h4] at h6;cases h6;rcases hnew b o v hm with h | ⟨j, hj, c, hh⟩ | h
     ·rw [(h7 b h5).2 o] at h; cases h
     ·obtain ⟨oj, hoj⟩ := hLo j hj;exact hs.sat.apart j i oj ob _ g b hoj h3 (fun e => hiL (e ▸ hj)) hh h4 rfl h5
     ·exact absurd (hs.sat.lt ⟨i, ob, g, h3, h4, h5⟩) (by omega))
  have hfin : Rep ⟨k'.mem, K.hdr, k'.glob⟩ d v := Rep.pure (k := k') (k' := ⟨k'.mem, K.hdr, k'.glob⟩) (fun _ _ _ e => e) hr hpure;exact hK _ v d w' hin2 hleK rfl (by rw [if_neg hsc]; exact hsat2) hfin hpost
theorem Eff.zsb {P Γ s k} {fop : Operand} {args : Array Operand} {ts : Array TypeId} {ty : TypeId} {f caps dst pos after} {ds : List D} {L : List Nat} {post : D -> Prop}
  (hf : zaz (opd s fop) = some (f, caps)) (hc : zak P f = true) (hds : zcb s (args.toList.map (opd s) ++ caps) = some (ds, L)) (hret : Fun P f ds post) (hp : zaI dst s)
  (hk : ∀ d, post d -> k (({ s with obs := if za1 d then s.obs else delAll s.obs L } : St).put dst d)) :
  Eff P Γ { dst, op := .call { callee := .value fop, args, argTypes := ts }, type := ty, pos, after, guard := none } s k := by
 intro K a w hin hs Kont Q hK;refine zgJ hf hc hds hret hin hs fun K' v d w' h1 h2 h3 h4 h5 h6 => ?_;have hsim : Sim K' Γ.own ({ s with obs := if za1 d then s.obs else delAll s.obs L } : St) a w' := ⟨h4, hs.defers, hs.size, fun x d hx => ⟨(hs.env x d hx).1, (hs.env x d hx).2.mono h2⟩, fun i hi => by rw [h3]; exact hs.hdr i hi⟩;exact hK K' _ w' _ h1 (hsim.put (by cases dst <;> simp_all [zaI]) h5) (hk d h6)
end Go.VL
namespace Go.VL
open Go
section
variable {P : Program} {Γ : Ctx} {all : Array Oper} {rest : List Oper} {s : St} {k : St -> Prop} {dst : Option Tmp} {type : TypeId} {pos : String} {after : Array Edge}
end
theorem FinOK.val {s : St} {d : D} {post : D -> Prop} (hp : zas d = true) (h : post d) : FinOK 0 (fun d _ _ => zas d = true /\ post d) s d :=
 .inl ⟨{ n := s.n, env := [], obs := [], next := 0 }, id, d, ⟨rfl, fun x d' hx => by simp [getK] at hx, fun x d' hx => by simp [getK] at hx, fun i ob hi => by simp [getK] at hi, fun i j a b hi => by simp [getK] at hi, fun i hi => by omega⟩,
  .inr (.inl (ren_pure d hp).symm), under_pure d hp, Nat.le_refl _, hp, h⟩
where
 ren_pure : ∀ (d : D), zas d = true -> d.ren id = d
  | .u x, _ => by rw [D.ren]
  | .tup ds, h => by
   rw [zas] at h;rw [D.ren]
   congr 1
   apply List.ext_getElem?;intro j;rw [List.getElem?_map];cases hj : ds[j]? with
   | none => rfl
   | some d =>
    have hm := List.mem_of_getElem? hj;have := (List.all_eq_true.1 h) _ (List.mem_map.2 ⟨d, hm, rfl⟩);simp [ren_pure d this]
  | .any, h => by simp [zas] at h
  | .ptr .., h => by simp [zas] at h
  | .vec .., h => by simp [zas] at h
  | .elt .., h => by simp [zas] at h
  | .mp .., h => by simp [zas] at h
  | .fnc .., h => by simp [zas] at h
  | .bnd .., h => by simp [zas] at h
  | .agg .., h => by simp [zas] at h
 termination_by d => SizeOf.sizeOf d
 decreasing_by
  simp_wf
  have := List.sizeOf_lt_of_mem hm;omega
 under_pure : ∀ (d : D), zas d = true -> d.under 0 = true
  | .u x, _ => by rw [D.under]
  | .tup ds, h => by
   rw [zas] at h;rw [D.under];refine List.all_eq_true.2 fun b hb => ?_;obtain ⟨d, hm, rfl⟩ := List.mem_map.1 hb;have := (List.all_eq_true.1 h) _ (List.mem_map.2 ⟨d, hm, rfl⟩);exact under_pure d this
  | .any, h => by simp [zas] at h
  | .ptr .., h => by simp [zas] at h
  | .vec .., h => by simp [zas] at h
  | .elt .., h => by simp [zas] at h
  | .mp .., h => by simp [zas] at h
  | .fnc .., h => by simp [zas] at h
  | .bnd .., h => by simp [zas] at h
  | .agg .., h => by simp [zas] at h
 termination_by d => SizeOf.sizeOf d
 decreasing_by
  simp_wf
  have := List.sizeOf_lt_of_mem hm;omega
theorem EndOK.val {P fn e s} {post : D -> Prop} (he : e = .normal \/ e = .ret) (h : zaK P s fn.results.toList fun ds => zas (zaf ds) = true /\ post (zaf ds)) :
  EndOK P fn 0 (fun d _ _ => zas d = true /\ post d) e s := ⟨he, by
 have mono : ∀ (rs : List ResultVar) (K K' : List D -> Prop), (∀ ds, K ds -> K' ds) -> zaK P s rs K -> zaK P s rs K' := by
  intro rs
  induction rs with
  | nil => intro K K' hk h; exact hk _ h
  | cons r rs ih =>
   intro K K' hk h;cases r with
   | tmp t => exact ih _ _ (fun ds => hk _) h
   | cell a t =>
    have lm : ∀ (x : D) (A B : D -> Prop), (∀ d, A d -> B d) -> loadD P s t x A -> loadD P s t x B := by
     intro x A B hab h;unfold loadD at h ⊢;have cm : ∀ {α : Type} (cells : List α) (off : Nat) (l : Option Nat) (o o' : α -> Prop) (m m' : List α -> Prop), (∀ x, o x -> o' x) -> (∀ x, m x -> m' x) -> cellsAt cells off l o m -> cellsAt cells off l o' m' := by
      intro α cells off l o o' m m' h1 h2 h;unfold cellsAt at h ⊢;split at h
      ·obtain ⟨u, hu, h⟩ := h; exact ⟨u, hu, h1 _ h⟩
      ·exact ⟨h.1, h2 _ h.2⟩
     split at h
     ·exact h
     ·split at h
      ·exact cm _ _ _ _ _ _ _ (fun _ => hab _) (fun _ => hab _) h
      ·split at h
       ·exact cm _ _ _ _ _ _ _ (fun _ => hab _) (fun _ => hab _) h
       ·exact h
      ·split at h
       ·obtain ⟨h0, r, hr, h⟩ := h;exact ⟨h0, r, hr, cm _ _ _ _ _ _ _ (fun _ => hab _) (fun _ => hab _) h⟩
       ·exact h
      ·exact h
    exact lm _ _ _ (fun d => ih _ _ (fun ds => hk _)) h
 exact mono _ _ _ (fun ds h => FinOK.val h.1 h.2) h⟩
end Go.VL
namespace Go.VL
open Go
structure O1 where
 dst : Option Tmp
 op : Op
 guard : Option (Tmp × Bool)
def zcS (all : Array Oper) (o : Oper) : Option O1 :=
 match o.guard with
 | none => some ⟨o.dst, o.op, none⟩
 | some (j, b) => match zaN all j with
  | some t => some ⟨o.dst, o.op, some (t, b)⟩
  | none => none
def zbm (all : Array Oper) : List Oper -> Option (List O1)
 | [] => some []
 | o :: l => match zcS all o, zbm all l with | some a, some b => some (a :: b) | _, _ => none
def H (P : Program) (Γ : Ctx) (l : List O1) (s : St) (k : St -> Prop) : Prop := ∀ all ops, zbm all ops = some l -> G P Γ all ops s k
def CallP (P : Program) (Γ : Ctx) (fop : Operand) (args : List Operand) (dst : Option Tmp) (s : St) (k : St -> Prop) : Prop :=
 ∀ ts ty pos after, EffP P Γ { dst, op := .call { callee := .value fop, args := args.toArray, argTypes := ts }, type := ty, pos, after, guard := none } s k
section
variable {P : Program} {Γ : Ctx} {s : St} {k : St -> Prop} {dst : Option Tmp}
theorem CallP.fun_ {fop : Operand} {args : List Operand} {f caps} {ds : List D} {L : List Nat} {post : D -> Prop} (hret : Fun P f ds post)
  (hf : zaz (opd s fop) = some (f, caps)) (hc : zak P f = true) (hds : zcb s (args.map (opd s) ++ caps) = some (ds, L)) (hp : zaI dst s)
  (hk : ∀ d, post d -> k (({ s with obs := if za1 d then s.obs else delAll s.obs L } : St).put dst d)) : CallP P Γ fop args dst s k :=
 fun _ _ _ _ => Eff.p (Eff.zsb hf hc hds hret hp hk)
theorem CallP.fE {fop : Operand} {args : List Operand} {f caps} {ds : List D} {L : List Nat} {v : D} (hret : Fun P f ds (· = v))
  (hf : zaz (opd s fop) = some (f, caps)) (hds : zcb s (args.map (opd s) ++ caps) = some (ds, L))
  (hk : zak P f = true ∧ zaI dst s ∧ k (({ s with obs := if za1 v then s.obs else delAll s.obs L } : St).put dst v)) : CallP P Γ fop args dst s k :=
 CallP.fun_ hret hf hk.1 hds hk.2.1 fun d h => by subst h; exact hk.2.2
theorem CallP.zs4 {fop : Operand} {args : List Operand} {f caps} {ds : List D} {post : D -> List (Nat × Ob) -> Nat -> Prop} (hret : Ret P f ds s.obs s.next post)
  (hf : zaz (opd s fop) = some (f, caps)) (hc : zak P f = true) (hds : args.map (opd s) ++ caps = ds) (hp : zaI dst s)
  (hk : ∀ d obs' nx', s.next <= nx' -> post d obs' nx' -> k (({ s with obs := obs', next := nx' } : St).put dst d)) : CallP P Γ fop args dst s k :=
 fun _ _ _ _ => Eff.p (Eff.zsa hf hc hds hret hp hk)
end
def zcG (d : D) (ret : List PanicEntry -> Prop) : Prop := match d with
 | .u (.oth (.iface t v)) => ret [{ v := .iface t v, recovered := false }]
 | _ => False
theorem EffP.panic {P Γ s k} {dst type pos after guard} {x : Operand} (h : zcG (opd s x) fun ch => Γ.pan ch s) : EffP P Γ { dst, op := .panic x, type, pos, after, guard } s k := by
 intro K a w hin hs Kont Q hK hP;unfold zcG at h;split at h
 ·rename_i t v hd;have hr := zaM hs x;rw [hd] at hr;have hv := zdc hr;unfold Oper.wp;have : (execOp a.eval { dst, op := .panic x, type, pos, after, guard }).run P w = .halt (.panic (.iface t v)) w := by
   simp [execOp, hv]
   try rfl
  rw [this];exact hP _ K a w s hin hs h
 ·exact h.elim
def zcf (P : Program) (Γ : Ctx) (dst : Option Tmp) (op : Op) (s : St) (k : St -> Prop) : Prop :=
 match op with
 | .alloc t => zcD P t s dst k
 | .box t x => zg3 (opd s x) s dst k
 | .store t x y => dst = none /\ zcy P t (opd s x) (opd s y) s k
 | .buildSlice t n parts => zaO P t n (parts.toList.map fun p => (p.1, opd s p.2)) s dst k
 | .makeSlice t x y => zdJ P t (opd s x) (opd s y) s dst k
 | .makeMap t none => zbx P t s dst k
 | .mapUpdate t m i v => dst = none /\ zbJ P t (opd s m) (opd s i) (opd s v) s k
 | .insert t m i v => dst = none /\ zbJ P t (opd s m) (opd s i) (opd s v) s k
 | .range t x => zcE P t (opd s x) s dst k
 | .next x false => nextD (opd s x) s dst k
 | .entry x => zcI (opd s x) s fun d => zaI dst s /\ k (s.put dst d)
 | .panic x => zcG (opd s x) fun ch => Γ.pan ch s
 | .call c => match c.callee with
  | .value f => CallP P Γ f c.args.toList dst s k
  | .builtin .append => match c.args, c.argTypes with
   | ⟨[x, y]⟩, ⟨[t, t']⟩ => t = t' /\ zbU P t (opd s x) (opd s y) s dst k
   | _, _ => False
  | _ => evPure P s op fun d => zaI dst s /\ k (s.put dst d)
 | _ => evPure P s op fun d => zaI dst s /\ k (s.put dst d)
theorem zel {P : Program} {Γ : Ctx} {o : Oper} {s : St} {k : St -> Prop} (h : zcf P Γ o.dst o.op s k) : EffP P Γ o s k := by
 obtain ⟨dst, op, type, pos, after, guard⟩ := o;simp only at h;cases op
 case alloc t => exact Eff.p (Eff.alloc rfl h)
 case box t x => exact Eff.p (Eff.box rfl h)
 case store t x y =>
  obtain ⟨h1, h2⟩ := h;exact Eff.p (Eff.store rfl h1 h2)
 case buildSlice t n parts => exact Eff.p (Eff.buildSlice rfl h)
 case makeSlice t x y => exact Eff.p (Eff.make rfl h)
 case makeMap t r =>
  cases r with
  | none => exact Eff.p (Eff.makeMap rfl h)
  | some r => exact Eff.p (Eff.pure h)
 case mapUpdate t m i v =>
  obtain ⟨h1, h2⟩ := h;exact Eff.p (Eff.mapUpdate (.inl rfl) h1 h2)
 case insert t m i v =>
  obtain ⟨h1, h2⟩ := h;exact Eff.p (Eff.mapUpdate (.inr rfl) h1 h2)
 case range t x => exact Eff.p (Eff.range rfl h)
 case next x b =>
  cases b with
  | false => exact Eff.p (Eff.next rfl h)
  | true => exact Eff.p (Eff.pure h)
 case entry x => exact Eff.p (Eff.entry rfl h)
 case call c =>
  obtain ⟨callee, args, ts⟩ := c;cases callee
  case value f =>
   obtain ⟨args⟩ := args;exact h ts type pos after
  case invoke r m => exact Eff.p (Eff.pure h)
  case builtin b =>
   cases b
   case append =>
    simp only [zcf] at h;split at h
    ·obtain ⟨rfl, h⟩ := h;exact Eff.p (Eff.append rfl h)
    ·exact h.elim
   all_goals exact Eff.p (Eff.pure h)
 case panic x => exact EffP.panic h
 all_goals exact Eff.p (Eff.pure h)
theorem zkh {P : Program} {Γ : Ctx} {o : Oper} {s : St} {k : St -> Prop} (h : zcf P Γ o.dst o.op s k) (_ : o.guard = none) : EffP P Γ o s k := zel h
def zdf (P : Program) (Γ : Ctx) (o : O1) (rest : List O1) (s : St) (k : St -> Prop) : Prop :=
 match o.guard with
 | none => zcf P Γ o.dst o.op s fun s' => H P Γ rest s' k
 | some (t, want) => match getK s.env t with
  | some (.u (.bool b)) => zaI o.dst s /\
    (b = want -> zcf P Γ o.dst o.op (s.put (some t) (.u (.bool want))) fun s' => H P Γ rest s' k) /\
    (b = !want -> H P Γ rest ((s.put (some t) (.u (.bool (!want)))).put o.dst .un) k)
  | some (.u (.oth v)) => v = undef /\ zaI o.dst s /\ H P Γ rest (s.put o.dst .un) k
  | _ => False
theorem zdM {all : Array Oper} {ops : List Oper} {o : O1} {rest : List O1} (h : zbm all ops = some (o :: rest)) :
  ∃ op ops', ops = op :: ops' /\ zcS all op = some o /\ zbm all ops' = some rest := by
 cases ops with
 | nil => simp [zbm] at h
 | cons x l =>
  simp only [zbm] at h;split at h
  ·rename_i a b ha hb;simp at h;obtain ⟨rfl, rfl⟩ := h;exact ⟨x, l, rfl, ha, hb⟩
  ·cases h
theorem zaj {P Γ s k} (h : k s) : H P Γ [] s k := fun all ops e => by
 cases ops with
 | nil => exact ztT h
 | cons x l => simp only [zbm] at e; split at e <;> simp at e
theorem Eff.mono {P Γ o s} {k k' : St -> Prop} (h : Eff P Γ o s k) (hk : ∀ s, k s -> k' s) : Eff P Γ o s k' :=
 fun K a w hin hs Kont Q hK => h K a w hin hs Kont Q fun K' a' w' s' h1 h2 h3 => hK K' a' w' s' h1 h2 (hk s' h3)
theorem EffP.mono {P Γ o s} {k k' : St -> Prop} (h : EffP P Γ o s k) (hk : ∀ s, k s -> k' s) : EffP P Γ o s k' :=
 fun K a w hin hs Kont Q hK hP => h K a w hin hs Kont Q (fun K' a' w' s' h1 h2 h3 => hK K' a' w' s' h1 h2 (hk s' h3)) hP
theorem zag {P Γ o rest s k} (h : zdf P Γ o rest s k) : H P Γ (o :: rest) s k := by
 intro all ops e;obtain ⟨x, ops', rfl, hx, hr⟩ := zdM e;obtain ⟨dst, op, type, pos, after, guard⟩ := x;unfold zcS at hx;unfold zdf at h;simp only at hx;cases guard with
 | none =>
  simp at hx;subst hx;simp only at h;exact zq9 ((zkh (o := { dst, op, type, pos, after, guard := none }) h rfl).mono fun s' h => h all ops' hr)
 | some g =>
  obtain ⟨j, b⟩ := g;simp only at hx;split at hx
  ·rename_i t ht;simp at hx;subst hx;simp only at h;split at h
   ·rename_i b' hb;obtain ⟨hp, hy, hn⟩ := h;refine zr9 ht hb hp (fun e => ?_) (fun e => hn e all ops' hr);exact zq9 ((zkh (o := { dst, op, type, pos, after, guard := none }) (hy e) rfl).mono fun s' h => h all ops' hr)
   ·rename_i v hb;obtain ⟨rfl, hp, hn⟩ := h;exact zqO ht hb hp (hn all ops' hr)
   ·exact h.elim
  ·cases hx
theorem zo9 {P Γ s} {Q : Exit -> St -> Prop} {kt : Kt} {id : Nat} {l : List Oper}
  (h : ∀ k : St -> Prop, (∀ s', zan P Γ Q kt .normal s' -> k s') -> match zbm l.toArray l with | some l' => H P Γ l' s k | none => False) : V P Γ (.region id l.toArray false) s (zan P Γ Q kt) := by
 refine zqC ?_;have := h _ fun _ h => h;split at this
 ·rename_i l' hl;exact this _ _ hl
 ·exact this.elim
theorem zq6 {P Γ c s Q} {A : Prop} (hA : ∀ K a w, Sim K Γ.own s a w -> A) (h : A -> V P Γ c s Q) : V P Γ c s Q := fun K a w hin hs => h (hA K a w hs) K a w hin hs
theorem zgR {P Γ c s Q} {x : Nat} {rows : List (List U)} (hx : getK s.env x = some (.u (.sl rows))) (h : rows.length <= 9223372036854775807 -> V P Γ c s Q) : V P Γ c s Q :=
 zq6 (fun K a w hs => by
  have hr := (hs.getK hx).2;cases hr with
  | u _ _ hr =>
   generalize a.tmps.getD x undef = v at hr;cases hr with
   | slE => simp
   | sl _ b o sz c f hc hcx => unfold maxLen at hcx; omega) h
end Go.VL
namespace Go.VL
open Go
def Lin {α : Type} (T : (α -> Prop) -> Prop) : Prop := (∀ r r' : α -> Prop, (∀ d, r d -> r' d) -> T r -> T r') /\ ∀ r, T r -> ∃ d, T (· = d) /\ r d
theorem Lin.ret {α : Type} (d : α) : Lin fun r : α -> Prop => r d := ⟨fun _ _ h => h d, fun _ h => ⟨d, rfl, h⟩⟩
theorem Lin.zaR {α : Type} : Lin fun _ : α -> Prop => False := ⟨fun _ _ _ h => h, fun _ h => h.elim⟩
theorem Lin.and {α : Type} {A : Prop} {T : (α -> Prop) -> Prop} (h : Lin T) : Lin fun r => A /\ T r :=
 ⟨fun _ _ hr ⟨a, t⟩ => ⟨a, h.1 _ _ hr t⟩, fun _ ⟨a, t⟩ => let ⟨d, h1, h2⟩ := h.2 _ t; ⟨d, ⟨a, h1⟩, h2⟩⟩
theorem Lin.zwA {α : Type} {A : Prop} {T : (α -> Prop) -> Prop} (h : Lin T) : Lin fun r => T r /\ A :=
 ⟨fun _ _ hr ⟨t, a⟩ => ⟨h.1 _ _ hr t, a⟩, fun _ ⟨t, a⟩ => let ⟨d, h1, h2⟩ := h.2 _ t; ⟨d, ⟨h1, a⟩, h2⟩⟩
theorem Lin.ex {α β : Type} {T : β -> (α -> Prop) -> Prop} (h : ∀ b, Lin (T b)) : Lin fun r => ∃ b, T b r :=
 ⟨fun _ _ hr ⟨b, t⟩ => ⟨b, (h b).1 _ _ hr t⟩, fun _ ⟨b, t⟩ => let ⟨d, h1, h2⟩ := (h b).2 _ t; ⟨d, ⟨b, h1⟩, h2⟩⟩
theorem Lin.map {α β : Type} {T : (α -> Prop) -> Prop} (h : Lin T) (f : α -> β) : Lin fun r : β -> Prop => T fun a => r (f a) :=
 ⟨fun _ _ hr t => h.1 _ _ (fun a => hr (f a)) t, fun _ t => let ⟨d, h1, h2⟩ := h.2 _ t; ⟨f d, h.1 _ _ (fun _ e => congrArg f e) h1, h2⟩⟩
theorem Lin.arith {k n} : Lin (arith k n) := by
 unfold VL.arith;split <;> first | exact (Lin.ret _).and | exact Lin.ret _
theorem Lin.binI {op k a b} : Lin (binI op k a b) := by
 unfold VL.binI;split <;> first | exact Lin.arith | exact Lin.arith.and | exact (Lin.ret _).and | exact Lin.ret _ | exact Lin.zaR
theorem Lin.binS {op a b} : Lin (binS op a b) := by
 unfold VL.binS;split <;> first | exact (Lin.ret _).and | exact Lin.ret _ | exact Lin.zaR
theorem Lin.binB {P op t a b} : Lin (binB P op t a b) := by
 unfold VL.binB;refine Lin.and ?_;split <;> first | exact Lin.ret _ | exact Lin.zaR
theorem Lin.shiftI {op k a b} : Lin (shiftI op k a b) := by
 unfold VL.shiftI;refine Lin.and ?_;split <;> first | exact Lin.arith | exact Lin.ret _ | exact Lin.zaR
theorem Lin.nilD {op b} : Lin (nilD op b) := by
 unfold VL.nilD;split <;> first | exact Lin.ret _ | exact Lin.zaR
theorem Lin.aggD {P op t xs ys} : Lin (aggD P op t xs ys) := by
 unfold VL.aggD;split
 ·split
  ·exact Lin.nilD
  ·exact Lin.zaR
 ·exact Lin.zaR
theorem Lin.binD {P op t x y} : Lin (binD P op t x y) := by
 unfold VL.binD;split <;> first | exact (Lin.nilD.map _).and | exact Lin.aggD.map _ | exact Lin.shiftI.map _ | exact (Lin.binI.map _).and | exact Lin.binS.map _ | exact Lin.binB.map _ | exact Lin.zaR
theorem Lin.unD {op x} : Lin (unD op x) := by
 unfold VL.unD;split <;> first | exact Lin.arith.map _ | exact Lin.ret _ | exact Lin.zaR
theorem Lin.convD {P a b x} : Lin (convD P a b x) := by
 unfold VL.convD;split
 ·refine Lin.and ?_;split <;> first | exact Lin.arith.map _ | exact Lin.zaR
 ·exact (Lin.ret _).and.and
 ·exact Lin.zaR
theorem Lin.cellsAt {α : Type} {cells : List α} {off l} {f : α -> D} {g : List α -> D} : Lin fun r : D -> Prop => cellsAt cells off l (fun a => r (f a)) (fun a => r (g a)) := by
 unfold VL.cellsAt;split
 ·exact Lin.ex fun _ => (Lin.ret _).and
 ·exact (Lin.ret _).and
theorem Lin.loadD {P s t x} : Lin (loadD P s t x) := by
 unfold VL.loadD;split
 ·exact Lin.zaR
 ·split
  ·exact Lin.cellsAt (f := fun u => .u u) (g := fun u => .u (.agg u))
  ·split
   ·exact Lin.cellsAt (f := id) (g := zc1)
   ·exact Lin.zaR
  ·split
   ·exact Lin.and (Lin.ex fun _ => Lin.and (Lin.cellsAt (f := id) (g := zc1)))
   ·exact Lin.zaR
  ·exact Lin.zaR
theorem Lin.fieldAddrD {P t x f} : Lin (fieldAddrD P t x f) := by
 unfold VL.fieldAddrD;split
 ·exact Lin.zaR
 ·split <;> first | exact Lin.ret _ | exact Lin.zaR
theorem Lin.fieldD {P t x f} : Lin (fieldD P t x f) := by
 unfold VL.fieldD;split
 ·exact Lin.zaR
 ·split
  ·exact Lin.cellsAt (f := fun u => .u u) (g := fun u => .u (.agg u))
  ·exact Lin.cellsAt (f := id) (g := zc1)
  ·exact Lin.zaR
theorem Lin.indexAddrD {P s t x i} : Lin (indexAddrD P s t x i) := by
 unfold VL.indexAddrD;split
 ·split
  ·exact Lin.and (Lin.ex fun _ => Lin.and (Lin.and (Lin.ret _)))
  ·exact Lin.and (Lin.and (Lin.zwA (Lin.ret _)))
  ·exact Lin.zaR
 ·exact Lin.zaR
theorem Lin.indexD {P t x i} : Lin (indexD P t x i) := by
 unfold VL.indexD;split
 ·exact ((Lin.ex fun _ => (Lin.ret _).and).and).and
 ·exact ((Lin.ex fun _ => (Lin.ret _).and).and).and
 ·exact Lin.zaR
theorem Lin.lookR {ag z r ok} : Lin (lookR ag z r ok) := by
 unfold VL.lookR;split
 ·split <;> first | exact Lin.ret _ | exact Lin.zaR
 ·split <;> first | exact Lin.ret _ | exact Lin.zaR
theorem Lin.lookD {P s t x i ok} : Lin (lookD P s t x i ok) := by
 unfold VL.lookD;split
 ·split
  ·exact Lin.and (Lin.and (Lin.and Lin.lookR))
  ·exact Lin.zaR
 ·split
  ·exact Lin.and (Lin.and (Lin.and Lin.lookR))
  ·exact Lin.zaR
 ·exact Lin.zaR
theorem Lin.cutD {n lo hi} {T : Nat -> Nat -> (D -> Prop) -> Prop} (h : ∀ a b, Lin (T a b)) : Lin fun r => cutD n lo hi fun a b => T a b r := by
 unfold VL.cutD;split <;> first | exact h _ _ | exact (h _ _).and | exact Lin.zaR
theorem Lin.sliceD {P s t x lo hi} : Lin (sliceD P s t x lo hi) := by
 unfold VL.sliceD;split
 ·exact Lin.and (Lin.cutD fun a b => Lin.ret _)
 ·split
  ·exact Lin.and (Lin.cutD fun a b => Lin.ret _)
  ·exact Lin.zaR
 ·split
  ·exact Lin.and (Lin.and (Lin.cutD fun a b => Lin.and (Lin.ret _)))
  ·exact Lin.zaR
 ·exact Lin.zaR
theorem Lin.lenD {P s t x} : Lin (lenD P s t x) := by
 unfold VL.lenD;split
 ·exact (Lin.ret _).and
 ·exact (Lin.ret _).and
 ·exact (Lin.ret _).and
 ·refine Lin.and ?_;split <;> first | exact (Lin.ret _).and | exact Lin.zaR
 ·exact Lin.zaR
theorem Lin.minmaxD {b l} : Lin (minmaxD b l) := by
 unfold VL.minmaxD;split
 ·exact (Lin.ret _).and
 ·exact (Lin.ret _).and.and
 ·exact Lin.zaR
theorem Lin.makeFuncD {f first caps} : Lin (makeFuncD f first caps) := by
 unfold VL.makeFuncD;split
 ·exact Lin.ret _
 ·exact Lin.ret _
 ·exact Lin.zaR
theorem Lin.nilCheckD {x} : Lin (nilCheckD x) := by
 unfold VL.nilCheckD;split <;> first | exact Lin.ret _ | exact Lin.zaR
theorem Lin.fillD {places} : ∀ {parts : List (Nat × D)} {cs : List D}, Lin (fillD places parts cs)
 | [], cs => Lin.ret _
 | (f, d) :: rest, cs => by
  rw [show VL.fillD places ((f, d) :: rest) cs = fun k => match places[f]?, zb3 d with
     | some (off, n), some new => new.length = n /\ off + n <= cs.length /\ VL.fillD places rest (setAll cs off new) k
     | _, _ => False from rfl]
  split
  ·exact Lin.and (Lin.and Lin.fillD)
  ·exact Lin.zaR
theorem Lin.buildD {P t parts} : Lin (buildD P t parts) := by
 unfold VL.buildD;split
 ·exact Lin.fillD.map _
 ·exact Lin.zaR
theorem Lin.makeIfD {P t x} : Lin (makeIfD P t x) := by
 unfold VL.makeIfD;split
 ·split
  ·exact (Lin.ret _).and
  ·exact Lin.zaR
 ·exact Lin.zaR
theorem Lin.typeAssertD {P x t ok} : Lin (typeAssertD P x t ok) := by
 unfold VL.typeAssertD;split
 ·exact (((Lin.ret _).and).and).and
 ·exact ((Lin.ex fun _ => Lin.ex fun _ => ((Lin.ret _).and).and).and).and
 ·exact Lin.zaR
theorem Lin.evPure {P s op} : Lin (evPure P s op) := by
 unfold VL.evPure;split
 ·exact Lin.ret _
 ·exact Lin.ret _
 ·split <;> first | exact Lin.ret _ | exact Lin.zaR
 ·exact Lin.loadD
 ·exact Lin.binD
 ·exact Lin.unD
 ·exact Lin.convD
 ·exact Lin.fieldAddrD
 ·exact Lin.fieldD
 ·exact Lin.indexAddrD
 ·exact Lin.indexD
 ·exact Lin.lookD
 ·exact Lin.and Lin.sliceD
 ·split
  ·exact Lin.ex fun _ => (Lin.ret _).and
  ·exact Lin.zaR
 ·exact Lin.nilCheckD
 ·exact Lin.makeFuncD
 ·exact Lin.buildD
 ·exact Lin.makeIfD
 ·exact Lin.typeAssertD
 ·split
  ·split <;> first | exact Lin.lenD | exact Lin.zaR
  ·exact Lin.minmaxD
  ·exact Lin.minmaxD
  ·exact Lin.zaR
 ·exact Lin.zaR
end Go.VL
namespace Go.VL
open Go
def zrb (P : Program) (s : St) (fop : Operand) (args : List Operand) (d : D) : Prop :=
 ∃ f caps ds L, zaz (opd s fop) = some (f, caps) /\ zak P f = true /\ zcb s (args.map (opd s) ++ caps) = some (ds, L) /\ Fun P f ds (· = d) /\ (za1 d = true \/ L = [])
def CallV (P : Program) (s : St) (fop : Operand) (args : List Operand) (ret : D -> Prop) : Prop := ∃ d, zrb P s fop args d /\ ret d
theorem CallV.fun_ {P s} {fop : Operand} {args : List Operand} {ret : D -> Prop} {f caps} {ds : List D} {L : List Nat} {d : D} (hret : Fun P f ds (· = d)) (hf : zaz (opd s fop) = some (f, caps))
  (hds : zcb s (args.map (opd s) ++ caps) = some (ds, L)) (hk : zak P f = true ∧ (za1 d = true \/ L = []) ∧ ret d) : CallV P s fop args ret := ⟨d, ⟨f, caps, ds, L, hf, hk.1, hds, hret, hk.2.1⟩, hk.2.2⟩
theorem Lin.ztS {P s fop args} : Lin (CallV P s fop args) :=
 ⟨fun _ _ hr ⟨d, h1, h2⟩ => ⟨d, h1, hr d h2⟩, fun _ ⟨d, h1, h2⟩ => ⟨d, ⟨d, h1, rfl⟩, h2⟩⟩
def valD (P : Program) (s : St) (op : Op) (ret : D -> Prop) : Prop :=
 match op with
 | .call c => match c.callee with
  | .value f => CallV P s f c.args.toList ret
  | _ => evPure P s op ret
 | _ => evPure P s op ret
theorem Lin.valD {P s op} : Lin (valD P s op) := by
 unfold VL.valD;split
 ·split
  ·exact Lin.ztS
  ·exact Lin.evPure
 ·exact Lin.evPure
theorem zfM {P Γ s} {o : Oper} {d : D} (h : valD P s o.op (· = d)) {K : Kr} {a : Act} {w : World} (hin : In Γ K w) (hs : Sim K Γ.own s a w) {Kont : Act -> World -> Prop} {Q : Exit -> Act -> World -> Prop}
  (hK : ∀ K' v w', In Γ K' w' -> K.le K' -> K'.hdr = K.hdr -> Sat K' Γ.own s.obs w' -> Rep K' d v -> Kont (a.put o.dst v) w') : o.wp P a w Kont Q := by
 have pure : evPure P s o.op (· = d) -> o.wp P a w Kont Q := fun h => by
  obtain ⟨_, rfl, v, hv, hr⟩ := zks h K Γ.own a w hs;unfold Oper.wp;rw [hv];exact hK K v w hin (.refl _) rfl hs.sat hr
 obtain ⟨dst, op, type, pos, after, guard⟩ := o;unfold valD at h;simp only at h;split at h
 ·rename_i c;obtain ⟨callee, args, ts⟩ := c;simp only at h;split at h
  ·obtain ⟨_, ⟨f', caps, ds, L, h1, h2, h3, h4, h5⟩, rfl⟩ := h;refine zgJ h1 h2 h3 h4 hin hs fun K' v d' w' g1 g2 g3 g4 g5 g6 => ?_;subst g6;refine hK K' v w' g1 g2 g3 ?_ g5;rcases h5 with h5 | rfl
   ·rw [if_pos h5] at g4; exact g4
   ·by_cases hsc : za1 d' = true
    ·rw [if_pos hsc] at g4; exact g4
    ·rw [if_neg hsc] at g4; exact g4
  ·exact pure h
 ·exact pure h
theorem zlr {s s' : St} (h : s.obs = s'.obs) (ds : List D) : zcb s ds = zcb s' ds := by
 unfold zcb;rw [h]
theorem zlb {P} {s s' : St} (h : s.obs = s'.obs) (t : TypeId) (x : D) (r : D -> Prop) : loadD P s t x r = loadD P s' t x r := by unfold loadD; rw [h]
theorem zgP {P} {s s' : St} (h : s.obs = s'.obs) (t : TypeId) (x i : D) (r : D -> Prop) : indexAddrD P s t x i r = indexAddrD P s' t x i r := by unfold indexAddrD; rw [h]
theorem zjM {P} {s s' : St} (h : s.obs = s'.obs) (t : TypeId) (x : D) (a b : Option D) (r : D -> Prop) : sliceD P s t x a b r = sliceD P s' t x a b r := by unfold sliceD; rw [h]
theorem zmJ {P} {s s' : St} (h : s.obs = s'.obs) (t : TypeId) (x : D) (r : D -> Prop) : lenD P s t x r = lenD P s' t x r := by unfold lenD; rw [h]
theorem zla {P} {s s' : St} (h : s.obs = s'.obs) (t : TypeId) (x i : D) (ok : Bool) (r : D -> Prop) : lookD P s t x i ok r = lookD P s' t x i ok r := by unfold lookD; rw [h]
theorem zgI {P} {s s' : St} {op : Op} {r : D -> Prop} (h : s.obs = s'.obs) (hx : ∀ x ∈ op.operands, opd s x = opd s' x) : evPure P s op r = evPure P s' op r := by
 cases op <;> simp only [Op.operands] at hx <;> unfold evPure <;> (try simp only)
 case move x => rw [hx x (by simp)]
 case assign x => rw [hx x (by simp)]
 case pick c a b => rw [hx c (by simp), hx a (by simp), hx b (by simp)]
 case load t x => rw [hx x (by simp), zlb h]
 case binOp op t x y _ => rw [hx x (by simp), hx y (by simp)]
 case unOp op _ x => rw [hx x (by simp)]
 case convert a b x => rw [hx x (by simp)]
 case fieldAddr t x f => rw [hx x (by simp)]
 case field t x f => rw [hx x (by simp)]
 case indexAddr t x i => rw [hx x (by simp), hx i (by simp), zgP h]
 case index t x i => rw [hx x (by simp), hx i (by simp)]
 case lookup t x i ok => rw [hx x (by simp), hx i (by simp), zla h]
 case slice t x lo hi mx =>
  have e1 : lo.map (opd s) = lo.map (opd s') := by cases lo <;> simp_all
  have e2 : hi.map (opd s) = hi.map (opd s') := by cases hi <;> simp_all
  cases mx with
  | none => simp only; rw [hx x (by simp), e1, e2, zjM h]
  | some m => rfl
 case extract x i => rw [hx x (by simp)]
 case nilCheck x => rw [hx x (by simp)]
 case makeInterface t x => rw [hx x (by simp)]
 case typeAssert x xt t ok => rw [hx x (by simp)]
 case makeFunc f first caps =>
  have e : caps.toList.map (opd s) = caps.toList.map (opd s') := List.map_congr_left fun x hm => hx x (by simp; exact .inr (by simpa using hm));have e2 : first.toList.map (opd s) = first.toList.map (opd s') := List.map_congr_left fun x hm => hx x (by simp; exact .inl (by simpa using hm))
  rw [e, e2]
 case build t parts =>
  have e : (parts.toList.map fun p => (p.1, opd s p.2)) = (parts.toList.map fun p => (p.1, opd s' p.2)) := List.map_congr_left fun p hm => by
   rw [hx p.2 (by simp; exact ⟨p.1, by simpa using hm⟩)]
  rw [e]
 case call c =>
  obtain ⟨callee, args, ts⟩ := c;cases callee with
  | value f => rfl
  | invoke r m => rfl
  | builtin b =>
   have e : args.toList.map (opd s) = args.toList.map (opd s') := List.map_congr_left fun x hm => hx x (by simp [Call.operands]; simpa using hm);cases b <;> simp only <;> try rfl
   case len =>
    obtain ⟨args⟩ := args;obtain ⟨ts⟩ := ts
    match args, ts with
    | [x], [t] => simp only; rw [hx x (by simp [Call.operands]), zmJ h]
    | [], _ => rfl
    | _ :: _ :: _, _ => rfl
    | [_], [] => rfl
    | [_], _ :: _ :: _ => rfl
   case min => rw [e]
   case max => rw [e]
theorem zdl {P} {s s' : St} {op : Op} {r : D -> Prop} (h : s.obs = s'.obs) (hx : ∀ x ∈ op.operands, opd s x = opd s' x) : valD P s op r = valD P s' op r := by
 unfold valD;split
 ·rename_i c;obtain ⟨callee, args, ts⟩ := c;simp only;split
  ·rename_i f;have e : args.toList.map (opd s) = args.toList.map (opd s') := List.map_congr_left fun x hm => hx x (by simp [Op.operands, Call.operands]; exact .inr (by simpa using hm));have ef : opd s f = opd s' f := hx f (by simp [Op.operands, Call.operands]);unfold CallV zrb;simp only [e, ef, zlr h]
  ·exact zgI h hx
 ·exact zgI h hx
def zdj (T : Nat -> D) (S : Nat -> Bool) : List Oper -> Nat -> List (Nat × D) -> List (Nat × D)
 | [], _, e => e
 | o :: l, i, e => zdj T S l (i + 1) (if S i then match o.dst with | some x => (x, T i) :: e | none => e else e)
theorem zbp (T : Nat -> D) (S S' : Nat -> Bool) (t : Nat) : ∀ (l : List Oper) (i : Nat) (e e' : List (Nat × D)), getK e t = getK e' t ->
  (∀ j o, l[j]? = some o -> o.dst = some t -> S (i + j) = S' (i + j)) -> getK (zdj T S l i e) t = getK (zdj T S' l i e') t
 | [], i, e, e', he, _ => he
 | o :: l, i, e, e', he, h => by
  simp only [zdj];refine zbp T S S' t l (i + 1) _ _ ?_ (fun j o' hj ho => ?_)
  ·cases hd : o.dst with
   | none => simp [he]
   | some x =>
    simp only;by_cases hx : x = t
    ·subst hx;have := h 0 o rfl hd;simp only [Nat.add_zero] at this;rw [this];split
     ·simp [zaa]
     ·exact he
    ·have key : ∀ (b : Bool) (f : List (Nat × D)), getK (if b then (x, T i) :: f else f) t = getK f t := fun b f => by
      cases b
      ·rfl
      ·simp [zaa, Ne.symm hx]
     rw [key, key, he]
  ·have := h (j + 1) o' (by simpa using hj) ho;rw [show i + 1 + j = i + (j + 1) by omega];exact this
theorem zf4 (T : Nat -> D) (S : Nat -> Bool) (i : Nat) (x : Nat) : ∀ (l : List Oper) (i0 : Nat) (e : List (Nat × D)) (k : Nat) (o : Oper), l[k]? = some o -> i0 + k = i -> o.dst = some x ->
  (∀ j o', l[j]? = some o' -> k < j -> o'.dst = some x -> S (i0 + j) = false) -> getK (zdj T (fun j => S j || j == i) l i0 e) x = some (T i)
 | [], i0, e, k, o, hk, _, _, _ => by simp at hk
 | p :: l, i0, e, 0, o, hk, hi, hd, h => by
  simp at hk hi;subst hk;subst hi;simp only [zdj, hd, beq_self_eq_true, Bool.or_true, if_true];have hf : ∀ j o', l[j]? = some o' -> o'.dst = some x -> (S (i0 + 1 + j) || (i0 + 1 + j == i0)) = false := fun j o' hj ho => by
   have := h (j + 1) o' (by simpa using hj) (by omega) ho;rw [show i0 + 1 + j = i0 + (j + 1) by omega, this];simp
  have := zbp T (fun j => S j || j == i0) (fun _ => false) x l (i0 + 1) ((x, T i0) :: e) ((x, T i0) :: e) rfl (fun j o' hj ho => hf j o' hj ho);rw [this];have none : ∀ (l : List Oper) (i : Nat) (e : List (Nat × D)), zdj T (fun _ => false) l i e = e := by
   intro l
   induction l with
   | nil => intro i e; rfl
   | cons o l ih => intro i e; simp [zdj, ih]
  rw [none];simp [zaa]
 | p :: l, i0, e, k + 1, o, hk, hi, hd, h => by
  simp only [zdj];exact zf4 T S i x l (i0 + 1) _ k o (by simpa using hk) (by omega) hd fun j o' hj hlt ho => by
   have := h (j + 1) o' (by simpa using hj) (by omega) ho;rw [show i0 + 1 + j = i0 + (j + 1) by omega];exact this
def zbP (o : Oper) : List Nat := (o.after.toList.filter (Region.binds .any ·)).map (·.on)
def zdE (ops : List Oper) : Nat -> Nat -> Nat -> Bool
 | 0, _, _ => false
 | n + 1, i, j => match ops[j]? with
  | some o => (zbP o).any fun p => p == i || zdE ops n i p
  | none => false
def zcW (all : Array Oper) (x y : Oper) : Bool :=
 match x.dst with
 | some d => (y.looksAt all).contains d || y.dst == some d
 | none => false
def zfx (ops : List Oper) : Bool :=
 let all := ops.toArray
 let n := ops.length
 (List.range n).all fun j => match ops[j]? with
   | none => true
   | some y => (zbP y).all (fun p => decide (p < j)) && (match y.op with | .select .. => false | _ => true) && (List.range j).all fun i => match ops[i]? with
    | none => true
    | some x => !(zcW all x y || zcW all y x) || zdE ops n i j
def stF (ops : List Oper) (T : Nat -> D) (s : St) (S : Nat -> Bool) : St := { s with env := zdj T S ops 0 s.env }
def zs2 (P : Program) (all : Array Oper) (s : St) (o : Oper) (d : D) : Prop :=
 match o.guard with
 | none => valD P s o.op (· = d)
 | some (j, want) => ∃ t, zaN all j = some t /\ ((∃ b, getK s.env t = some (.u (.bool b)) /\ if b = want then valD P s o.op (· = d) else d = .un) \/ (getK s.env t = some .un /\ d = .un))
section
variable {ops : List Oper} (hord : zfx ops = true)
include hord
theorem zcA {j y} (hj : ops[j]? = some y) : (∀ p ∈ zbP y, p < j) /\ (∀ cs b, y.op ≠ .select cs b) /\ ∀ i x, i < j -> ops[i]? = some x -> zcW ops.toArray x y = true \/ zcW ops.toArray y x = true -> zdE ops ops.length i j = true := by
 have hlt := (lGE.1 hj).1;have h := (List.all_eq_true.1 hord) j (List.mem_range.2 hlt);simp only [hj, Bool.and_eq_true] at h;obtain ⟨⟨h1, h2⟩, h3⟩ := h;refine ⟨fun p hp => by simpa using (List.all_eq_true.1 h1) p hp, fun cs b e => (by rw [e] at h2; cases h2), fun i x hij hi hm => ?_⟩;have h := (List.all_eq_true.1 h3) i (List.mem_range.2 hij);simp only [hi] at h;rcases hm with hm | hm <;> simpa [hm] using h
omit hord in
theorem zcO {S : Nat -> Bool} (hc : ∀ j y, ops[j]? = some y -> S j = true -> ∀ p ∈ zbP y, S p = true) : ∀ (n i j : Nat) (y : Oper), ops[j]? = some y -> (∀ p ∈ zbP y, S p = true) -> zdE ops n i j = true -> S i = true
 | 0, _, _, _, _, _, h => by simp [zdE] at h
 | n + 1, i, j, y, hj, hp, h => by
  simp only [zdE, hj, List.any_eq_true] at h;obtain ⟨p, hpm, h⟩ := h;have hS := hp p hpm;simp only [Bool.or_eq_true, beq_iff_eq] at h;rcases h with rfl | h
  ·exact hS
  ·cases hy : ops[p]? with
   | none =>
    exfalso;cases n with
    | zero => simp [zdE] at h
    | succ n => simp [zdE, hy] at h
   | some y' => exact zcO hc n i p y' hy (hc p y' hy hS) h
end
def St.Eqv (s s' : St) : Prop := s.n = s'.n /\ s.obs = s'.obs /\ s.next = s'.next /\ ∀ x, getK s.env x = getK s'.env x
theorem St.Eqv.refl (s : St) : s.Eqv s := ⟨rfl, rfl, rfl, fun _ => rfl⟩
theorem St.Eqv.trans {a b c : St} (h : a.Eqv b) (g : b.Eqv c) : a.Eqv c := ⟨h.1.trans g.1, h.2.1.trans g.2.1, h.2.2.1.trans g.2.2.1, fun x => (h.2.2.2 x).trans (g.2.2.2 x)⟩
theorem St.Eqv.put {s s' : St} (h : s.Eqv s') (x : Option Tmp) (d : D) : (s.put x d).Eqv (s'.put x d) := by
 cases x with
 | none => exact h
 | some x => exact ⟨h.1, h.2.1, h.2.2.1, fun y => by simp only [St.put, zaa, h.2.2.2 y]⟩
theorem Sim.eqv {k own s s' a w} (h : Sim k own s a w) (e : s.Eqv s') : Sim k own s' a w :=
 ⟨by rw [<- e.2.1]; exact h.sat, h.defers, by rw [<- e.1]; exact h.size, fun x d hx => by rw [<- e.1]; exact h.env x d (by rw [e.2.2.2 x]; exact hx), by rw [<- e.2.2.1]; exact h.hdr⟩
theorem zsP {P Γ} {Q : Exit -> St -> Prop} {kt : Kt} {id : Nat} {ops : List Oper} {T : Nat -> D} {s : St} (hm : P.follows .mixedOrders = true) (hord : zfx ops = true)
  (hval : ∀ i o, ops[i]? = some o -> zaI o.dst s /\ zs2 P ops.toArray (stF ops T s fun j => decide (j < i)) o (T i))
  (hfin : ∃ s', (stF ops T s fun _ => true).Eqv s' /\ zan P Γ Q kt .normal s') : V P Γ (.region id ops.toArray true) s (zan P Γ Q kt) := by
 intro K a w hin hs;refine wp_region_any hm ?_;have hin0 : In Γ K { w with drawn := w.drawn + 1 } := ⟨hin.le, hin.none0, hin.memNew, hin.fresh, hin.os, hin.tape, hin.output, hin.size, hin.block⟩;have hs0 : Sim K Γ.own s a { w with drawn := w.drawn + 1 } := ⟨⟨hs.sat.mem, fun i ob hi => by
   obtain ⟨h, h1, h2, h3⟩ := hs.sat.ob i ob hi;exact ⟨h, h1, h2, h3.keep (.refl _) fun b e => rfl⟩, hs.sat.apart⟩, hs.defers, hs.size, hs.env, hs.hdr⟩
 generalize ({ w with drawn := w.drawn + 1 } : World) = w0 at hin0 hs0;have key : ∀ (fuel : Nat) (listed : Array Bool) (K : Kr) (a : Act) (w : World), listed.size = ops.length -> (listed.toList.filter (! ·)).length <= fuel ->
   (∀ j y, ops[j]? = some y -> listed.getD j false = true -> ∀ p ∈ zbP y, listed.getD p false = true) -> In Γ K w -> Sim K Γ.own (stF ops T s fun j => listed.getD j false) a w ->
   wpAny P .any ops.toArray (VPost Γ (zan P Γ Q kt)) fuel listed a w := by
  have allDone : ∀ (listed : Array Bool) (K : Kr) (a : Act) (w : World), (∀ j, j < ops.length -> listed.getD j false = true) -> In Γ K w -> Sim K Γ.own (stF ops T s fun j => listed.getD j false) a w ->
    ∃ K' s', In Γ K' w /\ Sim K' Γ.own s' a w /\ zan P Γ Q kt .normal s' := fun listed K a w hall hin hs => by
   obtain ⟨s', he, hfin⟩ := hfin;refine ⟨K, _, hin, Sim.eqv ?_ he, hfin⟩;refine ⟨hs.sat, hs.defers, hs.size, fun x d hx => ?_, hs.hdr⟩;refine hs.env x d ?_;rw [<- hx];exact zbp T _ _ x ops 0 s.env s.env rfl fun j o hj _ => by
    have hl := (lGE.1 hj).1;simp [hall j hl]
  have least : ∀ (listed : Array Bool), listed.size = ops.length -> ∀ i, i < ops.length -> listed.getD i false = false -> ∃ i0, i0 ∈ Region.ready .any ops.toArray listed := fun listed hsz i hi hu => by
   induction i using Nat.strongRecOn with
   | _ i ih =>
    have ho : ops[i]? = some ops[i] := List.getElem?_eq_getElem hi;by_cases hp : ∀ p ∈ zbP ops[i], listed.getD p false = true
    ·refine ⟨i, mem_ready.2 ⟨?_, ops[i], by simp, fun e he hb => hp e.on ?_⟩⟩
     ·have hi' : i < listed.size := by omega
      simp [hi'] at hu ⊢;exact hu
     ·simp only [zbP, List.mem_map, List.mem_filter];exact ⟨e, ⟨by simpa using he, hb⟩, rfl⟩
    ·simp only [Classical.not_forall] at hp;obtain ⟨p, hpm, hpu⟩ := hp;have hlt := (zcA hord ho).1 p hpm;exact ih p hlt (by omega) (by simpa using hpu)
  intro fuel
  induction fuel with
  | zero =>
   intro listed K a w hsz hcnt hcl hin hs;have hall : ∀ j, j < ops.length -> listed.getD j false = true := fun j hj => by
    have hj' : j < listed.size := by omega
    have h0 : (listed.toList.filter (! ·)) = [] := List.eq_nil_of_length_eq_zero (by omega);have := (List.filter_eq_nil_iff.1 h0) listed[j] (by simp);simp only [Bool.not_eq_true', Bool.not_eq_false] at this;simp [hj', this]
   refine ⟨?_, .inl (allDone listed K a w hall hin hs)⟩;refine List.eq_nil_iff_forall_not_mem.2 fun i hi => ?_;obtain ⟨h1, o, ho, _⟩ := mem_ready.1 hi;have hl : i < ops.length := by
    have := (Array.getElem?_eq_some_iff.1 ho).1;simpa using this
   have := hall i hl;have hi' : i < listed.size := by omega
   simp [hi'] at h1 this;rw [h1] at this;cases this
  | succ fuel ih =>
   intro listed K a w hsz hcnt hcl hin hs;refine ⟨fun hnil => .inl (allDone listed K a w (fun j hj => ?_) hin hs), fun i hi => ?_⟩
   ·cases hu : listed.getD j false with
    | true => rfl
    | false =>
     obtain ⟨i0, h0⟩ := least listed hsz j hj hu;rw [hnil] at h0;cases h0
   ·obtain ⟨hun, o, ho, hall⟩ := mem_ready.1 hi;have ho' : ops[i]? = some o := by simpa using ho
    have hil := (lGE.1 ho').1;have hil' : i < listed.size := by omega
    have hunf : listed.getD i false = false := by simp [hil'] at hun ⊢; exact hun
    have hpred : ∀ p ∈ zbP o, listed.getD p false = true := fun p hp => by
     simp only [zbP, List.mem_map, List.mem_filter] at hp;obtain ⟨e, ⟨he, hb⟩, rfl⟩ := hp;exact hall e (by simpa using he) hb
    obtain ⟨hpo, hv⟩ := hval i o ho'
    -- who writes a slot that this operation looks at, or writes
    have before : ∀ j x, ops[j]? = some x -> j < i -> zcW ops.toArray x o = true \/ zcW ops.toArray o x = true -> listed.getD j false = true := fun j x hj hlt hmm =>
     zcO hcl _ j i o ho' hpred ((zcA hord ho').2.2 j x hlt hj hmm)
    have behind : ∀ j x, ops[j]? = some x -> i < j -> zcW ops.toArray x o = true \/ zcW ops.toArray o x = true -> listed.getD j false = false := fun j x hj hlt hmm => by
     cases hu : listed.getD j false with
     | false => rfl
     | true =>
      have := zcO hcl _ i j x hj (hcl j x hj hu) ((zcA hord hj).2.2 i o hlt ho' hmm.symm);rw [hunf] at this;cases this
    have agree : ∀ t, t ∈ o.looksAt ops.toArray -> getK (zdj T (fun j => listed.getD j false) ops 0 s.env) t = getK (zdj T (fun j => decide (j < i)) ops 0 s.env) t := fun t ht => by
     refine zbp T _ _ t ops 0 s.env s.env rfl fun j x hj hx => ?_;simp only [Nat.zero_add];have hmm : zcW ops.toArray x o = true := by simp [zcW, hx, ht]
     rcases Nat.lt_trichotomy j i with h | h | h
     ·rw [before j x hj h (.inl hmm)]; simp [h]
     ·subst h; rw [hunf]; simp
     ·rw [behind j x hj h (.inl hmm)]; simp; omega
    have hopd : ∀ x ∈ o.op.operands, opd (stF ops T s fun j => decide (j < i)) x = opd (stF ops T s fun j => listed.getD j false) x := fun x hx => by
     cases x with
     | tmp t =>
      simp only [opd, St.at, stF];rw [agree t (List.mem_append_left _ (List.mem_filterMap.2 ⟨.tmp t, by simpa using hx, rfl⟩))]
     | _ => rfl
    have next : ∀ K' v w', In Γ K' w' -> K.le K' -> K'.hdr = K.hdr -> Sat K' Γ.own s.obs w' -> Rep K' (T i) v ->
      wpAny P .any ops.toArray (VPost Γ (zan P Γ Q kt)) fuel (listed.setIfInBounds i true) (a.put o.dst v) w' := fun K' v w' h1 h2 h3 h4 h5 => by
     have hS : (fun j => (listed.setIfInBounds i true).getD j false) = fun j => listed.getD j false || j == i := funext fun j => by
      by_cases hji : j = i
      ·subst hji; simp [hil']
      ·simp [Array.getElem?_setIfInBounds_ne (Ne.symm hji), hji]
     refine ih (listed.setIfInBounds i true) K' (a.put o.dst v) w' (by simp [hsz]) ?_ (fun j y hj hSj p hp => ?_) h1 ?_
     ·have cnt : ∀ (l : List Bool) (n : Nat), l[n]? = some false -> ((l.set n true).filter (! ·)).length + 1 = (l.filter (! ·)).length := by
       intro l
       induction l with
       | nil => intro n h; simp at h
       | cons b l ih =>
               intro n h;cases n with
               | zero => simp at h; subst h; simp
               | succ n =>
                have := ih n (by simpa using h);cases b <;> simp at this ⊢ <;> omega
      have := cnt listed.toList i (by
       rw [Array.getElem?_toList, Array.getElem?_eq_getElem hil'];simp [hil'] at hunf;rw [hunf])
      rw [Array.toList_setIfInBounds];omega
     ·have hS' : ∀ j, (listed.setIfInBounds i true).getD j false = (listed.getD j false || j == i) := fun j => congrFun hS j;rw [hS'] at hSj ⊢;simp only [Bool.or_eq_true, beq_iff_eq] at hSj ⊢;rcases hSj with hSj | rfl
      ·exact .inl (hcl j y hj hSj p hp)
      ·rw [ho'] at hj;cases hj;exact .inl (hpred p hp)
     ·rw [hS];have hdef : (a.put o.dst v).defers = Γ.own.dfr := by cases o.dst <;> exact hs.defers
      have hsize : (a.put o.dst v).tmps.size = s.n := by
       have hsz2 : a.tmps.size = s.n := hs.size;cases o.dst <;> simp [Act.put, hsz2]
      refine ⟨h4, hdef, hsize, fun x d hx => ?_, fun j hj => by rw [h3]; exact hs.hdr j hj⟩;simp only [stF] at hx;by_cases hdx : o.dst = some x
      ·rw [zf4 T _ i x ops 0 s.env i o ho' (by omega) hdx (fun j o' hj hlt hd' => by
               rw [Nat.zero_add];exact behind j o' hj hlt (.inl (by simp [zcW, hd', hdx])))] at hx
       cases hx;have hlt : x < s.n := by rw [hdx] at hpo; exact hpo
       refine ⟨hlt, ?_⟩;have hsz' : a.tmps.size = s.n := hs.size;rw [hdx];simpa [Act.put, hsz', hlt] using h5
      ·rw [zbp T _ (fun j => listed.getD j false) x ops 0 s.env s.env rfl (fun j o' hj hd' => by
               simp only [Nat.zero_add];have : j ≠ i := fun e => by subst e; rw [ho'] at hj; cases hj; exact hdx hd'
               simp [this])] at hx
       obtain ⟨g1, g2⟩ := hs.env x d hx;refine ⟨g1, ?_⟩
       have e : (a.put o.dst v).tmps.getD x undef = a.tmps.getD x undef := by
               cases hd : o.dst with
               | none => rfl
               | some y =>
                have hne : y ≠ x := fun e => hdx (by rw [hd, e]);simp [Act.put, Array.getElem?_setIfInBounds_ne hne]
       rw [e];exact g2.mono h2
    unfold wpOp;rw [ho];simp only;unfold zs2 at hv;split at hv
    ·rename_i hg;have hw : Region.wanted o (yielded ops.toArray a.tmps) = true := by simp [Region.wanted, hg]
     rw [if_pos hw];rw [zdl (s := stF ops T s fun j => decide (j < i)) (s' := stF ops T s fun j => listed.getD j false) rfl hopd] at hv;exact .inl (zfM hv hin hs fun K' v w' h1 h2 h3 h4 h5 => next K' v w' h1 h2 h3 h4 h5)
    ·rename_i j want hg;obtain ⟨t, ht, hv⟩ := hv;have lift : ∀ dd, getK (stF ops T s fun j => decide (j < i)).env t = some dd -> getK (stF ops T s fun j => listed.getD j false).env t = some dd := fun dd hb => by
      simp only [stF] at hb ⊢;rw [agree t (by
       refine List.mem_append_right _ ?_;unfold zaN at ht;simp only [hg];rw [ht];simp)]
      exact hb
     rcases hv with ⟨b, hb, hv⟩ | ⟨hb, hv⟩
     ·have hb' := lift _ hb;obtain ⟨hlt, hr⟩ := hs.getK hb';have hbv := zcK hr;have hyd : yielded ops.toArray a.tmps j = some b := by
       unfold yielded;unfold zaN at ht;rw [ht];simp only [Option.bind_some]
       have : a.tmps[t]? = some (.bool b) := by
               rw [Array.getElem?_eq_getElem hlt];simp [hlt] at hbv;rw [hbv]
       rw [this]
      by_cases hbw : b = want
      ·rw [if_pos hbw] at hv;have hw : Region.wanted o (yielded ops.toArray a.tmps) = true := by simp [Region.wanted, hg, hyd, hbw]
       rw [if_pos hw];rw [zdl (s := stF ops T s fun j => decide (j < i)) (s' := stF ops T s fun j => listed.getD j false) rfl hopd] at hv;exact .inl (zfM hv hin hs fun K' v w' h1 h2 h3 h4 h5 => next K' v w' h1 h2 h3 h4 h5)
      ·rw [if_neg hbw] at hv;have hw : Region.wanted o (yielded ops.toArray a.tmps) = false := by simp [Region.wanted, hg, hyd, hbw]
       rw [if_neg (by rw [hw]; simp)];exact next K undef w hin (.refl _) rfl hs.sat (by rw [hv]; exact .u _ _ (.oth _))
     ·have hb' := lift _ hb;obtain ⟨hlt, hr⟩ := hs.getK hb';have hbv := zdc hr;have hyd : yielded ops.toArray a.tmps j = none := by
       unfold yielded;unfold zaN at ht;rw [ht];simp only [Option.bind_some]
       have : a.tmps[t]? = some undef := by
               rw [Array.getElem?_eq_getElem hlt];simp [hlt] at hbv;rw [hbv]
       rw [this]
       try rfl
      have hw : Region.wanted o (yielded ops.toArray a.tmps) = false := by simp [Region.wanted, hg, hyd]
      rw [if_neg (by rw [hw]; simp)];exact next K undef w hin (.refl _) rfl hs.sat (by rw [hv]; exact .u _ _ (.oth _))
 have h0 : (fun j => (Array.replicate ops.toArray.size false).getD j false) = fun _ => false := funext fun j => by
  by_cases hj : j < ops.length <;> simp [hj]
 refine key _ _ K a w0 (by simp) (by simp) (fun j y hj hS => ?_) hin0 ?_
 ·have : (Array.replicate ops.toArray.size false).getD j false = false := congrFun h0 j;rw [this] at hS;cases hS
 ·rw [h0];have none : ∀ (l : List Oper) (i : Nat) (e : List (Nat × D)), zdj T (fun _ => false) l i e = e := by
   intro l
   induction l with
   | nil => intro i e; rfl
   | cons o l ih => intro i e; simp [zdj, ih]
  have : stF ops T s (fun _ => false) = s := by simp [stF, none]
  rw [this];exact hs0
def zup (P : Program) (s : St) (o : O1) (d : D) : Prop :=
 match o.guard with
 | none => valD P s o.op (· = d)
 | some (t, want) => (∃ b, getK s.env t = some (.u (.bool b)) /\ if b = want then valD P s o.op (· = d) else d = .un) \/ (getK s.env t = some .un /\ d = .un)
def chain (P : Program) : List O1 -> St -> (St -> Prop) -> Prop
 | [], s, k => k s
 | o :: rest, s, k => ∃ d, zaI o.dst s /\ zup P s o d /\ chain P rest (s.put o.dst d) k
def HD (P : Program) (l : List O1) (s : St) (k : St -> Prop) : Prop := ∀ s0 : St, s0.Eqv s -> chain P l s0 fun s1 => ∃ s', s1.Eqv s' /\ k s'
theorem znT {s s' : St} (h : s.Eqv s') (x : Operand) : opd s x = opd s' x := by
 cases x with
 | tmp t => simp only [opd, St.at, h.2.2.2 t]
 | _ => rfl
theorem zcR {P s k} (h : k s) : HD P [] s k := fun s0 e => ⟨s, e, h⟩
theorem zb6 {P s dst op rest k} (h : valD P s op fun d => zaI dst s /\ HD P rest (s.put dst d) k) : HD P (⟨dst, op, none⟩ :: rest) s k := fun s0 e => by
 obtain ⟨d, hv, hp, hr⟩ := Lin.valD.2 _ h;refine ⟨d, by cases dst <;> simp_all [zaI, e.1], ?_, hr _ (e.put dst d)⟩;show valD P s0 op (· = d);rw [zdl e.2.1 (fun x _ => znT e x)];exact hv
theorem zd4 {P s dst op rest k t want b} (hb : getK s.env t = some (.u (.bool b))) (hp : zaI dst s)
  (hy : b = want -> valD P (s.put (some t) (.u (.bool want))) op fun d => HD P rest ((s.put (some t) (.u (.bool want))).put dst d) k)
  (hn : b = !want -> HD P rest ((s.put (some t) (.u (.bool (!want)))).put dst .un) k) : HD P (⟨dst, op, some (t, want)⟩ :: rest) s k := fun s0 e => by
 have lit : ∀ b', b = b' -> s.Eqv (s.put (some t) (.u (.bool b'))) := fun b' e' => ⟨rfl, rfl, rfl, fun x => by
  subst e';simp only [St.put, zaa];split
  ·rename_i hx; rw [hx, hb]
  ·rfl⟩
 have hp0 : zaI dst s0 := by cases dst <;> simp_all [zaI, e.1]
 by_cases hw : b = want
 ·have e1 := e.trans (lit want hw);obtain ⟨d, hv, hr⟩ := Lin.valD.2 _ (hy hw);refine ⟨d, hp0, .inl ⟨b, by rw [e.2.2.2 t]; exact hb, ?_⟩, hr _ (e1.put dst d)⟩;rw [if_pos hw];rw [zdl e1.2.1 (fun x _ => znT e1 x)];exact hv
 ·have hw' : b = !want := by cases b <;> cases want <;> simp_all
  have e1 := e.trans (lit _ hw');exact ⟨.un, hp0, .inl ⟨b, by rw [e.2.2.2 t]; exact hb, by rw [if_neg hw]⟩, hn hw' _ (e1.put dst .un)⟩
theorem zpg {P s dst op rest k t want} (hb : getK s.env t = some .un) (hp : zaI dst s) (hn : HD P rest (s.put dst .un) k) : HD P (⟨dst, op, some (t, want)⟩ :: rest) s k := fun s0 e =>
 ⟨.un, by cases dst <;> simp_all [zaI, e.1], .inr ⟨by rw [e.2.2.2 t]; exact hb, rfl⟩, hn _ (e.put dst .un)⟩
theorem ze5 (T : Nat -> D) (i : Nat) : ∀ (l : List Oper) (i0 : Nat) (e : List (Nat × D)) (o : Oper), i0 <= i -> l[i - i0]? = some o ->
  zdj T (fun j => decide (j < i + 1)) l i0 e = match o.dst with | some x => (x, T i) :: zdj T (fun j => decide (j < i)) l i0 e | none => zdj T (fun j => decide (j < i)) l i0 e
 | [], i0, e, o, _, h => by simp at h
 | p :: l, i0, e, o, hi, h => by
  have stop : ∀ (l : List Oper) (m i0 : Nat) (e : List (Nat × D)), m <= i0 -> zdj T (fun j => decide (j < m)) l i0 e = e := by
   intro l
   induction l with
   | nil => intro m i0 e _; rfl
   | cons q l ih =>
    intro m i0 e hm;simp only [zdj];rw [if_neg (by simp; omega)];exact ih m (i0 + 1) e (by omega)
  by_cases he : i0 = i
  ·subst he;simp at h;subst h;simp only [zdj];rw [stop l (i0 + 1) (i0 + 1) _ (by omega), stop l i0 (i0 + 1) _ (by omega)];simp
  ·simp only [zdj];have h1 : decide (i0 < i + 1) = true := by simp; omega
   have h2 : decide (i0 < i) = true := by simp; omega
   rw [if_pos h1, if_pos h2];have : i - i0 = (i - (i0 + 1)) + 1 := by omega
   rw [this, List.getElem?_cons_succ] at h;exact ze5 T i l (i0 + 1) _ o (by omega) h
theorem zoU {P : Program} {all : Array Oper} {s0 : St} {ops : List Oper} {k : St -> Prop} : ∀ (l : List O1) (tail : List Oper) (i : Nat) (T : Nat -> D), zbm all tail = some l -> (∀ j, tail[j]? = ops[i + j]?) ->
  chain P l (stF ops T s0 fun j => decide (j < i)) k -> ∃ T', (∀ j, j < i -> T' j = T j) /\ (∀ j o, i <= j -> ops[j]? = some o -> zaI o.dst s0 /\ zs2 P all (stF ops T' s0 fun q => decide (q < j)) o (T' j)) /\
   k (stF ops T' s0 fun j => decide (j < i + tail.length))
 | [], tail, i, T, hs, ht, h => by
  cases tail with
  | nil => exact ⟨T, fun _ _ => rfl, fun j o hj ho => by have := ht (j - i); rw [show i + (j - i) = j by omega, ho] at this; simp at this, by simpa [chain] using h⟩
  | cons x l => simp only [zbm] at hs; split at hs <;> simp at hs
 | o1 :: l, tail, i, T, hs, ht, h => by
  obtain ⟨x, tl, rfl, hx, hr⟩ := zdM hs;obtain ⟨d, hp, hv, hc⟩ := h;have hxi : ops[i]? = some x := by have := ht 0; simpa using this.symm
  have hdst : o1.dst = x.dst := by
   unfold zcS at hx;split at hx
   ·simp at hx; subst hx; rfl
   ·split at hx
    ·simp at hx; subst hx; rfl
    ·cases hx
  -- the table with one entry more
  let T1 : Nat -> D := fun j => if j = i then d else T j
  have hT1 : ∀ (S : Nat -> Bool), S i = false -> stF ops T1 s0 S = stF ops T s0 S := fun S hS => by
   have e : ∀ (l : List Oper) (i0 : Nat) (e : List (Nat × D)), zdj T1 S l i0 e = zdj T S l i0 e := by
    intro l
    induction l with
    | nil => intro i0 e; rfl
    | cons q l ih =>
     intro i0 e;simp only [zdj];by_cases hh : i0 = i
     ·subst hh; simp [hS, ih]
     ·have : T1 i0 = T i0 := by simp [T1, hh]
      rw [this, ih]
   simp only [stF, e]
  have hi : T1 i = d := by simp [T1]
  have zcf : (stF ops T s0 fun j => decide (j < i)).put o1.dst d = stF ops T1 s0 fun j => decide (j < i + 1) := by
   rw [<- hT1 _ (by simp), hdst];simp only [stF];rw [ze5 T1 i ops 0 s0.env x (Nat.zero_le _) (by simpa using hxi)];cases x.dst with
   | none => rfl
   | some y => simp [St.put, hi]
  rw [zcf] at hc;obtain ⟨T', h1, h2, h3⟩ := zoU l tl (i + 1) T1 hr (fun j => by have := ht (j + 1); rw [show i + 1 + j = i + (j + 1) by omega, <- this]; simp) hc;have hT' : ∀ j, j <= i -> stF ops T' s0 (fun q => decide (q < j)) = stF ops T s0 (fun q => decide (q < j)) := fun j hj => by
   have e : ∀ (l : List Oper) (i0 : Nat) (e : List (Nat × D)), zdj T' (fun q => decide (q < j)) l i0 e = zdj T (fun q => decide (q < j)) l i0 e := by
    intro l
    induction l with
    | nil => intro i0 e; rfl
    | cons q l ih =>
     intro i0 e;simp only [zdj];by_cases hh : i0 < j
     ·have : T' i0 = T i0 := by rw [h1 i0 (by omega)]; simp only [T1]; rw [if_neg (by omega)]
      rw [this, ih]
     ·have hf : ¬ (decide (i0 < j) = true) := by simpa using hh
      rw [if_neg hf, if_neg hf, ih]
   simp only [stF, e]
  refine ⟨T', fun j hj => by rw [h1 j (by omega)]; simp only [T1]; rw [if_neg (by omega)], fun j o hj ho => ?_, ?_⟩
  ·rcases Nat.lt_or_ge i j with h' | h'
   ·exact h2 j o h' ho
   ·obtain rfl : i = j := by omega
    rw [hxi] at ho;cases ho;have hTi : T' i = d := by rw [h1 i (by omega), hi]
    rw [hT' i (Nat.le_refl _), hTi];refine ⟨by rw [hdst] at hp; cases hd : x.dst <;> simp_all [zaI, stF], ?_⟩;unfold zcS at hx;unfold zs2;unfold zup at hv;split at hx
    ·rename_i hg;simp at hx;subst hx
     try rw [hg]
     exact hv
    ·rename_i q want hg;split at hx
     ·rename_i t ht';simp at hx;subst hx
      try rw [hg]
      exact ⟨t, ht', hv⟩
     ·cases hx
  ·rw [show i + (x :: tl).length = i + 1 + tl.length by simp; omega];exact h3
theorem zrV {P Γ s} {Q : Exit -> St -> Prop} {kt : Kt} {id : Nat} {l : List Oper} (hm : P.follows .mixedOrders = true) (hord : zfx l = true)
  (h : ∀ k : St -> Prop, (∀ s', zan P Γ Q kt .normal s' -> k s') -> match zbm l.toArray l with | some l' => HD P l' s k | none => False) : V P Γ (.region id l.toArray true) s (zan P Γ Q kt) := by
 have := h _ fun _ h => h;split at this
 ·rename_i l' hl;have h0 : stF l (fun _ => .any) s (fun j => decide (j < 0)) = s := by
   have hnone : ∀ (l : List Oper) (i : Nat) (e : List (Nat × D)), zdj (fun _ => D.any) (fun j => decide (j < 0)) l i e = e := by
    intro l
    induction l with
    | nil => intro i e; rfl
    | cons o l ih => intro i e; exact ih (i + 1) e
   simp only [stF, hnone]
  have hc := this s (.refl s);rw [<- h0] at hc;obtain ⟨T, _, h2, s', h3, h4⟩ := zoU l' l 0 _ hl (fun j => by rw [Nat.zero_add]) hc;refine zsP (T := T) hm hord (fun i o ho => h2 i o (Nat.zero_le _) ho) ⟨s', ?_, h4⟩;have e1 : (stF l T s fun _ => true).Eqv (stF l T s fun j => decide (j < 0 + l.length)) := ⟨rfl, rfl, rfl, fun x => ?_⟩
  ·exact e1.trans h3
  exact zbp T _ _ x l 0 s.env s.env rfl fun j o hj _ => by
   have := (lGE.1 hj).1;simp [this]
 ·exact this.elim
end Go.VL
namespace Go.VL
open Go
theorem Fun.of_body {P f fn c ds post} (hf : P.funcs[f]? = some fn) (hb : fn.body = some c) (hn : ds.length <= fn.ntmps)
  (h : ∀ Γ : Ctx, Γ.n0 = 0 -> V P Γ c (entry ds fn.ntmps [] 0) (zan P Γ (EndOK P fn 0 fun d _ _ => zas d = true /\ post d) .done)) : Fun P f ds post := Ret.of_body hf hb hn h
theorem Fun.mono {P f ds} {p q : D -> Prop} (h : Fun P f ds p) (hq : ∀ d, p d -> q d) : Fun P f ds q := fun k own w vs h1 h2 h3 h4 =>
 Calls.mono (h k own w vs h1 h2 h3 h4) fun _ _ ⟨v, d, o, n, k', e, a, b, c, g, r, hp, hpost⟩ => ⟨v, d, o, n, k', e, a, b, c, g, r, hp, hq d hpost⟩
end Go.VL
namespace Go.VL
open Go
end Go.VL
namespace Go.VL
open Go
def D.ids : D -> List Nat
 | .ptr i _ => [i]
 | .vec i _ => [i]
 | .elt i _ _ _ => [i]
 | .mp i => [i]
 | _ => []
def zcC : Op -> Bool
 | .move _ | .assign _ | .pick .. | .binOp .. | .unOp .. | .convert .. | .fieldAddr .. | .field .. | .extract .. | .nilCheck .. | .makeFunc .. | .build .. | .index .. => true
 | .call c => match c.callee with | .builtin .min => true | .builtin .max => true | _ => false
 | _ => false
def zbG (s : St) (f : Operand) (args : List Operand) : List Nat :=
 match zaz (opd s f) with
 | some (_, caps) => match zcb s (args.map (opd s) ++ caps) with
  | some (_, l) => l
  | none => []
 | none => []
def zb0 : Op -> Option (Operand × List Operand)
 | .call c => match c.callee with | .value f => some (f, c.args.toList) | _ => none
 | _ => none
def zbq (s : St) (op : Op) : List Nat :=
 match zb0 op with
 | some (f, args) => zbG s f args
 | none => if zcC op then [] else op.operands.toList.flatMap fun x => (opd s x).ids
section
variable {P : Program} {s s' : St}
theorem zn9 (t : TypeId) (x : D) (r : D -> Prop) (h : ∀ i ∈ x.ids, getK s.obs i = getK s'.obs i) : loadD P s t x r = loadD P s' t x r := by
 unfold loadD;cases x <;> simp only [D.ids, List.mem_singleton, forall_eq] at h ⊢ <;> (try first | rfl | rw [h] | (rename_i y; cases y <;> first | rfl | (rename_i v; cases v <;> first | rfl | (rename_i a n c; cases n <;> rfl)) | (split <;> rfl)))
theorem zh4 (t : TypeId) (x i : D) (r : D -> Prop) (h : ∀ i ∈ x.ids, getK s.obs i = getK s'.obs i) : indexAddrD P s t x i r = indexAddrD P s' t x i r := by
 unfold indexAddrD;cases x <;> simp only [D.ids, List.mem_singleton, forall_eq] at h ⊢ <;> (try first | rfl | rw [h] | (rename_i y; cases y <;> first | rfl | (rename_i v; cases v <;> first | rfl | (rename_i a n c; cases n <;> rfl)) | (split <;> rfl)))
theorem zmm (t : TypeId) (x : D) (a b : Option D) (r : D -> Prop) (h : ∀ i ∈ x.ids, getK s.obs i = getK s'.obs i) : sliceD P s t x a b r = sliceD P s' t x a b r := by
 unfold sliceD;cases x <;> simp only [D.ids, List.mem_singleton, forall_eq] at h ⊢ <;> (try first | rfl | rw [h] | (rename_i y; cases y <;> first | rfl | (rename_i v; cases v <;> first | rfl | (rename_i a n c; cases n <;> rfl)) | (split <;> rfl)))
theorem zpQ (t : TypeId) (x : D) (r : D -> Prop) (h : ∀ i ∈ x.ids, getK s.obs i = getK s'.obs i) : lenD P s t x r = lenD P s' t x r := by
 unfold lenD;cases x <;> simp only [D.ids, List.mem_singleton, forall_eq] at h ⊢ <;> (try first | rfl | rw [h] | (rename_i y; cases y <;> first | rfl | (rename_i v; cases v <;> first | rfl | (rename_i a n c; cases n <;> rfl)) | (split <;> rfl)))
theorem zn8 (t : TypeId) (x i : D) (ok : Bool) (r : D -> Prop) (h : ∀ i ∈ x.ids, getK s.obs i = getK s'.obs i) : lookD P s t x i ok r = lookD P s' t x i ok r := by
 unfold lookD;cases zdz P t with
 | none => rfl
 | some q =>
  obtain ⟨kk, ag, z⟩ := q;cases x <;> first | rfl | (simp only [D.ids, List.mem_singleton, forall_eq] at h; cases i <;> first | rfl | (simp only [h])) | (rename_i y; cases y <;> rfl) | (rename_i y; cases y <;> cases i <;> rfl)
theorem rowsOf_loc (x : D) (h : ∀ i ∈ x.ids, getK s.obs i = getK s'.obs i) : rowsOf s x = rowsOf s' x := by
 unfold rowsOf;cases x <;> simp only [D.ids, List.mem_singleton, forall_eq] at h ⊢ <;> (try first | rfl | rw [h] | (rename_i y; cases y <;> first | rfl | (rename_i v; cases v <;> first | rfl | (rename_i a n c; cases n <;> rfl)) | (split <;> rfl)))
theorem zsr {op : Op} {x : Operand} (hc : zb0 op = none) (hf : zcC op = false) (hx : x ∈ op.operands) {i} (hi : i ∈ (opd s x).ids) : i ∈ zbq s op := by
 unfold zbq;rw [hc, hf];exact List.mem_flatMap.2 ⟨x, by simpa using hx, hi⟩
theorem ziJ {op : Op} {r : D -> Prop} (h : ∀ i ∈ zbq s op, getK s.obs i = getK s'.obs i) (hx : ∀ x ∈ op.operands, opd s x = opd s' x) (hc : zb0 op = none) : evPure P s op r = evPure P s' op r := by
 have hl : zcC op = false -> ∀ x ∈ op.operands, ∀ i ∈ (opd s x).ids, getK s.obs i = getK s'.obs i := fun hf x hm i hi => h i (zsr hc hf hm hi);clear hc;clear h;cases op <;> simp only [Op.operands] at hx hl <;> unfold evPure <;> (try simp only)
 case move x => rw [hx x (by simp)]
 case assign x => rw [hx x (by simp)]
 case pick c a b => rw [hx c (by simp), hx a (by simp), hx b (by simp)]
 case load t x => rw [zn9 t _ r (hl rfl x (by simp)), hx x (by simp)]
 case binOp op t x y _ => rw [hx x (by simp), hx y (by simp)]
 case unOp op _ x => rw [hx x (by simp)]
 case convert a b x => rw [hx x (by simp)]
 case fieldAddr t x f => rw [hx x (by simp)]
 case field t x f => rw [hx x (by simp)]
 case indexAddr t x i => rw [zh4 t _ _ r (hl rfl x (by simp)), hx x (by simp), hx i (by simp)]
 case index t x i => rw [hx x (by simp), hx i (by simp)]
 case lookup t x i ok => rw [zn8 t _ _ ok r (hl rfl x (by simp)), hx x (by simp), hx i (by simp)]
 case slice t x lo hi mx =>
  have e1 : lo.map (opd s) = lo.map (opd s') := by cases lo <;> simp_all
  have e2 : hi.map (opd s) = hi.map (opd s') := by cases hi <;> simp_all
  cases mx with
  | none => simp only; rw [zmm t _ _ _ r (hl rfl x (by simp)), hx x (by simp), e1, e2]
  | some m => rfl
 case extract x i => rw [hx x (by simp)]
 case nilCheck x => rw [hx x (by simp)]
 case makeInterface t x => rw [hx x (by simp)]
 case typeAssert x xt t ok => rw [hx x (by simp)]
 case makeFunc f first caps =>
  have e : caps.toList.map (opd s) = caps.toList.map (opd s') := List.map_congr_left fun x hm => hx x (by simp; exact .inr (by simpa using hm));have e2 : first.toList.map (opd s) = first.toList.map (opd s') := List.map_congr_left fun x hm => hx x (by simp; exact .inl (by simpa using hm))
  rw [e, e2]
 case build t parts =>
  have e : (parts.toList.map fun p => (p.1, opd s p.2)) = (parts.toList.map fun p => (p.1, opd s' p.2)) := List.map_congr_left fun p hm => by
   rw [hx p.2 (by simp; exact ⟨p.1, by simpa using hm⟩)]
  rw [e]
 case call c =>
  obtain ⟨callee, args, ts⟩ := c;cases callee with
  | value f => rfl
  | invoke r m => rfl
  | builtin b =>
   have e : args.toList.map (opd s) = args.toList.map (opd s') := List.map_congr_left fun x hm => hx x (by simp [Call.operands]; simpa using hm);cases b <;> simp only <;> try rfl
   case len =>
    obtain ⟨args⟩ := args;obtain ⟨ts⟩ := ts
    match args, ts with
    | [x], [t] => simp only; rw [zpQ t _ r (hl rfl x (by simp [Call.operands])), hx x (by simp [Call.operands])]
    | [], _ => rfl
    | _ :: _ :: _, _ => rfl
    | [_], [] => rfl
    | [_], _ :: _ :: _ => rfl
   case min => rw [e]
   case max => rw [e]
theorem zfN {op : Op} {r : D -> Prop} (h : ∀ i ∈ zbq s op, getK s.obs i = getK s'.obs i) (hx : ∀ x ∈ op.operands, opd s x = opd s' x) (hv : valD P s op r) : valD P s' op r := by
 unfold valD at hv ⊢;split at hv
 ·rename_i c;obtain ⟨callee, args, ts⟩ := c;simp only at hv ⊢;split at hv
  ·rename_i f;have e : args.toList.map (opd s) = args.toList.map (opd s') := List.map_congr_left fun x hm => hx x (by simp [Op.operands, Call.operands]; exact .inr (by simpa using hm));have ef : opd s f = opd s' f := hx f (by simp [Op.operands, Call.operands]);obtain ⟨d, ⟨g, caps, ds, L, h1, h2, h3, h4⟩, hr⟩ := hv;have hL : ∀ i ∈ L, getK s.obs i = getK s'.obs i := fun i hi => h i (by
    show i ∈ zbG s f args.toList;unfold zbG;simp only [h1, h3];exact hi)
   refine ⟨d, ⟨g, caps, ds, L, by rw [<- ef]; exact h1, h2, ?_, h4⟩, hr⟩;rw [<- e];exact zf8 h3 hL
  ·rename_i hcal;rw [<- ziJ (s := s) h hx ?_]
   ·exact hv
   ·cases callee <;> first | rfl | exact absurd rfl (hcal _)
 ·rename_i hcal;rw [<- ziJ (s := s) h hx ?_]
  ·exact hv
  ·cases op <;> first | rfl | exact absurd rfl (hcal _)
end
end Go.VL
namespace Go.VL
open Go
abbrev Wr := List (Nat × Option Ob)
def zaY : Wr -> List (Nat × Ob) -> List (Nat × Ob)
 | [], o => o
 | (i, some ob) :: L, o => zcJ (zaY L o) i ob
 | (i, none) :: L, o => del (zaY L o) i
theorem zax : ∀ (L : Wr) (o : List (Nat × Ob)) (y : Nat), getK (zaY L o) y = match getK L y with | some x => x | none => getK o y
 | [], _, _ => rfl
 | (i, some ob) :: L, o, y => by
  simp only [zaY, zam, zaa];by_cases h : y = i
  ·simp [h]
  ·simp [h, zax L o y]
 | (i, none) :: L, o, y => by
  simp only [zaY, zac, zaa];by_cases h : y = i
  ·simp [h]
  ·simp [h, zax L o y]
inductive How where
 | ptr
 | vec (n : Nat)
 | mp
structure ERes where
 U : Wr
 nw : Option Ob
 how : How
def mkD : How -> Nat -> D
 | .ptr, x => .ptr x 0
 | .vec n, x => .vec x n
 | .mp, x => .mp x
def mapEff (P : Program) (s : St) (t : TypeId) (x i v : D) (ret : ERes -> Prop) : Prop :=
 match zdz P t, x, i with
 | some (kk, ag, _), .mp m, .u key => match getK s.obs m, zfX key, zfI ag v with
  | some (.map kk' ag' es), some key, some cells => kk = kk' /\ ag = ag' /\ key.kk = kk /\ ret ⟨[(m, some (.map kk ag (zdm es key cells)))], none, .ptr⟩
  | _, _, _ => False
 | _, _, _ => False
theorem Lin.mapEff {P s t x i v} : Lin (mapEff P s t x i v) := by
 unfold VL.mapEff;split
 ·split
  ·exact Lin.and (Lin.and (Lin.and (Lin.ret _)))
  ·exact Lin.zaR
 ·exact Lin.zaR
theorem zis {P : Program} {s : St} {t : TypeId} {x i v : D} {dst : Option Tmp} {F : St -> Prop} {k : ERes -> Prop} (h : mapEff P s t x i v fun e => zaI dst s /\ (e.nw = none -> dst = none) /\ k e) (hF : ∀ m ob, k ⟨[(m, some ob)], none, .ptr⟩ -> F { s with obs := zcJ s.obs m ob }) :
  dst = none /\ zbJ P t x i v s F := by
 unfold mapEff at h;unfold zbJ;split at h
 ·rename_i hinf;split at h
  ·rename_i hg hky hv;obtain ⟨h1, h2, h3, _, h4, h5⟩ := h;refine ⟨h4 rfl, ?_⟩;rw [hinf];simp only [hg, hky, hv];exact ⟨h1, h2, h3, hF _ _ h5⟩
  ·exact h.elim
 ·exact h.elim
theorem zit {P : Program} {s s' : St} (t : TypeId) (x i v : D) (r : ERes -> Prop) (h : ∀ i ∈ x.ids, getK s.obs i = getK s'.obs i) : mapEff P s t x i v r = mapEff P s' t x i v r := by
 unfold mapEff;cases zdz P t with
 | none => rfl
 | some q =>
  obtain ⟨kk, ag, z⟩ := q;cases x <;> first | rfl | (simp only [D.ids, List.mem_singleton, forall_eq] at h; cases i <;> first | rfl | (simp only [h]))
theorem zho {P : Program} {s : St} {t : TypeId} {x i v : D} {r r' : ERes -> Prop} (h : mapEff P s t x i v r) (hr : ∀ m kk ag es key cells, getK s.obs m = some (.map kk ag es) -> zfI ag v = some cells -> r ⟨[(m, some (.map kk ag (zdm es key cells)))], none, .ptr⟩ -> r' ⟨[(m, some (.map kk ag (zdm es key cells)))], none, .ptr⟩) : mapEff P s t x i v r' := by
 unfold mapEff at h ⊢;split at h
 ·split at h
  ·rename_i hg hky hv;obtain ⟨rfl, rfl, h3, h4⟩ := h;exact ⟨rfl, rfl, h3, hr _ _ _ _ _ _ hg hv h4⟩
  ·exact h.elim
 ·exact h.elim
def effD (P : Program) (s : St) (op : Op) (ret : ERes -> Prop) : Prop :=
 match op with
 | .alloc t => match zet P t with
  | some z => ret ⟨[], some (.box (z.map fun v => .u (uOf v))), .ptr⟩
  | none => False
 | .box _ x => match zb3 (opd s x) with
  | some cs => zeX cs = true /\ ret ⟨[], some (.box cs), .ptr⟩
  | none => False
 | .store t a x => match zb3 (opd s x) with
  | some new => zeX new = true /\ tsz P t = some new.length /\ (match opd s a with
   | .ptr i off => match getK s.obs i with
    | some (.box cells) => off + new.length <= cells.length /\ ret ⟨[(i, some (.box (setAll cells off new)))], none, .ptr⟩
    | _ => False
   | .elt i sz idx off => match getK s.obs i with
    | some (.vec e sz' rows) => sz = sz' /\ ∃ r, rows[idx]? = some r /\ off + new.length <= r.length /\ ret ⟨[(i, some (.vec e sz' (rows.set idx (setAll r off new))))], none, .ptr⟩
    | _ => False
   | _ => False)
  | none => False
 | .buildSlice t n parts => match zd8 P t with
  | some (e, sz, _, z) => n * sz <= 16777216 /\ fillD ((List.range n).map fun i => (i * sz, sz)) (parts.toList.map fun p => (p.1, opd s p.2)) (zbL n sz z) fun cs =>
   zeX cs = true /\ ret ⟨[], some (.vec e sz (zbH n sz cs)), How.vec n⟩
  | none => False
 | .makeSlice t x y => match zd8 P t, opd s x, opd s y with
  | some (e, sz, bytes, z), .u (.int _ n), .u (.int _ c) => (0 <= n /\ n <= c) /\ c * (bytes : Int) <= 140737488355328 /\ c <= 9223372036854775807 /\
   ret ⟨[], some (.vec e sz (List.replicate n.toNat (z.map fun v => .u (uOf v)))), How.vec n.toNat⟩
  | _, _, _ => False
 | .call c => match c.callee with
  | .builtin .append => match c.args, c.argTypes with
   | ⟨[x, y]⟩, ⟨[t, t']⟩ => t = t' /\ (match zd8 P t, rowsOf s (opd s y) with
    | some (e, sz, bytes, _), some rs => zh2 sz rs ∧ zi9 rs ∧ (match opd s x with
          | .u .nil => rs.length * bytes <= 140737488355328 /\ rs.length <= 9223372036854775807 /\ ret ⟨[], some (.vec e sz rs), How.vec rs.length⟩
          | .vec i len => match getK s.obs i with
           | some (.vec e' sz' rows) => e = e' /\ sz = sz' /\ len <= rows.length /\ (len + rs.length) * bytes <= 140737488355328 /\ len + rs.length <= 9223372036854775807 /\
            ret ⟨[(i, none)], some (.vec e sz (rows.take len ++ rs)), How.vec (len + rs.length)⟩
           | _ => False
          | _ => False)
    | _, _ => False)
   | _, _ => False
  | _ => False
 | .makeMap t none => match zdz P t with
  | some (kk, ag, _) => ret ⟨[], some (.map kk ag []), .mp⟩
  | none => False
 | .mapUpdate t m i v => mapEff P s t (opd s m) (opd s i) (opd s v) ret
 | .insert t m i v => mapEff P s t (opd s m) (opd s i) (opd s v) ret
 | _ => False
def St.effS (s : St) (e : ERes) (dst : Option Tmp) : St :=
 match e.nw with
 | none => { s with obs := zaY e.U s.obs }
 | some ob => ({ s with obs := (s.next, ob) :: zaY e.U s.obs, next := s.next + 1 } : St).put dst (mkD e.how s.next)
theorem Lin.effD {P s op} : Lin (effD P s op) := by
 unfold VL.effD;split
 ·split
  ·exact Lin.ret _
  ·exact Lin.zaR
 ·split
  ·exact (Lin.ret _).and
  ·exact Lin.zaR
 ·split
  ·refine Lin.and (Lin.and ?_);split
   ·split
    ·exact (Lin.ret _).and
    ·exact Lin.zaR
   ·split
    ·exact Lin.and (Lin.ex fun _ => Lin.and (Lin.and (Lin.ret _)))
    ·exact Lin.zaR
   ·exact Lin.zaR
  ·exact Lin.zaR
 ·split
  ·exact Lin.and ⟨fun r r' hr h => Lin.fillD.1 _ _ (fun cs hcs => ⟨hcs.1, hr _ hcs.2⟩) h, fun r h => by
    obtain ⟨cs, h1, h2, h3⟩ := Lin.fillD.2 _ h;exact ⟨_, Lin.fillD.1 _ _ (fun cs' e => by subst e; exact ⟨h2, rfl⟩) h1, h3⟩⟩
  ·exact Lin.zaR
 ·split
  ·exact Lin.and (Lin.and (Lin.and (Lin.ret _)))
  ·exact Lin.zaR
 ·split
  ·split
   ·refine Lin.and ?_;split
    ·refine Lin.and (Lin.and ?_);split
     ·exact Lin.and (Lin.and (Lin.ret _))
     ·split
      ·exact Lin.and (Lin.and (Lin.and (Lin.and (Lin.and (Lin.ret _)))))
      ·exact Lin.zaR
     ·exact Lin.zaR
    ·exact Lin.zaR
   ·exact Lin.zaR
  ·exact Lin.zaR
 ·split
  ·exact Lin.ret _
  ·exact Lin.zaR
 ·exact Lin.mapEff
 ·exact Lin.mapEff
 ·exact Lin.zaR
theorem zgw {P Γ s op dst k} (h : effD P s op fun e => zaI dst s /\ (e.nw = none -> dst = none) /\ k (s.effS e dst)) : zcf P Γ dst op s k := by
 unfold effD at h;split at h
 ·simp only [zcf, zcD];split at h
  ·rename_i z hz;rw [hz];exact ⟨h.1, h.2.2⟩
  ·exact h.elim
 ·simp only [zcf, zg3];split at h
  ·rename_i z hz;rw [hz];exact ⟨h.1, h.2.1, h.2.2.2⟩
  ·exact h.elim
 ·simp only [zcf, zcy];split at h
  ·rename_i new hz;obtain ⟨h1, h2, h⟩ := h;rw [hz];split at h
   ·rename_i i off ha;split at h
    ·rename_i cells hg;refine ⟨h.2.2.1 rfl, h1, h2, ?_⟩;rw [ha];simp only [hg];exact ⟨h.1, h.2.2.2⟩
    ·exact h.elim
   ·rename_i i sz idx off ha;split at h
    ·rename_i e sz' rows hg;obtain ⟨g1, r, g2, g3, g4, g5, g6⟩ := h;refine ⟨g5 rfl, h1, h2, ?_⟩;rw [ha];simp only [hg];exact ⟨g1, r, g2, g3, g6⟩
    ·exact h.elim
   ·exact h.elim
  ·exact h.elim
 ·simp only [zcf, zaO];split at h
  ·rename_i e sz b z hz;rw [hz];exact ⟨h.1, Lin.fillD.1 _ _ (fun cs hc => ⟨hc.1, hc.2.1, hc.2.2.2⟩) h.2⟩
  ·exact h.elim
 ·simp only [zcf, zdJ];split at h
  ·rename_i e sz b z k1 n k2 c hz hx hy;rw [hz, hx, hy];exact ⟨h.1, h.2.1, h.2.2.1, h.2.2.2.1, h.2.2.2.2.2⟩
  ·exact h.elim
 ·rename_i c;obtain ⟨callee, args, ts⟩ := c;split at h
  ·rename_i hcal;simp only at hcal;subst hcal;simp only at h;split at h
   ·rename_i x y t t';obtain ⟨rfl, h⟩ := h;simp only [zcf, zbU];refine ⟨trivial, ?_⟩;split at h
    ·rename_i e sz b z rs hz hr;rw [hz, hr];obtain ⟨h1, h2, h⟩ := h;split at h
     ·rename_i hx;rw [hx];exact ⟨h1, h2, h.2.2.1, h.1, h.2.1, h.2.2.2.2⟩
     ·rename_i i len hx;rw [hx];split at h
      ·rename_i e' sz' rows hg;simp only [hg];obtain ⟨g1, g2, g3, g4, g5, g6, _, g7⟩ := h;exact ⟨h1, h2, g6, g1, g2, g3, g4, g5, g7⟩
      ·exact h.elim
     ·exact h.elim
    ·exact h.elim
   ·exact h.elim
  ·exact h.elim
 ·simp only [zcf, zbx];split at h
  ·rename_i kk ag z hz;rw [hz];exact ⟨h.1, h.2.2⟩
  ·exact h.elim
 ·exact zis h fun m ob hk => hk
 ·exact zis h fun m ob hk => hk
 ·exact h.elim
theorem zoM {P s op ret} (h : effD P s op ret) : zb0 op = none := by
 cases op <;> try rfl
 rename_i c;obtain ⟨callee, args, ts⟩ := c;cases callee with
 | value f => exact h.elim
 | _ => rfl
theorem zoL {P} {s s' : St} {op : Op} {r : ERes -> Prop} (h : ∀ i ∈ zbq s op, getK s.obs i = getK s'.obs i) (hx : ∀ x ∈ op.operands, opd s x = opd s' x) (hc : zb0 op = none) : effD P s op r = effD P s' op r := by
 have hl : zcC op = false -> ∀ x ∈ op.operands, ∀ i ∈ (opd s x).ids, getK s.obs i = getK s'.obs i := fun hf x hm i hi => h i (zsr hc hf hm hi);clear h hc;cases op <;> try rfl
 all_goals simp only [Op.operands] at hx hl
 case box t x => simp only [effD]; rw [hx x (by simp)]
 case store t a x =>
  have h1 := hl rfl a (by simp);have ea := hx a (by simp);simp only [effD];rw [<- hx x (by simp), <- ea];cases hd : opd s a <;> try rfl
  all_goals rw [hd] at h1
  all_goals simp only [D.ids, List.mem_singleton, forall_eq] at h1
  all_goals simp only [h1]
 case buildSlice t n parts =>
  have e : (parts.toList.map fun p => (p.1, opd s p.2)) = (parts.toList.map fun p => (p.1, opd s' p.2)) := List.map_congr_left fun p hm => by
   rw [hx p.2 (by simp; exact ⟨p.1, by simpa using hm⟩)]
  simp only [effD, e]
 case makeSlice t x y => simp only [effD]; rw [hx x (by simp), hx y (by simp)]
 case makeMap t r => cases r <;> rfl
 case mapUpdate t m i v => simp only [effD]; rw [zit t _ _ _ r (hl rfl m (by simp)), hx m (by simp), hx i (by simp), hx v (by simp)]
 case insert t m i v => simp only [effD]; rw [zit t _ _ _ r (hl rfl m (by simp)), hx m (by simp), hx i (by simp), hx v (by simp)]
 case call c =>
  obtain ⟨callee, args, ts⟩ := c;cases callee with
  | value f => rfl
  | invoke r m => rfl
  | builtin b =>
   cases b <;> try rfl
   obtain ⟨args⟩ := args;obtain ⟨ts⟩ := ts
   match args, ts with
   | [x, y], [t, t'] =>
    have h1 := hl rfl x (by simp [Call.operands]);have ex := hx x (by simp [Call.operands]);have e : rowsOf s (opd s y) = rowsOf s' (opd s' y) := by
     rw [rowsOf_loc _ (hl rfl y (by simp [Call.operands])), hx y (by simp [Call.operands])]
    simp only [effD];rw [e, <- ex];cases hd : opd s x <;> try rfl
    all_goals rw [hd] at h1
    all_goals simp only [D.ids, List.mem_singleton, forall_eq] at h1
    all_goals first | simp only [h1] | (rename_i y; cases y <;> rfl)
   | [], _ => rfl
   | [_], _ => rfl
   | _ :: _ :: _ :: _, _ => rfl
   | [_, _], [] => rfl
   | [_, _], [_] => rfl
   | [_, _], _ :: _ :: _ :: _ => rfl
theorem zdg {P} {s s' : St} {op : Op} {r : ERes -> Prop} (h : ∀ i ∈ zbq s op, getK s.obs i = getK s'.obs i) (hx : ∀ x ∈ op.operands, opd s x = opd s' x) (he : effD P s op r) : effD P s' op r := by
 rw [<- zoL h hx (zoM he)];exact he
def Ob.all (g : D -> Prop) : Ob -> Prop
 | .box cs => ∀ c ∈ cs, g c
 | .vec _ _ rows => ∀ r ∈ rows, ∀ c ∈ r, g c
 | .map _ _ es => ∀ p ∈ es, ∀ c ∈ p.2, g c
 | .it _ _ _ _ _ => True
 | .nw _ => True
theorem zfd {g : D -> Prop} : ∀ (new cs : List D) (o : Nat), (∀ c ∈ new, g c) -> (∀ c ∈ cs, g c) -> ∀ c ∈ setAll cs o new, g c
 | [], _, _, _, h => h
 | d :: ds, cs, o, hn, h => zfd ds (cs.set o d) (o + 1) (fun c hc => hn c (by simp [hc])) fun c hc => by
  rcases List.mem_or_eq_of_mem_set hc with hc | rfl
  ·exact h c hc
  ·exact hn _ (by simp)
theorem ziX {g : D -> Prop} {key : Key} {cells : List D} (hc : ∀ c ∈ cells, g c) : ∀ {es : List (Key × List D)}, (∀ p ∈ es, ∀ c ∈ p.2, g c) -> ∀ p ∈ zdm es key cells, ∀ c ∈ p.2, g c
 | [], _, p, hp => by simp [zdm] at hp; subst hp; exact hc
 | (k, d) :: l, h, p, hp => by
  rw [zdm] at hp;split at hp
  ·rcases List.mem_cons.1 hp with rfl | hp
   ·exact hc
   ·exact h p (by simp [hp])
  ·rcases List.mem_cons.1 hp with rfl | hp
   ·exact h (k, d) (by simp)
   ·exact ziX hc (fun q hq => h q (by simp [hq])) p hp
section
variable {g : D -> Prop} (hu : ∀ x, g (.u x)) (ha : ∀ cs, g (.agg cs) -> ∀ c ∈ cs, g c)
include hu ha
theorem zgz {d cs} (h : zb3 d = some cs) (hd : g d) : ∀ c ∈ cs, g c := by
 unfold zb3 at h;split at h
 ·cases h; exact ha _ hd
 ·cases h;intro c hc;obtain ⟨u, _, rfl⟩ := List.mem_map.1 hc;exact hu _
 ·split at h
  ·cases h; intro c hc; simp at hc; subst hc; exact hd
  ·cases h
theorem zkq {places k} : ∀ {parts : List (Nat × D)} {cs : List D}, fillD places parts cs k -> (∀ p ∈ parts, g p.2) -> (∀ c ∈ cs, g c) -> fillD places parts cs fun r => k r /\ ∀ c ∈ r, g c
 | [], cs, h, _, hc => ⟨h, hc⟩
 | (f, d) :: rest, cs, h, hp, hc => by
  unfold fillD at h ⊢;split at h
  ·rename_i off n new e1 e2;exact ⟨h.1, h.2.1, zkq h.2.2 (fun p hm => hp p (by simp [hm])) (zfd _ _ _ (zgz hu ha e2 (hp (f, d) (by simp))) hc)⟩
  ·exact h.elim
theorem zlE {ag d cs} (h : zfI ag d = some cs) (hd : g d) : ∀ c ∈ cs, g c := by
 unfold zfI at h;split at h
 ·split at h
  ·cases h;intro c hc;obtain ⟨u, _, rfl⟩ := List.mem_map.1 hc;exact hu _
  ·cases h
 ·split at h
  ·cases h; exact ha _ hd
  ·cases h
 ·split at h
  ·cases h; intro c hc; simp at hc; subst hc; exact hd
  ·cases h
 ·cases h
theorem zjn {P s op ret} (h : effD P s op ret) (hx : ∀ x ∈ op.operands, g (opd s x)) (ho : ∀ i ob, getK s.obs i = some ob -> ob.all g) :
  effD P s op fun e => ret e /\ (∀ p ∈ e.U, ∀ ob, p.2 = some ob -> ob.all g /\ ∃ o, getK s.obs p.1 = some o) /\ ∀ ob, e.nw = some ob -> ob.all g := by
 unfold effD at h ⊢;split at h
 ·split at h
  ·refine ⟨h, by simp, fun ob e => ?_⟩;cases e;intro c hc;obtain ⟨v, _, rfl⟩ := List.mem_map.1 hc;exact hu _
  ·exact h.elim
 ·rename_i t x;split at h
  ·rename_i cs hc;refine ⟨h.1, h.2, by simp, fun ob e => ?_⟩;cases e;exact zgz hu ha hc (hx x (by simp [Op.operands]))
  ·exact h.elim
 ·rename_i t a x;split at h
  ·rename_i new hc;have hn := zgz hu ha hc (hx x (by simp [Op.operands]));refine ⟨h.1, h.2.1, ?_⟩
   replace h := h.2.2
   split at h
   ·rename_i i off hd;split at h
    ·rename_i cells hg;refine ⟨h.1, h.2, fun p hp ob e => ?_, fun ob e => by cases e⟩;simp at hp;subst hp;cases e;exact ⟨zfd _ _ _ hn (ho i _ hg), _, hg⟩
    ·exact h.elim
   ·rename_i i sz idx off hd;split at h
    ·rename_i e sz' rows hg;obtain ⟨h1, r, h2, h3, h4⟩ := h;refine ⟨h1, r, h2, h3, h4, fun p hp ob e => ?_, fun ob e => by cases e⟩;simp at hp;subst hp;cases e;refine ⟨?_, _, hg⟩;intro r' hr' c hc';have hrow := ho i _ hg;rcases List.mem_or_eq_of_mem_set hr' with hr' | rfl
     ·exact hrow r' hr' c hc'
     ·exact zfd _ _ _ hn (hrow r (List.mem_of_getElem? h2)) c hc'
    ·exact h.elim
   ·exact h.elim
  ·exact h.elim
 ·rename_i t n parts;split at h
  ·rename_i e sz b z hz;refine ⟨h.1, Lin.fillD.1 _ _ (fun cs hcs => ?_) (zkq hu ha h.2 (fun p hp => ?_) (fun c hc => ?_))⟩
   ·refine ⟨hcs.1.1, hcs.1.2, by simp, fun ob e => ?_⟩;cases e;intro r hr c hc;obtain ⟨i, _, rfl⟩ := List.mem_map.1 hr;exact hcs.2 c (List.mem_of_mem_drop (List.mem_of_mem_take hc))
   ·obtain ⟨q, hq, rfl⟩ := List.mem_map.1 hp;exact hx q.2 (by simp [Op.operands]; exact ⟨q.1, by simpa using hq⟩)
   ·obtain ⟨j, _, rfl⟩ := List.mem_map.1 hc;exact hu _
  ·exact h.elim
 ·split at h
  ·refine ⟨h.1, h.2.1, h.2.2.1, h.2.2.2, by simp, fun ob e => ?_⟩;cases e;intro r hr c hc;obtain ⟨_, rfl⟩ := List.mem_replicate.1 hr;obtain ⟨v, _, rfl⟩ := List.mem_map.1 hc;exact hu _
  ·exact h.elim
 ·rename_i c;obtain ⟨callee, args, ts⟩ := c;simp only at h hx ⊢;split at h
  ·split at h
   ·rename_i x y t t';refine ⟨h.1, ?_⟩
    replace h := h.2
    split at h
    ·rename_i e sz b z rs hz hr;have hrs : ∀ r ∈ rs, ∀ c ∈ r, g c := by
      have := hr;unfold rowsOf at this;split at this
      ·cases this;intro r hr c hc;obtain ⟨q, _, rfl⟩ := List.mem_map.1 hr;obtain ⟨v, _, rfl⟩ := List.mem_map.1 hc;exact hu _
      ·cases this; simp
      ·cases this; simp
      ·rename_i i len hy;split at this
       ·rename_i e' sz' rows hg;split at this
        ·cases this;intro r hr c hc;exact ho i _ hg r (List.mem_of_mem_take hr) c hc
        ·cases this
       ·cases this
      ·cases this
     refine ⟨h.1, h.2.1, ?_⟩
     replace h := h.2.2
     split at h
     ·refine ⟨h.1, h.2.1, h.2.2, by simp, fun ob e => ?_⟩;cases e;exact hrs
     ·rename_i i len hx';split at h
      ·rename_i e' sz' rows hg;refine ⟨h.1, h.2.1, h.2.2.1, h.2.2.2.1, h.2.2.2.2.1, h.2.2.2.2.2, (fun p hp ob e => by simp at hp; subst hp; cases e), fun ob e => ?_⟩;cases e;intro r hr c hc;rcases List.mem_append.1 hr with hr | hr
       ·exact ho i _ hg r (List.mem_of_mem_take hr) c hc
       ·exact hrs r hr c hc
      ·exact h.elim
     ·exact h.elim
    ·exact h.elim
   ·exact h.elim
  ·exact h.elim
 ·split at h
  ·exact ⟨h, by simp, fun ob e => by cases e; exact fun p hp => by cases hp⟩
  ·exact h.elim
 ·rename_i t m i v;refine zho h fun mm kk ag es key cells hg hv hr => ⟨hr, fun p hp ob e => ?_, fun ob e => by cases e⟩;simp at hp;subst hp;cases e;exact ⟨ziX (zlE hu ha hv (hx v (by simp [Op.operands]))) (ho _ _ hg), _, hg⟩
 ·rename_i t m i v;refine zho h fun mm kk ag es key cells hg hv hr => ⟨hr, fun p hp ob e => ?_, fun ob e => by cases e⟩;simp at hp;subst hp;cases e;exact ⟨ziX (zlE hu ha hv (hx v (by simp [Op.operands]))) (ho _ _ hg), _, hg⟩
 ·exact h.elim
end
end Go.VL
namespace Go.VL
open Go
def zdI (W : Nat -> Wr) (S : Nat -> Bool) : Nat -> Wr
 | 0 => []
 | m + 1 => if S m then W m ++ zdI W S m else zdI W S m
theorem zab {α : Type} (a b : List (Nat × α)) (y : Nat) : getK (a ++ b) y = match getK a y with | some x => some x | none => getK b y := by
 induction a with
 | nil => rfl
 | cons p a ih =>
  obtain ⟨k, d⟩ := p;rw [List.cons_append, zaa, zaa, ih];split <;> rfl
def zcx (w : Wr) : List Nat := w.map (·.1)
theorem zbK {α : Type} : ∀ (w : List (Nat × α)) (y : Nat), y ∉ w.map (·.1) -> getK w y = none
 | [], _, _ => rfl
 | (k, d) :: w, y, h => by
  simp only [List.map_cons, List.mem_cons, not_or] at h;rw [zaa, if_neg h.1];exact zbK w y h.2
theorem zc6 {α : Type} : ∀ (w : List (Nat × α)) (y : Nat), y ∈ w.map (·.1) -> ∃ x, getK w y = some x
 | [], _, h => by cases h
 | (k, d) :: w, y, h => by
  rw [zaa];by_cases hy : y = k
  ·exact ⟨d, by rw [if_pos hy]⟩
  ·rw [if_neg hy];simp only [List.map_cons, List.mem_cons] at h;exact zc6 w y (h.resolve_left hy)
theorem zbv (W : Nat -> Wr) (S S' : Nat -> Bool) (y : Nat) : ∀ m, (∀ j, j < m -> y ∈ zcx (W j) -> S j = S' j) -> getK (zdI W S m) y = getK (zdI W S' m) y
 | 0, _ => rfl
 | m + 1, h => by
  have ih := zbv W S S' y m fun j hj => h j (by omega);simp only [zdI];by_cases hy : y ∈ zcx (W m)
  ·rw [h m (by omega) hy];split
   ·rw [zab, zab, ih]
   ·exact ih
  ·have hk := zbK (W m) y hy;have : ∀ (b : Bool) (L : Wr), getK (if b then W m ++ L else L) y = getK L y := fun b L => by
    cases b
    ·rfl
    ·rw [if_pos rfl, zab, hk]
   rw [this, this, ih]
theorem zfK (W : Nat -> Wr) (S : Nat -> Bool) (i y : Nat) (hy : y ∈ zcx (W i)) : ∀ m, i < m -> (∀ j, j < m -> i < j -> y ∈ zcx (W j) -> S j = false) ->
  getK (zdI W (fun j => S j || j == i) m) y = getK (W i) y
 | 0, h, _ => absurd h (Nat.not_lt_zero _)
 | m + 1, h, hj => by
  simp only [zdI];by_cases he : m = i
  ·subst he;obtain ⟨x, hx⟩ := zc6 (W m) y hy;simp only [beq_self_eq_true, Bool.or_true, if_true, zab, hx]
  ·have ih := zfK W S i y hy m (by omega) fun j h1 h2 => hj j (by omega) h2;by_cases hk : y ∈ zcx (W m)
   ·have : (S m || m == i) = false := by rw [hj m (by omega) (by omega) hk]; simp [he]
    rw [if_neg (by simp [this])];exact ih
   ·have hkn := zbK (W m) y hk;split
    ·rw [zab, hkn]; exact ih
    ·exact ih
def St.Eqo (s s' : St) : Prop := s.n = s'.n /\ (∀ x, getK s.obs x = getK s'.obs x) /\ s.next = s'.next /\ ∀ x, getK s.env x = getK s'.env x
theorem Sat.eqo {k own obs obs' w} (h : Sat k own obs w) (e : ∀ x, getK obs x = getK obs' x) : Sat k own obs' w :=
 ⟨h.mem, fun i ob hi => h.ob i ob (by rw [e]; exact hi), fun i j x y hh g b hx hy => h.apart i j x y hh g b (by rw [e]; exact hx) (by rw [e]; exact hy)⟩
theorem Sim.eqo {k own s s' a w} (h : Sim k own s a w) (e : s.Eqo s') : Sim k own s' a w :=
 ⟨h.sat.eqo e.2.1, h.defers, by rw [<- e.1]; exact h.size, fun x d hx => by rw [<- e.1]; exact h.env x d (by rw [e.2.2.2 x]; exact hx), by rw [<- e.2.2.1]; exact h.hdr⟩
def Good (ρ : Nat -> Nat) (M : Nat) (d : D) : Prop := d.ren ρ = d /\ d.under M = true
theorem zfZ {ρ M} {cs : List D} {k : Kr} {vs : List Value} (hl : cs.length = vs.length) (ih : ∀ (j : Nat) (d : D), cs[j]? = some d -> Good ρ M d) : cs.map (fun d => d.ren ρ) = cs /\ (cs.map fun d => d.under M).all id = true := by
 refine ⟨?_, ?_⟩
 ·refine List.ext_getElem? fun j => ?_;rw [List.getElem?_map];cases hj : cs[j]? with
  | none => rfl
  | some d => simp [(ih j d hj).1]
 ·simp only [List.all_map, List.all_eq_true];intro d hd;obtain ⟨j, hj⟩ := List.getElem?_of_mem hd;exact (ih j d hj).2
theorem Rep.good {ρ : Nat -> Nat} {M : Nat} {k : Kr} (hk : ∀ i h, k.hdr i = some h -> ρ i = i /\ i < M) {d : D} {v : Value} (h : Rep k d v) : Good ρ M d := by
 induction h with
 | u x v h => exact ⟨by simp [D.ren], by simp [D.under]⟩
 | any v => exact ⟨by simp [D.ren], by simp [D.under]⟩
 | ptr i off b c h => obtain ⟨h1, h2⟩ := hk _ _ h; exact ⟨by simp [D.ren, h1], by simp [D.under, h2]⟩
 | vec i len h hh => obtain ⟨h1, h2⟩ := hk _ _ hh; exact ⟨by simp [D.ren, h1], by simp [D.under, h2]⟩
 | mp i b c h => obtain ⟨h1, h2⟩ := hk _ _ h; exact ⟨by simp [D.ren, h1], by simp [D.under, h2]⟩
 | elt i sz idx off b c h => obtain ⟨h1, h2⟩ := hk _ _ h; exact ⟨by simp [D.ren, h1], by simp [D.under, h2]⟩
 | fnc f caps vs hl hr ih => obtain ⟨h1, h2⟩ := zfZ (k := k) hl ih; exact ⟨by rw [D.ren, h1], by rw [D.under]; exact h2⟩
 | bnd f caps vs hl hr ih => obtain ⟨h1, h2⟩ := zfZ (k := k) hl ih; exact ⟨by rw [D.ren, h1], by rw [D.under]; exact h2⟩
 | agg cells vs hl hr ih => obtain ⟨h1, h2⟩ := zfZ (k := k) hl ih; exact ⟨by rw [D.ren, h1], by rw [D.under]; exact h2⟩
 | tup cells vs hl hr ih => obtain ⟨h1, h2⟩ := zfZ (k := k) hl ih; exact ⟨by rw [D.ren, h1], by rw [D.under]; exact h2⟩
theorem Good.agg {ρ M cs} (h : Good ρ M (.agg cs)) : ∀ c ∈ cs, Good ρ M c := by
 intro c hc;obtain ⟨h1, h2⟩ := h;rw [D.ren] at h1;rw [D.under] at h2;obtain ⟨j, hj⟩ := List.getElem?_of_mem hc;have e : cs.map (fun d => d.ren ρ) = cs := by injection h1
 refine ⟨?_, ?_⟩
 ·have := congrArg (·[j]?) e;simp [hj] at this;exact this
 ·simp only [List.all_map, List.all_eq_true] at h2;exact h2 c hc
theorem ObOK.good {ρ M k own w i ob} (hk : ∀ i h, k.hdr i = some h -> ρ i = i /\ i < M) (h : ObOK k own w i ob) : ob.all (Good ρ M) := by
 cases ob with
 | it => trivial
 | nw => trivial
 | map kk ag es =>
  obtain ⟨b, c, ents, clock, es0, _, _, _, hpm, hm, _⟩ := h.map;intro p hp d hd
  replace hp := hpm.mem_iff.2 hp
  obtain ⟨q, hq⟩ := List.getElem?_of_mem hp;obtain ⟨j, hj⟩ := List.getElem?_of_mem hd;obtain ⟨en, _, _, hv⟩ := hm.ent q p hq;unfold MV at hv;split at hv
  ·obtain ⟨vs, _, _, h3⟩ := hv;exact (h3 j d hj).2.good hk
  ·obtain ⟨x, h1, h2⟩ := hv;rw [h1] at hd;simp at hd;subst hd;exact h2.2.good hk
 | box cells =>
  obtain ⟨b, c, vs, t, _, _, _, _, hc, _⟩ := h.box;intro c hm;obtain ⟨j, hj⟩ := List.getElem?_of_mem hm;exact (hc j c hj).2.good hk
 | vec e sz rows =>
  obtain ⟨_, xs, _, _, _, _, hc, _⟩ := h.vec;intro r hr c hm;obtain ⟨q, hq⟩ := List.getElem?_of_mem hr;obtain ⟨j, hj⟩ := List.getElem?_of_mem hm;exact (hc q r hq j c hj).2.good hk
theorem Ob.zbO {ρ M ob} (h : Ob.all (Good ρ M) ob) : Ob.le ρ ob ob /\ ob.under M = true := by
 have le : ∀ c, Good ρ M c -> D.le ρ c c := fun c hc => .inr (.inl hc.1.symm)
 cases ob with
 | it => exact ⟨⟨rfl, rfl, rfl, rfl, rfl⟩, rfl⟩
 | nw t => exact ⟨(rfl : t = t), rfl⟩
 | map kk ag es =>
  refine ⟨⟨rfl, rfl, rfl, fun i p p' hi hi' => ?_⟩, List.all_eq_true.2 fun p hp => List.all_eq_true.2 fun c hc => (h p hp c hc).2⟩;rw [hi] at hi';cases hi';refine ⟨rfl, fun j c c' hj hj' => ?_⟩;rw [hj] at hj';cases hj';exact le c (h p (List.mem_of_getElem? hi) c (List.mem_of_getElem? hj))
 | box cs =>
  refine ⟨⟨rfl, fun j c c' hj hj' => ?_⟩, List.all_eq_true.2 fun c hc => (h c hc).2⟩;rw [hj] at hj';cases hj';exact le c (h c (List.mem_of_getElem? hj))
 | vec e sz rows =>
  refine ⟨⟨rfl, rfl, Nat.le_refl _, fun i r r' hi hi' => ?_⟩, List.all_eq_true.2 fun r hr => List.all_eq_true.2 fun c hc => (h r hr c hc).2⟩;rw [hi] at hi';cases hi';refine ⟨rfl, fun j c c' hj hj' => ?_⟩;rw [hj] at hj';cases hj';exact le c (h r (List.mem_of_getElem? hi) c (List.mem_of_getElem? hj))
def stW (ops : List Oper) (T : Nat -> D) (W : Nat -> Wr) (s : St) (M : Nat) (S : Nat -> Bool) : St :=
 { n := s.n, env := zdj T S ops 0 s.env, obs := zaY (zdI W S ops.length) s.obs, next := M }
def Op1 (P : Program) (s : St) (op : Op) (dst : Option Tmp) (d : D) (W : Wr) (cr : Option Nat) (R : List Nat) : Prop :=
 (valD P s op (· = d) /\ W = [] /\ cr = none /\ R = zbq s op) \/
 ∃ e, effD P s op (· = e) /\ R = zbq s op /\ match e.nw with
  | none => dst = none /\ W = e.U /\ cr = none
  | some ob => ∃ x, cr = some x /\ W = (x, some ob) :: e.U /\ d = mkD e.how x
def OpG (P : Program) (all : Array Oper) (s : St) (o : Oper) (d : D) (W : Wr) (cr : Option Nat) (R : List Nat) : Prop :=
 match o.guard with
 | none => Op1 P s o.op o.dst d W cr R
 | some (j, want) => ∃ t, zaN all j = some t /\ ((∃ b, getK s.env t = some (.u (.bool b)) /\
  if b = want then Op1 P s o.op o.dst d W cr R else d = .un /\ W = [] /\ cr = none) \/ (getK s.env t = some .un /\ d = .un /\ W = [] /\ cr = none))
set_option maxHeartbeats 4000000 in
theorem zrU {P Γ} {Q : Exit -> St -> Prop} {kt : Kt} {id : Nat} {ops : List Oper} {T : Nat -> D} {W : Nat -> Wr} {cr : Nat -> Option Nat} {R : Nat -> List Nat} {s : St} {M : Nat}
  (hm : P.follows .mixedOrders = true) (hord : zfx ops = true) (hn0 : Γ.n0 <= s.next) (hM : s.next <= M)
  (hcr : ∀ i x, cr i = some x -> s.next <= x /\ x < M) (hcr1 : ∀ i j x, cr i = some x -> cr j = some x -> i = j)
  (hpair : ∀ i j, i < j -> j < ops.length -> zdE ops ops.length i j = false -> (∀ y ∈ zcx (W i), y ∉ R j /\ y ∉ zcx (W j)) /\ ∀ y ∈ zcx (W j), y ∉ R i)
  (hval : ∀ i o, ops[i]? = some o -> zaI o.dst s /\ OpG P ops.toArray (stW ops T W s M fun j => decide (j < i)) o (T i) (W i) (cr i) (R i))
  (hfin : ∃ s', (stW ops T W s M fun _ => true).Eqo s' /\ zan P Γ Q kt .normal s') : V P Γ (.region id ops.toArray true) s (zan P Γ Q kt) := by
 intro K a w hin hs;refine wp_region_any hm ?_;have hin0 : In Γ K { w with drawn := w.drawn + 1 } := ⟨hin.le, hin.none0, hin.memNew, hin.fresh, hin.os, hin.tape, hin.output, hin.size, hin.block⟩;have hs0 : Sim K Γ.own s a { w with drawn := w.drawn + 1 } := ⟨⟨hs.sat.mem, fun i ob hi => by
   obtain ⟨h, h1, h2, h3⟩ := hs.sat.ob i ob hi;exact ⟨h, h1, h2, h3.keep (.refl _) fun b e => rfl⟩, hs.sat.apart⟩, hs.defers, hs.size, hs.env, hs.hdr⟩
 generalize ({ w with drawn := w.drawn + 1 } : World) = w0 at hin0 hs0;have key : ∀ (fuel : Nat) (listed : Array Bool) (K : Kr) (a : Act) (w : World), listed.size = ops.length -> (listed.toList.filter (! ·)).length <= fuel ->
   (∀ j y, ops[j]? = some y -> listed.getD j false = true -> ∀ p ∈ zbP y, listed.getD p false = true) -> In Γ K w -> Sim K Γ.own (stW ops T W s M fun j => listed.getD j false) a w ->
   (∀ j x, j < ops.length -> listed.getD j false = false -> cr j = some x -> K.hdr x = none) ->
   wpAny P .any ops.toArray (VPost Γ (zan P Γ Q kt)) fuel listed a w := by
  have allDone : ∀ (listed : Array Bool) (K : Kr) (a : Act) (w : World), (∀ j, j < ops.length -> listed.getD j false = true) -> In Γ K w -> Sim K Γ.own (stW ops T W s M fun j => listed.getD j false) a w ->
    ∃ K' s', In Γ K' w /\ Sim K' Γ.own s' a w /\ zan P Γ Q kt .normal s' := fun listed K a w hall hin hs => by
   obtain ⟨s', he, hfin⟩ := hfin;refine ⟨K, _, hin, Sim.eqo (hs.eqo ?_) he, hfin⟩;refine ⟨rfl, fun x => ?_, rfl, fun x => ?_⟩
   ·simp only [stW, zax];rw [zbv W _ (fun _ => true) x ops.length fun j hj _ => hall j hj]
   ·exact zbp T _ _ x ops 0 s.env s.env rfl fun j o hj _ => by
     have hl := (lGE.1 hj).1;simp only [Nat.zero_add];exact hall j hl
  have least : ∀ (listed : Array Bool), listed.size = ops.length -> ∀ i, i < ops.length -> listed.getD i false = false -> ∃ i0, i0 ∈ Region.ready .any ops.toArray listed := fun listed hsz i hi hu => by
   induction i using Nat.strongRecOn with
   | _ i ih =>
    have ho : ops[i]? = some ops[i] := List.getElem?_eq_getElem hi;by_cases hp : ∀ p ∈ zbP ops[i], listed.getD p false = true
    ·refine ⟨i, mem_ready.2 ⟨?_, ops[i], by simp, fun e he hb => hp e.on ?_⟩⟩
     ·have hi' : i < listed.size := by omega
      simp [hi'] at hu ⊢;exact hu
     ·simp only [zbP, List.mem_map, List.mem_filter];exact ⟨e, ⟨by simpa using he, hb⟩, rfl⟩
    ·simp only [Classical.not_forall] at hp;obtain ⟨p, hpm, hpu⟩ := hp;have hlt := (zcA hord ho).1 p hpm;exact ih p hlt (by omega) (by simpa using hpu)
  intro fuel
  induction fuel with
  | zero =>
   intro listed K a w hsz hcnt hcl hin hs _;have hall : ∀ j, j < ops.length -> listed.getD j false = true := fun j hj => by
    have hj' : j < listed.size := by omega
    have h0 : (listed.toList.filter (! ·)) = [] := List.eq_nil_of_length_eq_zero (by omega);have := (List.filter_eq_nil_iff.1 h0) listed[j] (by simp);simp only [Bool.not_eq_true', Bool.not_eq_false] at this;simp [hj', this]
   refine ⟨?_, .inl (allDone listed K a w hall hin hs)⟩;refine List.eq_nil_iff_forall_not_mem.2 fun i hi => ?_;obtain ⟨h1, o, ho, _⟩ := mem_ready.1 hi;have hl : i < ops.length := by
    have := (Array.getElem?_eq_some_iff.1 ho).1;simpa using this
   have := hall i hl;have hi' : i < listed.size := by omega
   simp [hi'] at h1 this;rw [h1] at this;cases this
  | succ fuel ih =>
   intro listed K a w hsz hcnt hcl hin hs hfr;refine ⟨fun hnil => .inl (allDone listed K a w (fun j hj => ?_) hin hs), fun i hi => ?_⟩
   ·cases hu : listed.getD j false with
    | true => rfl
    | false =>
     obtain ⟨i0, h0⟩ := least listed hsz j hj hu;rw [hnil] at h0;cases h0
   ·obtain ⟨hun, o, ho, hall⟩ := mem_ready.1 hi;have ho' : ops[i]? = some o := by simpa using ho
    have hil := (lGE.1 ho').1;have hil' : i < listed.size := by omega
    have hunf : listed.getD i false = false := by simp [hil'] at hun ⊢; exact hun
    have hpred : ∀ p ∈ zbP o, listed.getD p false = true := fun p hp => by
     simp only [zbP, List.mem_map, List.mem_filter] at hp;obtain ⟨e, ⟨he, hb⟩, rfl⟩ := hp;exact hall e (by simpa using he) hb
    obtain ⟨hpo, hv⟩ := hval i o ho';have bef1 : ∀ j, zdE ops ops.length j i = true -> listed.getD j false = true := fun j hb => zcO hcl _ j i o ho' hpred hb;have bef2 : ∀ j x, ops[j]? = some x -> zdE ops ops.length i j = true -> listed.getD j false = false := fun j x hj hb => by
     cases hu : listed.getD j false with
     | false => rfl
     | true =>
      have := zcO hcl _ i j x hj (hcl j x hj hu) hb;rw [hunf] at this;cases this
    -- who writes a slot that this operation looks at, or writes
    have before : ∀ j x, ops[j]? = some x -> j < i -> zcW ops.toArray x o = true \/ zcW ops.toArray o x = true -> listed.getD j false = true := fun j x hj hlt hmm =>
     bef1 j ((zcA hord ho').2.2 j x hlt hj hmm)
    have behind : ∀ j x, ops[j]? = some x -> i < j -> zcW ops.toArray x o = true \/ zcW ops.toArray o x = true -> listed.getD j false = false := fun j x hj hlt hmm =>
     bef2 j x hj ((zcA hord hj).2.2 i o hlt ho' hmm.symm)
    have agree : ∀ t, t ∈ o.looksAt ops.toArray -> getK (zdj T (fun j => listed.getD j false) ops 0 s.env) t = getK (zdj T (fun j => decide (j < i)) ops 0 s.env) t := fun t ht => by
     refine zbp T _ _ t ops 0 s.env s.env rfl fun j x hj hx => ?_;simp only [Nat.zero_add];have hmm : zcW ops.toArray x o = true := by simp [zcW, hx, ht]
     rcases Nat.lt_trichotomy j i with h | h | h
     ·rw [before j x hj h (.inl hmm)]; simp [h]
     ·subst h; rw [hunf]; simp
     ·rw [behind j x hj h (.inl hmm)]; simp; omega
    have hopd : ∀ x ∈ o.op.operands, opd (stW ops T W s M fun j => decide (j < i)) x = opd (stW ops T W s M fun j => listed.getD j false) x := fun x hx => by
     cases x with
     | tmp t =>
      simp only [opd, St.at, stW];rw [agree t (List.mem_append_left _ (List.mem_filterMap.2 ⟨.tmp t, by simpa using hx, rfl⟩))]
     | _ => rfl
    -- who changes an object that this operation looks at
    have hloc : ∀ y ∈ R i, getK (stW ops T W s M fun j => decide (j < i)).obs y = getK (stW ops T W s M fun j => listed.getD j false).obs y := fun y hy => by
     simp only [stW, zax];rw [zbv W (fun j => decide (j < i)) (fun j => listed.getD j false) y ops.length fun j hj hk => ?_];rcases Nat.lt_trichotomy j i with h | h | h
     ·have hb : zdE ops ops.length j i = true := by
       cases hb : zdE ops ops.length j i with
       | true => rfl
       | false => exact absurd hy (((hpair j i h hil hb).1 y hk).1)
      rw [bef1 j hb];simp [h]
     ·subst h; rw [hunf]; simp
     ·have hb : zdE ops ops.length i j = true := by
       cases hb : zdE ops ops.length i j with
       | true => rfl
       | false => exact absurd hy ((hpair i j h hj hb).2 y hk)
      rw [bef2 j _ (List.getElem?_eq_getElem hj) hb];simp; omega
    have hlast : ∀ y ∈ zcx (W i), ∀ j, j < ops.length -> i < j -> y ∈ zcx (W j) -> listed.getD j false = false := fun y hy j hj hlt hk => by
     have hb : zdE ops ops.length i j = true := by
      cases hb : zdE ops ops.length i j with
      | true => rfl
      | false => exact absurd hk ((hpair i j hlt hj hb).1 y hy).2
     exact bef2 j _ (List.getElem?_eq_getElem hj) hb
    have hS : (fun j => (listed.setIfInBounds i true).getD j false) = fun j => listed.getD j false || j == i := funext fun j => by
     by_cases hji : j = i
     ·subst hji; simp [hil']
     ·simp [Array.getElem?_setIfInBounds_ne (Ne.symm hji), hji]
    -- the slots behind this operation
    have henv : ∀ (x : Nat), o.dst = some x -> getK (zdj T (fun j => listed.getD j false || j == i) ops 0 s.env) x = some (T i) := fun x hdx =>
     zf4 T _ i x ops 0 s.env i o ho' (by omega) hdx fun j o' hj hlt hd' => by
      rw [Nat.zero_add];exact behind j o' hj hlt (.inl (by simp [zcW, hd', hdx]))
    have henv' : ∀ (x : Nat), o.dst ≠ some x -> getK (zdj T (fun j => listed.getD j false || j == i) ops 0 s.env) x = getK (zdj T (fun j => listed.getD j false) ops 0 s.env) x := fun x hdx =>
     zbp T _ (fun j => listed.getD j false) x ops 0 s.env s.env rfl fun j o' hj hd' => by
      simp only [Nat.zero_add];have : j ≠ i := fun e => by subst e; rw [ho'] at hj; cases hj; exact hdx hd'
      simp [this]
    have go : ∀ K' a' w', In Γ K' w' -> Sim K' Γ.own (stW ops T W s M fun j => listed.getD j false || j == i) a' w' ->
      (∀ j x, j < ops.length -> (listed.getD j false || j == i) = false -> cr j = some x -> K'.hdr x = none) ->
      wpAny P .any ops.toArray (VPost Γ (zan P Γ Q kt)) fuel (listed.setIfInBounds i true) a' w' := fun K' a' w' h1 h2 h3 => by
     have hS' : ∀ j, (listed.setIfInBounds i true).getD j false = (listed.getD j false || j == i) := fun j => congrFun hS j;refine ih (listed.setIfInBounds i true) K' a' w' (by simp [hsz]) ?_ (fun j y hj hSj p hp => ?_) h1 (by rw [hS]; exact h2) (fun j x hj hu => h3 j x hj (by rw [<- hS']; exact hu))
     ·have cnt : ∀ (l : List Bool) (n : Nat), l[n]? = some false -> ((l.set n true).filter (! ·)).length + 1 = (l.filter (! ·)).length := by
       intro l
       induction l with
       | nil => intro n h; simp at h
       | cons b l ih =>
               intro n h;cases n with
               | zero => simp at h; subst h; simp
               | succ n =>
                have := ih n (by simpa using h);cases b <;> simp at this ⊢ <;> omega
      have := cnt listed.toList i (by
       rw [Array.getElem?_toList, Array.getElem?_eq_getElem hil'];simp [hil'] at hunf;rw [hunf])
      rw [Array.toList_setIfInBounds];omega
     ·rw [hS'] at hSj ⊢;simp only [Bool.or_eq_true, beq_iff_eq] at hSj ⊢;rcases hSj with hSj | rfl
      ·exact .inl (hcl j y hj hSj p hp)
      ·rw [ho'] at hj;cases hj;exact .inl (hpred p hp)
    -- an operation that changes nothing
    have next : W i = [] -> ∀ K' v w', In Γ K' w' -> K.le K' -> K'.hdr = K.hdr -> Sat K' Γ.own (stW ops T W s M fun j => listed.getD j false).obs w' -> Rep K' (T i) v ->
      wpAny P .any ops.toArray (VPost Γ (zan P Γ Q kt)) fuel (listed.setIfInBounds i true) (a.put o.dst v) w' := fun hW K' v w' h1 h2 h3 h4 h5 => by
     refine go K' _ w' h1 ?_ fun j x hj hu hc => by
      rw [h3];simp only [Bool.or_eq_false_iff] at hu;exact hfr j x hj hu.1 hc
     have hdef : (a.put o.dst v).defers = Γ.own.dfr := by cases o.dst <;> exact hs.defers
     have hsize : (a.put o.dst v).tmps.size = s.n := by
      have hsz2 : a.tmps.size = s.n := hs.size;cases o.dst <;> simp [Act.put, hsz2]
     refine ⟨h4.eqo fun y => ?_, hdef, hsize, fun x d hx => ?_, fun j hj => by rw [h3]; exact hs.hdr j hj⟩
     ·simp only [stW, zax];rw [zbv W (fun j => listed.getD j false) (fun j => listed.getD j false || j == i) y ops.length fun j hj hk => ?_];by_cases hji : j = i
      ·subst hji; rw [hW] at hk; cases hk
      ·simp [hji]
     ·simp only [stW] at hx;by_cases hdx : o.dst = some x
      ·rw [henv x hdx] at hx;cases hx;have hlt : x < s.n := by rw [hdx] at hpo; exact hpo
       refine ⟨hlt, ?_⟩;have hsz' : a.tmps.size = s.n := hs.size;rw [hdx];simpa [Act.put, hsz', hlt] using h5
      ·rw [henv' x hdx] at hx;obtain ⟨g1, g2⟩ := hs.env x d hx;refine ⟨g1, ?_⟩
       have e : (a.put o.dst v).tmps.getD x undef = a.tmps.getD x undef := by
               cases hd : o.dst with
               | none => rfl
               | some y =>
                have hne : y ≠ x := fun e => hdx (by rw [hd, e]);simp [Act.put, Array.getElem?_setIfInBounds_ne hne]
       rw [e];exact g2.mono h2
    unfold wpOp;rw [ho];simp only;have two : (Region.wanted o (yielded ops.toArray a.tmps) = true /\ Op1 P (stW ops T W s M fun j => decide (j < i)) o.op o.dst (T i) (W i) (cr i) (R i)) \/ (Region.wanted o (yielded ops.toArray a.tmps) = false /\ T i = .un /\ W i = []) := by
     unfold OpG at hv;split at hv
     ·rename_i hg;exact .inl ⟨by simp [Region.wanted, hg], hv⟩
     ·rename_i j want hg;obtain ⟨t, ht, hv⟩ := hv;have lift : ∀ dd, getK (stW ops T W s M fun j => decide (j < i)).env t = some dd -> getK (stW ops T W s M fun j => listed.getD j false).env t = some dd := fun dd hb => by
       simp only [stW] at hb ⊢
       rw [agree t (by
               refine List.mem_append_right _ ?_;unfold zaN at ht;simp only [hg];rw [ht];simp)]
       exact hb
      rcases hv with ⟨b, hb, hv⟩ | ⟨hb, hv⟩
      ·have hb' := lift _ hb;obtain ⟨hlt, hr⟩ := hs.getK hb';have hbv := zcK hr
       have hyd : yielded ops.toArray a.tmps j = some b := by
               unfold yielded;unfold zaN at ht;rw [ht];simp only [Option.bind_some];have : a.tmps[t]? = some (.bool b) := by
                rw [Array.getElem?_eq_getElem hlt];simp [hlt] at hbv;rw [hbv]
               rw [this]
       by_cases hbw : b = want
       ·rw [if_pos hbw] at hv;exact .inl ⟨by simp [Region.wanted, hg, hyd, hbw], hv⟩
       ·rw [if_neg hbw] at hv;exact .inr ⟨by simp [Region.wanted, hg, hyd, hbw], hv.1, hv.2.1⟩
      ·have hb' := lift _ hb;obtain ⟨hlt, hr⟩ := hs.getK hb';have hbv := zdc hr
       have hyd : yielded ops.toArray a.tmps j = none := by
               unfold yielded;unfold zaN at ht;rw [ht];simp only [Option.bind_some];have : a.tmps[t]? = some undef := by
                rw [Array.getElem?_eq_getElem hlt];simp [hlt] at hbv;rw [hbv]
               rw [this]
               try rfl
       exact .inr ⟨by simp [Region.wanted, hg, hyd], hv.1, hv.2.1⟩
    rcases two with ⟨hw, hv⟩ | ⟨hw, hv⟩
    ·rw [if_pos hw];rcases hv with ⟨hv, hW, hcn, hR⟩ | ⟨e, he, hR, hcase⟩
     ·replace hv := zfN (s := stW ops T W s M fun j => decide (j < i)) (s' := stW ops T W s M fun j => listed.getD j false) (by rw [<- hR]; exact hloc) hopd hv
      exact .inl (zfM hv hin hs fun K' v w' h1 h2 h3 h4 h5 => next hW K' v w' h1 h2 h3 h4 h5)
     ·
      replace he := zdg (s := stW ops T W s M fun j => decide (j < i)) (s' := stW ops T W s M fun j => listed.getD j false) (by rw [<- hR]; exact hloc) hopd he
      let un : Nat -> Prop := fun y => ∃ j, j < ops.length /\ (listed.getD j false || j == i) = false /\ cr j = some y
      let ρ : Nat -> Nat := fun y => open Classical in if cr i = some y then M else if un y then M + 1 + y else y
      have hknown : ∀ y h, K.hdr y = some h -> ρ y = y /\ y < M := fun y h hy => by
       have h1 : cr i ≠ some y := fun e => by rw [hfr i y hil hunf e] at hy; cases hy
       have h2 : ¬ un y := fun ⟨j, hj, hu, hc⟩ => by
               simp only [Bool.or_eq_false_iff] at hu;rw [hfr j y hj hu.1 hc] at hy;cases hy
       refine ⟨by simp only [ρ]; rw [if_neg h1, if_neg h2], ?_⟩;rcases Nat.lt_or_ge y M with h | h
       ·exact h
       ·rw [hs.hdr y h] at hy; cases hy
      have hobs : ∀ y ob, getK (stW ops T W s M fun j => listed.getD j false).obs y = some ob -> (ρ y = y /\ y < M) /\ ob.all (Good ρ M) := fun y ob hy => by
       have hok := hs.sat.ob y ob hy;obtain ⟨h, h1, _⟩ := hok;exact ⟨hknown y h h1, (hs.sat.ob y ob hy).good hknown⟩
      have hgood := zjn (g := Good ρ M) (fun _ => ⟨by simp [D.ren], by simp [D.under]⟩) (fun cs h => h.agg) he (fun x hx => (zaM hs x).good hknown) (fun y ob hy => (hobs y ob hy).2);obtain ⟨e', he', ⟨rfl, hgU, hgN⟩⟩ := Lin.effD.2 _ hgood
      have he2 : effD P (stW ops T W s M fun j => listed.getD j false) o.op fun e => zaI o.dst (stW ops T W s M fun j => listed.getD j false) ∧ (e.nw = none → o.dst = none) ∧
               ((stW ops T W s M fun j => listed.getD j false).effS e o.dst) = (stW ops T W s M fun j => listed.getD j false).effS e' o.dst :=
       Lin.effD.1 _ _ (fun e hee => by
               subst hee;refine ⟨hpo, fun hn => ?_, rfl⟩;rw [hn] at hcase;exact hcase.1) he
      refine .inl (zel (k := fun s' => s' = (stW ops T W s M fun j => listed.getD j false).effS e' o.dst) (zgw he2) K a w hin hs _ _ (fun K' a' w' s' h1 h2 h3 => ?_) fun ch K' a' w' s' h1 h2 h3 => .inl ⟨K', s', h1, h2, h3⟩);subst h3;have hle : St.Le Γ.n0 ρ ((stW ops T W s M fun j => listed.getD j false).effS e' o.dst) (stW ops T W s M fun j => listed.getD j false || j == i) := by
       have hWi : ∀ y, y ∈ zcx (W i) → getK (zdI W (fun j => listed.getD j false || j == i) ops.length) y = getK (W i) y := fun y hy =>
               zfK W _ i y hy ops.length hil fun j hj hlt hk => hlast y hy j hj hlt hk
       have hWn : ∀ y, y ∉ zcx (W i) → getK (zdI W (fun j => listed.getD j false || j == i) ops.length) y = getK (zdI W (fun j => listed.getD j false) ops.length) y := fun y hy =>
               zbv W _ _ y ops.length fun j hj hk => by
                by_cases hji : j = i
                ·subst hji; exact absurd hk hy
                ·simp [hji]
       have hinj : ∀ y1 y2, y1 < M → y2 < M → ρ y1 = ρ y2 → y1 = y2 := fun y1 y2 g1 g2 hr => by
               simp only [ρ] at hr;by_cases c1 : cr i = some y1 <;> by_cases c2 : cr i = some y2
               ·rw [c1] at c2; cases c2; rfl
               ·rw [if_pos c1, if_neg c2] at hr;split at hr <;> omega
               ·rw [if_neg c1, if_pos c2] at hr;split at hr <;> omega
               ·rw [if_neg c1, if_neg c2] at hr;split at hr <;> split at hr <;> omega
       have hobs2 : ∀ y ob', getK (stW ops T W s M fun j => listed.getD j false || j == i).obs y = some ob' → y < M ∧
                ∃ ob, getK ((stW ops T W s M fun j => listed.getD j false).effS e' o.dst).obs (ρ y) = some ob /\ Ob.le ρ ob ob' /\ ob'.under M = true := fun y ob' hy => by
               simp only [stW, zax] at hy;cases hn : e'.nw with
               | none =>
                rw [hn] at hcase;obtain ⟨hd0, hWU, hcn⟩ := hcase;have hob : ∀ z, getK ((stW ops T W s M fun j => listed.getD j false).effS e' o.dst).obs z = match getK (W i) z with | some x => x | none => getK (stW ops T W s M fun j => listed.getD j false).obs z := fun z => by
                 simp only [St.effS, hn, zax, hWU]
                 try rfl
                by_cases hk : y ∈ zcx (W i)
                ·rw [hWi y hk] at hy;obtain ⟨x, hx⟩ := zc6 (W i) y hk;rw [hx] at hy;simp only at hy;subst hy;have hmem : (y, some ob') ∈ e'.U := by
                  rw [<- hWU];have : ∀ (l : Wr), getK l y = some (some ob') -> (y, some ob') ∈ l := by
                   intro l
                   induction l with
                   | nil => intro h; cases h
                   | cons p l ih =>
                    obtain ⟨k', d'⟩ := p;intro h;rw [zaa] at h;by_cases hyk : y = k'
                    ·rw [if_pos hyk] at h; cases h; subst hyk; simp
                    ·rw [if_neg hyk] at h; exact List.mem_cons_of_mem _ (ih h)
                  exact this _ hx
                 obtain ⟨hga, o0, ho0⟩ := hgU _ hmem ob' rfl;obtain ⟨⟨hr, hlt⟩, _⟩ := hobs y o0 ho0;refine ⟨hlt, ob', ?_, (Ob.zbO hga).1, (Ob.zbO hga).2⟩;rw [hr, hob, hx]
                ·rw [hWn y hk] at hy;obtain ⟨⟨hr, hlt⟩, hga⟩ := hobs y ob' (by simp only [stW, zax]; exact hy);refine ⟨hlt, ob', ?_, (Ob.zbO hga).1, (Ob.zbO hga).2⟩;rw [hr, hob, zbK (W i) y hk];simp only [stW, zax];exact hy
               | some nb =>
                rw [hn] at hcase;obtain ⟨x0, hcx, hWU, hTi⟩ := hcase;have hx0 := hcr i x0 hcx;have hob : ∀ z, z ≠ M -> getK ((stW ops T W s M fun j => listed.getD j false).effS e' o.dst).obs z = match getK e'.U z with | some x => x | none => getK (stW ops T W s M fun j => listed.getD j false).obs z := fun z hz => by
                 have : ∀ (q : St) (d : D), (q.put o.dst d).obs = q.obs := fun q d => by cases o.dst <;> rfl
                 simp only [St.effS, hn, this, zaa];rw [if_neg (by simpa [stW] using hz), zax]
                 try rfl
                have hobM : getK ((stW ops T W s M fun j => listed.getD j false).effS e' o.dst).obs M = some nb := by
                 have : ∀ (q : St) (d : D), (q.put o.dst d).obs = q.obs := fun q d => by cases o.dst <;> rfl
                 simp only [St.effS, hn, this, zaa];rw [if_pos (by simp [stW])]
                by_cases hyx : y = x0
                ·subst hyx;have hk : y ∈ zcx (W i) := by rw [hWU]; simp [zcx]
                 rw [hWi y hk, hWU, zaa, if_pos rfl] at hy;simp only at hy;cases hy;have hga := hgN ob' hn;refine ⟨hx0.2, ob', ?_, (Ob.zbO hga).1, (Ob.zbO hga).2⟩;simp only [ρ];rw [if_pos hcx];exact hobM
                ·by_cases hk : y ∈ zcx (W i)
                 ·rw [hWi y hk, hWU, zaa, if_neg hyx] at hy;have hk' : y ∈ e'.U.map (·.1) := by
                   rw [hWU] at hk;simp only [zcx, List.map_cons, List.mem_cons] at hk;exact hk.resolve_left hyx
                  obtain ⟨x, hx⟩ := zc6 e'.U y hk';rw [hx] at hy;simp only at hy;subst hy;have hmem : (y, some ob') ∈ e'.U := by
                   have : ∀ (l : Wr), getK l y = some (some ob') -> (y, some ob') ∈ l := by
                    intro l
                    induction l with
                    | nil => intro h; cases h
                    | cons p l ih =>
                     obtain ⟨k', d'⟩ := p;intro h;rw [zaa] at h;by_cases hyk : y = k'
                     ·rw [if_pos hyk] at h; cases h; subst hyk; simp
                     ·rw [if_neg hyk] at h; exact List.mem_cons_of_mem _ (ih h)
                   exact this _ hx
                  obtain ⟨hga, o0, ho0⟩ := hgU _ hmem ob' rfl;obtain ⟨⟨hr, hlt⟩, _⟩ := hobs y o0 ho0;refine ⟨hlt, ob', ?_, (Ob.zbO hga).1, (Ob.zbO hga).2⟩;rw [hr, hob y (by omega), hx]
                 ·rw [hWn y hk] at hy;obtain ⟨⟨hr, hlt⟩, hga⟩ := hobs y ob' (by simp only [stW, zax]; exact hy);refine ⟨hlt, ob', ?_, (Ob.zbO hga).1, (Ob.zbO hga).2⟩;have hk' : y ∉ e'.U.map (·.1) := by
                   rw [hWU] at hk;simp only [zcx, List.map_cons, List.mem_cons, not_or] at hk;exact hk.2
                  rw [hr, hob y (by omega), zbK e'.U y hk'];simp only [stW, zax];exact hy
       have henv2 : ∀ x d', getK (stW ops T W s M fun j => listed.getD j false || j == i).env x = some d' →
                (D.le ρ (((stW ops T W s M fun j => listed.getD j false).effS e' o.dst).at x) d' /\ d'.under M = true) /\ x < s.n := fun x d' hx => by
               simp only [stW] at hx;by_cases hdx : o.dst = some x
               ·rw [henv x hdx] at hx;cases hx;have hlt : x < s.n := by rw [hdx] at hpo; exact hpo
                cases hn : e'.nw with
                | none =>
                 rw [hn] at hcase;rw [hcase.1] at hdx;cases hdx
                | some nb =>
                 rw [hn] at hcase;obtain ⟨x0, hcx, hWU, hTi⟩ := hcase;have hx0 := hcr i x0 hcx;have hρ : ρ x0 = M := by simp only [ρ]; rw [if_pos hcx]
                 refine ⟨⟨.inr (.inl ?_), ?_⟩, hlt⟩
                 ·rw [hTi];simp only [St.effS, hn, hdx, St.put, St.at, zaa, if_true, Option.getD_some];cases e'.how <;> simp [mkD, D.ren, hρ, stW]
                 ·rw [hTi];cases e'.how <;> simp [mkD, D.under, hx0.2]
               ·rw [henv' x hdx] at hx;obtain ⟨g1, g2⟩ := hs.env x d' hx;have hgd := g2.good hknown;have hat : ((stW ops T W s M fun j => listed.getD j false).effS e' o.dst).at x = d' := by
                 have : ∀ (q : St) (d : D), getK (q.put o.dst d).env x = getK q.env x := fun q d => by
                  cases hd : o.dst with
                  | none => rfl
                  | some y =>
                   have hne : ¬ x = y := fun e => hdx (by rw [hd, e]);simp only [St.put, zaa, if_neg hne]
                 simp only [St.at, St.effS];cases hn : e'.nw with
                 | none => simp only [stW, hx]; rfl
                 | some nb => simp only [this, stW, hx]; rfl
                rw [hat];exact ⟨⟨.inr (.inl hgd.1.symm), hgd.2⟩, g1⟩
       refine ⟨?_, fun x d' hx => (henv2 x d' hx).1, fun x d' hx => ?_, hobs2, fun y1 y2 o1 o2 g1 g2 hr => hinj y1 y2 (hobs2 y1 o1 g1).1 (hobs2 y2 o2 g2).1 hr, fun j hj => ?_⟩
       ·have : ∀ (q : St) (d : D), (q.put o.dst d).n = q.n := fun q d => by cases o.dst <;> rfl
        simp only [St.effS];cases e'.nw <;> simp only [this] <;> rfl
       ·have : ∀ (q : St) (d : D), (q.put o.dst d).n = q.n := fun q d => by cases o.dst <;> rfl
        have e2 : ((stW ops T W s M fun j => listed.getD j false).effS e' o.dst).n = s.n := by
         simp only [St.effS];cases e'.nw <;> simp only [this] <;> rfl
        rw [e2];exact (henv2 x d' hx).2
       ·have c1 : cr i ≠ some j := fun e => by have := (hcr i j e).1; omega
        have c2 : ¬ un j := fun ⟨q, _, _, hc⟩ => by have := (hcr q j hc).1; omega
        refine ⟨by simp only [ρ]; rw [if_neg c1, if_neg c2], ?_⟩;show j < M;omega
      obtain ⟨g1, g2⟩ := Sim.weak h1 h2 hle;refine go _ a' w' g1 g2 fun j x hj hu hc => ?_;simp only [Kr.ren];split
      ·have c1 : cr i ≠ some x := fun e => by
               have := hcr1 i j x e hc;subst this;simp at hu
       have c2 : un x := ⟨j, hj, hu, hc⟩;simp only [ρ];rw [if_neg c1, if_pos c2];refine h2.hdr _ ?_;have : ∀ (q : St) (d : D), (q.put o.dst d).next = q.next := fun q d => by cases o.dst <;> rfl
       simp only [St.effS];cases e'.nw <;> simp only [this, stW] <;> omega
      ·rfl
    ·rw [if_neg (by rw [hw]; simp)];exact next hv.2 K undef w hin (.refl _) rfl hs.sat (by rw [hv.1]; exact .u _ _ (.oth _))
 have h0 : (fun j => (Array.replicate ops.toArray.size false).getD j false) = fun _ => false := funext fun j => by
  by_cases hj : j < ops.length <;> simp [hj]
 refine key _ _ K a w0 (by simp) (by simp) (fun j y hj hS => ?_) hin0 ?_ fun j x _ _ hc => hs.hdr x (hcr j x hc).1
 ·have : (Array.replicate ops.toArray.size false).getD j false = false := congrFun h0 j;rw [this] at hS;cases hS
 ·rw [h0];have none : ∀ (l : List Oper) (i : Nat) (e : List (Nat × D)), zdj T (fun _ => false) l i e = e := by
   intro l
   induction l with
   | nil => intro i e; rfl
   | cons o l ih => intro i e; simp [zdj, ih]
  have wn : ∀ m, zdI W (fun _ => false) m = [] := by
   intro m
   induction m with
   | zero => rfl
   | succ m ih => simp [zdI, ih]
  refine ⟨hs0.sat.eqo fun y => ?_, hs0.defers, hs0.size, fun x d hx => hs0.env x d ?_, fun y hy => hs0.hdr y (Nat.le_trans hM hy)⟩
  ·simp only [stW, wn]; rfl
  ·simp only [stW, none] at hx; exact hx
end Go.VL
namespace Go.VL
open Go
abbrev Ent := D × Wr × Option Nat × List Nat
def tT (E : Nat -> Ent) (j : Nat) : D := (E j).1
def tW (E : Nat -> Ent) (j : Nat) : Wr := (E j).2.1
def tC (E : Nat -> Ent) (j : Nat) : Option Nat := (E j).2.2.1
def tR (E : Nat -> Ent) (j : Nat) : List Nat := (E j).2.2.2
def cnt (E : Nat -> Ent) : Nat -> Nat
 | 0 => 0
 | i + 1 => cnt E i + if (tC E i).isSome then 1 else 0
abbrev Fp := List (List Nat × List Nat)
def tF (E : Nat -> Ent) (n : Nat) : Fp := (List.range n).map fun j => (tR E j, zcx (tW E j))
def Op2 (P : Program) (s : St) (o : O1) (e : Ent) : Prop :=
 match o.guard with
 | none => Op1 P s o.op o.dst e.1 e.2.1 e.2.2.1 e.2.2.2
 | some (t, want) => (∃ b, getK s.env t = some (.u (.bool b)) /\ if b = want then Op1 P s o.op o.dst e.1 e.2.1 e.2.2.1 e.2.2.2 else e.1 = .un /\ e.2.1 = [] /\ e.2.2.1 = none) \/
  (getK s.env t = some .un /\ e.1 = .un /\ e.2.1 = [] /\ e.2.2.1 = none)
def St.app (s : St) (dst : Option Tmp) (e : Ent) : St :=
 ({ s with obs := zaY e.2.1 s.obs, next := s.next + if e.2.2.1.isSome then 1 else 0 } : St).put dst e.1
def zl8 (P : Program) : List O1 -> St -> Fp -> (St -> Fp -> Prop) -> Prop
 | [], s, fp, k => k s fp
 | o :: rest, s, fp, k => ∃ e : Ent, zaI o.dst s /\ Op2 P s o e /\ (∀ x, e.2.2.1 = some x -> x = s.next) /\ zl8 P rest (s.app o.dst e) (fp ++ [(e.2.2.2, zcx e.2.1)]) k
def HD2 (P : Program) (l : List O1) (s : St) (fp : Fp) (C : Fp -> Prop) (k : St -> Prop) : Prop :=
 ∀ s0 : St, s0.Eqo s -> zl8 P l s0 fp fun s1 fp => C fp /\ ∃ s', s1.Eqo s' /\ k s'
theorem St.Eqo.refl (s : St) : s.Eqo s := ⟨rfl, fun _ => rfl, rfl, fun _ => rfl⟩
theorem St.Eqo.trans {a b c : St} (h : a.Eqo b) (g : b.Eqo c) : a.Eqo c := ⟨h.1.trans g.1, fun x => (h.2.1 x).trans (g.2.1 x), h.2.2.1.trans g.2.2.1, fun x => (h.2.2.2 x).trans (g.2.2.2 x)⟩
theorem St.Eqo.put {s s' : St} (h : s.Eqo s') (x : Option Tmp) (d : D) : (s.put x d).Eqo (s'.put x d) := by
 cases x with
 | none => exact h
 | some x => exact ⟨h.1, h.2.1, h.2.2.1, fun y => by simp only [St.put, zaa, h.2.2.2 y]⟩
theorem zdQ {s s' : St} (h : s.Eqo s') (x : Operand) : opd s x = opd s' x := by
 cases x with
 | tmp t => simp only [opd, St.at, h.2.2.2 t]
 | _ => rfl
theorem zo5 {s s' : St} (h : s.Eqo s') (ds : List D) : zcb s ds = zcb s' ds := by
 cases hx : zcb s ds with
 | some p => exact (zf8 (o' := s'.obs) hx fun i _ => h.2.1 i).symm
 | none =>
  cases hy : zcb s' ds with
  | none => rfl
  | some p => rw [show zcb s ds = some p from zf8 (o' := s.obs) hy fun i _ => (h.2.1 i).symm] at hx; cases hx
theorem zdd {s s' : St} (h : s.Eqo s') (op : Op) : zbq s op = zbq s' op := by
 unfold zbq;have e : (opd s) = opd s' := funext fun x => zdQ h x;split
 ·unfold zbG;simp only [e, zo5 h]
 ·rw [show (fun x => (opd s x).ids) = fun x => (opd s' x).ids from funext fun x => by rw [zdQ h]]
theorem St.Eqo.symm {s s' : St} (h : s.Eqo s') : s'.Eqo s := ⟨h.1.symm, fun x => (h.2.1 x).symm, h.2.2.1.symm, fun x => (h.2.2.2 x).symm⟩
theorem ziU {P} {s s' : St} (h : s.Eqo s') (op : Op) (r : D -> Prop) : valD P s op r = valD P s' op r :=
 propext ⟨zfN (fun _ _ => h.2.1 _) fun x _ => zdQ h x, zfN (fun _ _ => h.symm.2.1 _) fun x _ => zdQ h.symm x⟩
theorem zjm {P} {s s' : St} (h : s.Eqo s') (op : Op) (r : ERes -> Prop) : effD P s op r = effD P s' op r :=
 propext ⟨zdg (fun _ _ => h.2.1 _) fun x _ => zdQ h x, zdg (fun _ _ => h.symm.2.1 _) fun x _ => zdQ h.symm x⟩
theorem zgD {P s fp C k} (hC : C fp) (h : k s) : HD2 P [] s fp C k := fun s0 e => ⟨hC, s, e, h⟩
theorem zqN {P s dst op rest fp C k} (h : valD P s op fun d => zaI dst s /\ HD2 P rest (s.put dst d) (fp ++ [(zbq s op, [])]) C k) : HD2 P (⟨dst, op, none⟩ :: rest) s fp C k := fun s0 e => by
 obtain ⟨d, hv, hp, hr⟩ := Lin.valD.2 _ h;refine ⟨(d, [], none, zbq s op), by cases dst <;> simp_all [zaI, e.1], .inl ⟨?_, rfl, rfl, (zdd e op).symm⟩, fun x hx => (by cases hx), ?_⟩
 ·rw [ziU e]; exact hv
 ·exact hr _ (e.put dst d)
theorem zpj {P s dst op rest fp C k} (h : effD P s op fun e => zaI dst s /\ (e.nw = none -> dst = none) /\
  HD2 P rest (s.effS e dst) (fp ++ [(zbq s op, match e.nw with | none => e.U.map (·.1) | some _ => s.next :: e.U.map (·.1))]) C k) : HD2 P (⟨dst, op, none⟩ :: rest) s fp C k := fun s0 e0 => by
 obtain ⟨e, hv, hp, hd, hr⟩ := Lin.effD.2 _ h;have hp0 : zaI dst s0 := by cases dst <;> simp_all [zaI, e0.1]
 have hv0 : effD P s0 op (· = e) := by rw [zjm e0]; exact hv
 cases hn : e.nw with
 | none =>
  obtain rfl := hd hn;refine ⟨(.any, e.U, none, zbq s op), hp0, .inr ⟨e, hv0, (zdd e0 op).symm, by rw [hn]; exact ⟨rfl, rfl, rfl⟩⟩, fun x hx => (by cases hx), ?_⟩;rw [hn] at hr;refine hr _ ?_;simp only [St.app, St.effS, hn, St.put];exact ⟨e0.1, fun x => by simp only [zax, e0.2.1 x], e0.2.2.1, e0.2.2.2⟩
 | some ob =>
  refine ⟨(mkD e.how s0.next, (s0.next, some ob) :: e.U, some s0.next, zbq s op), hp0, .inr ⟨e, hv0, (zdd e0 op).symm, by rw [hn]; exact ⟨s0.next, rfl, rfl, rfl⟩⟩, fun x hx => (by cases hx; rfl), ?_⟩;rw [hn] at hr;have h1 := hr (s0.app dst (mkD e.how s0.next, (s0.next, some ob) :: e.U, some s0.next, zbq s op)) (by
   simp only [St.app, St.effS, hn, e0.2.2.1];apply St.Eqo.put;refine ⟨e0.1, fun x => ?_, by simp, e0.2.2.2⟩;simp only [zaY, zam, zaa, zax, e0.2.1 x])
  simp only [zcx, List.map_cons];rw [e0.2.2.1] at h1 ⊢;exact h1
def stE (ops : List Oper) (s0 : St) (E : Nat -> Ent) (i : Nat) : St :=
 { n := s0.n, env := zdj (tT E) (fun j => decide (j < i)) ops 0 s0.env, obs := zaY (zdI (tW E) (fun _ => true) i) s0.obs, next := s0.next + cnt E i }
theorem zfC (T T' : Nat -> D) (S : Nat -> Bool) (h : ∀ j, S j = true -> T j = T' j) : ∀ (l : List Oper) (i : Nat) (e : List (Nat × D)), zdj T S l i e = zdj T' S l i e
 | [], _, _ => rfl
 | o :: l, i, e => by
  simp only [zdj];cases hS : S i with
  | true => rw [h i hS]; exact zfC T T' S h l (i + 1) _
  | false => exact zfC T T' S h l (i + 1) _
theorem zeu (W W' : Nat -> Wr) (S : Nat -> Bool) : ∀ m, (∀ j, j < m -> W j = W' j) -> zdI W S m = zdI W' S m
 | 0, _ => rfl
 | m + 1, h => by simp only [zdI, h m (by omega), zeu W W' S m fun j hj => h j (by omega)]
theorem zfb (E E' : Nat -> Ent) : ∀ i, (∀ j, j < i -> E j = E' j) -> cnt E i = cnt E' i
 | 0, _ => rfl
 | i + 1, h => by
  simp only [cnt, tC, h i (by omega), zfb E E' i fun j hj => h j (by omega)]
  try rfl
theorem zec {ops s0} {E E' : Nat -> Ent} {i : Nat} (h : ∀ j, j < i -> E j = E' j) : stE ops s0 E i = stE ops s0 E' i := by
 simp only [stE];rw [zfC (tT E) (tT E') _ (fun j hj => by simp at hj; simp only [tT, h j hj]), zeu (tW E) (tW E') _ i (fun j hj => by simp only [tW, h j hj]), zfb E E' i h]
theorem zlG {E E' : Nat -> Ent} {i : Nat} (h : ∀ j, j < i -> E j = E' j) : tF E i = tF E' i := by
 refine List.map_congr_left fun j hj => ?_;simp only [tR, tW, h j (List.mem_range.1 hj)]
theorem zdh : ∀ (a b : Wr) (o : List (Nat × Ob)), zaY (a ++ b) o = zaY a (zaY b o)
 | [], _, _ => rfl
 | (i, some ob) :: a, b, o => by simp only [List.cons_append, zaY, zdh a b o]
 | (i, none) :: a, b, o => by simp only [List.cons_append, zaY, zdh a b o]
theorem zfJ (W : Nat -> Wr) (i : Nat) : ∀ m, i <= m -> zdI W (fun j => decide (j < i)) m = zdI W (fun _ => true) i
 | 0, h => by obtain rfl : i = 0 := by omega
              try rfl
 | m + 1, h => by
  by_cases he : i = m + 1
  ·subst he;have : ∀ q, q <= m + 1 -> zdI W (fun j => decide (j < m + 1)) q = zdI W (fun _ => true) q := by
    intro q
    induction q with
    | zero => intro _; rfl
    | succ q ih =>
     intro hq;simp only [zdI];rw [ih (by omega), if_pos (by simp; omega), if_pos trivial]
   exact this _ (Nat.le_refl _)
  ·simp only [zdI];rw [if_neg (by simp; omega)];exact zfJ W i m (by omega)
theorem zl7 {P : Program} {all : Array Oper} {s0 : St} {ops : List Oper} {k : St -> Fp -> Prop} : ∀ (l : List O1) (tail : List Oper) (i : Nat) (E : Nat -> Ent), zbm all tail = some l -> (∀ j, tail[j]? = ops[i + j]?) ->
  zl8 P l (stE ops s0 E i) (tF E i) k -> ∃ E' : Nat -> Ent, (∀ j, j < i -> E' j = E j) /\
   (∀ j o, i <= j -> ops[j]? = some o -> zaI o.dst s0 /\ OpG P all (stE ops s0 E' j) o (tT E' j) (tW E' j) (tC E' j) (tR E' j) /\ ∀ x, tC E' j = some x -> x = s0.next + cnt E' j) /\
   k (stE ops s0 E' (i + tail.length)) (tF E' (i + tail.length))
 | [], tail, i, E, hs, ht, h => by
  cases tail with
  | nil => exact ⟨E, fun _ _ => rfl, fun j o hj ho => by have := ht (j - i); rw [show i + (j - i) = j by omega, ho] at this; simp at this, by simpa [zl8] using h⟩
  | cons x l => simp only [zbm] at hs; split at hs <;> simp at hs
 | o1 :: l, tail, i, E, hs, ht, h => by
  obtain ⟨x, tl, rfl, hx, hr⟩ := zdM hs;obtain ⟨e, hp, hv, hnx, hc⟩ := h;have hxi : ops[i]? = some x := by have := ht 0; simpa using this.symm
  have hdst : o1.dst = x.dst := by
   unfold zcS at hx;split at hx
   ·simp at hx; subst hx; rfl
   ·split at hx
    ·simp at hx; subst hx; rfl
    ·cases hx
  let E1 : Nat -> Ent := fun j => if j = i then e else E j
  have h1 : ∀ j, j < i -> E j = E1 j := fun j hj => by simp only [E1]; rw [if_neg (by omega)]
  have hi : E1 i = e := by simp [E1]
  have zcf : (stE ops s0 E i).app o1.dst e = stE ops s0 E1 (i + 1) := by
   rw [zec h1, hdst];simp only [stE, St.app];rw [ze5 (tT E1) i ops 0 s0.env x (Nat.zero_le _) (by simpa using hxi)];have hw : zdI (tW E1) (fun _ => true) (i + 1) = e.2.1 ++ zdI (tW E1) (fun _ => true) i := by
    rw [zdI, if_pos rfl, show tW E1 i = e.2.1 by simp only [tW, hi]]
   have hcn : cnt E1 (i + 1) = cnt E1 i + if e.2.2.1.isSome then 1 else 0 := by
    rw [cnt, show tC E1 i = e.2.2.1 by simp only [tC, hi]]
   rw [hw, zdh, hcn];have hT : tT E1 i = e.1 := by simp only [tT, hi]
   cases x.dst with
   | none => simp only [St.put, nAA]
   | some y => simp only [St.put, hT, nAA]
  have hfp : tF E i ++ [(e.2.2.2, zcx e.2.1)] = tF E1 (i + 1) := by
   rw [zlG h1];simp only [tF, List.range_succ, List.map_append, List.map_cons, List.map_nil];rw [show tR E1 i = e.2.2.2 by simp only [tR, hi], show tW E1 i = e.2.1 by simp only [tW, hi]]
  rw [zcf, hfp] at hc;obtain ⟨E', g1, g2, g3⟩ := zl7 l tl (i + 1) E1 hr (fun j => by have := ht (j + 1); rw [show i + 1 + j = i + (j + 1) by omega, <- this]; simp) hc;refine ⟨E', fun j hj => by rw [g1 j (by omega), h1 j hj], fun j o hj ho => ?_, ?_⟩
  ·rcases Nat.lt_or_ge i j with h' | h'
   ·exact g2 j o h' ho
   ·obtain rfl : i = j := by omega
    rw [hxi] at ho;cases ho;have hEi : E' i = e := by rw [g1 i (by omega), hi]
    have hst : stE ops s0 E' i = stE ops s0 E i := zec fun j hj => by rw [g1 j (by omega), <- h1 j hj]
    refine ⟨by rw [hdst] at hp; exact hp, ?_, fun y hy => ?_⟩
    ·rw [hst];simp only [tT, tW, tC, tR, hEi];unfold zcS at hx;unfold OpG;unfold Op2 at hv;split at hx
     ·rename_i hg;simp at hx;subst hx
      try rw [hg]
      exact hv
     ·rename_i q want hg;split at hx
      ·rename_i t ht';simp at hx;subst hx
       try rw [hg]
       exact ⟨t, ht', hv⟩
      ·cases hx
    ·have : tC E' i = e.2.2.1 := by simp only [tC, hEi]
     rw [this] at hy;have := hnx y hy;rw [this, zfb E' E i fun j hj => by rw [g1 j (by omega), <- h1 j hj]]
     try rfl
  ·rw [show i + (x :: tl).length = i + 1 + tl.length by simp; omega];exact g3
def zm6 (a b : List Nat) : Bool := a.all fun y => !b.contains y
def okP (ops : List Oper) (fp : Fp) : Bool :=
 (List.range ops.length).all fun j => (List.range j).all fun i => zdE ops ops.length i j ||
   (zm6 (fp.getD i ([], [])).2 ((fp.getD j ([], [])).1 ++ (fp.getD j ([], [])).2) && zm6 (fp.getD j ([], [])).2 (fp.getD i ([], [])).1)
theorem zeo {a b : List Nat} (h : zm6 a b = true) : ∀ y ∈ a, y ∉ b := fun y hy => by
 have := (List.all_eq_true.1 h) y hy;simpa using this
theorem zrT {P Γ s} {Q : Exit -> St -> Prop} {kt : Kt} {id : Nat} {l : List Oper} (hm : P.follows .mixedOrders = true) (hord : zfx l = true) (hn0 : Γ.n0 <= s.next)
  (h : ∀ (C : Fp -> Prop) (k : St -> Prop), (∀ fp, okP l fp = true -> C fp) -> (∀ s', zan P Γ Q kt .normal s' -> k s') -> match zbm l.toArray l with | some l' => HD2 P l' s [] C k | none => False) :
  V P Γ (.region id l.toArray true) s (zan P Γ Q kt) := by
 have := h (fun fp => okP l fp = true) _ (fun _ h => h) fun _ h => h;split at this
 ·rename_i l' hl;have h0 : stE l s (fun _ => default) 0 = s := by
   have hnone : ∀ (l : List Oper) (i : Nat) (e : List (Nat × D)), zdj (tT fun _ => default) (fun j => decide (j < 0)) l i e = e := by
    intro l
    induction l with
    | nil => intro i e; rfl
    | cons o l ih => intro i e; exact ih (i + 1) e
   simp only [stE, hnone]
   try rfl
  have hc := this s (.refl s);rw [<- h0] at hc;obtain ⟨E, _, h2, hok, s', h3, h4⟩ := zl7 l' l 0 (fun _ => default) hl (fun j => by rw [Nat.zero_add]) hc;rw [Nat.zero_add] at hok h3;have hlen : ∀ i, i < l.length -> (tF E l.length).getD i ([], []) = (tR E i, zcx (tW E i)) := fun i hi => by
   simp [tF, hi]
  have mono : ∀ i j, i <= j -> cnt E i <= cnt E j := fun i j hij => by
   induction hij with
   | refl => exact Nat.le_refl _
   | step _ ih => simp only [cnt]; omega
  have hcr : ∀ i x, i < l.length -> tC E i = some x -> x = s.next + cnt E i /\ cnt E (i + 1) = cnt E i + 1 := fun i x hi hx => by
   have := (h2 i _ (Nat.zero_le _) (List.getElem?_eq_getElem hi)).2.2 x hx;exact ⟨this, by simp only [cnt, hx]; rfl⟩
  -- behind the operations nothing is made
  let cr : Nat -> Option Nat := fun i => if i < l.length then tC E i else none
  refine zrU (T := tT E) (W := tW E) (cr := cr) (R := tR E) (M := s.next + cnt E l.length) hm hord hn0 (by omega) (fun i x hx => ?_) (fun i j x hi hj => ?_) (fun i j hij hj hb => ?_) (fun i o ho => ?_) ⟨s', ?_, h4⟩
  ·simp only [cr] at hx;split at hx
   ·rename_i hi;obtain ⟨e1, e2⟩ := hcr i x hi hx;have := mono (i + 1) l.length hi;omega
   ·cases hx
  ·simp only [cr] at hi hj;split at hi
   ·rename_i hil;split at hj
    ·rename_i hjl;obtain ⟨e1, e2⟩ := hcr i x hil hi;obtain ⟨e3, e4⟩ := hcr j x hjl hj;rcases Nat.lt_trichotomy i j with hlt | hlt | hlt
     ·have := mono (i + 1) j hlt;omega
     ·exact hlt
     ·have := mono (j + 1) i hlt;omega
    ·cases hj
   ·cases hi
  ·have := (List.all_eq_true.1 ((List.all_eq_true.1 hok) j (List.mem_range.2 hj))) i (List.mem_range.2 hij);rw [hb, hlen i (by omega), hlen j hj] at this;simp only [Bool.false_or, Bool.and_eq_true] at this;refine ⟨fun y hy => ?_, fun y hy => zeo this.2 y hy⟩;have := zeo this.1 y hy;rw [List.mem_append, not_or] at this;exact this
  ·have hi := (lGE.1 ho).1;obtain ⟨g1, g2, g3⟩ := h2 i o (Nat.zero_le _) ho;refine ⟨g1, ?_⟩;have hst : stW l (tT E) (tW E) s (s.next + cnt E l.length) (fun j => decide (j < i)) = { stE l s E i with next := s.next + cnt E l.length } := by
    simp only [stW, stE];rw [zfJ (tW E) i l.length (by omega)]
   have hcri : cr i = tC E i := by simp only [cr]; rw [if_pos hi]
   rw [hst, hcri];have eqo : ∀ (op : Op) (r : D -> Prop), valD P { stE l s E i with next := s.next + cnt E l.length } op r = valD P (stE l s E i) op r := fun op r => zdl rfl fun x _ => by cases x <;> rfl
   have ero : ∀ (op : Op), zbq { stE l s E i with next := s.next + cnt E l.length } op = zbq (stE l s E i) op := fun op => by
    have e : opd { stE l s E i with next := s.next + cnt E l.length } = opd (stE l s E i) := funext fun x => by cases x <;> rfl
    unfold zbq zbG zcb;rw [e]
   have efo : ∀ (op : Op) (r : ERes -> Prop), effD P { stE l s E i with next := s.next + cnt E l.length } op r = effD P (stE l s E i) op r := fun op r =>
    propext ⟨zdg (fun _ _ => rfl) fun x _ => by cases x <;> rfl, zdg (fun _ _ => rfl) fun x _ => by cases x <;> rfl⟩
   unfold OpG at g2 ⊢;unfold Op1 at g2 ⊢;simp only [eqo, ero, efo];exact g2
  ·refine St.Eqo.trans (b := stE l s E l.length) ⟨rfl, fun x => ?_, rfl, fun x => ?_⟩ h3
   ·simp only [stW, stE]
   ·simp only [stW, stE];exact zbp (tT E) _ _ x l 0 s.env s.env rfl fun j o hj _ => by
     have := (lGE.1 hj).1;simp [this]
 ·exact this.elim
end Go.VL
namespace Go.VL
open Go
def zby : Op -> Bool
 | .alloc _ | .box .. | .store .. | .buildSlice .. | .makeSlice .. | .makeMap _ none | .mapUpdate .. | .insert .. => true
 | .call c => match c.callee with | .builtin .append => true | _ => false
 | _ => false
theorem zhQ {P s dst op rest fp C k} (_ : zby op = false) (h : valD P s op fun d => zaI dst s /\ HD2 P rest (s.put dst d) (fp ++ [(zbq s op, [])]) C k) : HD2 P (⟨dst, op, none⟩ :: rest) s fp C k := zqN h
theorem zhR {P s dst op rest fp C k} (_ : zby op = true) (h : effD P s op fun e => zaI dst s /\ (e.nw = none -> dst = none) /\
  HD2 P rest (s.effS e dst) (fp ++ [(zbq s op, match e.nw with | none => e.U.map (·.1) | some _ => s.next :: e.U.map (·.1))]) C k) : HD2 P (⟨dst, op, none⟩ :: rest) s fp C k := zpj h
theorem zb5 {P Γ s} {Q : Exit -> St -> Prop} {kt : Kt} {id : Nat} {l : List Oper} (_ : (l.all fun o => !zby o.op) = true) (hm : P.follows .mixedOrders = true) (hord : zfx l = true)
  (h : ∀ k : St -> Prop, (∀ s', zan P Γ Q kt .normal s' -> k s') -> match zbm l.toArray l with | some l' => HD P l' s k | none => False) : V P Γ (.region id l.toArray true) s (zan P Γ Q kt) := zrV hm hord h
theorem zhO {P Γ s} {Q : Exit -> St -> Prop} {kt : Kt} {id : Nat} {l : List Oper} (_ : (l.all fun o => !zby o.op) = false) (hm : P.follows .mixedOrders = true) (hord : zfx l = true) (hn0 : Γ.n0 <= s.next)
  (h : ∀ (C : Fp -> Prop) (k : St -> Prop), (∀ fp, okP l fp = true -> C fp) -> (∀ s', zan P Γ Q kt .normal s' -> k s') -> match zbm l.toArray l with | some l' => HD2 P l' s [] C k | none => False) :
  V P Γ (.region id l.toArray true) s (zan P Γ Q kt) := zrT hm hord hn0 h
end Go.VL
namespace Go.VL
open Go
def zs7 (ρ : Nat -> Nat) (s : St) (nx : Nat) : List (Nat × D) -> Prop
 | [] => True
 | p :: l => (D.le ρ (s.at p.1) p.2 /\ p.2.under nx = true /\ p.1 < s.n) /\ zs7 ρ s nx l
def leL (ρ : Nat -> Nat) : List D -> List D -> Prop
 | [], [] => True
 | a :: az, b :: bs => D.le ρ a b /\ leL ρ az bs
 | _, _ => False
theorem zom {ρ} : ∀ {a b : List D}, leL ρ a b -> a.length = b.length /\ ∀ (j : Nat) (c c' : D), a[j]? = some c -> b[j]? = some c' -> D.le ρ c c'
 | [], [], _ => ⟨rfl, by simp⟩
 | a :: az, b :: bs, h => by
  obtain ⟨h1, h2⟩ := zom h.2;refine ⟨by simp [h1], fun j c c' hj hj' => ?_⟩;cases j with
  | zero => simp at hj hj'; subst hj; subst hj'; exact h.1
  | succ j => exact h2 j c c' (by simpa using hj) (by simpa using hj')
 | [], b :: bs, h => h.elim
 | a :: az, [], h => h.elim
theorem zfk {α : Type} : ∀ {l : List (Nat × α)} {x : Nat} {d : α}, getK l x = some d -> x ∈ l.map (·.1)
 | [], x, d, h => by simp [getK] at h
 | (y, e) :: l, x, d, h => by
  rw [zaa] at h;by_cases hx : x = y
  ·subst hx; simp
  ·rw [if_neg hx] at h; exact List.mem_cons_of_mem _ (zfk h)
theorem Ob.zsW {ρ cs cs'} (h : leL ρ cs cs') : Ob.le ρ (.box cs) (.box cs') := zom h
def zkR (rows : List (List D)) : Prop := ∀ r ∈ rows, ∀ c ∈ r, ∃ x, c = .u x
theorem znt : zkR [] := fun _ h => by cases h
theorem zmh {r : List D} {a : List (List D)} (hr : ∀ c ∈ r, ∃ x, c = D.u x) (ha : zkR a) : zkR (r :: a) := fun q hq => by
 rcases List.mem_cons.1 hq with rfl | hq
 ·exact hr
 ·exact ha q hq
theorem Ob.zsV {ρ e sz rows rows'} (hu : zkR rows) (hl : rows'.length <= rows.length) (hp : ∀ i, i < rows'.length -> rows'[i]? = rows[i]?) : Ob.le ρ (.vec e sz rows) (.vec e sz rows') := by
 refine ⟨rfl, rfl, hl, fun i r r' hi hi' => ?_⟩;have := hp i (lGE.1 hi').1;rw [hi, hi'] at this;cases this;refine ⟨rfl, fun j c c' hj hj' => ?_⟩;rw [hj] at hj';cases hj';obtain ⟨x, rfl⟩ := hu _ (List.mem_of_getElem? hi) _ (List.mem_of_getElem? hj);exact .inr (.inl (by simp [D.ren]))
theorem Ob.zlw {ρ e sz rows} (hu : zkR rows) : Ob.le ρ (.vec e sz rows) (.vec e sz rows) := Ob.zsV hu (Nat.le_refl _) fun _ _ => rfl
theorem Ob.zkI {n e sz rows} (hu : zkR rows) : Ob.under n (.vec e sz rows) = true := by
 simp only [Ob.under, List.all_eq_true];intro r hr c hc;obtain ⟨x, rfl⟩ := hu r hr c hc;simp [D.under]
theorem LoopI.next {α : Type} {n0 : Nat} {S : α -> St} {μ : α -> Nat} {x : α} {s : St} (y : α) (ρ : Nat -> Nat) (h1 : μ y < μ x) (h2 : St.Le n0 ρ s (S y)) : LoopI n0 S μ x s := ⟨y, ρ, h1, h2⟩
theorem EndOK.fin {P : Program} {fn : Func} {n0 : Nat} {e : Exit} {s : St} {post : D -> List (Nat × Ob) -> Nat -> Prop} (he : e = .normal \/ e = .ret)
  (h : zaK P s fn.results.toList fun ds => FinOK n0 post s (zaf ds)) : EndOK P fn n0 post e s := ⟨he, h⟩
theorem FinOK.intro {n0 : Nat} {post : D -> List (Nat × Ob) -> Nat -> Prop} {s : St} {d : D} (s' : St) (ρ : Nat -> Nat) (d' : D) (h1 : St.Le n0 ρ s s') (h2 : D.le ρ d d') (h3 : d'.under s'.next = true)
  (h4 : n0 <= s'.next) (h5 : post d' s'.obs s'.next) : FinOK n0 post s d := .inl ⟨s', ρ, d', h1, h2, h3, h4, h5⟩
theorem FinOK.here {n0 : Nat} {post : D -> List (Nat × Ob) -> Nat -> Prop} {s : St} {d : D} (hn : n0 <= s.next) (h : post d s.obs s.next) : FinOK n0 post s d := .inr ⟨hn, h⟩
theorem zhn {f : D -> D} : ∀ {l : List D}, (∀ d ∈ l, f d = d) -> l.map f = l
 | [], _ => rfl
 | d :: l, h => by rw [List.map_cons, h d (by simp), zhn fun e he => h e (by simp [he])]
theorem D.zkK : ∀ d : D, d.ren (fun i => i) = d
 | .u _ => by rw [D.ren]
 | .any => by rw [D.ren]
 | .ptr .. => by rw [D.ren]
 | .vec .. => by rw [D.ren]
 | .elt .. => by rw [D.ren]
 | .mp .. => by rw [D.ren]
 | .fnc f caps => by rw [D.ren, zhn fun d hd => D.zkK d]
 | .bnd f caps => by rw [D.ren, zhn fun d hd => D.zkK d]
 | .agg cs => by rw [D.ren, zhn fun d hd => D.zkK d]
 | .tup cs => by rw [D.ren, zhn fun d hd => D.zkK d]
termination_by d => SizeOf.sizeOf d
decreasing_by
 all_goals
  simp_wf
  have := List.sizeOf_lt_of_mem hd;omega
theorem D.le_id (d : D) : D.le (fun i => i) d d := .inr (.inl (D.zkK d).symm)
theorem Ob.le_id (ob : Ob) : Ob.le (fun i => i) ob ob := by
 cases ob with
 | it => exact ⟨rfl, rfl, rfl, rfl, rfl⟩
 | nw t => exact (rfl : t = t)
 | map kk ag es => exact ⟨rfl, rfl, rfl, fun i r r' h h' => by
   rw [h] at h';cases h';exact ⟨rfl, fun j c c' h h' => by rw [h] at h'; cases h'; exact D.le_id _⟩⟩
 | box cs => exact ⟨rfl, fun j c c' h h' => by rw [h] at h'; cases h'; exact D.le_id _⟩
 | vec e sz rows => exact ⟨rfl, rfl, Nat.le_refl _, fun i r r' h h' => by
   rw [h] at h';cases h';exact ⟨rfl, fun j c c' h h' => by rw [h] at h'; cases h'; exact D.le_id _⟩⟩
theorem FinOK.same {n0 : Nat} {post : D -> List (Nat × Ob) -> Nat -> Prop} {s : St} {d : D} (ho : ∀ p ∈ s.obs, p.1 < s.next /\ p.2.under s.next = true) (hd : d.under s.next = true) (hn : n0 <= s.next)
  (h : post d s.obs s.next) : FinOK n0 post s d := by
 have hg : ∀ i ob, getK s.obs i = some ob -> (i, ob) ∈ s.obs := by
  have : ∀ (l : List (Nat × Ob)) i ob, getK l i = some ob -> (i, ob) ∈ l := by
   intro l
   induction l with
   | nil => intro i ob h; simp [getK] at h
   | cons p l ih =>
    obtain ⟨k, o⟩ := p;intro i ob h;rw [zaa] at h;by_cases hk : i = k
    ·rw [if_pos hk] at h; cases h; subst hk; simp
    ·rw [if_neg hk] at h; exact List.mem_cons_of_mem _ (ih i ob h)
  exact this s.obs
 exact .inl ⟨{ s with env := [] }, fun i => i, d, ⟨rfl, fun x d' hx => by simp [getK] at hx, fun x d' hx => by simp [getK] at hx,
  fun i ob hi => ⟨(ho _ (hg i ob hi)).1, ob, hi, Ob.le_id ob, (ho _ (hg i ob hi)).2⟩, fun _ _ _ _ _ _ h => h, fun i hi => ⟨rfl, Nat.lt_of_lt_of_le hi hn⟩⟩, D.le_id d, hd, hn, h⟩
theorem zfA {α : Type} : ∀ {l : List (Nat × α)} {i : Nat} {ob : α}, getK l i = some ob -> (i, ob) ∈ l
 | [], i, ob, h => by simp [getK] at h
 | (k, o) :: l, i, ob, h => by
  rw [zaa] at h;by_cases hk : i = k
  ·rw [if_pos hk] at h; cases h; subst hk; simp
  ·rw [if_neg hk] at h; exact List.mem_cons_of_mem _ (zfA h)
theorem FinOK.sub {n0 : Nat} {post : D -> List (Nat × Ob) -> Nat -> Prop} {s : St} {d : D} (obs : List (Nat × Ob)) (ho : ∀ p ∈ obs, getK s.obs p.1 = some p.2 /\ p.1 < s.next /\ p.2.under s.next = true) (hd : d.under s.next = true) (hn : n0 <= s.next)
  (h : post d obs s.next) : FinOK n0 post s d :=
 .inl ⟨{ s with env := [], obs := obs }, fun i => i, d, ⟨rfl, fun x d' hx => by simp [getK] at hx, fun x d' hx => by simp [getK] at hx,
  fun i ob hi => ⟨(ho _ (zfA hi)).2.1, ob, (ho _ (zfA hi)).1, Ob.le_id ob, (ho _ (zfA hi)).2.2⟩, fun _ _ _ _ _ _ h => h, fun i hi => ⟨rfl, Nat.lt_of_lt_of_le hi hn⟩⟩, D.le_id d, hd, hn, h⟩
theorem Ret.mono {P f ds obs nx} {p q : D -> List (Nat × Ob) -> Nat -> Prop} (h : Ret P f ds obs nx p) (hq : ∀ d o n, p d o n -> q d o n) : Ret P f ds obs nx q := fun k own w vs h1 h2 h3 h4 =>
 Calls.mono (h k own w vs h1 h2 h3 h4) fun _ _ ⟨v, d, o, n, k', e, a, b, c, g, r, hpost⟩ => ⟨v, d, o, n, k', e, a, b, c, g, r, hq d o n hpost⟩
end Go.VL
namespace Go.VL
open Go
def Wk (Γ : Ctx) (s s' : St) : Prop := ∀ K a w, In Γ K w -> Sim K Γ.own s a w -> ∃ K', In Γ K' w /\ Sim K' Γ.own s' a w
theorem Wk.refl {Γ : Ctx} (s : St) : Wk Γ s s := fun K _ _ h g => ⟨K, h, g⟩
theorem Wk.trans {Γ : Ctx} {a b c : St} (h : Wk Γ a b) (g : Wk Γ b c) : Wk Γ a c := fun K x w h1 h2 =>
 let ⟨K1, h3, h4⟩ := h K x w h1 h2
 g K1 x w h3 h4
theorem Wk.le {Γ : Ctx} {s s' : St} (ρ : Nat -> Nat) (h : St.Le Γ.n0 ρ s s') : Wk Γ s s' := fun _ _ _ h1 h2 => ⟨_, Sim.weak h1 h2 h⟩
theorem zlt {P Γ c s Q} (s' : St) (hw : Wk Γ s s') (h : V P Γ c s' Q) : V P Γ c s Q := fun K a w hin hs =>
 let ⟨K', h1, h2⟩ := hw K a w hin hs
 h K' a w h1 h2
def LoopW {α : Type} (Γ : Ctx) (S : α -> St) (μ : α -> Nat) (x : α) (s : St) : Prop := ∃ y, μ y < μ x /\ Wk Γ s (S y)
theorem LoopW.next {α : Type} {Γ : Ctx} {S : α -> St} {μ : α -> Nat} {x : α} {s : St} (y : α) (h1 : μ y < μ x) (h2 : Wk Γ s (S y)) : LoopW Γ S μ x s := ⟨y, h1, h2⟩
theorem zpa {P Γ Q k s} {c : Code} {α : Type} (S : α -> St) (μ : α -> Nat) (x0 : α) (h0 : Wk Γ s (S x0))
  (h : ∀ x, V P Γ c (S x) (zan P Γ Q (.loop (LoopW Γ S μ x) k))) : V P Γ (.loop c) s (zan P Γ Q k) := by
 intro K a w hin hs;obtain ⟨K0, hin0, hs0⟩ := h0 K a w hin hs;have key : ∀ (m : Nat) (x : α) (K : Kr) (a : Act) (w : World), μ x = m -> In Γ K w -> Sim K Γ.own (S x) a w ->
   ∀ (b : Frame) (kk : List Item) (cs : List Frame), ∃ e a' w', VPost Γ (zan P Γ Q k) e a' w' /\
    Arrives P (lone (b.at a (.code c :: .inLoop c :: kk)) cs w) b kk cs e a' w' := by
  intro m
  induction m using Nat.strongRecOn with
  | _ m ih =>
   intro x K a w hm hin hs b kk cs;obtain ⟨e, a1, w1, hv1, harr⟩ := h x K a w hin hs b (.inLoop c :: kk) cs;rcases hv1 with ⟨K1, s1, h1, h2, h3⟩ | hv1
   ·cases e with
    | normal =>
     obtain ⟨y, hlt, hle⟩ := h3;obtain ⟨K2, h4, h5⟩ := hle K1 a1 w1 h1 h2;obtain ⟨e2, a2, w2, hq, harr2⟩ := ih (μ y) (hm ▸ hlt) y _ a1 w1 rfl h4 h5 b kk cs;exact ⟨e2, a2, w2, hq, .of_steps (Steps.trans harr (.one step_inLoop)) harr2⟩
    | exit id => exact ⟨.exit id, a1, w1, .inl ⟨K1, s1, h1, h2, h3⟩, .pass (x := .inLoop c) rfl (fun _ _ => .inl (by simp)) harr⟩
    | goto l => exact ⟨.goto l, a1, w1, .inl ⟨K1, s1, h1, h2, h3⟩, .pass (x := .inLoop c) rfl (fun _ _ => .inl (by simp)) harr⟩
    | ret => exact ⟨.ret, a1, w1, .inl ⟨K1, s1, h1, h2, h3⟩, .pass (x := .inLoop c) rfl (fun _ _ => .inl (by simp)) harr⟩
    | panic ch => exact ⟨.panic ch, a1, w1, .inl ⟨K1, s1, h1, h2, h3⟩, .pass (x := .inLoop c) rfl (fun _ _ => .inl (by simp)) harr⟩
    | outgrown => exact ⟨.outgrown, a1, w1, .inl ⟨K1, s1, h1, h2, h3⟩, .pass (x := .inLoop c) rfl (fun _ _ => .inl (by simp)) harr⟩
   ·cases e with
    | normal => exact hv1.1.elim
    | _ => exact ⟨_, a1, w1, .inr hv1, .pass (x := .inLoop c) rfl (fun _ _ => .inl (by simp)) harr⟩
 intro b kk cs;obtain ⟨e, a', w', hq, harr⟩ := key _ x0 K0 a w rfl hin0 hs0 b kk cs;exact ⟨e, a', w', hq, .of_steps (.one step_loop) harr⟩
def EndW (P : Program) (Γ : Ctx) (fn : Func) (n0 : Nat) (post : D -> List (Nat × Ob) -> Nat -> Prop) (e : Exit) (s : St) : Prop := ∃ s', Wk Γ s s' /\ EndOK P fn n0 post e s'
theorem EndW.here {P Γ fn n0 post e s} (h : EndOK P fn n0 post e s) : EndW P Γ fn n0 post e s := ⟨s, .refl s, h⟩
theorem EndW.wk {P Γ fn n0 post e s} (s' : St) (hw : Wk Γ s s') (h : EndW P Γ fn n0 post e s') : EndW P Γ fn n0 post e s :=
 let ⟨s2, h1, h2⟩ := h
 ⟨s2, hw.trans h1, h2⟩
theorem zpb {P Γ c s fn n0 post} (h : V P Γ c s (zan P Γ (EndW P Γ fn n0 post) .done)) : V P Γ c s (zan P Γ (EndOK P fn n0 post) .done) := by
 intro K a w hin hs;have h1 := h K a w hin hs;refine Code.wp_mono ?_ h1;rintro e a' w' (⟨K', s', h2, h3, hq⟩ | h2)
 ·cases e with
  | panic ch => exact .inl ⟨K', s', h2, h3, hq⟩
  | _ =>
   obtain ⟨s2, hw, he⟩ := hq;obtain ⟨K2, h4, h5⟩ := hw K' a' w' h2 h3;exact .inl ⟨K2, s2, h4, h5, he⟩
 ·exact .inr h2
theorem Fun.of_bodyW {P f fn c ds post} (hf : P.funcs[f]? = some fn) (hb : fn.body = some c) (hn : ds.length <= fn.ntmps)
  (h : ∀ Γ : Ctx, Γ.n0 = 0 -> V P Γ c (entry ds fn.ntmps [] 0) (zan P Γ (EndW P Γ fn 0 fun d _ _ => zas d = true /\ post d) .done)) : Fun P f ds post :=
 Fun.of_body hf hb hn fun Γ hn => zpb (h Γ hn)
theorem Ret.of_bodyW {P f fn c ds obs nx post} (hf : P.funcs[f]? = some fn) (hb : fn.body = some c) (hn : ds.length <= fn.ntmps)
  (h : ∀ Γ : Ctx, Γ.n0 = nx -> V P Γ c (entry ds fn.ntmps obs nx) (zan P Γ (EndW P Γ fn nx post) .done)) : Ret P f ds obs nx post :=
 Ret.of_body hf hb hn fun Γ hn => zpb (h Γ hn)
def St.own (s : St) (x e sz : Nat) : St := { s with env := (x, .vec s.next 0) :: s.env, obs := (s.next, .vec e sz []) :: s.obs, next := s.next + 1 }
theorem zo7 {Γ : Ctx} {k s a w} (e sz : Nat) (hsz : 0 < sz) (hin : In Γ k w) (hs : Sim k Γ.own s a w) :
  In Γ (k.add s.next (none, 0)) w /\ Sim (k.add s.next (none, 0)) Γ.own { s with obs := (s.next, .vec e sz []) :: s.obs, next := s.next + 1 } a w := by
 have hi := hs.hdr s.next (Nat.le_refl _)
 have hle := Kr.zga (h := (none, 0)) hi;refine ⟨hin.step hle (fun b o v e => .inl e) rfl rfl rfl (Nat.le_refl _) fun _ _ => rfl, ⟨?_, hs.defers, hs.size, fun x d hx => ⟨(hs.env x d hx).1, (hs.env x d hx).2.mono hle⟩, fun i hi' => ?_⟩⟩
 ·exact hs.sat.add hi (fun b hb => by cases hb) (fun _ _ => rfl) ⟨[], ⟨by simp, .inl ⟨rfl, rfl⟩⟩, hsz, by simp, by simp⟩
 ·simp only [Kr.add];rw [if_neg (by simp only at hi'; omega)];exact hs.hdr i (by simp only at hi'; omega)
theorem Wk.own {Γ : Ctx} {s : St} (x e sz : Nat) (hsz : 0 < sz) (hx : getK s.env x = some (.u .nil)) : Wk Γ s (s.own x e sz) := by
 intro k a w hin hs;obtain ⟨h1, h2⟩ := zo7 e sz hsz hin hs;refine ⟨_, h1, ⟨h2.sat, h2.defers, h2.size, fun y d hy => ?_, h2.hdr⟩⟩;simp only [St.own, zaa] at hy;by_cases hyx : y = x
 ·subst hyx;rw [if_pos rfl] at hy;cases hy;obtain ⟨h3, h4⟩ := hs.env y _ hx;refine ⟨h3, ?_⟩;rw [zdo h4];exact .vec s.next 0 (none, 0) (by simp [Kr.add])
 ·rw [if_neg hyx] at hy;exact h2.env y d hy
def St.ownC (s : St) (i : Nat) (cells : List D) (j e sz : Nat) : St := { s with obs := (s.next, .vec e sz []) :: zcJ s.obs i (.box (cells.set j (.vec s.next 0))), next := s.next + 1 }
theorem Wk.ownC {Γ : Ctx} {s : St} (i : Nat) (cells : List D) (j e sz : Nat) (hsz : 0 < sz) (hi : getK s.obs i = some (.box cells)) (hj : cells[j]? = some (.u .nil)) : Wk Γ s (s.ownC i cells j e sz) := by
 intro k a w hin hs;obtain ⟨h1, h2⟩ := zo7 e sz hsz hin hs;have hne : i ≠ s.next := fun h => by
  obtain ⟨g, h3, _⟩ := hs.sat.ob i _ hi;rw [h, hs.hdr s.next (Nat.le_refl _)] at h3;cases h3
 refine ⟨_, h1, ⟨?_, h2.defers, h2.size, h2.env, h2.hdr⟩⟩;have hi' : getK ((s.next, Ob.vec e sz []) :: s.obs) i = some (.box cells) := by rw [zaa, if_neg hne]; exact hi
 obtain ⟨g, hg, hg1, b, vs, t, e1, h3, h4, h5⟩ := h2.sat.ob i _ hi';refine Sat.congr (Sat.set h2.sat hi' hg (fun _ _ => rfl) (ob' := .box (cells.set j (.vec s.next 0))) ⟨b, vs, t, e1, h3, by simpa using h4, fun y d hy => ?_⟩) fun y => ?_
 ·rw [List.getElem?_set] at hy;by_cases hyj : j = y
  ·subst hyj;rw [if_pos rfl] at hy;have hlt := (lGE.1 hj).1;rw [if_pos hlt] at hy;cases hy;obtain ⟨h6, h7⟩ := h5 j _ hj;refine ⟨h6, ?_⟩;rw [zdo h7];exact .vec s.next 0 (none, 0) (by simp [Kr.add])
  ·rw [if_neg hyj] at hy;exact h5 y d hy
 ·simp only [St.ownC, zaa, zam];by_cases hy : y = i
  ·subst hy; simp [hne]
  ·simp [hy]
def fv (σ : D -> Option U) (d : D) : D := match σ d with | some u => .u u | none => d
def frzS (σ : D -> Option U) : D -> D
 | .u x => .u x
 | .ptr j o => fv σ (.ptr j o)
 | .vec j len => fv σ (.vec j len)
 | .elt j a b c => .elt j a b c
 | .mp j => fv σ (.mp j)
 | .fnc f caps => .fnc f (caps.map fun d => frzS σ d)
 | .bnd f caps => .bnd f (caps.map fun d => frzS σ d)
 | .agg cs => zc1 (cs.map fun d => frzS σ d)
 | .tup cs => .tup (cs.map fun d => frzS σ d)
 | .any => .any
theorem Rep.frz {k k' : Kr} {σ : D -> Option U} (hle : k.le k') (hf : ∀ d u v, σ d = some u -> Rep k d v -> RepU k'.mem u v) :
  ∀ {d : D} {v : Value}, Rep k d v -> Rep k' (frzS σ d) v := by
 intro d v h;have leaf : ∀ d v, Rep k d v -> Rep k' (fv σ d) v := fun d v h => by
  unfold fv;split
  ·rename_i u hu;exact .u _ _ (hf d u v hu h)
  ·exact h.mono hle
 induction h with
 | u x v h => rw [VL.frzS]; exact .u x v (h.mono hle.mem)
 | any v => rw [VL.frzS]; exact .any v
 | ptr j off b c h => rw [VL.frzS]; exact leaf _ _ (.ptr j off b c h)
 | vec j len h hh => rw [VL.frzS]; exact leaf _ _ (.vec j len h hh)
 | mp j b c h => rw [VL.frzS]; exact leaf _ _ (.mp j b c h)
 | elt j sz idx off b c h => rw [VL.frzS]; exact .elt j sz idx off b c (hle.hdr _ _ h)
 | fnc f caps vs hl hr ih =>
  rw [VL.frzS];refine .fnc f _ vs (by simpa using hl) fun j d hj => ?_;rw [List.getElem?_map] at hj;cases hc : caps[j]? with
  | none => rw [hc] at hj; cases hj
  | some e => rw [hc] at hj; cases hj; exact ih j e hc
 | bnd f caps vs hl hr ih =>
  rw [VL.frzS];refine .bnd f _ vs (by simpa using hl) fun j d hj => ?_;rw [List.getElem?_map] at hj;cases hc : caps[j]? with
  | none => rw [hc] at hj; cases hj
  | some e => rw [hc] at hj; cases hj; exact ih j e hc
 | agg cells vs hl hr ih =>
  rw [VL.frzS];refine zef (by simpa using hl) fun j d hj => ?_;rw [List.getElem?_map] at hj;cases hc : cells[j]? with
  | none => rw [hc] at hj; cases hj
  | some e => rw [hc] at hj; cases hj; exact ih j e hc
 | tup cells vs hl hr ih =>
  rw [VL.frzS];refine .tup _ vs (by simpa using hl) fun j d hj => ?_;rw [List.getElem?_map] at hj;cases hc : cells[j]? with
  | none => rw [hc] at hj; cases hj
  | some e => rw [hc] at hj; cases hj; exact ih j e hc
def frzObS (σ : D -> Option U) : Ob -> Ob
 | .box cs => .box (cs.map (frzS σ))
 | .vec e sz rows => .vec e sz (rows.map fun r => r.map (frzS σ))
 | .map kk ag es => .map kk ag (es.map fun p => (p.1, p.2.map (frzS σ)))
 | .it kk ag es left cur => .it kk ag es left cur
 | .nw t => .nw t
theorem ObAt.frz {k k' : Kr} {σ : D -> Option U} (hle : k.le k') (hf : ∀ d u v, σ d = some u -> Rep k d v -> RepU k'.mem u v) {w h ob} (ho : ObAt k w h ob) : ObAt k' w h (frzObS σ ob) := by
 cases ob with
 | box cs =>
  obtain ⟨b, vs, t, e, h1, h2, h3⟩ := ho;refine ⟨b, vs, t, e, h1, by simpa using h2, fun j d hj => ?_⟩;rw [List.getElem?_map] at hj;cases hc : cs[j]? with
  | none => rw [hc] at hj; cases hj
  | some e => rw [hc] at hj; cases hj; exact ⟨(h3 j e hc).1, (h3 j e hc).2.frz hle hf⟩
 | it kk ag es left cur =>
  obtain ⟨b, e, h1⟩ := ho;exact ⟨b, e, h1.keep hle.mem rfl⟩
 | nw t => exact ho
 | map kk ag es =>
  obtain ⟨b, ents, clock, es0, e, h1, hpm, h2⟩ := ho;have hget : ∀ i (p : Key × List D), (es0.map fun p => (p.1, p.2.map (frzS σ)))[i]? = some p -> ∃ q : Key × List D, es0[i]? = some q /\ p = (q.1, q.2.map (frzS σ)) := fun i p hp => by
   rw [List.getElem?_map] at hp;cases hc : es0[i]? with
   | none => rw [hc] at hp; cases hp
   | some q => rw [hc] at hp; cases hp; exact ⟨q, hc, rfl⟩
  refine ⟨b, ents, clock, _, e, h1, hpm.map _, ⟨by simpa using h2.size, fun p hp => ?_, by rw [List.pairwise_map]; exact h2.once, fun i p hp => ?_, h2.born, h2.apart⟩⟩
  ·obtain ⟨q, hq, rfl⟩ := List.mem_map.1 hp;exact h2.kind q hq
  ·obtain ⟨q, hq, rfl⟩ := hget i p hp;obtain ⟨en, h3, h4, h5⟩ := h2.ent i q hq;refine ⟨en, h3, h4, ?_⟩;unfold MV at h5 ⊢;split at h5
   ·rename_i hag;obtain ⟨vs, h6, h7, h8⟩ := h5;rw [if_pos hag];refine ⟨vs, h6, by simpa using h7, fun j d hj => ?_⟩;rw [List.getElem?_map] at hj;cases hc : q.2[j]? with
    | none => rw [hc] at hj; cases hj
    | some x => rw [hc] at hj; cases hj; exact ⟨(h8 j x hc).1, (h8 j x hc).2.frz hle hf⟩
   ·rename_i hag;obtain ⟨d, h6, h7⟩ := h5;rw [if_neg hag];exact ⟨_, by rw [h6]; rfl, h7.1, h7.2.frz hle hf⟩
 | vec e sz rows =>
  obtain ⟨xs, h1, h2, h3, h4⟩ := ho;refine ⟨xs, by simpa using h1, h2, fun r hr => ?_, fun j r hr y d hy => ?_⟩
  ·obtain ⟨q, hq, rfl⟩ := List.mem_map.1 hr;simpa using h3 q hq
  ·rw [List.getElem?_map] at hr;cases hc : rows[j]? with
   | none => rw [hc] at hr; cases hr
   | some q =>
    rw [hc] at hr;cases hr;rw [List.getElem?_map] at hy;cases hd : q[y]? with
    | none => rw [hd] at hy; cases hy
    | some e => rw [hd] at hy; cases hy; exact ⟨(h4 j q hc y e hd).1, (h4 j q hc y e hd).2.frz hle hf⟩
def St.frzS (s : St) (i : Nat) (σ : D -> Option U) (js : List Nat) : St :=
 { s with env := s.env.map (fun p => (p.1, VL.frzS σ p.2)), obs := (del s.obs i).map fun p => if js.contains p.1 then (p.1, frzObS σ p.2) else p }
theorem zdK {α β : Type} (f : Nat -> α -> β) : ∀ (l : List (Nat × α)) (x : Nat), getK (l.map fun p => (p.1, f p.1 p.2)) x = (getK l x).map (f x)
 | [], _ => rfl
 | (k, d) :: l, x => by
  simp only [List.map_cons, zaa, zdK f l x];by_cases h : x = k
  ·subst h; simp
  ·simp [h]
theorem Wk.frzS {Γ : Ctx} {s : St} (i : Nat) (js : List Nat) {ob : Ob} {σ : D -> Option U} (hi : getK s.obs i = some ob)
  (hσ : ∀ (k : Kr) (w : World) (h : Option Nat × Nat) (m : Mem), k.hdr i = some h -> ObAt k w h ob -> k.mem.le m -> (∀ b, h.1 = some b -> ∀ o v, look w b o = some v -> m b o = some v) -> ∀ d u v, σ d = some u -> Rep k d v -> RepU m u v) : Wk Γ s (s.frzS i σ js) := by
 intro k a w hin hs;obtain ⟨h, hh, hno, hat⟩ := hs.sat.ob i ob hi
 -- the new knowledge
 have hgl : ∀ b o v, k.mem b o = some v -> (if h.1 = some b then look w b o else k.mem b o) = some v := fun b o v hv => by
  split
  ·exact hs.sat.mem b o v hv
  ·exact hv
 let k' : Kr := { mem := fun b o => if h.1 = some b then look w b o else k.mem b o, hdr := k.hdr, glob := k.glob.mono hgl }
 have hle : k.le k' := ⟨fun b o v hm => by
  show (if h.1 = some b then _ else _) = _;rw [if_neg (fun hb => by rw [(hno b hb).2 o] at hm; cases hm)];exact hm, fun _ _ h => h⟩
 have hmem' : ∀ b o v, k'.mem b o = some v -> look w b o = some v := fun b o v hm => by
  have hm' : (if h.1 = some b then look w b o else k.mem b o) = some v := hm;by_cases hb : h.1 = some b
  ·rw [if_pos hb] at hm';exact hm'
  ·rw [if_neg hb] at hm';exact hs.sat.mem b o v hm'
 have hf : ∀ d u v, σ d = some u -> Rep k d v -> RepU k'.mem u v := hσ k w h k'.mem hh hat hle.mem fun b hb o v hv => by
  show (if h.1 = some b then look w b o else k.mem b o) = _;rw [if_pos hb];exact hv
 have conv : ∀ x ox, getK (s.frzS i σ js).obs x = some ox -> ∃ o', getK s.obs x = some o' /\ x ≠ i /\ (ox = o' \/ ox = frzObS σ o') := fun x ox hx => by
  have : getK ((del s.obs i).map fun p => (p.1, if js.contains p.1 then frzObS σ p.2 else p.2)) x = some ox := by
   rw [<- hx];simp only [St.frzS]
   congr 1
   apply List.map_congr_left;intro p _;split <;> rfl
  rw [zdK (fun x (o : Ob) => if js.contains x then frzObS σ o else o), zac] at this;by_cases hji : x = i
  ·rw [if_pos hji] at this; cases this
  ·rw [if_neg hji] at this;cases ho : getK s.obs x with
   | none => rw [ho] at this; cases this
   | some ob0 =>
    rw [ho] at this;simp only [Option.map_some, Option.some.injEq] at this;refine ⟨ob0, rfl, hji, ?_⟩;rw [<- this];split
    ·exact .inr rfl
    ·exact .inl rfl
 refine ⟨k', hin.step hle (fun b o v hm => ?_) rfl rfl rfl (Nat.le_refl _) (fun _ _ => rfl), ⟨⟨hmem', fun j ob' hj => ?_, fun x y ox oy g g' b hx hy hxy hg hg' hb' => ?_⟩, hs.defers, hs.size, fun x d hx => ?_, hs.hdr⟩⟩
 ·have hm' : (if h.1 = some b then look w b o else k.mem b o) = some v := hm;by_cases hb : h.1 = some b
  ·exact .inr (hno b hb).1
  ·rw [if_neg hb] at hm';exact .inl hm'
 ·obtain ⟨ob0, h1, h2, h3⟩ := conv j ob' hj;obtain ⟨g, hg, hg1, hg2⟩ := hs.sat.ob j ob0 h1;refine ⟨g, hg, fun b hb => ⟨(hg1 b hb).1, fun o => ?_⟩, ?_⟩
  ·have hne : h.1 ≠ some b := fun e => hs.sat.apart i j _ ob0 h g b hi h1 (Ne.symm h2) hh hg e hb;show (if h.1 = some b then _ else _) = _;rw [if_neg hne];exact (hg1 b hb).2 o
  ·rcases h3 with rfl | rfl
   ·exact hg2.keep hle fun _ _ => rfl
   ·exact hg2.frz hle hf
 ·obtain ⟨o1, h1, _⟩ := conv x ox hx;obtain ⟨o2, h2, _⟩ := conv y oy hy;exact hs.sat.apart x y o1 o2 g g' b h1 h2 hxy hg hg' hb'
 ·have hx' : getK (s.env.map fun p => (p.1, VL.frzS σ p.2)) x = some d := hx;rw [zdK (fun _ d => VL.frzS σ d)] at hx';cases he : getK s.env x with
  | none => rw [he] at hx'; cases hx'
  | some d0 =>
   rw [he] at hx';cases hx';exact ⟨(hs.env x d0 he).1, (hs.env x d0 he).2.frz hle hf⟩
def zaV (i : Nat) (us : List (List U)) : D -> Option U
 | .vec j len => if j = i /\ len <= us.length then some (.sl (us.take len)) else none
 | _ => none
def za8 (i : Nat) (kk : KK) (ag : Bool) (us : List (Key × List U)) : D -> Option U
 | .mp j => if j = i then some (.map kk ag us) else none
 | _ => none
def za9 (i : Nat) (us : List U) : D -> Option U
 | .ptr j off => if j = i then some (.row us off) else none
 | _ => none
abbrev frz (i : Nat) (us : List (List U)) : D -> D := frzS (zaV i us)
abbrev zbc (i : Nat) (us : List (List U)) : Ob -> Ob := frzObS (zaV i us)
abbrev St.frz (s : St) (i : Nat) (us : List (List U)) (js : List Nat) : St := s.frzS i (zaV i us) js
theorem Wk.frz {Γ : Ctx} {s : St} (i : Nat) (js : List Nat) {e sz : Nat} {rows : List (List D)} {us : List (List U)} (hi : getK s.obs i = some (.vec e sz rows)) (hu : zcg rows = some us) : Wk Γ s (s.frz i us js) := by
 refine Wk.frzS i js hi fun k w h m hh hat hkm hlk d u v hd hr => ?_;obtain ⟨xs, hrow, hpos, hlen, hcells⟩ := hat;have hrw := zhN hu;have hul : us.length = rows.length := by rw [hrw]; simp
 unfold zaV at hd;split at hd
 ·rename_i j len;split at hd
  ·rename_i hc;cases hd;obtain ⟨rfl, hl⟩ := hc;obtain ⟨g, hg, rfl⟩ := zey hr;rw [hh] at hg;cases hg;have hcell : ∀ b, h.1 = some b -> ∀ j u, xs[j]? = some u -> w.cell? ⟨b, j, none⟩ = some u := fun b hb j u hj => by
    have := hrow.cells (g := b) (by simp [zaU, Value.ownBlock, hb]) j u hj
    rwa [zc0, Nat.zero_add] at this
   by_cases h0 : len = 0
   ·subst h0;rw [List.take_zero];exact .slE _ _ fun e => zeW hrow (by simpa using e)
   ·rcases hrow.2 with ⟨hv, hz⟩ | ⟨g, cap, cur, hv, _, hheap, hncap, hcm, _, htake⟩
    ·omega
    ·obtain ⟨hb1, hb2⟩ : h.1 = some g /\ h.2 = cap := by
      simp only [zaU, Value.slice.injEq, Option.map_eq_some_iff] at hv;obtain ⟨⟨b, hb, e⟩, _, e2⟩ := hv;simp only [Addr.mk.injEq] at e;exact ⟨by rw [hb, e.1], e2⟩
     have hxl := hrow.1;have := RepU.sl (m := m) (us.take len) g 0 sz h.2 (fun p q => xs.getD (p * sz + q) undef) (by simp; omega) (by omega) (fun r hr => ?_) (fun p hp q hq => ?_) (fun p r hr q u hq => ?_)
     ·simpa [zaU, hb1, Nat.min_eq_left hl] using this
     ·have hm := List.mem_of_mem_take hr;have : r.map D.u ∈ rows := by rw [hrw]; exact List.mem_map.2 ⟨r, hm, rfl⟩
      simpa using hlen _ this
     ·have hp' : p < rows.length := by simp at hp; omega
      have hb : p * sz + q < rows.length * sz := by
       have : (p + 1) * sz <= rows.length * sz := Nat.mul_le_mul_right _ hp';rw [Nat.add_mul, Nat.one_mul] at this;omega
      refine hlk g hb1 _ _ (zdS (hcell g hb1 _ _ ?_));rw [Nat.zero_add, List.getD_eq_getElem?_getD, List.getElem?_eq_getElem (by omega)]
      try rfl
     ·rw [List.getElem?_take] at hr;split at hr
      ·have hr' : rows[p]? = some (r.map D.u) := by rw [hrw, List.getElem?_map, hr]; rfl
       have hd := (hcells p _ hr' q (.u u) (by rw [List.getElem?_map, hq]; rfl)).2;cases hd with | u _ _ hd => exact hd.mono hkm
      ·cases hr
  ·cases hd
 ·cases hd
theorem Wk.zwy {Γ : Ctx} {s : St} (i : Nat) (js : List Nat) {kk : KK} {ag : Bool} {es : List (Key × List D)} {us : List (Key × List U)} (hi : getK s.obs i = some (.map kk ag es)) (hu : zda es = some us) : Wk Γ s (s.frzS i (za8 i kk ag us) js) := by
 refine Wk.frzS i js hi fun k w h m hh hat hkm hlk d u v hd hr => ?_;obtain ⟨b, ents, clock, es0, hb, hheap, hpm, hm⟩ := hat;unfold za8 at hd;split at hd
 ·rename_i j;split at hd
  ·rename_i hc;cases hd;subst hc;obtain ⟨b', c, hg, rfl⟩ := zim hr;rw [hh] at hg;cases hg;simp only [Option.some.injEq] at hb;subst hb;obtain ⟨us1, e1, hp1⟩ := zin (es := es0) (us := us) (by rw [<- zhM hu]; exact hpm);exact hm.toU e1 hp1 (hlk _ rfl _ _ (zhq hheap)) hkm
  ·cases hd
 ·cases hd
theorem Wk.frzB {Γ : Ctx} {s : St} (i : Nat) (js : List Nat) {cells : List D} {us : List U} (hi : getK s.obs i = some (.box cells)) (hu : zeI cells = some us) : Wk Γ s (s.frzS i (za9 i us) js) := by
 refine Wk.frzS i js hi fun k w h m hh hat hkm hlk d u v hd hr => ?_;obtain ⟨b, vs, t, hb, hheap, hsz, hcells⟩ := hat;have hinv := zg4 hu;have hul : us.length = cells.length := by rw [hinv]; simp
 unfold za9 at hd;split at hd
 ·rename_i j off;split at hd
  ·rename_i hc;cases hd;subst hc;obtain ⟨b', c, hg, rfl⟩ := zd7 hr;rw [hh] at hg;cases hg;simp only [Option.some.injEq] at hb;subst hb;have := RepU.row (m := m) us off b' 0 (fun j => vs.getD j undef) (fun j hj => by
    refine hlk _ rfl _ _ (zdS ?_);rw [Nat.zero_add, cell_of_row w b' j vs t (0, 0) hheap];simp [show j < vs.size by omega]) (fun j u hj => by
    have := (hcells j (.u u) (by rw [hinv, List.getElem?_map, hj]; rfl)).2;cases this with | u _ _ this => exact this.mono hkm)
   simpa using this
  ·cases hd
 ·cases hd
def zal (env : List (Nat × D)) : List Nat -> List (Nat × D)
 | [] => []
 | x :: l => match getK env x with
  | some d => (x, d) :: zal env l
  | none => zal env l
def St.only (s : St) (live : List Nat) : St := { s with env := zal s.env live }
theorem zhu {env : List (Nat × D)} : ∀ {live : List Nat} {x d}, getK (zal env live) x = some d -> getK env x = some d
 | [], x, d, h => by simp [zal, getK] at h
 | y :: l, x, d, h => by
  simp only [zal] at h;split at h
  ·rename_i e he;rw [zaa] at h;by_cases hx : x = y
   ·rw [if_pos hx] at h; cases h; subst hx; exact he
   ·rw [if_neg hx] at h; exact zhu h
  ·exact zhu h
theorem Wk.only {Γ : Ctx} {s : St} (live : List Nat) : Wk Γ s (s.only live) := fun k _ _ hin hs =>
 ⟨k, hin, ⟨hs.sat, hs.defers, hs.size, fun x d hx => hs.env x d (zhu hx), hs.hdr⟩⟩
def St.lp (s : St) (live : List Nat) (F : List (Nat × D)) : St := { s with env := F ++ zal s.env live }
def wkE (s : St) : List (Nat × D) -> Prop
 | [] => True
 | p :: l => (∃ d, getK s.env p.1 = some d /\ (d = p.2 \/ p.2 = .any \/ (d = .u .nil /\ p.2 = .u (.sl [])))) /\ wkE s l
theorem zno {s : St} : ∀ {l : List (Nat × D)} {x d}, wkE s l -> getK l x = some d -> ∃ d0, getK s.env x = some d0 /\ (d0 = d \/ d = .any \/ (d0 = .u .nil /\ d = .u (.sl [])))
 | [], x, d, _, h => by simp [getK] at h
 | (y, e) :: l, x, d, hw, h => by
  rw [zaa] at h;by_cases hx : x = y
  ·rw [if_pos hx] at h; cases h; subst hx; exact hw.1
  ·rw [if_neg hx] at h; exact zno hw.2 h
theorem Wk.env {Γ : Ctx} {s s' : St} (hn : s'.n = s.n) (ho : s'.obs = s.obs) (hx : s'.next = s.next) (he : wkE s s'.env) : Wk Γ s s' := by
 intro k a w hin hs;refine ⟨k, hin, ⟨by rw [ho]; exact hs.sat, hs.defers, by rw [hn]; exact hs.size, fun x d hxd => ?_, fun i hi => hs.hdr i (by rw [<- hx]; exact hi)⟩⟩;obtain ⟨d0, h1, h2⟩ := zno he hxd;obtain ⟨h3, h4⟩ := hs.env x d0 h1;refine ⟨by rw [hn]; exact h3, ?_⟩;rcases h2 with rfl | rfl | ⟨rfl, rfl⟩
 ·exact h4
 ·exact .any _
 ·rw [zdo h4];exact .u _ _ (.slE _ _ fun _ => rfl)
theorem zb2 {P Γ Q k s} {c : Code} {α : Type} (live : List Nat) (F : α -> List (Nat × D)) (μ : α -> Nat) (x0 : α) (h0 : Wk Γ s (s.lp live (F x0)))
  (h : ∀ x, V P Γ c (s.lp live (F x)) (zan P Γ Q (.loop (LoopW Γ (fun x => s.lp live (F x)) μ x) k))) : V P Γ (.loop c) s (zan P Γ Q k) := zpa _ μ x0 h0 h
theorem zb4 {P Γ Q k s} {c : Code} {α : Type} (live : List Nat) (F : α -> List (Nat × D)) (O : α -> List (Nat × Ob)) (nx : Nat) (μ : α -> Nat) (x0 : α) (h0 : Wk Γ s { s.lp live (F x0) with obs := O x0, next := nx })
  (h : ∀ x, V P Γ c { s.lp live (F x) with obs := O x, next := nx } (zan P Γ Q (.loop (LoopW Γ (fun x => { s.lp live (F x) with obs := O x, next := nx }) μ x) k))) : V P Γ (.loop c) s (zan P Γ Q k) := zpa _ μ x0 h0 h
theorem zne {P Γ c s Q} {x : Nat} (hx : getK s.env x = some (.u (.sl []))) (h1 : V P Γ c { s with env := (x, .u .nil) :: s.env } Q)
  (h2 : ∀ a cp, V P Γ c { s with env := (x, .u (.oth (.slice (some a) 0 cp))) :: s.env } Q) : V P Γ c s Q := by
 intro K a w hin hs;obtain ⟨hlt, hr⟩ := hs.env x _ hx;have put : ∀ d, Rep K d (a.tmps.getD x undef) -> Sim K Γ.own { s with env := (x, d) :: s.env } a w := fun d hd => ⟨hs.sat, hs.defers, hs.size, fun y e hy => by
  rw [zaa] at hy;by_cases hyx : y = x
  ·subst hyx; rw [if_pos rfl] at hy; cases hy; exact ⟨hlt, hd⟩
  ·rw [if_neg hyx] at hy; exact hs.env y e hy, hs.hdr⟩
 generalize hv : a.tmps.getD x undef = v at hr;cases hr with
 | u _ _ hr =>
  cases hr with
  | slE ad cp hn =>
   cases ad with
   | none =>
    have : cp = 0 := hn rfl;subst this;exact h1 K a w hin (put _ (by rw [hv]; exact .u _ _ .nil))
   | some ad => exact h2 ad cp K a w hin (put _ (by rw [hv]; exact .u _ _ (.oth _)))
  | sl _ b o sz cp f hc hxm hsz hm hr => exact h2 ⟨b, o, none⟩ cp K a w hin (put _ (by rw [hv]; exact .u _ _ (.oth _)))
theorem Ret.congr {P f ds obs obs' nx post} (h : Ret P f ds obs nx post) (e : ∀ i, getK obs' i = getK obs i) : Ret P f ds obs' nx post :=
 fun k own w vs hsat hhdr hfresh hrep => h k own w vs (Sat.congr hsat fun i => (e i).symm) hhdr hfresh hrep
theorem Ret.frame {P f ds obs nx post} (F : List (Nat × Ob)) (hF : ∀ i ob, getK F i = some ob -> getK obs i = none) (h : Ret P f ds obs nx post) :
  Ret P f ds (F ++ obs) nx (fun d o n => ∃ o1, o = F ++ o1 /\ post d o1 n) := by
 intro k own w vs hsat hhdr hfresh hrep;have hob : ∀ i ob, getK obs i = some ob -> getK F i = none /\ getK (F ++ obs) i = some ob := fun i ob hi => by
  have hn : getK F i = none := by
   cases hf : getK F i with
   | none => rfl
   | some x => rw [hF i x hf] at hi; cases hi
  exact ⟨hn, by rw [zab, hn]; exact hi⟩
 have hfo : ∀ i ob, getK F i = some ob -> getK (F ++ obs) i = some ob := fun i ob hi => by rw [zab, hi]
 have hbf : ∀ b, Blk k F b -> Blk k (F ++ obs) b := fun b ⟨i, ob, g, h1, h2, h3⟩ => ⟨i, ob, g, hfo i ob h1, h2, h3⟩;have hsat' : Sat k (fun b => own b /\ ¬ Blk k F b) obs w := by
  refine ⟨hsat.mem, fun i ob hi => ?_, fun i j x y g g' b hx hy hij => ?_⟩
  ·obtain ⟨hn, hi'⟩ := hob i ob hi;obtain ⟨g, h1, h2, h3⟩ := hsat.ob i ob hi';refine ⟨g, h1, fun b hb => ⟨⟨(h2 b hb).1, ?_⟩, (h2 b hb).2⟩, h3⟩;rintro ⟨j, oj, g', h4, h5, h6⟩;exact hsat.apart i j ob oj g g' b hi' (hfo j oj h4) (fun e => by subst e; rw [hn] at h4; cases h4) h1 h5 hb h6
  ·exact hsat.apart i j x y g g' b (hob i x hx).2 (hob j y hy).2 hij
 refine (h k _ w vs hsat' hhdr (fun b hb => ⟨hfresh b hb, fun hB => absurd (hsat.lt (hbf b hB)) (by omega)⟩) hrep).mono ?_;rintro e w' ⟨v, d, o1, n', k', he, hin, hs1, hh1, hle, hr1, hp⟩;refine ⟨v, d, F ++ o1, n', k', he, ⟨hin.le, hin.none0, fun b o x hx => (hin.memNew b o x hx).imp id (·.1), hfresh, hin.os, hin.tape, hin.output, hin.size, fun b hb => hin.block b fun hb' => hb hb'.1⟩, ?_, hh1, hle, hr1, o1, rfl, hp⟩;have hFat : ∀ i ob, getK F i = some ob -> ∃ g, k.hdr i = some g /\ k'.hdr i = some g /\ (∀ b, g.1 = some b -> own b /\ (∀ o, k'.mem b o = none) /\ Blk k F b) /\ ObAt k' w' g ob := fun i ob hi => by
  obtain ⟨g, h1, h2, h3⟩ := hsat.ob i ob (hfo i ob hi);have hB : ∀ b, g.1 = some b -> Blk k F b := fun b hb => ⟨i, ob, g, hi, h1, hb⟩;refine ⟨g, h1, hin.le.hdr i g h1, fun b hb => ⟨(h2 b hb).1, fun o => ?_, hB b hb⟩, h3.keep hin.le fun b hb => hin.block b fun hb' => hb'.2 (hB b hb)⟩;cases hm : k'.mem b o with
  | none => rfl
  | some x =>
   rcases hin.memNew b o x hm with h4 | h4
   ·have h4' : k.mem b o = some x := h4;rw [(h2 b hb).2 o] at h4'; cases h4'
   ·exact absurd (hB b hb) h4.2
 refine ⟨hs1.mem, fun i ob hi => ?_, fun i j x y g g' b hx hy hij hg hg' hb => ?_⟩
 ·rw [zab] at hi;cases hf : getK F i with
  | some x =>
   rw [hf] at hi;cases hi;obtain ⟨g, _, h2, h3, h4⟩ := hFat i _ hf;exact ⟨g, h2, fun b hb => ⟨(h3 b hb).1, (h3 b hb).2.1⟩, h4⟩
  | none =>
   rw [hf] at hi;obtain ⟨g, h1, h2, h3⟩ := hs1.ob i ob hi;exact ⟨g, h1, fun b hb => ⟨(h2 b hb).1.1, (h2 b hb).2⟩, h3⟩
 ·rw [zab] at hx hy;cases hfx : getK F i with
  | some x' =>
   obtain ⟨g1, k1, k2, k3, _⟩ := hFat i _ hfx;rw [hg] at k2;cases k2;cases hfy : getK F j with
   | some y' =>
    obtain ⟨g2, l1, l2, l3, _⟩ := hFat j _ hfy;rw [hg'] at l2;cases l2;exact hsat.apart i j x' y' g g' b (hfo i _ hfx) (hfo j _ hfy) hij k1 l1 hb
   | none =>
    rw [hfy] at hy;obtain ⟨g2, l1, l2, _⟩ := hs1.ob j y hy;rw [hg'] at l1;cases l1;exact fun e => (l2 b e).1.2 (k3 b hb).2.2
  | none =>
   rw [hfx] at hx;cases hfy : getK F j with
   | some y' =>
    obtain ⟨g2, l1, l2, l3, _⟩ := hFat j _ hfy;rw [hg'] at l2;cases l2;obtain ⟨g1, k1, k2, _⟩ := hs1.ob i x hx;rw [hg] at k1;cases k1;exact fun e => (k2 b hb).1.2 (l3 b e).2.2
   | none =>
    rw [hfy] at hy;exact hs1.apart i j x y g g' b hx hy hij hg hg' hb
theorem CallP.zus {P : Program} {Γ : Ctx} {s : St} {k : St -> Prop} {dst : Option Tmp} {fop : Operand} {args : List Operand} {f caps} {ds : List D} {post : D -> List (Nat × Ob) -> Nat -> Prop} (F obs : List (Nat × Ob)) (hret : Ret P f ds obs s.next post)
  (heq : ∀ i, getK s.obs i = getK (F ++ obs) i) (hF : ∀ i ob, getK F i = some ob -> getK obs i = none)
  (hf : zaz (opd s fop) = some (f, caps)) (hc : zak P f = true) (hds : args.map (opd s) ++ caps = ds) (hp : zaI dst s)
  (hk : ∀ d o1 nx', s.next <= nx' -> post d o1 nx' -> k (({ s with obs := F ++ o1, next := nx' } : St).put dst d)) : CallP P Γ fop args dst s k :=
 CallP.zs4 ((hret.frame F hF).congr heq) hf hc hds hp fun d o n hn ⟨o1, ho, hpo⟩ => by subst ho; exact hk d o1 n hn hpo
def stT (P : Program) (t : TypeId) : Option (List TypeId) := match P.underlying t with | some (.struct fs) => some (fs.toList.map (·.type)) | _ => none
end Go.VL
