import Derived.Test.YtkdhmbhbbciedaaGreatDoorT3
import Derived.RangeFuncCalls
import Derived.Test.YtkdhmbhbbciedaaGreatDoorTie
import Derived.Test.YtkdhmbhbbciedaaGreatDoorCards
import Derived.Lib.LaidTab
import Derived.LaidSub
import Derived.Lay
import Derived.Shelf.Strings.Builder1
set_option linter.all false
set_option maxRecDepth 100000
set_option maxHeartbeats 8000000
namespace Go.VL
open Go
abbrev FO (ro : Option Nat) : Fence := { Fence.wide with round := ro }
theorem zow {ro n P f args w R} (h : Calls P f args w R) : CallsIn (FO ro) n P f args w R := (callsIn_wide (n := n)).2 h
theorem rowsIn_FO {ro n P row args w R} (h : Rows P row args w R) : RowsIn (FO ro) n P row args w R := fun c cs _ => let ⟨v, w', r, s⟩ := h c cs; ⟨v, w', r, stepsIn_wide.2 s⟩
def ziq (o : Oper) : Bool := match o.op with | .defer _ => false | _ => true
theorem znz {ro ρ} {o : Oper} (h : ziq o = true) : Oper.semAt ro ρ o = execOp ρ o := Oper.semAt_eq ro ρ o fun c e => by simp [ziq, e] at h
theorem zsT {ro n P} {o : Oper} {a} {next next' : Act -> World -> Prop} {Q Q' : Exit -> Act -> World -> Prop} {res : Result Next} (hn : ∀ a w, next a w -> next' a w) (hp : ∀ ch a w, Q (.panic ch) a w -> Q' (.panic ch) a w) (hQ : ∀ a w, ¬ Q .outgrown a w)
  (h : o.upon P a next Q res) : o.uponIn (FO ro) n P a next' Q' res := by
 cases res with
 | halt x w' => cases x with
  | panic v => exact hp _ _ _ h
  | _ => exact h.elim
 | ok x w' =>
  cases x with
  | value v => exact hn _ _ h
  | skip => exact hn _ _ h
  | defer d => exact hn _ _ h
  | enter f args =>
   refine ⟨fun e => by simp [Fence.wide] at e, zow (Calls.mono h fun e w'' h => ?_)⟩;cases e with
   | returned v => exact hn _ _ h
   | panicked ch => exact hp _ _ _ h
   | outgrown => obtain ⟨a, w, h⟩ := h; exact absurd h (hQ _ _)
  | row row args => exact ⟨fun e => by simp [Fence.wide] at e, (rowsIn_FO h).mono fun v w h => hn _ _ h⟩
  | _ => exact h.elim
theorem zhu {ro n P all} {Q Q' : Exit -> Act -> World -> Prop} {rest : List Oper} (hQ : ∀ a w, ¬ Q .outgrown a w) (hp : ∀ ch a w, Q (.panic ch) a w -> Q' (.panic ch) a w)
  (hr : ∀ a w, Q .normal a w -> wpListIn (FO ro) n P all Q' rest a w) : ∀ (l : List Oper) (a w), l.all ziq = true -> wpList P all Q l a w -> wpListIn (FO ro) n P all Q' (l ++ rest) a w
 | [], a, w, _, h => hr _ _ h
 | o :: l, a, w, hc, h => by
  simp only [List.all_cons, Bool.and_eq_true] at hc;rw [List.cons_append];unfold wpList at h;unfold wpListIn;split at h
  ·rename_i hw;rw [if_pos hw];rcases h with h | ⟨_, a', w', h⟩
   ·refine ⟨fun _ _ => trivial, ?_⟩;rw [znz hc.1];exact zsT (fun a w h => zhu hQ hp hr l a w hc.2 h) hp hQ h
   ·exact absurd h (hQ _ _)
  ·rename_i hw;rw [if_neg hw];exact ⟨fun _ _ => trivial, zhu hQ hp hr l _ _ hc.2 h⟩
theorem zvz {ro n P Γ all l s} {k : St -> Prop} {Q' : Exit -> Act -> World -> Prop} {rest : List Oper} (hpan : ∀ ch s, ¬ Γ.pan ch s) (hc : l.all ziq = true) (h : G P Γ all l s k) {K a w} (hin : In Γ K w) (hs : Sim K Γ.own s a w)
  (hr : ∀ K' a' w' s', In Γ K' w' -> Sim K' Γ.own s' a' w' -> k s' -> wpListIn (FO ro) n P all Q' rest a' w') : wpListIn (FO ro) n P all Q' (l ++ rest) a w :=
 zhu (Q := fun e a w => e = .normal /\ ∃ K s, In Γ K w /\ Sim K Γ.own s a w /\ k s) (fun a w h => by cases h.1) (fun ch a w h => by cases h.1) (fun a w ⟨_, K, s, h1, h2, h3⟩ => hr K a w s h1 h2 h3) l a w hc
  (h K a w hin hs _ (fun K' a' w' s' h1 h2 h3 => ⟨rfl, K', s', h1, h2, h3⟩) fun ch K' a' w' s' _ _ h3 => absurd h3 (hpan ch s'))
def zu4 : Code -> Bool
 | .seq a _ => zu4 a
 | .block _ a => zu4 a
 | _ => true
theorem zgm {P Γ Q c k s} (_ : (zu5 c && zu4 c) = true) (h : vs2 P Γ Q (RN P Γ Q 0) c k s) : V P Γ c s (zaX P Γ Q k) := zj9 (zeI 0) h
def VR (P : Program) (Γ : Ctx) (r : Nat) (c : Code) (s : St) (Q : Exit -> St -> Prop) : Prop :=
 ∀ K a w, In Γ K w -> Sim K Γ.own s a w -> c.wpIn (FO (some r)) 0 P (VPost Γ Q) a w
def zis (P : Program) (Γ : Ctx) (r : Nat) (Q : Exit -> St -> Prop) : Kt -> Exit -> St -> Prop
 | .done, e, s => Q e s
 | .seq b k, .normal, s => VR P Γ r b s (zis P Γ r Q k)
 | .seq _ k, e, s => zis P Γ r Q k e s
 | .blk id k, .exit id', s => if id' = id then zis P Γ r Q k .normal s else zis P Γ r Q k (.exit id') s
 | .blk _ k, e, s => zis P Γ r Q k e s
 | .loop _ _, _, _ => False
section
variable {P : Program} {Γ : Ctx} {r : Nat} {Q : Exit -> St -> Prop} {k : Kt} {s : St}
theorem zuH {a b : Code} (h : VR P Γ r a s (zis P Γ r Q (.seq b k))) : VR P Γ r (.seq a b) s (zis P Γ r Q k) :=
 fun K ac w hin hs => wpIn_seq (wpIn_mono (h K ac w hin hs) fun e a' w' h => by
  rcases h with ⟨K', s', h1, h2, h3⟩ | h
  ·cases e with
   | normal => exact h3 K' a' w' h1 h2
   | _ => exact .inl ⟨K', s', h1, h2, h3⟩
  ·cases e with
   | normal => exact h.1.elim
   | _ => exact .inr h)
theorem zsd {id : Nat} {c : Code} (h : VR P Γ r c s (zis P Γ r Q (.blk id k))) : VR P Γ r (.block id c) s (zis P Γ r Q k) :=
 fun K ac w hin hs => wpIn_block (wpIn_mono (h K ac w hin hs) fun e a' w' h => by
  rcases h with ⟨K', s', h1, h2, h3⟩ | h
  ·cases e with
   | exit id' =>
    simp only [Qx, zis] at h3;simp only [Exit.inBlock];split
    ·rename_i he; rw [if_pos he] at h3; exact .inl ⟨K', s', h1, h2, h3⟩
    ·rename_i he; rw [if_neg he] at h3; exact .inl ⟨K', s', h1, h2, h3⟩
   | _ => exact .inl ⟨K', s', h1, h2, h3⟩
  ·cases e with
   | exit => exact h.1.elim
   | _ => exact .inr h)
theorem ztK {c : Operand} {x y : Code} {t : Bool} (hc : opd s c = .u (.bool t)) (ht : t = true -> VR P Γ r x s (zis P Γ r Q k)) (hf : t = false -> VR P Γ r y s (zis P Γ r Q k)) :
  VR P Γ r (.cond c x y) s (zis P Γ r Q k) := fun K a w hin hs => by
 have hr := zaF hs c;rw [hc] at hr;exact wpIn_cond_split (zdz hr) (fun e => ht e K a w hin hs) (fun e => hf e K a w hin hs)
theorem zqv {id : Nat} {l : List Oper} (hpan : ∀ ch s, ¬ Γ.pan ch s) (hc : l.all ziq = true) (h : G P Γ l.toArray l s (zis P Γ r Q k .normal)) : VR P Γ r (.region id l.toArray false) s (zis P Γ r Q k) :=
 fun K a w hin hs => wpIn_region_lit (by
  have := zvz (ro := some r) (n := 0) (Q' := VPost Γ (zis P Γ r Q k)) (rest := []) hpan hc h hin hs fun K' a' w' s' h1 h2 h3 => .inl ⟨K', s', h1, h2, h3⟩
  rwa [List.append_nil] at this)
end
def zjs : Code -> Bool
 | .seq a b => zjs a && zjs b
 | .block _ c => zjs c
 | .skip => true
 | .label _ => true
 | .exit _ => true
 | .cond _ x y => zjs x && zjs y
 | .region _ l false => l.toList.all ziq
 | _ => false
def okK : Kt -> Bool
 | .done => true
 | .seq b k => zjs b && okK k
 | .blk _ k => okK k
 | .loop _ _ => false
theorem ziu {P Γ r} {Q0 Q : Exit -> St -> Prop} {R : Kt -> Exit -> St -> Prop} (hpan : ∀ ch s, ¬ Γ.pan ch s) (hR : ∀ k e s, okK k = true -> R k e s -> zis P Γ r Q k e s) :
  ∀ {c : Code} {k : Kt} {s : St}, zjs c = true -> okK k = true -> vs2 P Γ Q0 R c k s -> VR P Γ r c s (zis P Γ r Q k)
 | .seq a b, k, s, hc, hk, h => by
  simp only [zjs, Bool.and_eq_true] at hc;exact zuH (ziu hpan hR (c := a) (k := .seq b k) hc.1 (by simp [okK, hc.2, hk]) (by rw [vs2] at h; exact h))
 | .block id c, k, s, hc, hk, h => zsd (ziu hpan hR (c := c) (k := .blk id k) (by simpa only [zjs] using hc) (by simpa only [okK] using hk) (by rw [vs2] at h; exact h))
 | .skip, k, s, hc, hk, h => fun K _ _ hin hs => wpIn_skip (.inl ⟨K, s, hin, hs, hR _ _ _ hk (by rw [vs2] at h; exact h)⟩)
 | .label _, k, s, hc, hk, h => fun K _ _ hin hs => wpIn_label (.inl ⟨K, s, hin, hs, hR _ _ _ hk (by rw [vs2] at h; exact h)⟩)
 | .exit id, k, s, hc, hk, h => fun K _ _ hin hs => wpIn_exit (.inl ⟨K, s, hin, hs, hR _ _ _ hk (by rw [vs2] at h; exact h)⟩)
 | .cond c x y, k, s, hc, hk, h => by
  simp only [zjs, Bool.and_eq_true] at hc;rw [vs2] at h;split at h
  ·rename_i t ht;exact ztK ht (fun e => ziu hpan hR hc.1 hk (h.1 e)) (fun e => ziu hpan hR hc.2 hk (h.2 e))
  ·exact h.elim
 | .region id l false, k, s, hc, hk, h => by
  simp only [zjs] at hc;rw [vs2] at h;split at h
  ·rename_i l' hl;have := zqv (P := P) (Γ := Γ) (r := r) (Q := Q) (k := k) (id := id) (l := l.toList) (s := s) hpan hc (by simp only [Array.toArray_toList]; exact zsO (zsN hl h) fun s hs => hR _ _ _ hk hs);simpa using this
  ·exact h.elim
 | .ret, _, _, hc, _, _ => by simp [zjs] at hc
 | .region _ _ true, _, _, hc, _, _ => by simp [zjs] at hc
 | .loop _, _, _, hc, _, _ => by simp [zjs] at hc
 | .rangeFunc .., _, _, hc, _, _ => by simp [zjs] at hc
 | .scope .., _, _, hc, _, _ => by simp [zjs] at hc
 | .goto .., _, _, hc, _, _ => by simp [zjs] at hc
 | .refuse .., _, _, hc, _, _ => by simp [zjs] at hc
def RR (P : Program) (Γ : Ctx) (r : Nat) (Q : Exit -> St -> Prop) : Nat -> Kt -> Exit -> St -> Prop
 | 0, k, e, s => zis P Γ r Q k e s
 | _ + 1, .done, e, s => Q e s
 | n + 1, .seq b k, .normal, s => vs2 P Γ Q (RR P Γ r Q n) b k s
 | n + 1, .seq _ k, e, s => RR P Γ r Q n k e s
 | n + 1, .blk id k, .exit id', s => if id' = id then RR P Γ r Q n k .normal s else RR P Γ r Q n k (.exit id') s
 | n + 1, .blk _ k, e, s => RR P Γ r Q n k e s
 | _ + 1, .loop _ _, _, _ => False
theorem zvX {P Γ r Q} (hpan : ∀ ch s, ¬ Γ.pan ch s) : ∀ n k e s, okK k = true -> RR P Γ r Q n k e s -> zis P Γ r Q k e s
 | 0, _, _, _, _, h => h
 | n + 1, k, e, s, hk, h => by
  have ih := fun k e s => zvX (P := P) (Γ := Γ) (r := r) (Q := Q) hpan n k e s;cases k with
  | done => cases e <;> exact h
  | seq b k =>
   simp only [okK, Bool.and_eq_true] at hk;cases e with
   | normal => exact ziu hpan ih hk.1 hk.2 h
   | _ => first | exact ih k _ s hk.2 h
  | blk id k =>
   simp only [okK] at hk;cases e with
   | exit id' =>
    simp only [RR, zis] at h ⊢;split at h
    ·rename_i hc; rw [if_pos hc]; exact ih _ _ _ hk h
    ·rename_i hc; rw [if_neg hc]; exact ih _ _ _ hk h
   | _ => exact ih k _ s hk h
  | loop I k => cases e <;> exact h.elim
theorem zsL {P Γ r Q c s} (hpan : ∀ ch s, ¬ Γ.pan ch s) (hc : zjs c = true) (h : vs2 P Γ Q (RR P Γ r Q 60) c .done s) : VR P Γ r c s Q := ziu (Q := Q) (k := .done) hpan (zvX hpan 60) hc rfl h
section
variable {P : Program} {Γ : Ctx} {r : Nat} {Q : Exit -> St -> Prop} {k : Kt} {s s' : St} {n : Nat}
theorem zvr {e z} (_ : (True /\ True) = z) (h : s = s') : RR P Γ r Q n k e s = RR P Γ r Q n k e s' := by rw [h]
attribute [congr] zvr
theorem ztP {e} : RR P Γ r Q (n + 1) .done e s = Q e s := rfl
theorem zuJ {b} : RR P Γ r Q (n + 1) (.seq b k) .normal s = vs2 P Γ Q (RR P Γ r Q n) b k s := rfl
theorem zmt {b i} : RR P Γ r Q (n + 1) (.seq b k) (.exit i) s = RR P Γ r Q n k (.exit i) s := rfl
theorem zuK {i} : RR P Γ r Q (n + 1) (.blk i k) .normal s = RR P Γ r Q n k .normal s := rfl
theorem zmu {i j} : RR P Γ r Q (n + 1) (.blk i k) (.exit j) s = if j = i then RR P Γ r Q n k .normal s else RR P Γ r Q n k (.exit j) s := rfl
end
theorem Sat.zuX {k own obs w w'} (h : Sat k own obs w) (r : Nat) (hb : ∀ b, b ≠ r -> b < w.heap.size -> w'.heap[b]? = w.heap[b]?) (hr : ¬ Blk k obs r) (hl : ∀ o, look w r o = none) : Sat k own obs w' := by
 refine h.keep (.refl k) (fun b hB => hb b (fun e => hr (e ▸ hB)) (h.lt hB)) (fun b o v e => ?_) (fun b hB o => ?_)
 ·have hm := h.mem b o v e;by_cases hbr : b = r
  ·subst hbr;rw [hl o] at hm;cases hm
  ·rw [cell_of_heap (hb b hbr (zps hm))];exact hm
 ·obtain ⟨i, ob, g, h1, h2, h3⟩ := hB;obtain ⟨g', h4, h5, _⟩ := h.ob i ob h1;rw [h2] at h4;cases h4;exact (h5 b h3).2 o
theorem Sat.notBlk {k own obs w r} (h : Sat k own obs w) (hr : ¬ own r) : ¬ Blk k obs r := fun hB => by
 obtain ⟨i, ob, g, h1, h2, h3⟩ := hB;obtain ⟨g', h4, h5, _⟩ := h.ob i ob h1;rw [h2] at h4;cases h4;exact hr (h5 r h3).1
theorem Sat.owns {k own own' obs w} (h : Sat k own obs w) (ho : ∀ b, Blk k obs b -> own b -> own' b) : Sat k own' obs w := by
 refine ⟨h.mem, fun i ob hi => ?_, h.apart⟩;obtain ⟨g, h1, h2, h3⟩ := h.ob i ob hi;exact ⟨g, h1, fun b hb => ⟨ho b ⟨i, ob, g, hi, h1, hb⟩ (h2 b hb).1, (h2 b hb).2⟩, h3⟩
theorem zhS {w : World} {l : Nat} {L : Loop} (h : w.heap[l]? = some (.loop L)) (o : Nat) : look w l o = none := by simp [look, h, World.cell?]
theorem zrh {w : World} {l : Nat} {d} (h : w.heap[l]? = some (.deferred d)) (o : Nat) : look w l o = none := by simp [look, h, World.cell?]
abbrev yD (l : Nat) : D := .u (.oth (.func (.yield l) #[] #[]))
def RetY (P : Program) (k0 : Kr) (l : Nat) (L : Loop) (ds : List D) (obs : List (Nat × Ob)) (nx : Nat) (post : D -> List (Nat × Ob) -> Nat -> Prop) : Prop :=
 ∀ (k : Kr) (own : Nat -> Prop) (w : World) (vs : Array Value), k0.le k -> ¬ own l -> w.heap[l]? = some (.loop L) -> Sat k own obs w -> (∀ i, nx <= i -> k.hdr i = none) -> (∀ b, w.heap.size <= b -> own b) -> RepL k ds vs ->
  ∃ fn tmps assign body, (Instr.yield l vs).run P w = .ok (.round l fn tmps assign body) w /\ RoundIn (FO none) 0 P l fn tmps assign body w fun e w' =>
     ∃ v d obs' nx' k', e = .returned v /\ In (.of own k nx w) k' w' /\ Sat k' own obs' w' /\ (∀ i, nx' <= i -> k'.hdr i = none) /\ nx <= nx' /\ Rep k' d v /\ post d obs' nx'
theorem RetY.congr {P k0 l L ds obs obs' nx post} (h : RetY P k0 l L ds obs nx post) (e : ∀ i, getK obs' i = getK obs i) : RetY P k0 l L ds obs' nx post :=
 fun k own w vs hk hl hL hsat hhdr hfresh hrep => h k own w vs hk hl hL (Sat.congr hsat fun i => (e i).symm) hhdr hfresh hrep
theorem RetY.frame {P k0 l L ds obs nx post} (F : List (Nat × Ob)) (hF : ∀ i ob, getK F i = some ob -> getK obs i = none) (h : RetY P k0 l L ds obs nx post) :
  RetY P k0 l L ds (F ++ obs) nx (fun d o n => ∃ o1, o = F ++ o1 /\ post d o1 n) := by
 intro k own w vs hk hl hL hsat hhdr hfresh hrep;obtain ⟨fn, tmps, assign, body, h1, h2⟩ := h k _ w vs hk (fun h => hl h.1) hL (zgG hF hsat) hhdr (zfR hsat hfresh) hrep;refine ⟨fn, tmps, assign, body, h1, h2.mono ?_⟩;rintro e w' ⟨v, d, o1, n', k', he, hin, hs1, hh1, hle, hr, hp⟩;exact ⟨v, d, F ++ o1, n', k', he, zjL hfresh hin, zh4 hsat hin hs1, hh1, hle, hr, o1, rfl, hp⟩
def RetI (P : Program) (k0 : Kr) (l : Nat) (L : Loop) (f : FuncId) (ds : List D) (obs : List (Nat × Ob)) (nx : Nat) (post : D -> List (Nat × Ob) -> Nat -> Prop) : Prop :=
 ∀ (k : Kr) (own : Nat -> Prop) (w : World) (vs : Array Value), k0.le k -> ¬ own l -> w.heap[l]? = some (.loop L) -> Sat k own obs w -> (∀ i, nx <= i -> k.hdr i = none) -> (∀ b, w.heap.size <= b -> own b) -> RepL k ds vs ->
  Calls P f vs w fun e w' => ∃ v d obs' nx' k', e = .returned v /\ In (.of own k nx w) k' w' /\ Sat k' own obs' w' /\ (∀ i, nx' <= i -> k'.hdr i = none) /\ nx <= nx' /\ Rep k' d v /\ post d obs' nx'
structure YCtx (Γ : Ctx) (k0 : Kr) (l : Nat) (L : Loop) : Prop where
 own : ¬ Γ.own.own l
 heap : Γ.w0.heap[l]? = some (.loop L)
 le : k0.le Γ.k0
theorem RetI.of_body {P k0 l L f fn c ds obs nx post nt} (hf : P.funcs[f]? = some fn) (hnt : fn.ntmps = nt) (hb : fn.body = some c) (hn : ds.length <= nt)
  (h : ∀ Γ : Ctx, Γ.n0 = nx -> YCtx Γ k0 l L -> (∀ ch s, ¬ Γ.pan ch s) -> V P Γ c (entry ds nt obs nx) (zaX P Γ (EndW P Γ fn nx post) .done)) : RetI P k0 l L f ds obs nx post := by
 subst hnt;intro k own w vs hk hl hL hsat hhdr hfresh hrep;have hsz : vs.size = ds.length := hrep.1
 let Γ : Ctx := .of own k nx w
 refine calls_of_wp hf hb (wp_mono (h Γ rfl ⟨hl, hL, hk⟩ (fun _ _ h => h) k _ w ⟨.refl _, hhdr, fun b o v e => .inl e, hfresh, rfl, rfl, rfl, Nat.le_refl _, fun _ _ => rfl⟩
  ⟨hsat, rfl, ?_, fun x d hx => ?_, hhdr⟩) ?_)
 ·simp [entry, hsz]; omega
 ·simp only [entry, zei, Nat.zero_le, if_true, Nat.sub_zero] at hx;have hlt := (List.getElem?_eq_some_iff.1 hx).1;refine ⟨by simp [entry]; omega, ?_⟩;have := hrep.2 x d hx;have e : (vs ++ Array.replicate (fn.ntmps - vs.size) undef).getD x undef = vs.getD x undef := by
   simp [Array.getElem?_append, show x < vs.size by omega]
  rw [e];exact this
 ·rintro e a' w' (⟨K', s', hin, hs, hend⟩ | hx)
  ·have hd : a'.defers = [] := hs.defers;have fin : EndW P Γ fn nx post .ret s' -> bodyPost P fn (fun e w' => ∃ v d obs' nx' k', e = .returned v /\ In (.of own k nx w) k' w' /\ Sat k' own obs' w' /\ (∀ i, nx' <= i -> k'.hdr i = none) /\ nx <= nx' /\ Rep k' d v /\ post d obs' nx') .ret a' w' := fun hend => by
    obtain ⟨v, h1, r, o, n, k', h2, h3, h4, h5, h6, h7⟩ := zc8 (Γ := Γ) (post := fun r o n => match r with | .val d => post d o n | .pan _ => False) hend hin hs;cases r with
    | val d =>
     obtain ⟨v', e, hr⟩ := h2;cases e;exact ⟨hd, v, h1, v, d, o, n, k', rfl, h3, h4, h5, h6, hr, h7⟩
    | pan ch => exact h7.elim
   cases e with
   | panic ch => exact False.elim hend
   | normal => exact fin (by obtain ⟨s2, h1, _, h2⟩ := hend; exact ⟨s2, h1, .inr rfl, h2⟩)
   | ret => exact fin hend
   | exit i => obtain ⟨_, _, h1, _⟩ := hend; rcases h1 with h1 | h1 <;> cases h1
   | goto i => obtain ⟨_, _, h1, _⟩ := hend; rcases h1 with h1 | h1 <;> cases h1
   | outgrown => obtain ⟨_, _, h1, _⟩ := hend; rcases h1 with h1 | h1 <;> cases h1
  ·exact hx.2.elim
@[irreducible] def YS (P : Program) (k0 : Kr) (l : Nat) (L : Loop) (fop : Operand) (args : List Operand) (dst : Option Tmp) (s : St) (k : St -> Prop) : Prop :=
 opd s fop = yD l /\ zat dst s /\ ∃ p, RetY P k0 l L (args.map (opd s)) s.obs s.next p /\ ∀ d o n, s.next <= n -> p d o n -> k (({ s with obs := o, next := n } : St).put dst d)
theorem YS.of {P k0 l L fop args dst s} {k : St -> Prop} {ds : List D} {obs : List (Nat × Ob)} {p : D -> List (Nat × Ob) -> Nat -> Prop} (F : List (Nat × Ob)) (h : RetY P k0 l L ds obs s.next p) (hds : args.map (opd s) = ds) (heq : ∀ i, getK s.obs i = getK (F ++ obs) i) (hF : ∀ i ob, getK F i = some ob -> getK obs i = none)
  (hf : opd s fop = yD l) (hp : zat dst s) (hk : ∀ d o n, s.next <= n -> p d o n -> k (({ s with obs := F ++ o, next := n } : St).put dst d)) : YS P k0 l L fop args dst s k := by
 subst hds;unfold YS;exact ⟨hf, hp, _, (h.frame F hF).congr heq, fun d o n hn ⟨o1, ho, hpo⟩ => by subst ho; exact hk d o1 n hn hpo⟩
theorem zvq {P k0 l L fop args dst s s' k z} (_ : (True /\ True) = z) (h : s = s') : YS P k0 l L fop args dst s k = YS P k0 l L fop args dst s' k := by rw [h]
attribute [congr] zvq
theorem znh {P Γ s k0 l0 L} {Q : Exit -> St -> Prop} {kt : Kt} {id : Nat} {l : List Oper} (n : Nat) {dst : Option Tmp} {fop : Operand} {args : List Operand} {ts : Array TypeId} {ty : TypeId} {pos : String} {after : Array Edge}
  (hpan : ∀ ch s, ¬ Γ.pan ch s) (hY : YCtx Γ k0 l0 L)
  (h2 : l[n]? = some { dst := dst, op := .call { callee := .value fop, args := args.toArray, argTypes := ts }, type := ty, pos := pos, after := after, guard := none })
  (hc : l.all ziq = true)
  (h : match za5 l.toArray (l.take n), za5 l.toArray (l.drop (n + 1)) with
    | some pre, some post => HR P Γ pre s fun s1 => YS P k0 l0 L fop args dst s1 fun s2 => HR P Γ post s2 (zaX P Γ Q kt .normal)
    | _, _ => False) : V P Γ (zqE (.region id l.toArray false)) s (zaX P Γ Q kt) := by
 rw [zeR];intro K a w hin hs;split at h
 case h_2 => exact h.elim
 rename_i pre post h1 h3;refine (wpIn_wide (n := 0)).1 (wpIn_region_lit ?_);have hlt := (List.getElem?_eq_some_iff.1 h2).1;have hsplit : l = l.take n ++ l[n] :: l.drop (n + 1) := by rw [<- List.drop_eq_getElem_cons hlt, List.take_append_drop]
 have hget := (List.getElem?_eq_some_iff.1 h2).2;have hc1 : (l.take n).all ziq = true := List.all_eq_true.2 fun x hx => List.all_eq_true.1 hc x (List.mem_of_mem_take hx);have hc3 : (l.drop (n + 1)).all ziq = true := List.all_eq_true.2 fun x hx => List.all_eq_true.1 hc x (List.mem_of_mem_drop hx);have main : wpListIn (FO none) 0 P l.toArray (VPost Γ (zaX P Γ Q kt)) (l.take n ++ l[n] :: l.drop (n + 1)) a w := by
  refine zvz hpan hc1 (zsN h1 h) hin hs fun K1 a1 w1 s1 hin1 hs1 hy => ?_;rw [hget];unfold YS at hy;obtain ⟨hfop, hput, p, hret, hk⟩ := hy;refine wpListIn_plain rfl fun Kont hK => ⟨fun _ _ => trivial, ?_⟩;have hv := zdY (by have := zaF hs1 fop; rw [hfop] at this; exact this);have hrep : RepL K1 (args.map (opd s1)) (args.toArray.map a1.eval) := ⟨by simp, fun j d hj => by
   have := zfe hs1 args j d hj;simpa using this⟩
  have hl1 : w1.heap[l0]? = some (.loop L) := (hin1.block l0 hY.own).trans hY.heap;obtain ⟨fn, tmps, assign, body, hy1, hy2⟩ := hret K1 Γ.own.own w1 _ (hY.le.trans hin1.le) hY.own hl1 hs1.sat hs1.hdr (fun b hb => hin1.own_of_ge hb) hrep;have hrun : (Oper.semAt none a1.eval { dst := dst, op := .call { callee := .value fop, args := args.toArray, argTypes := ts }, type := ty, pos := pos, after := after, guard := none }).run P w1 = .ok (.round l0 fn tmps assign body) w1 := by
   rw [Oper.semAt_none];have hy3 := hy1;simp only [List.map_toArray] at hy3;simp [execOp, resolve, hv, Deferred.ofValue, invoke, hy3]
  rw [hrun];refine ⟨fun e => by simp [Fence.wide] at e, hy2.mono ?_⟩;rintro e w' ⟨v, d, obs', nx', k', rfl, hin', hsat', hhdr', hnx, hr, hpost⟩;have hle : K1.le k' := hin'.le;have hin2 : In Γ k' w' := hin1.step hle (fun b o v e => hin'.memNew b o v e) hin'.os hin'.tape hin'.output hin'.size hin'.block;have hsim : Sim k' Γ.own ({ s1 with obs := obs', next := nx' } : St) a1 w' := ⟨hsat', hs1.defers, hs1.size, fun x d hx => ⟨(hs1.env x d hx).1, (hs1.env x d hx).2.mono hle⟩, hhdr'⟩;have hg := hk d obs' nx' hnx hpost;refine hK _ _ ?_;have := zvz (ro := none) (n := 0) (Q' := VPost Γ (zaX P Γ Q kt)) (rest := []) hpan hc3 (zsN h3 hg) hin2 (hsim.put (by cases dst with | none => trivial | some x => exact hput) hr) fun K' a' w' s' q1 q2 q3 => .inl ⟨K', s', q1, q2, q3⟩
  rwa [List.append_nil] at this
 rw [<- hsplit] at main;exact main
theorem ztG {P Γ s k0 l0 L} {Q : Exit -> St -> Prop} {kt : Kt} {id : Nat} {l : List Oper} {rest : Code} (n : Nat) {dst : Option Tmp} {fop : Operand} {args : List Operand} {ts : Array TypeId} {ty : TypeId} {pos : String} {after : Array Edge}
  (hpan : ∀ ch s, ¬ Γ.pan ch s) (hY : YCtx Γ k0 l0 L)
  (h2 : l[n]? = some { dst := dst, op := .call { callee := .value fop, args := args.toArray, argTypes := ts }, type := ty, pos := pos, after := after, guard := none })
  (hc : l.all ziq = true)
  (h : match za5 l.toArray (l.take n), za5 l.toArray (l.drop (n + 1)) with
    | some pre, some post => HR P Γ pre s fun s1 => YS P k0 l0 L fop args dst s1 fun s2 => HR P Γ post s2 (V P Γ rest · (zaX P Γ Q kt))
    | _, _ => False) : V P Γ (zqE (.seq (.region id l.toArray false) rest)) s (zaX P Γ Q kt) := by
 rw [zeR];refine zqr ?_;have := znh (kt := .seq rest kt) (id := id) n hpan hY h2 hc h
 rwa [zeR] at this
theorem zrx (i : Nat) {a : Code} {ops : Array Oper} {b : Bool} : Code.seq a (.region i ops b) = Code.seq a (zqE (.region i ops b)) := by rw [zeR]
def zvZ (P : Program) (gf : FuncId) (caps : List D) (O O' : List (Nat × Ob)) (xs : List D) : Prop :=
 ∀ (k0 : Kr) (l : Nat) (L : Loop) (A : Nat -> List (Nat × Ob)) (N : Nat -> Nat), (∀ i j ob, getK O j = some ob -> getK (A i) j = none) -> (∀ i, N i <= N (i + 1)) ->
  (∀ i x, xs[i]? = some x -> RetY P k0 l L [x] (A i) (N i) fun d o n => d = .u (.bool true) /\ o = A (i + 1) /\ n = N (i + 1)) ->
  RetI P k0 l L gf (yD l :: caps) (O ++ A 0) (N 0) fun _ o n => o = O' ++ A xs.length /\ n = N xs.length
theorem RetX.zsi {P f fn c ds obs nx post nt} (hf : P.funcs[f]? = some fn) (hnt : fn.ntmps = nt) (hb : fn.body = some c) (hn : ds.length <= nt)
  (h : ∀ Γ : Ctx, Γ.n0 = nx -> Γ.own.dfr = [] -> (∀ ch s, PanG Γ post ch s -> Γ.pan ch s) -> (∀ e a w', bodyPostM Fence.wide 0 P fn (RX Γ.base post) e a w' -> Γ.esc e a w') -> V P Γ c (entry ds nt obs nx) (zaX P Γ (EndW P Γ fn nx fun d o n => post (.val d) o n) .done)) : RetX P f ds obs nx post := by
 subst hnt;intro k own w vs hsat hhdr hfresh hrep;have hsz : vs.size = ds.length := hrep.1
 let Γ0 : Ctx := .of own k nx w
 let Γ : Ctx := ⟨⟨own, []⟩, k, nx, w, PanG Γ0 post, bodyPostM Fence.wide 0 P fn (RX Γ0 post)⟩
 have hpan : ∀ ch s, PanG Γ post ch s -> Γ.pan ch s := fun ch s ⟨s', h1, h2, h3⟩ => ⟨s', h1.conv rfl rfl rfl rfl, h2, h3⟩;have hR : ∀ e w', RX Γ post e w' -> RX Γ0 post e w' := fun e w' h => h.conv rfl rfl rfl rfl;have hesc : ∀ e a w', bodyPostM Fence.wide 0 P fn (RX Γ.base post) e a w' -> Γ.esc e a w' := fun e a w' h => h;refine (callsIn_wide (n := 0)).1 (callsIn_of_wp_marks (R := RX Γ0 post) hf hb trivial ((wpIn_wide (n := 0)).2 (wp_mono (h Γ rfl rfl hpan hesc k _ w ⟨.refl _, hhdr, fun b o v e => .inl e, hfresh, rfl, rfl, rfl, Nat.le_refl _, fun _ _ => rfl⟩
  ⟨hsat, rfl, ?_, fun x d hx => ?_, hhdr⟩) ?_)))
 ·simp [entry, hsz]; omega
 ·simp only [entry, zei, Nat.zero_le, if_true, Nat.sub_zero] at hx;have hlt := (List.getElem?_eq_some_iff.1 hx).1;refine ⟨by simp [entry]; omega, ?_⟩;have := hrep.2 x d hx;have e : (vs ++ Array.replicate (fn.ntmps - vs.size) undef).getD x undef = vs.getD x undef := by
   simp [Array.getElem?_append, show x < vs.size by omega]
  rw [e];exact this
 ·rintro e a' w' (⟨K', s', hin, hs, hend⟩ | hx)
  ·have hd : a'.defers = [] := hs.defers;cases e with
   | panic ch =>
    obtain ⟨s2, hw, hn2, hp⟩ := (hend : PanG Γ0 post ch s');obtain ⟨K2, h1, h2⟩ := hw K' a' w' (hin.conv rfl rfl rfl rfl) hs;show LeavesInM Fence.wide 0 P fn a'.tmps (RX Γ0 post) a'.defers (.panicking ch) w';rw [hd];exact ⟨.pan ch, s2.obs, s2.next, K2, rfl, h1, h2.sat, h2.hdr, hn2, hp⟩
   | normal =>
    obtain ⟨v, h1, h2⟩ := zc8 (Γ := Γ) (post := post) hend hin hs;show LeavesInM Fence.wide 0 P fn a'.tmps (RX Γ0 post) a'.defers .returning w';rw [hd];exact ⟨v, h1, hR _ _ h2⟩
   | ret =>
    obtain ⟨v, h1, h2⟩ := zc8 (Γ := Γ) (post := post) hend hin hs;show LeavesInM Fence.wide 0 P fn a'.tmps (RX Γ0 post) a'.defers .returning w';rw [hd];exact ⟨v, h1, hR _ _ h2⟩
   | exit i => obtain ⟨_, _, h1, _⟩ := hend; rcases h1 with h1 | h1 <;> cases h1
   | goto i => obtain ⟨_, _, h1, _⟩ := hend; rcases h1 with h1 | h1 <;> cases h1
   | outgrown => obtain ⟨_, _, h1, _⟩ := hend; rcases h1 with h1 | h1 <;> cases h1
  ·exact hx.2
def zyz (P : Program) (Γb : Ctx) (fn : Func) (post : Out -> List (Nat × Ob) -> Nat -> Prop) (e : Exit) (s : St) : Prop := e = .ret /\ EndW P Γb fn Γb.n0 (fun d o n => post (.val d) o n) .ret s
theorem RetY.zsh {P : Program} {K : Kr} {l : Nat} {L : Loop} {s : St} {p : Tmp} {x : D} {A A' : List (Nat × Ob)} {N N' : Nat} {W : World} {a : Act} {own0 : Own} {fn0 D0 assign body} (hL : L = { state := .ready, pending := none, fn := fn0, tmps := a.tmps, params := #[p], assign := assign, body := body, defers := D0 })
  (hs : Sim K own0 s a W) (hp : p < s.n) (hN : N <= N')
  (h : ∀ (Γ1 : Ctx), Γ1.n0 = N -> (∀ ch s, ¬ Γ1.pan ch s) -> VR P Γ1 l assign (({ s with obs := A, next := N } : St).put (some p) x) fun e s1 => e = .normal /\ N <= s1.next /\
    ∀ Γ2 : Ctx, Γ2.n0 = s1.next -> (∀ ch s, ¬ Γ2.pan ch s) -> VR P Γ2 l body s1 fun e s2 => e = .normal /\ ∃ s3, Wk Γ2 s2 s3 /\ s3.obs = A' /\ s3.next = N') :
  RetY P K l L [x] A N fun d o n => d = .u (.bool true) /\ o = A' /\ n = N' := by
 intro k own w vs hk hl hLw hsat hhdr hfresh hrep;obtain ⟨hvs, hvr⟩ := hrep;have hsz : vs.size = L.params.size := by rw [hvs, hL]; rfl
 refine ⟨_, _, _, _, run_yield hLw hsz, roundIn_of_wpIn trivial ?_⟩
 let Γ1 : Ctx := .of own k N w
 have hin1 : In Γ1 k w := ⟨.refl _, hhdr, fun b o v e => .inl e, hfresh, rfl, rfl, rfl, Nat.le_refl _, fun _ _ => rfl⟩;have hfold : (L.params.zip vs).foldl (fun tmps (t, a) => tmps.setIfInBounds t a) L.tmps = a.tmps.setIfInBounds p (vs.getD 0 undef) := by
  obtain ⟨v, rfl⟩ : ∃ v, vs = #[v] := by
   obtain ⟨l⟩ := vs
   match l, hvs with
   | [v], _ => exact ⟨v, rfl⟩
  rw [hL];simp
 have hsim0 : Sim k Γ1.own ({ s with obs := A, next := N } : St) { tmps := a.tmps, defers := [] } w := ⟨hsat, rfl, hs.size, fun y d hy => ⟨(hs.env y d hy).1, (hs.env y d hy).2.mono hk⟩, hhdr⟩;have hsim1 : Sim k Γ1.own (({ s with obs := A, next := N } : St).put (some p) x) { tmps := (L.params.zip vs).foldl (fun tmps (t, a) => tmps.setIfInBounds t a) L.tmps, defers := [] } w := by
  rw [hfold];exact hsim0.put (dst := some p) (by simpa [zat] using hp) (hvr 0 x rfl)
 have hLa : L.assign = assign /\ L.body = body := by rw [hL]; exact ⟨rfl, rfl⟩
 rw [hLa.1, hLa.2];refine wpIn_mono (h Γ1 rfl (fun _ _ h => h) k _ w hin1 hsim1) ?_;rintro e a1 w1 (⟨K1, s1, hi1, hs1, hq1⟩ | hx)
 case inr => exact hx.2.elim
 have hq1' : e = .normal /\ N <= s1.next /\ ∀ Γ2 : Ctx, Γ2.n0 = s1.next -> (∀ ch s, ¬ Γ2.pan ch s) -> VR P Γ2 l body s1 fun e s2 => e = .normal /\ ∃ s3, Wk Γ2 s2 s3 /\ s3.obs = A' /\ s3.next = N' := by
  cases e with
  | panic ch => exact hq1.elim
  | _ => exact hq1
 obtain ⟨rfl, hN1, hbody⟩ := hq1';have hl1 : w1.heap[l]? = some (.loop L) := (hi1.block l hl).trans hLw;have hst : L.state = .ready := by rw [hL]
 refine ⟨_, run_beginRound hl1 hst, ?_⟩;have hlt1 := (Array.getElem?_eq_some_iff.1 hl1).1;generalize hw2 : w1.putObj l (.loop { L with state := .busy }) = w2;have hh2 : ∀ b, b ≠ l -> w2.heap[b]? = w1.heap[b]? := fun b hb => by rw [<- hw2]; exact World.putObj_heap_other hb
 have hsz2 : w2.heap.size = w1.heap.size := by rw [<- hw2]; simp
 have hl2 : w2.heap[l]? = some (.loop { L with state := .busy }) := by rw [<- hw2]; exact World.putObj_heap_same hlt1
 let Γ2 : Ctx := .of own K1 s1.next w2
 have hin2 : In Γ2 K1 w2 := ⟨.refl _, hs1.hdr, fun b o v e => .inl e, fun b hb => hi1.own_of_ge (by rw [<- hsz2]; exact hb), rfl, rfl, rfl, Nat.le_refl _, fun _ _ => rfl⟩;have hsim2 : Sim K1 Γ2.own s1 a1 w2 := ⟨Sat.zuX hs1.sat l (fun b hb _ => hh2 b hb) (hs1.sat.notBlk hl) (zhS hl1), hs1.defers, hs1.size, hs1.env, hs1.hdr⟩;refine wpIn_mono (hbody Γ2 rfl (fun _ _ h => h) K1 a1 w2 hin2 hsim2) ?_;rintro e a2 w3 (⟨K2, s2, hi2, hs2, hq2⟩ | hx)
 case inr => exact hx.2.elim
 have hq2' : e = .normal /\ ∃ s3, Wk Γ2 s2 s3 /\ s3.obs = A' /\ s3.next = N' := by
  cases e with
  | panic ch => exact hq2.elim
  | _ => exact hq2
 obtain ⟨rfl, s3, hw, hA, hNx⟩ := hq2';obtain ⟨K3, hi3, hs3⟩ := hw K2 a2 w3 hi2 hs2;have hl3 : w3.heap[l]? = some (.loop { L with state := .busy }) := (hi3.block l hl).trans hl2;have hlt3 := (Array.getElem?_eq_some_iff.1 hl3).1;refine ⟨_, _, run_endRound none hl3, ?_⟩;have hLe : ({ ({ L with state := .busy } : Loop) with state := if (none : Option Code).isNone then .ready else .done, pending := none } : Loop) = L := by rw [hL]; rfl
 rw [hLe];generalize hw4 : w3.putObj l (.loop L) = w4;have hh4 : ∀ b, b ≠ l -> w4.heap[b]? = w3.heap[b]? := fun b hb => by rw [<- hw4]; exact World.putObj_heap_other hb
 have hsz4 : w4.heap.size = w3.heap.size := by rw [<- hw4]; simp
 have hl4 : w4.heap[l]? = some (.loop L) := by rw [<- hw4]; exact World.putObj_heap_same hlt3
 have ho2 : w2.os = w1.os /\ w2.tape = w1.tape /\ w2.output = w1.output := by rw [<- hw2]; exact ⟨rfl, rfl, rfl⟩
 have ho4 : w4.os = w3.os /\ w4.tape = w3.tape /\ w4.output = w3.output := by rw [<- hw4]; exact ⟨rfl, rfl, rfl⟩
 refine ⟨_, .u (.bool true), A', N', K3, rfl, ⟨hi1.le.trans hi3.le, hhdr, fun b o v e => ?_, hfresh, ?_, ?_, ?_, ?_, fun b hb => ?_⟩, ?_, ?_, hN, .u _ _ (.bool _), rfl, rfl, rfl⟩
 ·rcases hi3.memNew b o v e with h | h
  ·exact hi1.memNew b o v h
  ·exact .inr h
 ·exact ho4.1.trans (hi3.os.trans (ho2.1.trans hi1.os))
 ·exact ho4.2.1.trans (hi3.tape.trans (ho2.2.1.trans hi1.tape))
 ·exact ho4.2.2.trans (hi3.output.trans (ho2.2.2.trans hi1.output))
 ·have h1 := hi1.size;have h3 := hi3.size;have h1' : w.heap.size <= w1.heap.size := h1;have h3' : w2.heap.size <= w3.heap.size := h3;show w.heap.size <= w4.heap.size;omega
 ·show w4.heap[b]? = w.heap[b]?;by_cases hbl : b = l
  ·subst hbl;rw [hl4, hLw]
  ·rw [hh4 b hbl];exact (hi3.block b hb).trans ((hh2 b hbl).trans (hi1.block b hb))
 ·rw [<- hA];exact Sat.zuX hs3.sat l (fun b hb _ => hh4 b hb) (hs3.sat.notBlk hl) (zhS hl3)
 ·rw [<- hNx];exact hs3.hdr
theorem ztc (i : Nat) {ops : Array Oper} {b : Bool} {rest : Code} : Code.seq (.region i ops b) rest = zqE (.seq (.region i ops b) rest) := (zeR _).symm
theorem zoc {c1 assign body rest : Code} {id : Nat} {g : Operand} {ps : Array Tmp} : Code.seq (.seq c1 (.block id (.rangeFunc g ps assign body))) rest = zqE (.seq (.seq c1 (.block id (.rangeFunc g ps assign body))) rest) := (zeR _).symm
@[irreducible] def RangeOK (P : Program) (Γ : Ctx) (W : Exit -> Act -> World -> Prop) (g : Operand) (p : Tmp) (assign body rest : Code) (s : St) : Prop :=
 ∀ K a w, In Γ K w -> Sim K Γ.own s a w -> (Code.rangeFunc g #[p] assign body).wp P (fun e a w => e = .normal /\ rest.wp P W a w) a w
theorem zou {P Γ W g p assign body rest s s' z} (_ : (True /\ True) = z) (h : s = s') : RangeOK P Γ W g p assign body rest s = RangeOK P Γ W g p assign body rest s' := by rw [h]
attribute [congr] zou
theorem RangeOK.wk {P Γ W g p assign body rest s} (s' : St) (hw : Wk Γ s s') (h : RangeOK P Γ W g p assign body rest s') : RangeOK P Γ W g p assign body rest s := by
 unfold RangeOK at h ⊢;intro K a w h1 h2;obtain ⟨K', h3, h4⟩ := hw K a w h1 h2;exact h K' a w h3 h4
theorem ztH {P Γ s} {Q : Exit -> St -> Prop} {kt : Kt} {id : Nat} {g : Operand} {p : Tmp} {c1 assign body rest : Code} (h : V P Γ c1 s (zaX P Γ (fun e s1 => e = .normal /\ RangeOK P Γ (VPost Γ (zaX P Γ Q kt)) g p assign body rest s1) .done)) :
  V P Γ (zqE (.seq (.seq c1 (.block id (.rangeFunc g #[p] assign body))) rest)) s (zaX P Γ Q kt) := by
 rw [zeR];intro K a w hin hs;refine wp_seq (wp_seq (wp_mono (h K a w hin hs) ?_));rintro e a1 w1 (⟨K1, s1, h1, h2, h3⟩ | hx)
 ·cases e with
  | normal =>
   have h4 := h3.2;unfold RangeOK at h4;refine wp_block (wp_mono (h4 K1 a1 w1 h1 h2) ?_);rintro e a2 w2 ⟨rfl, h5⟩;exact h5
  | panic ch => exact .inl ⟨K1, s1, h1, h2, h3⟩
  | ret => exact absurd h3.1 (by simp)
  | exit i => exact absurd h3.1 (by simp)
  | goto i => exact absurd h3.1 (by simp)
  | outgrown => exact absurd h3.1 (by simp)
 ·cases e with
  | normal => exact hx.1.elim
  | _ => exact .inr hx
theorem RangeOK.of {P Γ fn post s} {Q : Exit -> St -> Prop} {kt : Kt} {g : Operand} {p : Tmp} {assign body rest : Code} {gf : FuncId} {caps : List D} {O O' : List (Nat × Ob)} {xs : List D} (A : Nat -> List (Nat × Ob)) (N : Nat -> Nat)
  (hesc : ∀ e a w', bodyPostM Fence.wide 0 P fn (RX Γ.base post) e a w' -> Γ.esc e a w') (hd : Γ.own.dfr = []) (hg : opd s g = .fnc (.func gf) caps) (hc : zae P gf = true) (hit : zvZ P gf caps O O' xs)
  (hdis : ∀ i j ob, getK O j = some ob -> getK (A i) j = none) (hobs : ∀ i, getK s.obs i = getK (O ++ A 0) i) (hnx : s.next = N 0) (hN : ∀ i, N i <= N (i + 1)) (hp : p < s.n)
  (hround : ∀ i x, xs[i]? = some x -> ∀ (Γ1 : Ctx) (r : Nat), Γ1.n0 = N i -> (∀ ch s, ¬ Γ1.pan ch s) -> VR P Γ1 r assign (({ s with obs := A i, next := N i } : St).put (some p) x) fun e s1 => e = .normal /\ N i <= s1.next /\
    ∀ Γ2 : Ctx, Γ2.n0 = s1.next -> (∀ ch s, ¬ Γ2.pan ch s) -> VR P Γ2 r body s1 fun e s2 => e = .normal /\ ∃ s3, Wk Γ2 s2 s3 /\ s3.obs = A (i + 1) /\ s3.next = N (i + 1))
  (hrest : ∀ Γ' : Ctx, Γ'.n0 = N xs.length -> (∀ ch s, ¬ Γ'.pan ch s) -> V P Γ' rest { s with obs := O' ++ A xs.length, next := N xs.length } (zaX P Γ' (zyz P Γ.base fn post) .done)) :
  RangeOK P Γ (VPost Γ (zaX P Γ Q kt)) g p assign body rest s := by
 unfold RangeOK;intro K a w hin hs;refine (wpIn_wide (n := 0)).1 (wpIn_rangeFunc (F := Fence.wide) fun fn' _ => ?_);obtain ⟨cv, hcl, hv, hcap⟩ := zhA (by have := zaF hs g; rw [hg] at this; exact this);obtain ⟨L, hL⟩ : ∃ L : Loop, L = { state := .ready, pending := none, fn := fn', tmps := a.tmps, params := #[p], assign := assign, body := body, defers := w.heap.size } := ⟨_, rfl⟩;obtain ⟨W1, hW1⟩ : ∃ W1, (w.alloc (.deferred (some []))).alloc (.loop L) = W1 := ⟨_, rfl⟩;have hsW : W1.heap.size = w.heap.size + 2 := by rw [<- hW1]; simp
 have hL1 : W1.heap[w.heap.size + 1]? = some (.loop L) := by
  rw [<- hW1]; have := World.alloc_heap_new (w.alloc (.deferred (some []))) (.loop L); rwa [World.size_alloc] at this
 have hD1 : W1.heap[w.heap.size]? = some (.deferred (some [])) := by
  rw [<- hW1]; exact (zdE _ _ (by simp)).trans (World.alloc_heap_new w _)
 have hold : ∀ b, b < w.heap.size -> W1.heap[b]? = w.heap[b]? := fun b hb => by
  rw [<- hW1]; exact (zdE _ _ (by simp; omega)).trans (zdE _ _ hb)
 have hoW : W1.os = w.os /\ W1.tape = w.tape /\ W1.output = w.output := by rw [<- hW1]; exact ⟨rfl, rfl, rfl⟩
 refine ⟨w.heap.size + 1, [{ target := .collected w.heap.size, args := #[] }], W1, { target := .fn (.func gf) cv.toArray, args := #[.func (.yield (w.heap.size + 1)) #[] #[]] }, W1, gf,
  #[.func (.yield (w.heap.size + 1)) #[] #[]] ++ cv.toArray, W1, ?_, ?_, fun _ _ => trivial, ?_, fun e => by simp [Fence.wide] at e, (callsIn_wide (n := 0 - 1)).2 ?_⟩
 ·rw [<- hW1, hL]; exact run_enterLoop_outer _ _ _ _ _
 ·simp [resolve, hv, Deferred.ofValue]
  try rfl
 ·unfold zae at hc;split at hc
  ·rename_i f0 hfn;simp at hc;obtain ⟨hb, hname⟩ := hc;have hb' : f0.body.isNone = false := by cases hbb : f0.body <;> simp_all
   simp [invoke, callFunc, hfn, hb', hname];intro h0;rw [h0] at hb;simp at hb
  ·cases hc
 have hsatW : Sat K Γ.own.own s.obs W1 := hs.sat.keep (.refl K) (fun b hB => hold b (hs.sat.lt hB)) (fun b o v e => by rw [cell_of_heap (hold b (hs.sat.memLt e))]; exact hs.sat.mem b o v e)
  (fun b hB o => by
    obtain ⟨i, ob, g, h1, h2, h3⟩ := hB;obtain ⟨g', h4, h5, _⟩ := hs.sat.ob i ob h1;rw [h2] at h4;cases h4;exact (h5 b h3).2 o)
 have hsat1 : Sat K (fun b => Γ.own.own b /\ b ≠ w.heap.size + 1 /\ b ≠ w.heap.size) (O ++ A 0) W1 := by
  refine Sat.congr (Sat.owns hsatW fun b hB h => ⟨h, ?_⟩) fun i => (hobs i).symm;have := hs.sat.lt hB;omega
 have hcall := hit K (w.heap.size + 1) L A N hdis hN (fun i x hx => RetY.zsh hL hs hp (hN i) fun Γ1 h1 h2 => hround i x hx Γ1 _ h1 h2) K _ W1
  (#[.func (.yield (w.heap.size + 1)) #[] #[]] ++ cv.toArray) (.refl K) (fun h => h.2.1 rfl) hL1 hsat1 (fun i hi => hs.hdr i (by rw [hnx]; exact hi)) (fun b hb => ⟨hin.own_of_ge (by omega), by omega, by omega⟩)
  ⟨by simp [hcl], fun j d hj => by
   cases j with
   | zero =>
      cases hj;simpa using Rep.u _ _ (RepU.oth _)
   | succ j =>
      have := hcap j d (by simpa using hj);simpa [Array.getElem?_append] using this⟩
 refine hcall.mono ?_;rintro e w3 ⟨v, d, obs3, nx3, k3, rfl, hin3, hsat3, hhdr3, hnx3, _, rfl, rfl⟩;have hl3 : w3.heap[w.heap.size + 1]? = some (.loop L) := (hin3.block _ fun h => h.2.1 rfl).trans hL1;have hD3 : w3.heap[w.heap.size]? = some (.deferred (some [])) := (hin3.block _ fun h => h.2.2 rfl).trans hD1;have hlt3 := (Array.getElem?_eq_some_iff.1 hl3).1;have hpend : L.pending = none := by rw [hL]
 refine ⟨none, w3.putObj (w.heap.size + 1) (.loop { L with state := .exhausted }), (run_endLoop (P := P) hl3 (by rw [hL]; simp)).trans (by rw [hpend]), ?_⟩;generalize hw4 : w3.putObj (w.heap.size + 1) (.loop { L with state := .exhausted }) = w4;have hh4 : ∀ b, b ≠ w.heap.size + 1 -> w4.heap[b]? = w3.heap[b]? := fun b hb => by rw [<- hw4]; exact World.putObj_heap_other hb
 have hsz4 : w4.heap.size = w3.heap.size := by rw [<- hw4]; simp
 have ho4 : w4.os = w3.os /\ w4.tape = w3.tape /\ w4.output = w3.output := by rw [<- hw4]; exact ⟨rfl, rfl, rfl⟩
 have hD4 : w4.heap[w.heap.size]? = some (.deferred (some [])) := (hh4 _ (by omega)).trans hD3;have hKk : K.le k3 := hin3.le;have hin4 : In Γ k3 w4 := by
  refine hin.step hKk (fun b o v e => (hin3.memNew b o v e).imp id (·.1)) ?_ ?_ ?_ ?_ fun b hb => ?_
  ·exact ho4.1.trans (hin3.os.trans hoW.1)
  ·exact ho4.2.1.trans (hin3.tape.trans hoW.2.1)
  ·exact ho4.2.2.trans (hin3.output.trans hoW.2.2)
  ·have h3 : W1.heap.size <= w3.heap.size := hin3.size;omega
  ·have hbl : b < w.heap.size := by
    rcases Nat.lt_or_ge b w.heap.size with h | h
    ·exact h
    ·exact absurd (hin.own_of_ge h) hb
   rw [hh4 b (by omega)];exact (hin3.block b fun h => hb h.1).trans (hold b hbl)
 let Γ' : Ctx := ⟨⟨fun b => Γ.own.own b /\ b ≠ w.heap.size, [{ target := .collected w.heap.size, args := #[] }]⟩, k3, N xs.length, w4, fun _ _ => False, fun _ _ _ => False⟩
 have hDlt := (Array.getElem?_eq_some_iff.1 hD4).1;have hin5 : In Γ' k3 w4 := ⟨.refl _, hhdr3, fun b o v e => .inl e, fun b hb => ⟨hin4.own_of_ge hb, by have : w4.heap.size <= b := hb; omega⟩, rfl, rfl, rfl, Nat.le_refl _, fun _ _ => rfl⟩;have hsat4 : Sat k3 Γ'.own.own (O' ++ A xs.length) w4 := by
  refine Sat.zuX (Sat.owns hsat3 fun b hB h => ⟨h.1, h.2.2⟩) (w.heap.size + 1) (fun b hb _ => hh4 b hb) (fun hB => ?_) (zhS hl3);exact hsat3.notBlk (fun h => h.2.1 rfl) hB
 have hs5 : Sim k3 Γ'.own ({ s with obs := O' ++ A xs.length, next := N xs.length } : St) { a with defers := [{ target := .collected w.heap.size, args := #[] }] ++ a.defers } w4 :=
  ⟨hsat4, by have h0 : a.defers = _ := hs.defers; rw [hd] at h0; show [_] ++ a.defers = _; rw [h0]; rfl, hs.size, fun x d hx => ⟨(hs.env x d hx).1, (hs.env x d hx).2.mono hKk⟩, hhdr3⟩
 refine ⟨rfl, ?_⟩;refine wp_mono (hrest Γ' rfl (fun _ _ h => h) k3 _ w4 hin5 hs5) ?_;rintro e a6 w6 (⟨K6, s6, hi6, hs6, hq6⟩ | hx)
 case inr => exact hx.2.elim
 have hD6 : w6.heap[w.heap.size]? = some (.deferred (some [])) := (hi6.block _ fun h => h.2 rfl).trans hD4;have hdf : a6.defers = [{ target := .collected w.heap.size, args := #[] }] := hs6.defers;generalize hw7 : w6.putObj w.heap.size (.deferred none) = w7;have hh7 : ∀ b, b ≠ w.heap.size -> w7.heap[b]? = w6.heap[b]? := fun b hb => by rw [<- hw7]; exact World.putObj_heap_other hb
 have hsz7 : w7.heap.size = w6.heap.size := by rw [<- hw7]; simp
 have ho7 : w7.os = w6.os /\ w7.tape = w6.tape /\ w7.output = w6.output := by rw [<- hw7]; exact ⟨rfl, rfl, rfl⟩
 have hin6 : In Γ K6 w6 := hin4.step hi6.le (fun b o v e => (hi6.memNew b o v e).imp id (·.1)) hi6.os hi6.tape hi6.output hi6.size fun b hb => hi6.block b fun h => hb h.1;have hin7 : In Γ K6 w7 := hin6.step (.refl _) (fun b o v e => .inl e) ho7.1 ho7.2.1 ho7.2.2 (by omega) fun b hb => hh7 b fun e => hb (by subst e; exact hin.own_of_ge (Nat.le_refl _))
 have hsim7 : Sim K6 Γ.base.own s6 { a6 with defers := [] } w7 :=
  ⟨Sat.zuX (Sat.owns hs6.sat fun b hB h => h.1) w.heap.size (fun b hb _ => hh7 b hb) (hs6.sat.notBlk fun h => h.2 rfl) (zrh hD6), rfl, hs6.size, hs6.env, hs6.hdr⟩
 have fin : EndW P Γ.base fn Γ.base.n0 (fun d o n => post (.val d) o n) .ret s6 -> bodyPostM Fence.wide 0 P fn (RX Γ.base post) .ret a6 w6 := fun hend => by
  obtain ⟨v', h1, h2⟩ := zc8 (Γ := Γ.base) (post := post) hend (hin7.conv rfl rfl rfl rfl) hsim7;show LeavesInM Fence.wide 0 P fn a6.tmps (RX Γ.base post) a6.defers .returning w6;rw [hdf];refine ⟨by simp, .inl ⟨w.heap.size, w7, rfl, ?_, v', h1, h2⟩⟩;rw [<- hw7];exact run_takeDeferred hD6
 cases e with
 | panic ch => exact hq6.elim
 | ret => exact .inr ⟨trivial, hesc _ _ _ (fin hq6.2)⟩
 | normal => exact absurd hq6.1 (by simp)
 | exit i => exact absurd hq6.1 (by simp)
 | goto i => exact absurd hq6.1 (by simp)
 | outgrown => exact absurd hq6.1 (by simp)
end Go.VL
namespace Go.Proofs.YtkdhmbhbbciedaaGreatDoor
open Go Go.VL
abbrev zl5 : List (String × DataW Unit) := [("math/bits.deBruijn32tab", Rows.laid_math_bits_deBruijn32tab), ("math/bits.deBruijn64tab", Rows.laid_math_bits_deBruijn64tab), ("internal/strconv.uint64pow10", Rows.laid_internal_strconv_uint64pow10), ("unicode/utf8.acceptRanges", Rows.laid_unicode_utf8_acceptRanges), ("strconv.ErrRange", Rows.laid_strconv_ErrRange), ("strconv.ErrSyntax", Rows.laid_strconv_ErrSyntax), ("stokvel/lex.signs", Rows.laid_stokvel_lex_signs), ("stokvel/code.words", Rows.laid_stokvel_code_words), ("unicode/utf8.first", Rows.laid_unicode_utf8_first)]
theorem zrq (os : Os) (args : Array Value) : laidMetH Tryz.prog zl5 ((World.laidAll Tryz.prog os zl5).forCall (fun _ _ => 0) ⟨#[], args, []⟩).memory := by
 rw [MakeChecks.laidMetH_plain _ _ _ (by kernel_rfl)];exact laidMet_laidAll _ (by kernel_rfl) (by kernel_rfl)
theorem zh0 {P : Program} {w : World} {n : String} {g : Nat} {cs : Array Value} (hg : P.globalNamed n = some g) (hv : w.var? P n = some cs) :
  (∀ j, j < cs.toList.length -> VL.look w g j = some (.val (cs.toList.getD j undef))) /\ VL.look w g cs.toList.length = some .fin := by
 unfold World.var? at hv;rw [hg, Option.bind_some] at hv;split at hv
 ·rename_i cs0 t fr hh;cases hv;refine ⟨fun j hj => zey ?_, ?_⟩
  ·have hj' : j < cs.size := by simpa using hj
   simp [World.cell?, hh, hj', List.getD]
  ·have := zrg hh;simpa using this
 ·cases hv
theorem zoX {P : Program} {w : World} {n : String} {g : Nat} {t e : TypeId} {cs : Array Value} {L : List (List UInt8)} {fuel : Nat} {H : Type} {enc : TypeId × Value -> H} {base : Nat} {spare : Nat -> Bool} {held : Bool} {q : List MemPlace}
  (hg : P.globalNamed n = some g) (hv : w.var? P n = some cs) (ht : P.underlying t = some (.array L.length e)) (he : P.underlying e = some .string) (hc : P.cellsOf e = 1) (hct : P.cellsOf t = L.length)
  (hd : DataW.trod enc P w base spare held fuel t cs.toList = some (.agg (L.map fun b => .lit (.string b)), q)) : cs.toList = L.map fun b => .string ⟨b.toArray⟩ := by
 obtain ⟨xs, m1, rfl, hx1, hlen, hn3, hel⟩ := DataW.trod_array ht hd;have hcell := zjX hg hv ht he hc hd;apply List.ext_getElem?;intro j;cases hb : L[j]? with
 | none =>
  have := List.getElem?_eq_none_iff.1 hb;rw [List.getElem?_eq_none (by omega), List.getElem?_map, hb]; rfl
 | some b =>
  have h := hcell j b hb;rw [World.var?_cell hg hv j] at h;rw [List.getElem?_map, hb, Array.getElem?_toList, h]; rfl
def zua : List (List UInt8) := [[61, 61], [59], [44], [61], [60], [43], [45], [42], [47], [40], [41]]
def zt6 : List (List UInt8) := [[110, 117, 109], [110, 97, 109, 101], [97, 100, 100], [115, 117, 98], [109, 117, 108], [100, 105, 118], [115, 99, 97, 108, 101], [109, 105, 110], [109, 97, 120], [108, 101, 115, 115], [101, 113], [110, 111, 116], [106, 117, 109, 112], [102, 97, 108, 115, 101], [101, 110, 100]]
def zue : List Int := (List.range 20).map fun i => (10 : Int) ^ i
theorem zmX {P : Program} {w : World} {t : TypeId} {ms} {cs : List Value} {fuel : Nat} {H : Type} {enc : TypeId × Value -> H} {base : Nat} {spare : Nat -> Bool} {held : Bool} {nm : String} {y : DataW H} {q : List MemPlace}
  (ht : P.underlying t = some (.interface ms)) (h : DataW.trod enc P w base spare held fuel t cs = some (.iface nm y, q)) : ∃ tp v, cs = [.iface tp v] := by
 cases fuel with
 | zero => simp [DataW.trod] at h
 | succ n =>
  rw [DataW.trod_step] at h;unfold DataW.trodStep at h;rw [ht] at h;split at h <;> simp_all
theorem zpT (W : World) (h : laidMetH Tryz.prog zl5 W) : GlobIn (zj7 W) := by
 rw [MakeChecks.laidMetH_plain _ _ _ (by kernel_rfl)] at h;obtain ⟨ps, ⟨g0, t0, c0, f0, p0, q0, hg0, ht0, hv0, hd0, ⟨g1, t1, c1, f1, p1, q1, hg1, ht1, hv1, hd1, ⟨g2, t2, c2, f2, p2, q2, hg2, ht2, hv2, hd2, ⟨g3, t3, c3, f3, p3, q3, hg3, ht3, hv3, hd3, ⟨g4, t4, c4, f4, p4, q4, hg4, ht4, hv4, hd4, ⟨g5, t5, c5, f5, p5, q5, hg5, ht5, hv5, hd5, ⟨g6, t6, c6, f6, p6, q6, hg6, ht6, hv6, hd6, ⟨g7, t7, c7, f7, p7, q7, hg7, ht7, hv7, hd7, ⟨g8, t8, c8, f8, p8, q8, hg8, ht8, hv8, hd8, _⟩, _⟩, _⟩, _⟩, _⟩, _⟩, _⟩, _⟩, _⟩, _⟩ := h;obtain rfl : g2 = 9 := Option.some.inj (hg2.symm.trans (by kernel_rfl));obtain rfl : g4 = 3 := Option.some.inj (hg4.symm.trans (by kernel_rfl));obtain rfl : g5 = 2 := Option.some.inj (hg5.symm.trans (by kernel_rfl));obtain rfl : g6 = 8 := Option.some.inj (hg6.symm.trans (by kernel_rfl));obtain rfl : g7 = 0 := Option.some.inj (hg7.symm.trans (by kernel_rfl));obtain rfl : t2 = 227 := Option.some.inj (ht2.symm.trans (by kernel_rfl));obtain rfl : t6 = 226 := Option.some.inj (ht6.symm.trans (by kernel_rfl));obtain rfl : t7 = 76 := Option.some.inj (ht7.symm.trans (by kernel_rfl));obtain rfl : t4 = 78 := Option.some.inj (ht4.symm.trans (by kernel_rfl));obtain rfl : t5 = 78 := Option.some.inj (ht5.symm.trans (by kernel_rfl));have e2 := Lib.cells_of_tab (p := p2) (n := 20) (e := 191) (k := .u64) (zs := zue) (by kernel_rfl) (by kernel_rfl) (by kernel_rfl) (by kernel_rfl) (hd2.trans (by kernel_rfl));have e6 := zoX (q := p6) (L := zua) hg6 hv6 (by kernel_rfl) (e := 9) (by kernel_rfl) (by kernel_rfl) (by kernel_rfl) (hd6.trans (by kernel_rfl));have e7 := zoX (q := p7) (L := zt6) hg7 hv7 (by kernel_rfl) (e := 9) (by kernel_rfl) (by kernel_rfl) (by kernel_rfl) (hd7.trans (by kernel_rfl));obtain ⟨ms4, hm4⟩ : ∃ ms, Tryz.prog.underlying 78 = some (.interface ms) := ⟨_, rfl⟩;obtain ⟨u4, v4, e4⟩ := zmX hm4 hd4;obtain ⟨u5, v5, e5⟩ := zmX hm4 hd5;have x2 := zh0 hg2 hv2;have x4 := zh0 hg4 hv4;have x5 := zh0 hg5 hv5;have x6 := zh0 hg6 hv6;have x7 := zh0 hg7 hv7;rw [e2] at x2;rw [e4] at x4;rw [e5] at x5;rw [e6] at x6;rw [e7] at x7;refine ⟨fun p hp => ?_, fun g hg => ?_⟩
 ·unfold globs at hp;simp only [List.mem_cons, List.not_mem_nil, or_false] at hp;rcases hp with rfl | rfl | rfl
  all_goals first | exact x2 | exact x6 | exact x7
 ·unfold zum at hg;simp only [List.mem_cons, List.not_mem_nil, or_false] at hg;rcases hg with rfl | rfl
  all_goals first | exact ⟨_, _, x4.1 0 (by simp)⟩ | exact ⟨_, _, x5.1 0 (by simp)⟩
end Go.Proofs.YtkdhmbhbbciedaaGreatDoor
namespace Go.Proofs.YtkdhmbhbbciedaaGreatDoor
open Go Go.VL Go.Shelf Go.RowKit
theorem bsz : (Tryz.prog.info? 88).map (·.size) = some 2 := by kernel_rfl
theorem zvw : liesAt Tryz.prog Tryz.prog.depth 88 (2 / Tryz.prog.cellsOf 88) 0 88 1 = true := by kernel_rfl
set_option maxHeartbeats 1000000 in
set_option maxRecDepth 100000 in
theorem zuA (b : Nat) (w : World) (h0 : w.cell? ⟨b, 0, none⟩ = some (.pointer (some ⟨b, 0, none⟩))) :
  Calls Tryz.prog 83 #[.pointer (some ⟨b, 0, none⟩)] w fun e w' => e = .returned (.tuple #[]) /\ w' = w := by
 obtain ⟨j, hj, _⟩ := Option.map_eq_some_iff.1 bsz
 go_enter Tryz.func83, Tryz.ntmps83
 go_wp2
 rw [Lib.run_neq_ptr_same w _ Tryz.underlying85 hj]
 go_wp2
 go_end0
 exact ⟨rfl, rfl⟩
set_option maxHeartbeats 1000000 in
set_option maxRecDepth 100000 in
theorem ztD (b : Nat) (w : World) (h0 : w.cell? ⟨b, 0, none⟩ = some (.pointer none)) (hsh : w.shape? b = some (88, 2)) (hfz : w.frozen? ⟨b, 0, none⟩ = false) :
  Calls Tryz.prog 83 #[.pointer (some ⟨b, 0, none⟩)] w fun e w' => e = .returned (.tuple #[]) /\ w' = w.setCell ⟨b, 0, none⟩ (.pointer (some ⟨b, 0, none⟩)) := by
 obtain ⟨j, hj, hjs⟩ := Option.map_eq_some_iff.1 bsz
 go_enter Tryz.func83, Tryz.ntmps83
 go_wp2
 rw [Lib.run_to_unsafe w ⟨b, 0, none⟩ Tryz.underlying85 Tryz.underlying166 hj (by rw [hjs]; decide) hsh (Nat.zero_lt_succ 1)];simp only [Result.andThen];rw [Oper.upon_value]
 go_wp2
 rw [run_callFunc_extern Tryz.func129 (by kernel_rfl) (by kernel_rfl) (by kernel_rfl) (e := Extern.AbiNoEscape.same) (by kernel_rfl)];rw [Lib.run_noEscape];simp only [Result.andThen];rw [Oper.upon_value]
 go_wp2
 rw [Lib.run_from_unsafe w ⟨b, 0, none⟩ Tryz.underlying166 Tryz.underlying85 hj hsh zvw];simp only [Result.andThen];rw [Oper.upon_value]
 go_wp2
 go_end0
 exact ⟨rfl, rfl⟩
end Go.Proofs.YtkdhmbhbbciedaaGreatDoor
namespace Go.Proofs.YtkdhmbhbbciedaaGreatDoor
open Go Go.VL Go.Shelf Go.RowKit
abbrev bT : Nat := 88
abbrev u8T : Nat := 5
theorem zhL {k : Kr} {d : D} {vs : Array Value} (h : RepL k [d] vs) : ∃ v, vs = #[v] /\ Rep k d v := by
 obtain ⟨h1, h2⟩ := h;have hs : vs.size = 1 := by simpa using h1
 refine ⟨vs.getD 0 undef, ?_, h2 0 d rfl⟩;apply Array.ext_getElem?;intro i
 match i with
 | 0 => have h4 : 0 < vs.size := by omega
        simp [h4]
 | i + 1 => rw [Array.getElem?_eq_none (by omega), Array.getElem?_eq_none (by simp)]
theorem zrH (i nx : Nat) (hi : i < nx) : RetX Tryz.prog 83 [.ptr i 0] [(i, .nw bT)] nx
  (fun r o n => r = .val (.tup []) /\ o = [(nx, .vec u8T 1 []), (i, .box [.ptr i 0, .vec nx 0])] /\ n = nx + 1) := by
 intro k own w vs hsat hhdr hown hrep;obtain ⟨v, rfl, hv⟩ := zhL hrep;obtain ⟨⟨hb, c⟩, h1, h2, b, e, h3⟩ := hsat.ob i (.nw bT) (by simp [getK]);simp only at e;subst e;obtain ⟨b', c', h4, rfl⟩ := zdp hv;rw [h1] at h4;cases h4;obtain ⟨hob, hnone⟩ := h2 b rfl;have hlt : b < w.heap.size := (Array.getElem?_eq_some_iff.1 h3).1;refine (ztD b w (by simp [World.cell?, h3]) (by simp [World.shape?, h3]) (by simp [World.frozen?, h3])).mono ?_;rintro e w' ⟨rfl, rfl⟩;have hheap : ∀ x, x ≠ b -> (w.setCell ⟨b, 0, none⟩ (.pointer (some ⟨b, 0, none⟩))).heap[x]? = w.heap[x]? := fun x hx => Below.heap_setCell _ _ _ _ hx;have hbb : (w.setCell ⟨b, 0, none⟩ (.pointer (some ⟨b, 0, none⟩))).heap[b]? = some (.cells #[.pointer (some ⟨b, 0, none⟩), .slice none 0 0] bT (0, 0)) := by
  simp [World.setCell, Array.getElem?_modify, h3]
 have hnx := hhdr nx (Nat.le_refl _);have hle := Kr.zfL (k := k) (h := (none, 0)) hnx;have hki : (k.add nx (none, 0)).hdr i = some (some b, c) := by simp only [Kr.add]; rw [if_neg (by omega)]; exact h1
 refine ⟨.val (.tup []), [(nx, .vec u8T 1 []), (i, .box [.ptr i 0, .vec nx 0])], nx + 1, k.add nx (none, 0), ⟨_, rfl, .tup [] [] rfl (by simp)⟩, ⟨hle, hhdr, fun _ _ _ e => .inl e, hown, rfl, rfl, rfl, by simp [World.setCell], fun x hx => hheap x fun e => hx (e ▸ hob)⟩,
  ⟨fun x o v hm => ?_, fun j ob hj => ?_, fun x y ox oy g g' z hx hy hxy hg hg' hz => ?_⟩, fun q hq => ?_, by omega, rfl, rfl, rfl⟩
 ·have hm : k.mem x o = some v := hm;have hne : x ≠ b := fun e => by rw [e, hnone o] at hm; cases hm
  rw [zfc (hheap x hne)];exact hsat.mem x o v hm
 ·simp only [getK] at hj;split at hj
  ·rename_i hji;subst hji;cases hj;exact ⟨(none, 0), by simp [Kr.add], fun b e => (by cases e), [], ⟨rfl, .inl ⟨rfl, rfl⟩⟩, Nat.one_pos, by simp, by simp⟩
  ·split at hj
   ·rename_i hji;subst hji;cases hj;refine ⟨(some b, c), hki, h2, b, _, bT, rfl, hbb, rfl, fun q d hq => ?_⟩
    match q, hq with
    | 0, hq => cases hq; exact ⟨rfl, .ptr j 0 b c hki⟩
    | 1, hq => cases hq; exact ⟨rfl, .vec nx 0 (none, 0) (by simp [Kr.add])⟩
   ·cases hj
 ·by_cases hxn : x = nx
  ·subst hxn;have : g = (none, 0) := by simpa [Kr.add] using hg.symm
   rw [this] at hz;cases hz
  ·by_cases hyn : y = nx
   ·subst hyn;have : g' = (none, 0) := by simpa [Kr.add] using hg'.symm
    rw [this];simp
   ·simp only [getK, if_neg hxn] at hx;simp only [getK, if_neg hyn] at hy;split at hx
    ·split at hy
     ·omega
     ·cases hy
    ·cases hx
 ·simp only [Kr.add];rw [if_neg (by omega)];exact hhdr q (by omega)
theorem zp4 (i nx : Nat) (hi : i < nx) (d : D) : RetX Tryz.prog 83 [.ptr i 0] [(i, .box [.ptr i 0, d])] nx
  (fun r o n => r = .val (.tup []) /\ o = [(i, .box [.ptr i 0, d])] /\ n = nx) := by
 intro k own w vs hsat hhdr hown hrep;obtain ⟨v, rfl, hv⟩ := zhL hrep;obtain ⟨b, c, cs, t, h1, hob, h3, hsz, hcs, hnone⟩ := (hsat.ob i (.box [.ptr i 0, d]) (by simp [getK])).box;obtain ⟨b', c', h4, rfl⟩ := zdp hv;rw [h1] at h4;cases h4;have h0 := (hcs 0 _ rfl).2;obtain ⟨b', c', h4, h5⟩ := zdp h0;rw [h1] at h4;cases h4;have hc0 : cs[0]? = some (.pointer (some ⟨b, 0, none⟩)) := by
  have hlt : 0 < cs.size := by rw [hsz]; simp
  rw [Array.getElem?_eq_getElem hlt];rw [<- h5];simp [hlt]
 refine (zuA b w (by simp [World.cell?, h3, hc0])).mono ?_;rintro e w' ⟨rfl, rfl⟩;exact ⟨.val (.tup []), [(i, .box [.ptr i 0, d])], nx, k, ⟨_, rfl, .tup [] [] rfl (by simp)⟩, ⟨.refl _, hhdr, fun _ _ _ e => .inl e, hown, rfl, rfl, rfl, Nat.le_refl _, fun x hx => rfl⟩, hsat, hhdr, Nat.le_refl _, rfl, rfl, rfl⟩
section
open Go.RowKit
variable {P : Program} {ρ : Ren}
set_option maxHeartbeats 1000000 in
set_option maxRecDepth 100000 in
theorem zkf (L : Go.Proofs.Lays.n169 P ρ) (X : Builder.Extra P ρ) (b g cap : Nat) (c0 : Value) (T : TypeId) (l : List UInt8) (cur : Array Value) (w : World) (h0 : l ≠ [])
  (hbk : w.heap[b]? = some (.cells #[c0, .slice (some ⟨g, 0, none⟩) l.length cap] T (0, 0))) (hg : w.heap[g]? = some (.cells cur (ρ.t 5) (0, 0))) (hnc : l.length <= cap) (hcm : cap <= maxLen) (hcs : cur.size = cap * 1)
  (hcells : ∀ (j : Nat) (x : UInt8), l[j]? = some x -> w.cell? ⟨g, j, none⟩ = some (.int .u8 x.toNat)) :
  Calls P (ρ.f 169) #[.pointer (some ⟨b, 0, none⟩)] w fun e w' => e = .returned (.string ⟨l.toArray⟩) /\ w' = w.drew.freeze ⟨g, 0, none⟩ l.length := by
 have hl0 : l.length ≠ 0 := by simpa using h0
 have c1 : w.drew.cell? ⟨b, 1, none⟩ = some (.slice (some ⟨g, 0, none⟩) l.length cap) := by
  have : w.drew.heap[b]? = some (.cells #[c0, .slice (some ⟨g, 0, none⟩) l.length cap] T (0, 0)) := hbk;rw [Lib.cell_of_heap this]; rfl
 have hSD : (Builtin.unsafeSliceData_ #[(ρ.t 37)] (ρ.t 127) #[.slice (some ⟨g, 0, none⟩) l.length cap]).run P w.drew = .ok (.pointer (some ⟨g, 0, none⟩)) w.drew :=
  Lib.run_unsafeSliceData_row _ _ _ _ _ _ (by omega)
 have hUS : (Builtin.unsafeString_ #[(ρ.t 127), (ρ.t 3)] (ρ.t 9) #[.pointer (some ⟨g, 0, none⟩), .int .i64 l.length]).run P w.drew = .ok (.string ⟨l.toArray⟩) (w.drew.freeze ⟨g, 0, none⟩ l.length) := by
  refine Lib.run_unsafeString_row w.drew (ρ.t 127) (ρ.t 3) (ρ.t 9) (ρ.t 5) L.t127 X.cellsByte g cur.size (by have hg' : w.drew.heap[g]? = some (.cells cur (ρ.t 5) (0, 0)) := hg; simp [World.shape?, hg']) l h0 (by omega) (by unfold maxLen at hcm; omega) ?_;intro j x hx;rw [zcL, Nat.zero_add];exact hcells j x hx
 have mixed := L.mixed;have t72 := L.t72; have a72 := L.a72; have z72 := L.z72; have v72 := L.v72; have u72 := run_underlying L.t72;have t70 := L.t70; have a70 := L.a70; have z70 := L.z70; have v70 := L.v70; have u70 := run_underlying L.t70;have t37 := L.t37; have a37 := L.a37; have z37 := L.z37; have v37 := L.v37; have u37 := run_underlying L.t37;have t127 := L.t127; have a127 := L.a127; have z127 := L.z127; have v127 := L.v127; have u127 := run_underlying L.t127;have t3 := L.t3; have a3 := L.a3; have z3 := L.z3; have v3 := L.v3; have u3 := run_underlying L.t3;have t9 := L.t9; have a9 := L.a9; have z9 := L.z9; have v9 := L.v9; have u9 := run_underlying L.t9;have t5 := X.t5; have a5 := X.a5; have z5 := X.z5; have v5 := X.v5; have u5 := run_underlying X.t5
 go_enter L.f169, Body.n169_ntmps ρ
 go_wp2
 go_region_o
 all_goals (go_wp2; go_ret; exact ⟨rfl, rfl⟩)
end
theorem znr (i j nx : Nat) (hi : i < nx) (hj : j < nx) (hij : i ≠ j) (l : List UInt8) (h0 : l ≠ []) : RetX Tryz.prog 51 [.ptr i 0] [(i, .box [.ptr i 0, .vec j l.length]), (j, .vec u8T 1 (zdK l))] nx
  (fun r o n => r = .val (.u (.str l)) /\ o = [] /\ n = nx) := by
 intro k own w vs hsat hhdr hown hrep;obtain ⟨v, rfl, hv⟩ := zhL hrep;obtain ⟨b, c, cs, t, h1, hob, h3, hsz, hcs, hnone⟩ := (hsat.ob i (.box [.ptr i 0, .vec j l.length]) (by simp [getK])).box;obtain ⟨b', c', h4, rfl⟩ := zdp hv;rw [h1] at h4;cases h4;obtain ⟨hd, xs, g1, hrow, _, _, hxs, hno⟩ := (hsat.ob j (.vec u8T 1 (zdK l)) (by simp [getK, Ne.symm hij])).vec;obtain ⟨hd', g2, hv1⟩ := zeg (hcs 1 _ rfl).2;rw [g1] at g2;cases g2;rw [zgM] at hrow;have hl0 : l.length ≠ 0 := by simpa using h0
 rcases hrow.2 with ⟨_, hz⟩ | ⟨g, cap, cur, hhv, _, hg, hnc, hcm, hcsz, htk⟩
 ·exact absurd hz hl0
 have hd1 : hd.1 = some g /\ hd.2 = cap := by
  simp only [za4, Value.slice.injEq, Option.map_eq_some_iff] at hhv;obtain ⟨⟨b, hb, e⟩, _, e2⟩ := hhv;simp only [Addr.mk.injEq] at e;exact ⟨by rw [hb, e.1], e2⟩
 have hcell : ∀ (q : Nat) (x : UInt8), l[q]? = some x -> w.cell? ⟨g, q, none⟩ = some (.int .u8 x.toNat) := fun q x hq => by
  have h5 := (hxs q [.u (.int .u8 x.toNat)] (by rw [zdv]; simp [hq]) 0 _ rfl).2;have h6 := zbw h5;have hlt : q < xs.length := by rw [hrow.1]; have := (List.getElem?_eq_some_iff.1 hq).1; omega
  have h7 := hrow.cells (g := g) (by rw [hhv]; rfl) q (xs.getD (q * 1 + 0) undef) (by simp [hlt]);rw [h6] at h7
  rwa [zcL, Nat.zero_add] at h7
 have hc2 : cs = #[cs.getD 0 undef, .slice (some ⟨g, 0, none⟩) l.length cap] := by
  have e1 : cs.getD 1 undef = .slice (some ⟨g, 0, none⟩) l.length cap := by rw [hv1, hhv]
  apply Array.ext_getElem?;intro q;have hs2 : cs.size = 2 := by simpa using hsz
  match q with
  | 0 => simp [show 0 < cs.size by omega]
  | 1 => rw [<- e1]; simp [show 1 < cs.size by omega]
  | q + 2 => rw [Array.getElem?_eq_none (by omega), Array.getElem?_eq_none (by simp)]
 rw [hc2] at h3;refine (zkf (P := Tryz.prog) (ρ := Tryz.zfX) Tryz.ztM Tryz.zgR b g cap _ t l cur w h0 h3 hg hnc hcm hcsz hcell).mono ?_;rintro e w' ⟨rfl, rfl⟩;have hog := hno g hd1.1;have hfz : w.drew.freeze ⟨g, 0, none⟩ l.length = { w.drew with heap := (w.drew.freeze ⟨g, 0, none⟩ l.length).heap } := by
  unfold World.freeze;rw [if_neg hl0]
 have hheap : ∀ x, x ≠ g -> (w.drew.freeze ⟨g, 0, none⟩ l.length).heap[x]? = w.heap[x]? := fun x hx => by
  unfold World.freeze;rw [if_neg hl0];simp only [Array.getElem?_modify];rw [if_neg (Ne.symm hx)];rfl
 have hsz : (w.drew.freeze ⟨g, 0, none⟩ l.length).heap.size = w.heap.size := by
  unfold World.freeze;rw [if_neg hl0];simp only [Array.size_modify];rfl
 refine ⟨.val (.u (.str l)), [], nx, k, ⟨_, rfl, .u _ _ (.str l)⟩, ⟨.refl _, hhdr, fun _ _ _ e => .inl e, hown, by rw [hfz]; rfl, by rw [hfz]; rfl, by rw [hfz]; rfl, by rw [hsz]; exact Nat.le_refl _, fun x hx => hheap x fun e => hx (e ▸ hog.1)⟩,
  ⟨fun x o v hm => ?_, fun j ob hj => by simp [getK] at hj, fun x y ox oy g g' z hx => by simp [getK] at hx⟩, hhdr, Nat.le_refl _, rfl, rfl, rfl⟩
 have hne : x ≠ g := fun e => by rw [e, hog.2 o] at hm; cases hm
 rw [zfc (hheap x hne)];exact hsat.mem x o v hm
theorem Fun.zqB {P : Program} {f : FuncId} {ds : List D} {u : U} (h : ∀ (k : Kr) (own : Nat -> Prop) (w : World) (vs : Array Value), Sat k own [] w -> RepL k ds vs -> ∃ v, RepU k.mem u v /\ Calls P f vs w fun e w' => e = .returned v /\ Below w.heap.size w w') :
  Fun P f ds (· = .u u) := by
 intro k own w vs hsat hhdr hown hrep;obtain ⟨v, hv, hc⟩ := h k own w vs hsat hrep;refine hc.mono ?_;rintro e w' ⟨rfl, hb⟩;refine ⟨v, .u u, [], 0, k, rfl, ⟨.refl _, fun i hi => hhdr i hi, fun _ _ _ e => .inl e, hown, hb.os, hb.tape, hb.output, hb.size, fun x hx => hb.block x ?_⟩, ⟨fun x o v hm => ?_, fun j ob hj => by simp [getK] at hj, fun x y ox oy g g' z hx => by simp [getK] at hx⟩, hhdr, Nat.le_refl _, .u _ _ hv, by simp [zaY], rfl⟩
 ·rcases Nat.lt_or_ge x w.heap.size with h | h
  ·exact h
  ·exact absurd (hown x h) hx
 ·rw [zfc (hb.block x (hsat.memLt hm))];exact hsat.mem x o v hm
end Go.Proofs.YtkdhmbhbbciedaaGreatDoor
namespace Go.Proofs.YtkdhmbhbbciedaaGreatDoor
open Go Go.VL
attribute [local simp] zba zcP zb4 evPure opd uOf zat St.put St.at getK binD binI binS binB nilD aggD ze5 zfC lookD lookR zbZ rangeS Go.VL.nextD Go.VL.nextS zb1 zfI zfF ze0 zci mkV zbb zcX zaW za9 mapEff zdX zeK Key.kk shiftI arith unD convD zdg loadD cellsAt fieldAddrD fieldD indexAddrD indexSlD arrAddr indexD sliceD cutD lenD minmaxD nilCheckD buildD fillD zbu zcQ zek setAll zcI zed zbU ze3 zbR St.add zaq zbe rowsOf zcY zco zad zac zaa za5 zcH zaS entry za6 zbc valD zb7 zcG ze4 zcV zcW zbz zbv zag zaM za8 delAll effD St.effS zck zaJ zaw zcl zaK zay zbr zax zas zbs zch za7 zbq zaU zbp zai mkD zb3 zbg zbk zag zb6 D.ids Op.operands Call.operands zbj makeIfD makeFuncD typeAssertD zfB zc2 zc4 zfn zb0 IntKind.bits zb5 zam List.take_of_length_le List.range_succ zcA zbJ zcB zcu zbf zbA zbC zcv zbE za0 zbD zbB zgo zbI zcy zaQ zaB zcz zaR zaD zbH zaC zau zcE zcF zfZ zab frzN frz1 zaH zaG St.frz St.frzS frzS fv zbh zbx zbM zaI zar zal frz zbN za1 za2 zbt zbP zbQ zaV St.norm St.lp St.only zaA wkE wkO wkU Ob.under D.under zak zap zcC zbK zcD h4s zdt zao zaY List.zipIdx_cons List.zipIdx_nil List.map_cons List.map_nil Nat.zero_add
attribute [local irreducible] V G H HD HD2 zaX Eff CallP CallV EndOK Fun Ret FinOK LoopI LoopW EndW HR vs2 RN Cnd H4
inductive Exp where
 | mk (op n unit : Int) (s : List UInt8) (args : List Exp)
 deriving Inhabited
def Exp.row : Exp -> List U
 | .mk op n u s args => [.int .i64 op, .int .i64 n, .int .i64 u, .str s, .sl (args.map fun e => e.row)]
def Exp.op : Exp -> Int | .mk op _ _ _ _ => op
def Exp.n : Exp -> Int | .mk _ n _ _ _ => n
def Exp.unit : Exp -> Int | .mk _ _ u _ _ => u
def Exp.s : Exp -> List UInt8 | .mk _ _ _ s _ => s
def Exp.args : Exp -> List Exp | .mk _ _ _ _ args => args
theorem Exp.row_eq (e : Exp) : e.row = [.int .i64 e.op, .int .i64 e.n, .int .i64 e.unit, .str e.s, .sl (e.args.map Exp.row)] := by
 cases e with
 | mk op n u s args => rw [Exp.row]; rfl
structure Var where
 name : List UInt8
 unit : Int
 n : Int
 deriving DecidableEq, Inhabited
structure Let where
 name : List UInt8
 body : Exp
 deriving Inhabited
def Var.row (v : Var) : List U := [.str v.name, .int .i64 v.unit, .int .i64 v.n]
def Let.row (l : Let) : List U := .str l.name :: l.body.row
def vars (l : List Var) : U := .sl (l.map Var.row)
def lets (l : List Let) : U := .sl (l.map Let.row)
def zcn (c : UInt8) : Bool := decide (97 <= c.toNat) && decide (c.toNat <= 122)
def zav (c : UInt8) : Bool := decide (48 <= c.toNat) && decide (c.toNat <= 57)
theorem zez (c : UInt8) : Fun Tryz.prog 154 [.u (.int .u8 c.toNat)] (· = .u (.bool (zcn c))) := by
 unfold zcn;refine Fun.run Tryz.func154 Tryz.ntmps154 Tryz.results154 rfl (by simp) fun Γ hn => ?_
 repeat' (first
  | (refine Cnd.of (fun hc => ?_) (fun hc => ?_) <;> (try (exfalso; omega)) <;> (try simp))
  | (refine zaf rfl ?_; simp)
  | fail)
 all_goals
  (refine Pst.of ?_; simp)
 all_goals first | omega | (simp; omega) | (rw [Bool.eq_iff_iff]; simp; omega)
theorem zfl (c : UInt8) : Fun Tryz.prog 157 [.u (.int .u8 c.toNat)] (· = .u (.bool (zav c))) := by
 unfold zav;refine Fun.run Tryz.func157 Tryz.ntmps157 Tryz.results157 rfl (by simp) fun Γ hn => ?_
 repeat' (first
  | (refine Cnd.of (fun hc => ?_) (fun hc => ?_) <;> (try (exfalso; omega)) <;> (try simp))
  | (refine zaf rfl ?_; simp)
  | fail)
 all_goals
  (refine Pst.of ?_; simp)
 all_goals first | omega | (simp; omega) | (rw [Bool.eq_iff_iff]; simp; omega)
theorem zoJ (c : UInt8) : Fun Tryz.prog 156 [.u (.int .u8 c.toNat)] (· = .u (.bool (zcn c || zav c))) := by
 refine Fun.run Tryz.func156 Tryz.ntmps156 Tryz.results156 rfl (by simp) fun Γ hn => ?_
 repeat' (first
  | (refine Cnd.of (fun hc => ?_) (fun hc => ?_) <;> (try (exfalso; omega)) <;> (try simp))
  | (refine zaf rfl ?_; simp)
  | ((first | refine CallP.f2 rfl (zez c) (by first | simp <;> rfl | fail) ?_ | refine CallP.f2 rfl (zfl c) (by first | simp <;> rfl | fail) ?_ | fail); simp)
  | fail)
 all_goals
  (refine Pst.of ?_; simp)
 all_goals simp_all
def zdj (p : UInt8 -> Bool) (l : List UInt8) : Nat := (l.takeWhile p).length
theorem zhc {p : UInt8 -> Bool} {l : List UInt8} {i : Nat} (h : ∀ c ∈ l.take i, p c = true) (hi : i <= l.length) (he : i = l.length \/ ∃ c, l[i]? = some c /\ p c = false) : zdj p l = i := by
 unfold zdj
 induction l generalizing i with
 | nil => simp at hi; simp [hi]
 | cons a l ih =>
  cases i with
  | zero =>
   rcases he with he | ⟨c, h1, h2⟩
   ·simp at he
   ·simp at h1; subst h1; simp [h2]
  | succ i =>
   have ha : p a = true := h a (by simp);rw [List.takeWhile_cons, if_pos ha, List.length_cons];rw [ih (i := i) (fun c hc => h c (by simp [hc])) (by simpa using hi) (by simpa using he)]
def zjF {α : Type} (p : α -> Bool) : List α -> Int -> Int
 | [], _ => -1
 | x :: l, i => if p x = true then i else zjF p l (i + 1)
theorem zl8 {α : Type} {p : α -> Bool} {l : List α} {i : Nat} {x : α} {k : Int} (h : ∀ c ∈ l.take i, p c = false) (hx : l[i]? = some x) (hp : p x = true) : zjF p l k = k + i := by
 induction l generalizing i k with
 | nil => simp at hx
 | cons s l ih =>
  cases i with
  | zero => simp at hx; simp [zjF, hx, hp]
  | succ i =>
   rw [zjF, if_neg (by rw [h s (by simp)]; simp), ih (i := i) (fun c hc => h c (by simp [hc])) (by simpa using hx)];omega
theorem zhY {α : Type} {p : α -> Bool} {l : List α} {k : Int} (h : ∀ c ∈ l, p c = false) : zjF p l k = -1 := by
 induction l generalizing k with
 | nil => rfl
 | cons s l ih => rw [zjF, if_neg (by rw [h s (by simp)]; simp), ih fun c hc => h c (by simp [hc])]
theorem zmY {α : Type} (p : α -> Bool) (l : List α) : ∀ k : Int, 0 <= k -> (0 <= zjF p l k ↔ l.any p = true) := by
 induction l with
 | nil => intro k hk; simp [zjF]
 | cons s l ih =>
  intro k hk;by_cases h : p s = true
  ·simp [zjF, h, hk]
  ·rw [zjF, if_neg h, ih (k + 1) (by omega)];simp [h]
theorem zca {α : Type} {p : α -> Prop} {l : List α} {i : Nat} {x : α} (hx : l[i]? = some x) (h : ∀ c ∈ l.take i, p c) (hp : p x) : ∀ c ∈ l.take (i + 1), p c := by
 obtain ⟨hi, rfl⟩ := List.getElem?_eq_some_iff.1 hx;rw [List.take_succ_eq_append_getElem hi];intro c hc;rcases List.mem_append.1 hc with hc | hc
 ·exact h c hc
 ·simp at hc; subst hc; exact hp
theorem zf2 (l : List UInt8) (hl : l.length <= 1000000) (f : FuncId) (p : UInt8 -> Bool) (hf : ∀ c ∈ l, Fun Tryz.prog f [.u (.int .u8 c.toNat)] (· = .u (.bool (p c)))) (hcl : zae Tryz.prog f = true) :
  Fun Tryz.prog 155 [.u (.str l), .fnc (.func f) []] (· = .u (.int .i64 (zdj p l))) := by
 refine Fun.run Tryz.func155 Tryz.ntmps155 Tryz.results155 rfl (by simp) fun Γ hn => ?_
 repeat' (first
  | (refine zaf rfl ?_; simp)
  | fail)
 refine zcs (α := { i : Nat // i <= l.length /\ ∀ c ∈ l.take i, p c = true }) [0, 1] (fun i => [(5, .u (.int .i64 i.1))]) (fun i => l.length - i.1) ⟨0, by omega, by simp⟩ ?_ ?_
 ·exact (Wk.env rfl rfl rfl (by simp [wkE, St.lp, zaA, zaa, getK] <;> (try (intros; simp_all; done)) <;> (try (intros; omega)) <;> (try grind)))
 rintro ⟨i, hi, hb⟩;simp;rcases hx : l[i]? with _ | c
 ·have hge : l.length <= i := by simpa using hx
  repeat' (first
  | (refine Cnd.of (fun hc => ?_) (fun hc => ?_) <;> (try (exfalso; omega)) <;> (try simp [hx]))
  | (refine zaf rfl ?_; simp [hx])
  | fail)
  (refine Pst.of ?_; simp)
  rw [zhc hb hi (.inl (by omega))]
 ·have hlt := (List.getElem?_eq_some_iff.1 hx).1;have h1 := hf c (List.mem_of_getElem? hx)
  repeat' (first
  | (refine Cnd.of (fun hc => ?_) (fun hc => ?_) <;> (try (exfalso; omega)) <;> (try simp [hx]))
  | (refine zaf rfl ?_; simp [hx])
  | (refine And.intro (by omega) ?_)
  | (refine CallP.f2 rfl (h1) (by first | simp [hx] <;> rfl | fail) ?_; simp [hx])
  | fail)
  ·refine LoopW.next ⟨i + 1, by omega, zca hx hb (by assumption)⟩ (by simp; omega) ?_
   exact (Wk.env rfl rfl rfl (by simp [wkE, St.lp, zaA, zaa, getK] <;> (try (intros; simp_all; done)) <;> (try (intros; omega)) <;> (try grind)))
  ·(refine Pst.of ?_; simp)
   rw [zhc hb hi (.inr ⟨c, hx, by assumption⟩)]
def zfE (s : List UInt8) : Bool := match s with
 | [] => false
 | c :: _ => zcn c && decide (s.length <= 20) && decide (zdj (fun c => zcn c || zav c) s = s.length)
theorem zmB (s : List UInt8) : Fun Tryz.prog 126 [.u (.str s)] (· = .u (.bool (zfE s))) := by
 cases s with
 | nil =>
  refine Fun.run Tryz.func126 Tryz.ntmps126 Tryz.results126 rfl (by simp) fun Γ hn => ?_
  repeat' (first
  | (refine zaf rfl ?_; simp)
  | fail)
  all_goals
   (refine Pst.of ?_; simp)
  all_goals simp [zfE]
 | cons c s =>
  by_cases hl : s.length + 1 <= 20
  ·have hs := zf2 (c :: s) (by simp; omega) 156 _ (fun c _ => zoJ c) (by simp);refine Fun.run Tryz.func126 Tryz.ntmps126 Tryz.results126 rfl (by simp) fun Γ hn => ?_
   repeat' (first
  | (refine Cnd.of (fun hc => ?_) (fun hc => ?_) <;> (try (exfalso; omega)) <;> (try simp))
  | (refine zaf rfl ?_; simp)
  | ((first | refine CallP.f2 rfl (zez c) (by first | simp <;> rfl | fail) ?_ | refine CallP.f2 rfl (hs) (by first | simp <;> rfl | fail) ?_ | fail); simp)
  | fail)
   all_goals
    (refine Pst.of ?_; simp)
   all_goals
    simp [zfE, *]
    try omega
  ·refine Fun.run Tryz.func126 Tryz.ntmps126 Tryz.results126 rfl (by simp) fun Γ hn => ?_
   repeat' (first
  | (refine Cnd.of (fun hc => ?_) (fun hc => ?_) <;> (try (exfalso; omega)) <;> (try simp))
  | (refine zaf rfl ?_; simp)
  | (refine CallP.f2 rfl (zez c) (by first | simp <;> rfl | fail) ?_; simp)
  | fail)
   all_goals
    (refine Pst.of ?_; simp)
   all_goals
    simp [zfE, *]
    try omega
def zlJ (l : List (List UInt8)) : U := .sl (l.map fun s => [.str s])
def zjE : List (List UInt8) -> List UInt8 -> Int -> Int
 | [], _, _ => -1
 | s :: l, x, i => if x = s then i else zjE l x (i + 1)
theorem ztb {l : List (List UInt8)} {x : List UInt8} {i : Nat} {k : Int} (h : ∀ c ∈ l.take i, ¬ x = c) (hx : l[i]? = some x) : zjE l x k = k + i := by
 induction l generalizing i k with
 | nil => simp at hx
 | cons s l ih =>
  cases i with
  | zero => simp at hx; simp [zjE, hx]
  | succ i =>
   rw [zjE, if_neg (h s (by simp)), ih (i := i) (fun c hc => h c (by simp [hc])) (by simpa using hx)];omega
theorem zpR {l : List (List UInt8)} {x : List UInt8} {k : Int} (h : ∀ c ∈ l, ¬ x = c) : zjE l x k = -1 := by
 induction l generalizing k with
 | nil => rfl
 | cons s l ih => rw [zjE, if_neg (h s (by simp)), ih fun c hc => h c (by simp [hc])]
theorem ziT (l : List (List UInt8)) (x : List UInt8) : Fun Tryz.prog 44 [.u (zlJ l), .u (.str x)] (· = .u (.int .i64 (zjE l x 0))) := by
 refine Fun.run Tryz.func44 Tryz.ntmps44 Tryz.results44 rfl (by simp) fun Γ hn => ?_; simp only [entry, List.zipIdx_cons, List.zipIdx_nil, List.map_cons, List.map_nil, Nat.zero_add];simp only [zlJ];refine zir (x := 0) rfl fun hl => ?_;simp at hl
 repeat' (first
  | (refine zaf rfl ?_; simp)
  | fail)
 refine zcs (α := { i : Nat // i <= l.length /\ ∀ c ∈ l.take i, ¬ x = c }) [0, 1, 7] (fun i => [(8, .u (.int .i64 i.1))]) (fun i => l.length - i.1) ⟨0, by omega, by simp⟩ ?_ ?_
 ·exact (Wk.env rfl rfl rfl (by simp [wkE, St.lp, zaA, zaa, getK] <;> (try (intros; simp_all; done)) <;> (try (intros; omega)) <;> (try grind)))
 rintro ⟨i, hi, hb⟩;simp;rcases hx : l[i]? with _ | c
 ·have hge : l.length <= i := by simpa using hx
  repeat' (first
  | (refine Cnd.of (fun hc => ?_) (fun hc => ?_) <;> (try (exfalso; omega)) <;> (try simp [hx]))
  | (refine zaf rfl ?_; simp [hx])
  | fail)
  (refine Pst.of ?_; simp)
  rw [List.take_of_length_le hge] at hb;exact (zpR hb).symm
 ·have hlt := (List.getElem?_eq_some_iff.1 hx).1;by_cases hxc : x = c
  ·subst hxc
   repeat' (first
  | (refine Cnd.of (fun hc => ?_) (fun hc => ?_) <;> (try (exfalso; omega)) <;> (try simp [hx]))
  | (refine zaf rfl ?_; simp [hx])
  | fail)
   (refine Pst.of ?_; simp)
   rw [ztb hb hx];omega
  ·repeat' (first
  | (refine Cnd.of (fun hc => ?_) (fun hc => ?_) <;> (try (exfalso; omega)) <;> (try simp [hx, hxc]))
  | (refine zaf rfl ?_; simp [hx, hxc])
  | (refine And.intro (by omega) ?_)
  | fail)
   refine LoopW.next ⟨i + 1, by omega, zca hx hb hxc⟩ (by simp; omega) ?_
   exact (Wk.env rfl rfl rfl (by simp [wkE, St.lp, zaA, zaa, getK] <;> (try (intros; simp_all; done)) <;> (try (intros; omega)) <;> (try grind)))
theorem zrw (l : List (List UInt8)) (x : List UInt8) : ∀ k : Int, 0 <= k -> decide (0 <= zjE l x k) = l.contains x := by
 induction l with
 | nil => intro k hk; simp [zjE]
 | cons s l ih =>
  intro k hk;by_cases h : x = s
  ·subst h; simp [zjE, hk]
  ·rw [zjE, if_neg h, ih (k + 1) (by omega)];simp [h]
theorem zjS (l : List (List UInt8)) (x : List UInt8) : Fun Tryz.prog 127 [.u (zlJ l), .u (.str x)] (· = .u (.bool (l.contains x))) := by
 have h1 := ziT l x;refine Fun.run Tryz.func127 Tryz.ntmps127 Tryz.results127 rfl (by simp) fun Γ hn => ?_; simp only [entry, List.zipIdx_cons, List.zipIdx_nil, List.map_cons, List.map_nil, Nat.zero_add];simp only [zlJ] at h1 ⊢
 repeat' (first
  | (refine zaf rfl ?_; simp)
  | (refine CallP.f2 rfl (h1) (by first | simp <;> rfl | fail) ?_; simp)
  | fail)
 (refine Pst.of ?_; simp)
 have h2 := zrw l x 0 (by omega);simpa using h2
def words : List (List UInt8) := [[97, 110, 100], [98, 97, 99, 107, 115], [98, 105, 100, 100, 105, 110, 103], [99, 105, 114, 99, 108, 101], [99, 111, 105, 110, 115], [99, 111, 118, 101, 114], [100, 97, 121, 115], [100, 114, 97, 119], [100, 117, 101], [101, 108, 115, 101], [102, 97, 108, 115, 101], [102, 105, 110, 101], [102, 117, 110, 100], [103, 114, 97, 99, 101], [104, 111, 108, 100], [105, 102], [106, 111, 105, 110], [106, 117, 114, 121], [108, 101, 116], [109, 97, 120], [109, 105, 108, 108, 101], [109, 105, 110], [110, 101, 101, 100], [110, 111, 116], [111, 114], [111, 114, 100, 101, 114], [112, 97, 121], [112, 101, 114], [114, 111, 116, 97, 116, 105, 110, 103], [115, 97, 118, 105, 110, 103], [115, 101, 97, 108, 101, 100], [116, 104, 101, 110], [116, 114, 117, 101], [118, 111, 105, 99, 101, 115], [119, 97, 105, 116]]
set_option maxHeartbeats 4000000 in
set_option maxRecDepth 100000 in
theorem zku : Fun Tryz.prog 128 [] (· = .u (zlJ words)) := by
 refine Fun.runW Tryz.func128 Tryz.ntmps128 rfl (by simp) fun Γ hn => ?_; simp only [entry, List.zipIdx_cons, List.zipIdx_nil, List.map_cons, List.map_nil, Nat.zero_add];simp only [zlJ, words, List.map_cons, List.map_nil]
 repeat' (first
  | (refine zaf rfl ?_; simp [zbc, za6])
  | fail)
 (refine EndW.frzN 1 ?_; simp [del])
 refine EndW.here ?_
 (refine EndOK.val (.inr rfl) ?_; simp [Tryz.results128])
def zuk (l : Let) : D := .u (.agg [.str l.name, .int .i64 l.body.op, .int .i64 l.body.n, .int .i64 l.body.unit, .str l.body.s, .sl (l.body.args.map Exp.row)])
def zaz (l : List Let) : U := .sl (l.map fun l => [.str l.name, .int .i64 l.body.op, .int .i64 l.body.n, .int .i64 l.body.unit, .str l.body.s, .sl (l.body.args.map Exp.row)])
theorem zn9 (l : List (Let)) (f : FuncId) (caps : List U) (p : Let -> Bool) (hf : ∀ n ∈ l, Fun Tryz.prog f (zuk n :: caps.map .u) (· = .u (.bool (p n)))) (hcl : zae Tryz.prog f = true)
  (hca : ∀ o, zcG o (caps.map .u) = some (caps.map .u, [])) : Fun Tryz.prog 65 [.u (zaz l), .fnc (.func f) (caps.map .u)] (· = .u (.int .i64 (zjF p l 0))) := by
 refine Fun.run Tryz.func65 Tryz.ntmps65 Tryz.results65 rfl (by simp) fun Γ hn => ?_; simp only [entry, List.zipIdx_cons, List.zipIdx_nil, List.map_cons, List.map_nil, Nat.zero_add];simp only [zaz];refine zir (x := 0) rfl fun hl => ?_;simp at hl
 repeat' (first
  | (refine zaf rfl ?_; simp)
  | fail)
 refine zcs (α := { i : Nat // i <= l.length /\ ∀ c ∈ l.take i, p c = false }) [0, 1, 7] (fun i => [(8, .u (.int .i64 i.1))]) (fun i => l.length - i.1) ⟨0, by omega, by simp⟩ ?_ ?_
 ·exact (Wk.env rfl rfl rfl (by simp [wkE, St.lp, zaA, zaa, getK] <;> (try (intros; simp_all; done)) <;> (try (intros; omega)) <;> (try grind)))
 rintro ⟨i, hi, hb⟩;simp;rcases hx : l[i]? with _ | n
 ·have hge : l.length <= i := by simpa using hx
  repeat' (first
  | (refine Cnd.of (fun hc => ?_) (fun hc => ?_) <;> (try (exfalso; omega)) <;> (try simp [hx]))
  | (refine zaf rfl ?_; simp [hx])
  | fail)
  (refine Pst.of ?_; simp)
  rw [List.take_of_length_le hge] at hb;exact (zhY hb).symm
 ·have hlt : i < l.length := (List.getElem?_eq_some_iff.1 hx).1;have h1 := hf n (List.mem_of_getElem? hx);simp only [zuk] at h1;cases hp : p n
  ·rw [hp] at h1
   repeat' (first
  | (refine Cnd.of (fun hc => ?_) (fun hc => ?_) <;> (try (exfalso; omega)) <;> (try simp [hx, hca]))
  | (refine zaf rfl ?_; simp [hx, hca])
  | (refine And.intro (by omega) ?_)
  | (refine CallP.f2 rfl (h1) (by first | simp [hx, hca] <;> rfl | fail) ?_; simp [hx, hca])
  | fail)
   refine LoopW.next ⟨i + 1, by omega, zca hx hb hp⟩ (by simp; omega) ?_
   exact (Wk.env rfl rfl rfl (by simp [wkE, St.lp, zaA, zaa, getK] <;> (try (intros; simp_all; done)) <;> (try (intros; omega)) <;> (try grind)))
  ·rw [hp] at h1
   repeat' (first
  | (refine Cnd.of (fun hc => ?_) (fun hc => ?_) <;> (try (exfalso; omega)) <;> (try simp [hx, hca]))
  | (refine zaf rfl ?_; simp [hx, hca])
  | (refine And.intro (by omega) ?_)
  | (refine CallP.f2 rfl (h1) (by first | simp [hx, hca] <;> rfl | fail) ?_; simp [hx, hca])
  | fail)
   (refine Pst.of ?_; simp)
   rw [zl8 hb hx hp];omega
theorem zjT (l : List (Let)) (f : FuncId) (caps : List U) (p : Let -> Bool) (hf : ∀ n ∈ l, Fun Tryz.prog f (zuk n :: caps.map .u) (· = .u (.bool (p n)))) (hcl : zae Tryz.prog f = true)
  (hca : ∀ o, zcG o (caps.map .u) = some (caps.map .u, [])) (hcb : ∀ o, zbv o (caps.map .u) = some (caps, [])) : Fun Tryz.prog 34 [.u (zaz l), .fnc (.func f) (caps.map .u)] (· = .u (.bool (l.any p))) := by
 have h1 := zn9 l f caps p hf hcl hca;refine Fun.run Tryz.func34 Tryz.ntmps34 Tryz.results34 rfl (by simp) fun Γ hn => ?_; simp only [entry, List.zipIdx_cons, List.zipIdx_nil, List.map_cons, List.map_nil, Nat.zero_add];simp only [zaz] at h1 ⊢
 repeat' (first
  | (refine zaf rfl ?_; simp [hcb])
  | (refine CallP.f2 rfl (h1) (by first | simp [hcb] <;> rfl | fail) ?_; simp [hcb])
  | fail)
 (refine Pst.of ?_; simp)
 have h2 := zmY p l 0 (by omega);rw [Bool.eq_iff_iff];simpa using h2
end Go.Proofs.YtkdhmbhbbciedaaGreatDoor
namespace Go.Proofs.YtkdhmbhbbciedaaGreatDoor.Vm
open Go Go.VL
attribute [local simp] zba zcP zb4 evPure opd uOf zat St.put St.at getK binD binI binS binB nilD aggD ze5 zfC lookD lookR zbZ rangeS Go.VL.nextD Go.VL.nextS zb1 zfI zfF ze0 zci mkV zbb zcX zaW za9 mapEff zdX zeK Key.kk shiftI arith unD convD zdg loadD cellsAt fieldAddrD fieldD indexAddrD indexSlD arrAddr indexD sliceD cutD lenD minmaxD nilCheckD buildD fillD zbu zcQ zek setAll zcI zed zbU ze3 zbR St.add zaq zbe rowsOf zcY zco zad zac zaa za5 zcH zaS entry za6 zbc valD zb7 zcG ze4 zcV zcW zbz zbv zag zaM za8 delAll effD St.effS zck zaJ zaw zcl zaK zay zbr zax zas zbs zch za7 zbq zaU zbp zai mkD zb3 zbg zbk zag zb6 D.ids Op.operands Call.operands zbj makeIfD makeFuncD typeAssertD zfB zc2 zc4 zfn zb0 IntKind.bits zb5 zam List.take_of_length_le List.range_succ zcA zbJ zcB zcu zbf zbA zbC zcv zbE za0 zbD zbB zgo zbI zcy zaQ zaB zcz zaR zaD zbH zaC zau zcE zcF zfZ zab frzN frz1 zaH zaG St.frz St.frzS frzS fv zbh zbx zbM zaI zar zal frz zbN za1 za2 zbt zbP zbQ zaV St.norm St.lp St.only zaA wkE wkO wkU Ob.under D.under zak zap zcC zbK zcD h4s zdt zao zaY List.zipIdx_cons List.zipIdx_nil List.map_cons List.map_nil Nat.zero_add
attribute [local irreducible] V G H HD HD2 zaX Eff CallP CallV EndOK Fun Ret FinOK LoopI LoopW EndW HR vs2 RN Cnd H4
def zkT (n : Int) : Int := if n = 0 \/ n = 1 \/ n = 12 then 0 else if n = 11 \/ n = 13 \/ n = 14 then 1 else 2
end Go.Proofs.YtkdhmbhbbciedaaGreatDoor.Vm
namespace Go.Pm
def zpf (x y c : Int) : Int := if 1099511627776 < (x.natAbs * y.natAbs : Int) / c then 1099511627777 else x * y / c
end Go.Pm
namespace Go.Proofs.YtkdhmbhbbciedaaGreatDoor.Vm
open Go Go.VL
attribute [local simp] zba zcP zb4 evPure opd uOf zat St.put St.at getK binD binI binS binB nilD aggD ze5 zfC lookD lookR zbZ rangeS Go.VL.nextD Go.VL.nextS zb1 zfI zfF ze0 zci mkV zbb zcX zaW za9 mapEff zdX zeK Key.kk shiftI arith unD convD zdg loadD cellsAt fieldAddrD fieldD indexAddrD indexSlD arrAddr indexD sliceD cutD lenD minmaxD nilCheckD buildD fillD zbu zcQ zek setAll zcI zed zbU ze3 zbR St.add zaq zbe rowsOf zcY zco zad zac zaa za5 zcH zaS entry za6 zbc valD zb7 zcG ze4 zcV zcW zbz zbv zag zaM za8 delAll effD St.effS zck zaJ zaw zcl zaK zay zbr zax zas zbs zch za7 zbq zaU zbp zai mkD zb3 zbg zbk zag zb6 D.ids Op.operands Call.operands zbj makeIfD makeFuncD typeAssertD zfB zc2 zc4 zfn zb0 IntKind.bits zb5 zam List.take_of_length_le List.range_succ zcA zbJ zcB zcu zbf zbA zbC zcv zbE za0 zbD zbB zgo zbI zcy zaQ zaB zcz zaR zaD zbH zaC zau zcE zcF zfZ zab frzN frz1 zaH zaG St.frz St.frzS frzS fv zbh zbx zbM zaI zar zal frz zbN za1 za2 zbt zbP zbQ zaV St.norm St.lp St.only zaA wkE wkO wkU Ob.under D.under zak zap zcC zbK zcD h4s zdt zao zaY List.zipIdx_cons List.zipIdx_nil List.map_cons List.map_nil Nat.zero_add
attribute [local irreducible] V G H HD HD2 zaX Eff CallP CallV EndOK Fun Ret FinOK LoopI LoopW EndW HR vs2 RN Cnd H4
end Go.Proofs.YtkdhmbhbbciedaaGreatDoor.Vm
namespace Go.Pm
def truth (b : Bool) : Int := if b then 1 else 0
def two (op a b : Int) : Int :=
 if op = 2 then a + b else if op = 3 then a - b else if op = 4 then zpf a b 1 else if op = 6 then zpf a b 1000 else if op = 5 then a.fdiv b
 else if op = 7 then min a b else if op = 8 then max a b else if op = 9 then truth (decide (a < b)) else truth (decide (a = b))
end Go.Pm
namespace Go.Proofs.YtkdhmbhbbciedaaGreatDoor.Vm
open Go Go.VL
attribute [local simp] zba zcP zb4 evPure opd uOf zat St.put St.at getK binD binI binS binB nilD aggD ze5 zfC lookD lookR zbZ rangeS Go.VL.nextD Go.VL.nextS zb1 zfI zfF ze0 zci mkV zbb zcX zaW za9 mapEff zdX zeK Key.kk shiftI arith unD convD zdg loadD cellsAt fieldAddrD fieldD indexAddrD indexSlD arrAddr indexD sliceD cutD lenD minmaxD nilCheckD buildD fillD zbu zcQ zek setAll zcI zed zbU ze3 zbR St.add zaq zbe rowsOf zcY zco zad zac zaa za5 zcH zaS entry za6 zbc valD zb7 zcG ze4 zcV zcW zbz zbv zag zaM za8 delAll effD St.effS zck zaJ zaw zcl zaK zay zbr zax zas zbs zch za7 zbq zaU zbp zai mkD zb3 zbg zbk zag zb6 D.ids Op.operands Call.operands zbj makeIfD makeFuncD typeAssertD zfB zc2 zc4 zfn zb0 IntKind.bits zb5 zam List.take_of_length_le List.range_succ zcA zbJ zcB zcu zbf zbA zbC zcv zbE za0 zbD zbB zgo zbI zcy zaQ zaB zcz zaR zaD zbH zaC zau zcE zcF zfZ zab frzN frz1 zaH zaG St.frz St.frzS frzS fv zbh zbx zbM zaI zar zal frz zbN za1 za2 zbt zbP zbQ zaV St.norm St.lp St.only zaA wkE wkO wkU Ob.under D.under zak zap zcC zbK zcD h4s zdt zao zaY List.zipIdx_cons List.zipIdx_nil List.map_cons List.map_nil Nat.zero_add
attribute [local irreducible] V G H HD HD2 zaX Eff CallP CallV EndOK Fun Ret FinOK LoopI LoopW EndW HR vs2 RN Cnd H4
end Go.Proofs.YtkdhmbhbbciedaaGreatDoor.Vm
namespace Go.Pm
def idx {α : Type} (p : α -> Bool) (l : List α) : Int := match l.findIdx? p with | some i => i | none => -1
end Go.Pm
namespace Go.Proofs.YtkdhmbhbbciedaaGreatDoor.Vm
open Go Go.VL
attribute [local simp] zba zcP zb4 evPure opd uOf zat St.put St.at getK binD binI binS binB nilD aggD ze5 zfC lookD lookR zbZ rangeS Go.VL.nextD Go.VL.nextS zb1 zfI zfF ze0 zci mkV zbb zcX zaW za9 mapEff zdX zeK Key.kk shiftI arith unD convD zdg loadD cellsAt fieldAddrD fieldD indexAddrD indexSlD arrAddr indexD sliceD cutD lenD minmaxD nilCheckD buildD fillD zbu zcQ zek setAll zcI zed zbU ze3 zbR St.add zaq zbe rowsOf zcY zco zad zac zaa za5 zcH zaS entry za6 zbc valD zb7 zcG ze4 zcV zcW zbz zbv zag zaM za8 delAll effD St.effS zck zaJ zaw zcl zaK zay zbr zax zas zbs zch za7 zbq zaU zbp zai mkD zb3 zbg zbk zag zb6 D.ids Op.operands Call.operands zbj makeIfD makeFuncD typeAssertD zfB zc2 zc4 zfn zb0 IntKind.bits zb5 zam List.take_of_length_le List.range_succ zcA zbJ zcB zcu zbf zbA zbC zcv zbE za0 zbD zbB zgo zbI zcy zaQ zaB zcz zaR zaD zbH zaC zau zcE zcF zfZ zab frzN frz1 zaH zaG St.frz St.frzS frzS fv zbh zbx zbM zaI zar zal frz zbN za1 za2 zbt zbP zbQ zaV St.norm St.lp St.only zaA wkE wkO wkU Ob.under D.under zak zap zcC zbK zcD h4s zdt zao zaY List.zipIdx_cons List.zipIdx_nil List.map_cons List.map_nil Nat.zero_add
attribute [local irreducible] V G H HD HD2 zaX Eff CallP CallV EndOK Fun Ret FinOK LoopI LoopW EndW HR vs2 RN Cnd H4
end Go.Proofs.YtkdhmbhbbciedaaGreatDoor.Vm
namespace Go.Proofs.YtkdhmbhbbciedaaGreatDoor.Vm
open Go Go.VL
attribute [local simp] zba zcP zb4 evPure opd uOf zat St.put St.at getK binD binI binS binB nilD aggD ze5 zfC lookD lookR zbZ rangeS Go.VL.nextD Go.VL.nextS zb1 zfI zfF ze0 zci mkV zbb zcX zaW za9 mapEff zdX zeK Key.kk shiftI arith unD convD zdg loadD cellsAt fieldAddrD fieldD indexAddrD indexSlD arrAddr indexD sliceD cutD lenD minmaxD nilCheckD buildD fillD zbu zcQ zek setAll zcI zed zbU ze3 zbR St.add zaq zbe rowsOf zcY zco zad zac zaa za5 zcH zaS entry za6 zbc valD zb7 zcG ze4 zcV zcW zbz zbv zag zaM za8 delAll effD St.effS zck zaJ zaw zcl zaK zay zbr zax zas zbs zch za7 zbq zaU zbp zai mkD zb3 zbg zbk zag zb6 D.ids Op.operands Call.operands zbj makeIfD makeFuncD typeAssertD zfB zc2 zc4 zfn zb0 IntKind.bits zb5 zam List.take_of_length_le List.range_succ zcA zbJ zcB zcu zbf zbA zbC zcv zbE za0 zbD zbB zgo zbI zcy zaQ zaB zcz zaR zaD zbH zaC zau zcE zcF zfZ zab frzN frz1 zaH zaG St.frz St.frzS frzS fv zbh zbx zbM zaI zar zal frz zbN za1 za2 zbt zbP zbQ zaV St.norm St.lp St.only zaA wkE wkO wkU Ob.under D.under zak zap zcC zbK zcD h4s zdt zao zaY List.zipIdx_cons List.zipIdx_nil List.map_cons List.map_nil Nat.zero_add
attribute [local irreducible] V G H HD HD2 zaX Eff CallP CallV EndOK Fun Ret FinOK LoopI LoopW EndW HR vs2 RN Cnd H4
structure Var where
 name : List UInt8
 unit : Int
 n : Int
 deriving DecidableEq
structure Ins where
 op : Int
 a : Int
 s : List UInt8
 deriving DecidableEq
def Var.row (v : Var) : List U := [.str v.name, .int .i64 v.unit, .int .i64 v.n]
def Ins.row (c : Ins) : List U := [.int .i64 c.op, .int .i64 c.a, .str c.s]
def vars (l : List Var) : U := .sl (l.map fun v => [.str v.name, .int .i64 v.unit, .int .i64 v.n])
def inss (l : List Ins) : U := .sl (l.map fun c => [.int .i64 c.op, .int .i64 c.a, .str c.s])
def stk (l : List Int) : List (List D) := l.map fun n => [.u (.int .i64 n)]
def zvH (pc : Int) (sd : D) (en : Bool) (va er : Int) : Ob := .box [.u (.int .i64 pc), sd, .u (.bool en), .u (.int .i64 va), .u (.int .i64 er)]
end Go.Proofs.YtkdhmbhbbciedaaGreatDoor.Vm
namespace Go.Proofs.YtkdhmbhbbciedaaGreatDoor.Vm
open Go Go.VL
structure Mach where
 pc : Int
 stack : List Int
 en : Bool
 va : Int
 er : Int
 deriving DecidableEq
def okv (n : Int) : Bool := decide (-1099511627776 <= n /\ n <= 1099511627776)
def Mach.fin (m : Mach) (v e : Int) : Mach := { m with stack := [], en := true, va := v, er := e }
def Mach.push (m : Mach) (x : Int) : Mach := if okv x then { m with pc := m.pc + 1, stack := m.stack ++ [x] } else m.fin 0 3
def Mach.drop (m : Mach) (k : Nat) : Mach := { m with stack := m.stack.take (m.stack.length - k) }
def Mach.top (m : Mach) (k : Nat) : Int := m.stack.getD (m.stack.length - 1 - k) 0
def zgt (vs : List Var) (m : Mach) (c : Ins) : Mach :=
 if c.op = 0 then m.push c.a
 else if c.op = 1 then match vs.find? fun v => decide (v.name = c.s) with | none => m.fin 0 13 | some v => m.push v.n
 else if c.op = 12 then { m with pc := c.a }
 else if c.op = 13 then { m.drop 1 with pc := if m.top 0 = 0 then c.a else m.pc + 1 }
 else if c.op = 14 then m.fin (m.top 0) 0
 else if c.op = 11 then (m.drop 1).push (Pm.truth (decide (m.top 0 = 0)))
 else if c.op = 5 /\ m.top 0 = 0 then m.fin 0 15
 else (m.drop 2).push (Pm.two c.op (m.top 1) (m.top 0))
def zns (code : List Ins) (vs : List Var) (m : Mach) : Mach :=
 if m.pc < 0 then m.fin 0 2 else match code[m.pc.toNat]? with
 | none => m.fin 0 2
 | some c => if c.op < 0 \/ 15 <= c.op \/ (m.stack.length : Int) < zkT c.op \/ (m.stack.any fun n => !okv n) = true then m.fin 0 2 else zgt vs m c
theorem zqV {code : List Ins} {vs : List Var} {m : Mach} {c : Ins} (h : 0 <= m.pc) (hc : code[m.pc.toNat]? = some c) :
  zns code vs m = if c.op < 0 \/ 15 <= c.op \/ (m.stack.length : Int) < zkT c.op \/ (m.stack.any fun n => !okv n) = true then m.fin 0 2 else zgt vs m c := by
 unfold zns;rw [if_neg (by omega), hc]
end Go.Proofs.YtkdhmbhbbciedaaGreatDoor.Vm
namespace Go.Proofs.YtkdhmbhbbciedaaGreatDoor.Vm
open Go Go.VL
def zsu (code : List Ins) (vs : List Var) (fuel : Int) : Nat -> Int -> Mach -> Int × Int × Int
 | 0, _, _ => (0, fuel, 16)
 | k + 1, n, m => let m' := zns code vs m
  if m'.en then (m'.va, n + 1, m'.er) else zsu code vs fuel k (n + 1) m'
def zw5 : Mach := ⟨0, [], false, 0, 0⟩
structure RunAt (code : List Ins) (vs : List Var) (fuel : Int) where
 n : Nat
 m : Mach
 rows : Option (List Int)
 hn : (n : Int) <= fuel
 hlen : m.stack.length <= n
 hrun : zsu code vs fuel (fuel.toNat - n) n m = zsu code vs fuel fuel.toNat 0 zw5
 hrows : match rows with | none => m.stack = [] | some r => r.take m.stack.length = m.stack
def RunAt.obs {code vs fuel} (x : RunAt code vs fuel) : List (Nat × Ob) :=
 match x.rows with
 | none => [(0, zvH x.m.pc (.u .nil) x.m.en x.m.va x.m.er)]
 | some r => [(0, zvH x.m.pc (.vec 1 x.m.stack.length) x.m.en x.m.va x.m.er), (1, .vec 3 1 (stk r))]
end Go.Proofs.YtkdhmbhbbciedaaGreatDoor.Vm
namespace Go.Proofs.YtkdhmbhbbciedaaGreatDoor
open Go Go.VL Go.ChangeShapes Go.WideShapes Go.ChangeAt Go.RowKit
theorem Tryz.own : ownKnob Tryz.prog.godebug = none := by kernel_rfl
theorem Tryz.ztN : laidOutB Tryz.prog = true := by kernel_rfl
theorem Tryz.zyx : ziy Tryz.prog = true := by kernel_rfl
theorem zsC : ∀ (m : Nat) (r : List U), SizeOf.sizeOf r <= m -> HasRow Tryz.prog 25 r -> ∃ e : Exp, r = e.row
 | 0, r, hm, _ => by cases r <;> simp at hm
 | m + 1, r, hm, h => by
  obtain ⟨rs, hr, h⟩ := h.of_struct zvF
  match rs, h with
  | [a, b, c, d, f], h =>
   obtain ⟨h1, h2, h3, h4, h5, _⟩ := h;obtain ⟨x, rfl, _⟩ := h1.of_int io3;obtain ⟨y, rfl, _⟩ := h2.of_int io3;obtain ⟨z, rfl, _⟩ := h3.of_int io3;obtain ⟨s, rfl, _⟩ := h4.of_str (by simp);obtain ⟨rows, rfl, _, h6⟩ := h5.of_slice zxt;have hsz : ∀ q ∈ rows, SizeOf.sizeOf q <= m := fun q hq => by
    have := List.sizeOf_lt_of_mem hq;rw [hr] at hm;simp at hm;omega
   obtain ⟨l, rfl, _⟩ := rows_list Exp.row (fun _ => True) (rows := rows) fun q hq => by
    obtain ⟨e, he⟩ := zsC m q (hsz q hq) (h6 q hq);exact ⟨e, he, trivial⟩
   exact ⟨.mk x y z s l, by rw [hr, Exp.row_eq]; rfl⟩
theorem zpY {r : List U} (h : HasRow Tryz.prog 25 r) : ∃ e : Exp, r = [.int .i64 e.op, .int .i64 e.n, .int .i64 e.unit, .str e.s, .sl (e.args.map Exp.row)] := by
 obtain ⟨e, rfl⟩ := zsC _ r (Nat.le_refl _) h;exact ⟨e, e.row_eq⟩
theorem zui {r : List U} (h : HasRow Tryz.prog 39 r) : ∃ l : Let, r = [.str l.name, .int .i64 l.body.op, .int .i64 l.body.n, .int .i64 l.body.unit, .str l.body.s, .sl (l.body.args.map Exp.row)] /\ True := by
 obtain ⟨rs, hr, h⟩ := h.of_struct zw4
 match rs, h with
 | [a, b], h =>
  obtain ⟨h1, h2, _⟩ := h;obtain ⟨x, rfl, _⟩ := h1.of_str (by simp);obtain ⟨e, rfl⟩ := zpY h2;exact ⟨⟨x, e⟩, by rw [hr]; rfl, trivial⟩
theorem zs6 {u : U} (h : ArgU Tryz.prog 22 u) : ∃ l, u = zaz l := by
 obtain ⟨rows, h1, _, h2⟩ := (h.one (by simp) (by simp)).of_slice zxu;obtain ⟨l, rfl, _⟩ := rows_list (fun l : Let => [.str l.name, .int .i64 l.body.op, .int .i64 l.body.n, .int .i64 l.body.unit, .str l.body.s, .sl (l.body.args.map Exp.row)]) (fun _ => True) fun r hr => zui (h2 r hr);exact ⟨l, by simp at h1; exact h1⟩
theorem zt9 {u : U} (h : ArgU Tryz.prog 9 u) : ∃ n, u = .str n := by
 obtain ⟨n, h1, _⟩ := (h.one (by simp) (by simp)).of_str (by simp);exact ⟨n, by simpa using h1⟩
end Go.Proofs.YtkdhmbhbbciedaaGreatDoor
namespace Go.Proofs.YtkdhmbhbbciedaaGreatDoor
open Go Go.VL
structure Tok where
 kind : Int
 text : List UInt8
 n : Int
 pos : Int
 deriving DecidableEq, Inhabited
def Tok.row (t : Tok) : List U := [.int .i64 t.kind, .str t.text, .int .i64 t.n, .int .i64 t.pos]
def zcR (c : UInt8) : Bool := decide (c.toNat = 32) || decide (c.toNat = 9) || decide (c.toNat = 10)
def zdO (c : UInt8) : Bool := zcn c || zav c
def zby (s : List UInt8) : Int := s.foldl (fun n c => 10 * n + ((c.toNat : Int) - 48)) 0
def zgz (s : List UInt8) : Option Int :=
 if s = [] \/ zdj zav s ≠ s.length \/ (s.head? = some 48 /\ s ≠ [48]) \/ 13 < s.length then none else if 1099511627776 < zby s then none else some (zby s)
theorem zeq (s : List UInt8) (c : UInt8) : zby (s ++ [c]) = 10 * zby s + ((c.toNat : Int) - 48) := by simp [zby]
theorem zge : ∀ (n : Nat) (s : List UInt8), s.length = n -> (∀ c ∈ s, zav c = true) -> 0 <= zby s /\ zby s < 10 ^ n
 | 0, s, h, _ => by have := List.eq_nil_of_length_eq_zero h; subst this; simp [zby]
 | n + 1, s, h, hd => by
  have hne : s ≠ [] := fun e => by rw [e] at h; simp at h
  obtain ⟨t, c, rfl⟩ : ∃ t c, s = t ++ [c] := ⟨s.dropLast, s.getLast hne, (List.dropLast_concat_getLast hne).symm⟩;have h1 := zge n t (by simpa using h) (fun x hx => hd x (by simp [hx]));have h2 := hd c (by simp);simp only [zav, Bool.and_eq_true, decide_eq_true_eq] at h2;rw [zeq];have : (10 : Int) ^ (n + 1) = 10 * 10 ^ n := by rw [Int.pow_succ]; omega
  omega
end Go.Proofs.YtkdhmbhbbciedaaGreatDoor
namespace Go.Proofs.YtkdhmbhbbciedaaGreatDoor
open Go Go.VL
def signsL : List (List UInt8) := [[61, 61], [59], [44], [61], [60], [43], [45], [42], [47], [40], [41]]
def zih (s : List UInt8) : Except Int Tok := match s with
 | [] => .error 0
 | c :: r => if zcn c = true then
   if zfE ((c :: r).take (zdj zdO (c :: r))) = true then .ok ⟨1, (c :: r).take (zdj zdO (c :: r)), 0, 0⟩ else .error 13
  else if zav c = true then
   match zgz ((c :: r).take (zdj zav (c :: r))) with | some n => .ok ⟨2, (c :: r).take (zdj zav (c :: r)), n, 0⟩ | none => .error 3
  else match signsL.find? fun x => x.isPrefixOf (c :: r) with | some x => .ok ⟨3, x, 0, 0⟩ | none => .error 11
def nextD (s : List UInt8) : D := match zih s with | .ok t => .tup [.u (.agg [.int .i64 t.kind, .str t.text, .int .i64 t.n, .int .i64 t.pos]), .u (.int .i64 0)] | .error e => .tup [.u (.agg [.int .i64 0, .str [], .int .i64 0, .int .i64 0]), .u (.int .i64 e)]
end Go.Proofs.YtkdhmbhbbciedaaGreatDoor
namespace Go.Proofs.YtkdhmbhbbciedaaGreatDoor
open Go Go.VL
theorem zah (l : List Int) : (zeA l).length = l.length := by simp [zeA]
theorem zaj (l : List Int) (i : Nat) : (zeA l)[i]? = (l[i]?).map fun z => [D.u (.int .i64 z)] := by simp [zeA]
theorem zdD (l : List Int) (i : Nat) (h : i < (zeA l).length) : (zeA l)[i] = [D.u (.int .i64 (l[i]'(by simpa [zeA] using h)))] := by simp [zeA]
theorem zbn (l : List Int) (i : Nat) (z : Int) : (zeA l).set i [D.u (.int .i64 z)] = zeA (l.set i z) := by simp [zeA, List.map_set]
theorem zmW (n : Nat) (z : Int) : List.replicate n [D.u (.int .i64 z)] = zeA (List.replicate n z) := by simp [zeA]
theorem zbV (n : Nat) (l : List Int) : (∀ x ∈ zeA l, ∀ y ∈ x, D.under n y = true) ↔ True := by simp [zeA, D.under]
end Go.Proofs.YtkdhmbhbbciedaaGreatDoor
namespace Go.Proofs.YtkdhmbhbbciedaaGreatDoor
open Go Go.VL
attribute [local simp] HS zba zcP zb4 evPure opd uOf zat St.put St.at getK binD binI binS binB nilD aggD ze5 zfC lookD lookR zbZ rangeS Go.VL.nextD Go.VL.nextS zb1 zfI zfF ze0 zci mkV zbb zcX zaW za9 mapEff zdX zeK Key.kk shiftI arith unD convD zdg loadD cellsAt fieldAddrD fieldD indexAddrD indexSlD arrAddr indexD sliceD cutD lenD minmaxD nilCheckD buildD fillD zbu zcQ zek setAll zcI zed zbU ze3 zbR St.add zaq zbe rowsOf zcY zco zad zac zaa za5 zcH zaS entry za6 zbc valD zb7 zcG ze4 zcV zcW zbz zbv zag zaM za8 delAll effD St.effS zck zaJ zaw zcl zaK zay zbr zax zas zbs zch za7 zbq zaU zbp zai mkD zb3 zbg zbk zag zb6 D.ids Op.operands Call.operands zbj makeIfD makeFuncD typeAssertD zfB zc2 zc4 zfn zb0 IntKind.bits zb5 zam List.take_of_length_le List.range_succ zcA zbJ zcB zcu zbf zbA zbC zcv zbE za0 zbD zbB zgo zbI zcy zaQ zaB zcz zaR zaD zbH zaC zau zcE zcF zfZ zab frzN frz1 zaH zaG St.frz St.frzS frzS fv zbh zbx zbM zaI zar zal frz zbN za1 za2 zbt zbP zbQ zaV St.norm St.lp St.only zaA wkE wkO wkU Ob.under D.under zak zap zcC zbK zcD h4s zdt zao zaY List.zipIdx_cons List.zipIdx_nil List.map_cons List.map_nil Nat.zero_add
attribute [local irreducible] V G H HD HD2 HD4 zg5 RetX zaX Eff CallP CallV EndOK Fun Ret FinOK LoopI LoopW EndW HR vs2 RN Cnd H4
def zfa (s : List UInt8) : Bool := zfE s && !words.contains s
set_option maxRecDepth 100000 in
theorem zjy (s : List UInt8) : Fun Tryz.prog 82 [.u (.str s)] (· = .u (.bool (zfa s))) := by
 have h1 := zjS words s;have h2 := zmB s;have h3 := zku;generalize hw : words.contains s = w at h1;simp only [zlJ] at h1 h3;generalize (words.map fun s => [U.str s]) = W at h1 h3;unfold zfa;rw [hw];clear hw;generalize zfE s = b at h2 ⊢;cases b
 all_goals
  refine Fun.run Tryz.func82 Tryz.ntmps82 Tryz.results82 rfl (by simp) fun Γ hn => ?_
  repeat' (first
  | (refine zaf rfl ?_; simp)
  | ((first | refine CallP.f2 rfl (h1) (by first | simp <;> rfl | fail) ?_ | refine CallP.f2 rfl (h2) (by first | simp <;> rfl | fail) ?_ | refine CallP.f2 rfl (h3) (by first | simp <;> rfl | fail) ?_ | fail); simp)
  | fail)
  (refine Pst.of ?_; simp)
def zaO (op : Int) : Int := if op = 0 \/ op = 1 then 0 else if op = 12 then 1 else if op = 13 then 3 else if op < 0 \/ 14 <= op then -1 else 2
theorem zkO (op : Int) : Fun Tryz.prog 86 [.u (.int .i64 op)] (· = .u (.int .i64 (zaO op))) := by
 unfold zaO;refine Fun.run Tryz.func86 Tryz.ntmps86 Tryz.results86 rfl (by simp) fun Γ hn => ?_
 repeat' (first
  | (refine Cnd.of (fun hc => ?_) (fun hc => ?_) <;> (try (exfalso; omega)) <;> (try simp))
  | (refine zaf rfl ?_; simp)
  | fail)
 all_goals
  (refine Pst.of ?_; simp)
 all_goals (repeat' split) <;> first | rfl | omega | simp_all
theorem zti : Exp.row = fun e => [.int .i64 e.op, .int .i64 e.n, .int .i64 e.unit, .str e.s, .sl (e.args.map Exp.row)] := funext fun e => e.row_eq
def zce (e : Exp) : D := .u (.agg [.int .i64 e.op, .int .i64 e.n, .int .i64 e.unit, .str e.s, .sl (e.args.map Exp.row)])
def zt4 (l : List Exp) : U := .sl (l.map fun e => [.int .i64 e.op, .int .i64 e.n, .int .i64 e.unit, .str e.s, .sl (e.args.map Exp.row)])
theorem ztf (l : List Exp) : zt4 l = .sl (l.map Exp.row) := by rw [zt4, <- zti]
theorem zoa (l : List (Exp)) (f : FuncId) (caps : List U) (p : Exp -> Bool) (hf : ∀ n ∈ l, Fun Tryz.prog f (zce n :: caps.map .u) (· = .u (.bool (p n)))) (hcl : zae Tryz.prog f = true)
  (hca : ∀ o, zcG o (caps.map .u) = some (caps.map .u, [])) : Fun Tryz.prog 131 [.u (zt4 l), .fnc (.func f) (caps.map .u)] (· = .u (.int .i64 (zjF p l 0))) := by
 refine Fun.run Tryz.func131 Tryz.ntmps131 Tryz.results131 rfl (by simp) fun Γ hn => ?_; simp only [entry, List.zipIdx_cons, List.zipIdx_nil, List.map_cons, List.map_nil, Nat.zero_add];simp only [zt4];refine zir (x := 0) rfl fun hl => ?_;simp at hl
 repeat' (first
  | (refine zaf rfl ?_; simp)
  | fail)
 refine zcs (α := { i : Nat // i <= l.length /\ ∀ c ∈ l.take i, p c = false }) [0, 1, 7] (fun i => [(8, .u (.int .i64 i.1))]) (fun i => l.length - i.1) ⟨0, by omega, by simp⟩ ?_ ?_
 ·exact (Wk.env rfl rfl rfl (by simp [wkE, St.lp, zaA, zaa, getK] <;> (try (intros; simp_all; done)) <;> (try (intros; omega)) <;> (try grind)))
 rintro ⟨i, hi, hb⟩;simp;rcases hx : l[i]? with _ | n
 ·have hge : l.length <= i := by simpa using hx
  repeat' (first
  | (refine Cnd.of (fun hc => ?_) (fun hc => ?_) <;> (try (exfalso; omega)) <;> (try simp [hx]))
  | (refine zaf rfl ?_; simp [hx])
  | fail)
  (refine Pst.of ?_; simp)
  rw [List.take_of_length_le hge] at hb;exact (zhY hb).symm
 ·have hlt : i < l.length := (List.getElem?_eq_some_iff.1 hx).1;have h1 := hf n (List.mem_of_getElem? hx);simp only [zce] at h1;cases hp : p n
  ·rw [hp] at h1
   repeat' (first
  | (refine Cnd.of (fun hc => ?_) (fun hc => ?_) <;> (try (exfalso; omega)) <;> (try simp [hx, hca]))
  | (refine zaf rfl ?_; simp [hx, hca])
  | (refine And.intro (by omega) ?_)
  | (refine CallP.f2 rfl (h1) (by first | simp [hx, hca] <;> rfl | fail) ?_; simp [hx, hca])
  | fail)
   refine LoopW.next ⟨i + 1, by omega, zca hx hb hp⟩ (by simp; omega) ?_
   exact (Wk.env rfl rfl rfl (by simp [wkE, St.lp, zaA, zaa, getK] <;> (try (intros; simp_all; done)) <;> (try (intros; omega)) <;> (try grind)))
  ·rw [hp] at h1
   repeat' (first
  | (refine Cnd.of (fun hc => ?_) (fun hc => ?_) <;> (try (exfalso; omega)) <;> (try simp [hx, hca]))
  | (refine zaf rfl ?_; simp [hx, hca])
  | (refine And.intro (by omega) ?_)
  | (refine CallP.f2 rfl (h1) (by first | simp [hx, hca] <;> rfl | fail) ?_; simp [hx, hca])
  | fail)
   (refine Pst.of ?_; simp)
   rw [zl8 hb hx hp];omega
theorem zjU (l : List (Exp)) (f : FuncId) (caps : List U) (p : Exp -> Bool) (hf : ∀ n ∈ l, Fun Tryz.prog f (zce n :: caps.map .u) (· = .u (.bool (p n)))) (hcl : zae Tryz.prog f = true)
  (hca : ∀ o, zcG o (caps.map .u) = some (caps.map .u, [])) (hcb : ∀ o, zbv o (caps.map .u) = some (caps, [])) : Fun Tryz.prog 87 [.u (zt4 l), .fnc (.func f) (caps.map .u)] (· = .u (.bool (l.any p))) := by
 have h1 := zoa l f caps p hf hcl hca;refine Fun.run Tryz.func87 Tryz.ntmps87 Tryz.results87 rfl (by simp) fun Γ hn => ?_; simp only [entry, List.zipIdx_cons, List.zipIdx_nil, List.map_cons, List.map_nil, Nat.zero_add];simp only [zt4] at h1 ⊢
 repeat' (first
  | (refine zaf rfl ?_; simp [hcb])
  | (refine CallP.f2 rfl (h1) (by first | simp [hcb] <;> rfl | fail) ?_; simp [hcb])
  | fail)
 (refine Pst.of ?_; simp)
 have h2 := zmY p l 0 (by omega);rw [Bool.eq_iff_iff];simpa using h2
def zuS (e : Exp) : Bool := decide (e.s = []) && decide (0 <= e.unit) && decide (e.unit < 5) && decide (0 <= e.n) && decide (e.n <= if e.unit = 0 then 1 else 1099511627776)
def zaL : Nat -> Exp -> Bool
 | 0, _ => false
 | d + 1, e => decide ((e.args.length : Int) = zaO e.op) && (if e.op = 0 then zuS e else if e.n ≠ 0 \/ e.unit ≠ 0 then false else if e.op = 1 then zfa e.s else decide (e.s = []) && !e.args.any (fun x => !zaL d x))
set_option maxRecDepth 100000 in
set_option maxHeartbeats 4000000 in
theorem zkq : ∀ (d : Nat) (e : Exp), (d : Int) <= 100 -> Fun Tryz.prog 55 [zce e, .u (.int .i64 d)] (· = .u (.bool (zaL d e)))
 | 0, e, _ => by
  refine Fun.run Tryz.func55 Tryz.ntmps55 Tryz.results55 rfl (by simp) fun Γ hn => ?_; simp only [entry, List.zipIdx_cons, List.zipIdx_nil, List.map_cons, List.map_nil, Nat.zero_add];simp only [zce]
  repeat' (first
  | (refine zaf rfl ?_; simp)
  | (refine ⟨hC _ (by kernel_rfl), hk _ (zeI 8 _ _ _ ?_)⟩; clear hC hk C k; simp)
  | (refine zeH rfl (by kernel_rfl) (by first | (simp [hn]; done) | (simp [hn]; omega) | fail) fun C k hC hk => ?_; simp)
  | fail)
  (refine Pst.of ?_; simp)
  rfl
 | d + 1, e, hd => by
  have hr : ∀ x : Exp, Fun Tryz.prog 88 (zce x :: [U.row [.int .i64 ((d + 1 : Nat) : Int)] 0].map .u) (· = .u (.bool (!zaL d x))) := fun x => by
   have h1 := zkq d x (by omega);refine Fun.run Tryz.func88 Tryz.ntmps88 Tryz.results88 rfl (by simp) fun Γ hn => ?_; simp only [entry, List.zipIdx_cons, List.zipIdx_nil, List.map_cons, List.map_nil, Nat.zero_add];simp only [zce] at h1 ⊢
   repeat' (first
  | (refine zaf rfl ?_; simp)
  | (refine And.intro (by omega) ?_)
  | (refine CallP.f2 rfl (h1) (by first | simp <;> rfl | fail) ?_; simp)
  | fail)
   (refine Pst.of ?_; simp)
  have hcon := zjU e.args 88 [U.row [.int .i64 ((d + 1 : Nat) : Int)] 0] (fun x => !zaL d x) (fun x _ => hr x) (by simp) (fun _ => rfl) (fun _ => rfl);have hnam := zjy e.s;have hopr := zkO e.op;simp only [List.map_cons, List.map_nil] at hcon;rw [zaL];unfold zuS;generalize (e.args.any fun x => !zaL d x) = z at hcon ⊢;generalize zfa e.s = nm at hnam ⊢;generalize hop : zaO e.op = oi at hopr ⊢;refine Fun.run Tryz.func55 Tryz.ntmps55 Tryz.results55 rfl (by simp) fun Γ hn => ?_; simp only [entry, List.zipIdx_cons, List.zipIdx_nil, List.map_cons, List.map_nil, Nat.zero_add];rw [ztf] at hcon;simp only [zce];by_cases hlen : (e.args.length : Int) = oi
  case neg =>
   repeat' (first
  | (refine Cnd.of (fun hc => ?_) (fun hc => ?_) <;> (try (exfalso; omega)) <;> (try simp [hlen]))
  | (refine zaf rfl ?_; simp [hlen])
  | (refine ⟨hC _ (by kernel_rfl), hk _ (zeI 8 _ _ _ ?_)⟩; clear hC hk C k; simp [hlen])
  | (refine zeH rfl (by kernel_rfl) (by first | (simp [hn]; done) | (simp [hn]; omega) | fail) fun C k hC hk => ?_; simp [hlen])
  | (refine zd2 rfl ?_; simp [hlen])
  | (refine zeY rfl ?_; simp [hlen])
  | (refine CallV.f2 rfl (hopr) (by first | simp [hlen] <;> rfl | fail) ?_; simp [hlen])
  | fail)
   (refine Pst.of ?_; simp)
   try (simp_all; done)
  by_cases h0 : e.op = 0
  case pos =>
   by_cases hu : e.unit = 0
   all_goals
    repeat' (first
  | (refine Cnd.of (fun hc => ?_) (fun hc => ?_) <;> (try (exfalso; omega)) <;> (try simp [hlen, h0, hu]))
  | (refine zaf rfl ?_; simp [hlen, h0, hu])
  | (refine ⟨hC _ (by kernel_rfl), hk _ (zeI 8 _ _ _ ?_)⟩; clear hC hk C k; simp [hlen, h0, hu])
  | (refine zeH rfl (by kernel_rfl) (by first | (simp [hn]; done) | (simp [hn]; omega) | fail) fun C k hC hk => ?_; simp [hlen, h0, hu])
  | (refine zd2 rfl ?_; simp [hlen, h0, hu])
  | (refine zeY rfl ?_; simp [hlen, h0, hu])
  | (refine CallV.f2 rfl (hopr) (by first | simp [hlen, h0, hu] <;> rfl | fail) ?_; simp [hlen, h0, hu])
  | fail)
    all_goals
     (refine Pst.of ?_; simp)
   all_goals clear hr hopr hcon hnam
   all_goals grind
  by_cases hnu : e.n ≠ 0 \/ e.unit ≠ 0
  case pos =>
   repeat' (first
  | (refine Cnd.of (fun hc => ?_) (fun hc => ?_) <;> (try (exfalso; omega)) <;> (try simp [hlen, h0]))
  | (refine zaf rfl ?_; simp [hlen, h0])
  | (refine ⟨hC _ (by kernel_rfl), hk _ (zeI 8 _ _ _ ?_)⟩; clear hC hk C k; simp [hlen, h0])
  | (refine zeH rfl (by kernel_rfl) (by first | (simp [hn]; done) | (simp [hn]; omega) | fail) fun C k hC hk => ?_; simp [hlen, h0])
  | (refine zd2 rfl ?_; simp [hlen, h0])
  | (refine zeY rfl ?_; simp [hlen, h0])
  | (refine CallV.f2 rfl (hopr) (by first | simp [hlen, h0] <;> rfl | fail) ?_; simp [hlen, h0])
  | fail)
   all_goals
    (refine Pst.of ?_; simp)
   all_goals clear hr hopr hcon hnam
   all_goals grind
  by_cases h1 : e.op = 1
  case pos =>
   repeat' (first
  | (refine Cnd.of (fun hc => ?_) (fun hc => ?_) <;> (try (exfalso; omega)) <;> (try simp [hlen, h0, h1]))
  | (refine zaf rfl ?_; simp [hlen, h0, h1])
  | (refine ⟨hC _ (by kernel_rfl), hk _ (zeI 8 _ _ _ ?_)⟩; clear hC hk C k; simp [hlen, h0, h1])
  | (refine zeH rfl (by kernel_rfl) (by first | (simp [hn]; done) | (simp [hn]; omega) | fail) fun C k hC hk => ?_; simp [hlen, h0, h1])
  | (refine zd2 rfl ?_; simp [hlen, h0, h1])
  | (refine zeY rfl ?_; simp [hlen, h0, h1])
  | ((first | refine CallP.f2 rfl (hopr) (by first | simp [hlen, h0, h1] <;> rfl | fail) ?_ | refine CallP.f2 rfl (hnam) (by first | simp [hlen, h0, h1] <;> rfl | fail) ?_ | fail); simp [hlen, h0, h1])
  | ((first | refine CallV.f2 rfl (hopr) (by first | simp [hlen, h0, h1] <;> rfl | fail) ?_ | refine CallV.f2 rfl (hnam) (by first | simp [hlen, h0, h1] <;> rfl | fail) ?_ | fail); simp [hlen, h0, h1])
  | fail)
   all_goals
    (refine Pst.of ?_; simp)
   all_goals clear hr hopr hcon hnam
   all_goals grind
  by_cases hs : e.s = []
  all_goals
   repeat' (first
  | (refine Cnd.of (fun hc => ?_) (fun hc => ?_) <;> (try (exfalso; omega)) <;> (try simp [hlen, h0, h1, hs]))
  | (refine zaf rfl ?_; simp [hlen, h0, h1, hs])
  | (refine ⟨hC _ (by kernel_rfl), hk _ (zeI 8 _ _ _ ?_)⟩; clear hC hk C k; simp [hlen, h0, h1, hs])
  | (refine zeH rfl (by kernel_rfl) (by first | (simp [hn]; done) | (simp [hn]; omega) | fail) fun C k hC hk => ?_; simp [hlen, h0, h1, hs])
  | (refine zd2 rfl ?_; simp [hlen, h0, h1, hs])
  | (refine zeY rfl ?_; simp [hlen, h0, h1, hs])
  | ((first | refine CallP.f2 rfl (hopr) (by first | simp [hlen, h0, h1, hs] <;> rfl | fail) ?_ | refine CallP.f2 rfl (hnam) (by first | simp [hlen, h0, h1, hs] <;> rfl | fail) ?_ | refine CallP.f2 rfl (hcon) (by first | simp [hlen, h0, h1, hs] <;> rfl | fail) ?_ | fail); simp [hlen, h0, h1, hs])
  | ((first | refine CallV.f2 rfl (hopr) (by first | simp [hlen, h0, h1, hs] <;> rfl | fail) ?_ | refine CallV.f2 rfl (hnam) (by first | simp [hlen, h0, h1, hs] <;> rfl | fail) ?_ | refine CallV.f2 rfl (hcon) (by first | simp [hlen, h0, h1, hs] <;> rfl | fail) ?_ | fail); simp [hlen, h0, h1, hs])
  | fail)
   all_goals
    (refine Pst.of ?_; simp)
  all_goals clear hr hopr hcon hnam
  all_goals grind
theorem zgU (e : Exp) : Fun Tryz.prog 22 [zce e] (· = .u (.bool (zaL 12 e))) := by
 have h1 := zkq 12 e (by omega);refine Fun.run Tryz.func22 Tryz.ntmps22 Tryz.results22 rfl (by simp) fun Γ hn => ?_; simp only [entry, List.zipIdx_cons, List.zipIdx_nil, List.map_cons, List.map_nil, Nat.zero_add];simp only [zce] at h1 ⊢
 repeat' (first
  | (refine zaf rfl ?_; simp)
  | (refine CallP.f2 rfl (h1) (by first | simp <;> rfl | fail) ?_; simp)
  | fail)
 (refine Pst.of ?_; simp)
end Go.Proofs.YtkdhmbhbbciedaaGreatDoor
namespace Go.Proofs.YtkdhmbhbbciedaaGreatDoor
open Go Go.VL
attribute [local simp] zba zcP zb4 evPure opd uOf zat St.put St.at getK binD binI binS binB nilD aggD ze5 zfC lookD lookR zbZ rangeS Go.VL.nextD Go.VL.nextS zb1 zfI zfF ze0 zci mkV zbb zcX zaW za9 mapEff zdX zeK Key.kk shiftI arith unD convD zdg loadD cellsAt fieldAddrD fieldD indexAddrD indexSlD arrAddr indexD sliceD cutD lenD minmaxD nilCheckD buildD fillD zbu zcQ zek setAll zcI zed zbU ze3 zbR St.add zaq zbe rowsOf zcY zco zad zac zaa za5 zcH zaS entry za6 zbc valD zb7 zcG ze4 zcV zcW zbz zbv zag zaM za8 delAll effD St.effS zck zaJ zaw zcl zaK zay zbr zax zas zbs zch za7 zbq zaU zbp zai mkD zb3 zbg zbk zag zb6 D.ids Op.operands Call.operands zbj makeIfD makeFuncD typeAssertD zfB zc2 zc4 zfn zb0 IntKind.bits zb5 zam List.take_of_length_le List.range_succ zcA zbJ zcB zcu zbf zbA zbC zcv zbE za0 zbD zbB zgo zbI zcy zaQ zaB zcz zaR zaD zbH zaC zau zcE zcF zfZ zab frzN frz1 zaH zaG St.frz St.frzS frzS fv zbh zbx zbM zaI zar zal frz zbN za1 za2 zbt zbP zbQ zaV St.norm St.lp St.only zaA wkE wkO wkU Ob.under D.under zak zap zcC zbK zcD h4s zdt zao zaY List.zipIdx_cons List.zipIdx_nil List.map_cons List.map_nil Nat.zero_add
attribute [local irreducible] V G H HD HD2 zaX Eff CallP CallV EndOK Fun Ret FinOK LoopI LoopW EndW HR vs2 RN Cnd H4
def zph (u : Int) (l : List Int) : Bool := !l.any fun n => decide (n ≠ u)
def zu3 (a b : Int) : Int × Bool := if a = 0 \/ b = 0 then (0, false) else if a = 4 then (b, true) else if b = 4 then (a, true) else if a = 1 then (b, true) else if b = 1 then (a, true) else (0, false)
def l0 (l : List Int) (i : Nat) : Int := l.getD i 0
def zuq (op : Int) (l : List Int) : Int × Bool :=
 if op = 2 \/ op = 3 \/ op = 6 \/ op = 7 then (l0 l 0, zph (l0 l 0) l && decide (l0 l 0 ≠ 0))
 else if op = 4 then zu3 (l0 l 0) (l0 l 1)
 else if op = 5 then (if l0 l 1 = 1 then (l0 l 0, decide (l0 l 0 ≠ 0) && decide (l0 l 0 ≠ 4)) else (1, zph (l0 l 0) l && (decide (l0 l 0 = 3) || decide (l0 l 0 = 2))))
 else if op = 8 then (0, zph (l0 l 0) l && decide (l0 l 0 ≠ 0))
 else if op = 9 then (0, zph (l0 l 0) l)
 else if op = 13 then (l0 l 1, decide (l0 l 0 = 0) && decide (l0 l 1 = l0 l 2))
 else (0, zph 0 l)
def asc {β : Type} : List (List UInt8 × β) -> List UInt8 -> Option β
 | [], _ => none
 | (k, b) :: l, x => if x = k then some b else asc l x
def zia {β : Type} : List (List UInt8 × β) -> List UInt8 -> β -> List (List UInt8 × β)
 | [], x, b => [(x, b)]
 | (k, c) :: l, x, b => if x = k then (k, b) :: l else (k, c) :: zia l x b
theorem zpt {β : Type} (f : β -> List U) (x : List UInt8) : ∀ (l : List (List UInt8 × β)), zci (l.map fun p => (Key.s p.1, f p.2)) (.s x) = (asc l x).map f
 | [] => rfl
 | (k, b) :: l => by
  simp only [List.map_cons, zci, asc, Key.s.injEq];split
  ·rfl
  ·exact zpt f x l
theorem zmn {β : Type} (x y : List UInt8) (b : β) : ∀ (l : List (List UInt8 × β)), asc (zia l x b) y = if y = x then some b else asc l y
 | [] => by simp [zia, asc]
 | (k, c) :: l => by
  simp only [zia];split
  ·rename_i h;subst h;simp only [asc];split <;> rfl
  ·rename_i h;simp only [asc, zmn x y b l];by_cases h1 : y = k
   ·subst h1; simp [Ne.symm h]
   ·simp [h1]
mutual
def zjf (g : List UInt8 -> Option Int) (m : List UInt8 -> Option (Int × Int)) : Exp -> Int × Int
 | .mk op _ u s args =>
  if op = 0 then (u, 0)
  else if op = 1 then (match g s with | some u => (u, 0) | none => match m s with | some r => r | none => (0, 13))
  else match zss g m args with
   | .error b => (0, b)
   | .ok l => if (zuq op l).2 = true then ((zuq op l).1, 0) else (0, 14)
def zss (g : List UInt8 -> Option Int) (m : List UInt8 -> Option (Int × Int)) : List Exp -> Except Int (List Int)
 | [] => .ok []
 | e :: r => if (zjf g m e).2 ≠ 0 then .error (zjf g m e).2 else match zss g m r with
  | .error b => .error b
  | .ok l => .ok ((zjf g m e).1 :: l)
end
mutual
def zbY (m : List UInt8 -> Bool) : Exp -> Bool
 | .mk op _ u s args =>
  if op = 0 then decide (u = 4)
  else if op = 1 then m s
  else if op = 2 \/ op = 3 \/ op = 6 \/ op = 7 then zdl m args 0
  else if op = 4 then zdl m args 0 && zdl m args 1
  else if op = 13 then zdl m args 1
  else false
def zdl (m : List UInt8 -> Bool) : List Exp -> Nat -> Bool
 | [], _ => false
 | e :: _, 0 => zbY m e
 | _ :: r, n + 1 => zdl m r n
end
theorem zkm (m) (e : Exp) : zbY m e = if e.op = 0 then decide (e.unit = 4)
  else if e.op = 1 then m e.s
  else if e.op = 2 \/ e.op = 3 \/ e.op = 6 \/ e.op = 7 then zdl m e.args 0
  else if e.op = 4 then zdl m e.args 0 && zdl m e.args 1
  else if e.op = 13 then zdl m e.args 1
  else false := by
 cases e with | mk op n u s args => rw [zbY]; rfl
abbrev LM := List (List UInt8 × Int × Int × Bool)
abbrev GM := List (List UInt8 × Int)
def gF (g : GM) : List UInt8 -> Option Int := asc g
def mF (m : LM) : List UInt8 -> Option (Int × Int) := fun x => (asc m x).map fun q => (q.1, q.2.1)
def sF (m : LM) : List UInt8 -> Bool := fun x => ((asc m x).map fun q => q.2.2).getD false
theorem zdf {d : Nat} {e : Exp} (h : zaL (d + 1) e = true) : (e.args.length : Int) = zaO e.op /\ 0 <= e.op /\ e.op < 14 /\ (e.op ≠ 0 -> e.op ≠ 1 -> ∀ x ∈ e.args, zaL d x = true) := by
 rw [zaL, Bool.and_eq_true, decide_eq_true_eq] at h;obtain ⟨h1, h2⟩ := h;have h3 : 0 <= e.op /\ e.op < 14 := by
  unfold zaO at h1;split at h1
  ·omega
  ·split at h1
   ·omega
   ·split at h1
    ·omega
    ·split at h1
     ·omega
     ·omega
 refine ⟨h1, h3.1, h3.2, fun ha hb x hx => ?_⟩;rw [if_neg ha] at h2;split at h2
 ·cases h2
 ·simp only [if_neg hb, Bool.and_eq_true, Bool.not_eq_true', List.any_eq_false, Bool.not_eq_true] at h2;have := h2.2 x hx;simpa using this
def mOf (g : GM) (lets : List Let) : LM := lets.foldl (fun m l => zia m l.name ((zjf (gF g) (mF m) l.body).1, (zjf (gF g) (mF m) l.body).2, zbY (sF m) l.body)) []
def zcm (lets : List Let) (e : Exp) : Bool := decide (lets.length <= 20) && zaL 12 e && !lets.any (fun l => !zaL 12 l.body)
theorem ziX {α β : Type} (f : β -> α -> β) (b : β) {l : List α} {i : Nat} {x : α} (h : l[i]? = some x) : (l.take (i + 1)).foldl f b = f ((l.take i).foldl f b) x := by
 obtain ⟨hi, rfl⟩ := List.getElem?_eq_some_iff.1 h;rw [List.take_succ_eq_append_getElem hi, List.foldl_append];rfl
theorem zrd {g : GM} {lets : List Let} {i : Nat} {l : Let} (h : lets[i]? = some l) : mOf g (lets.take (i + 1)) = zia (mOf g (lets.take i)) l.name ((zjf (gF g) (mF (mOf g (lets.take i))) l.body).1, (zjf (gF g) (mF (mOf g (lets.take i))) l.body).2, zbY (sF (mOf g (lets.take i))) l.body) := ziX _ _ h
end Go.Proofs.YtkdhmbhbbciedaaGreatDoor
namespace Go.Proofs.YtkdhmbhbbciedaaGreatDoor.Vm
open Go Go.VL
attribute [local simp] zba zcP zb4 evPure opd uOf zat St.put St.at getK binD binI binS binB nilD aggD ze5 zfC lookD lookR zbZ rangeS Go.VL.nextD Go.VL.nextS zb1 zfI zfF ze0 zci mkV zbb zcX zaW za9 mapEff zdX zeK Key.kk shiftI arith unD convD zdg loadD cellsAt fieldAddrD fieldD indexAddrD indexSlD arrAddr indexD sliceD cutD lenD minmaxD nilCheckD buildD fillD zbu zcQ zek setAll zcI zed zbU ze3 zbR St.add zaq zbe rowsOf zcY zco zad zac zaa za5 zcH zaS entry za6 zbc valD zb7 zcG ze4 zcV zcW zbz zbv zag zaM za8 delAll effD St.effS zck zaJ zaw zcl zaK zay zbr zax zas zbs zch za7 zbq zaU zbp zai mkD zb3 zbg zbk zag zb6 D.ids Op.operands Call.operands zbj makeIfD makeFuncD typeAssertD zfB zc2 zc4 zfn zb0 IntKind.bits zb5 zam List.take_of_length_le List.range_succ zcA zbJ zcB zcu zbf zbA zbC zcv zbE za0 zbD zbB zgo zbI zcy zaQ zaB zcz zaR zaD zbH zaC zau zcE zcF zfZ zab frzN frz1 zaH zaG St.frz St.frzS frzS fv zbh zbx zbM zaI zar zal frz zbN za1 za2 zbt zbP zbQ zaV St.norm St.lp St.only zaA wkE wkO wkU Ob.under D.under zak zap zcC zbK zcD h4s zdt zao zaY List.zipIdx_cons List.zipIdx_nil List.map_cons List.map_nil Nat.zero_add
attribute [local irreducible] V G H HD HD2 zaX Eff CallP CallV EndOK Fun Ret FinOK LoopI LoopW EndW HR vs2 RN Cnd H4
end Go.Proofs.YtkdhmbhbbciedaaGreatDoor.Vm
namespace Go.Proofs.YtkdhmbhbbciedaaGreatDoor
open Go Go.VL
attribute [local simp] zba zcP zb4 evPure opd uOf zat St.put St.at getK binD binI binS binB nilD aggD ze5 zfC lookD lookR zbZ rangeS Go.VL.nextD Go.VL.nextS zb1 zfI zfF ze0 zci mkV zbb zcX zaW za9 mapEff zdX zeK Key.kk shiftI arith unD convD zdg loadD cellsAt fieldAddrD fieldD indexAddrD indexSlD arrAddr indexD sliceD cutD lenD minmaxD nilCheckD buildD fillD zbu zcQ zek setAll zcI zed zbU ze3 zbR St.add zaq zbe rowsOf zcY zco zad zac zaa za5 zcH zaS entry za6 zbc valD zb7 zcG ze4 zcV zcW zbz zbv zag zaM za8 delAll effD St.effS zck zaJ zaw zcl zaK zay zbr zax zas zbs zch za7 zbq zaU zbp zai mkD zb3 zbg zbk zag zb6 D.ids Op.operands Call.operands zbj makeIfD makeFuncD typeAssertD zfB zc2 zc4 zfn zb0 IntKind.bits zb5 zam List.take_of_length_le List.range_succ zcA zbJ zcB zcu zbf zbA zbC zcv zbE za0 zbD zbB zgo zbI zcy zaQ zaB zcz zaR zaD zbH zaC zau zcE zcF zfZ zab frzN frz1 zaH zaG St.frz St.frzS frzS fv zbh zbx zbM zaI zar zal frz zbN za1 za2 zbt zbP zbQ zaV St.norm St.lp St.only zaA wkE wkO wkU Ob.under D.under zak zap zcC zbK zcD h4s zdt zao zaY List.zipIdx_cons List.zipIdx_nil List.map_cons List.map_nil Nat.zero_add
attribute [local irreducible] V G H HD HD2 zaX Eff CallP CallV EndOK Fun Ret FinOK LoopI LoopW EndW HR vs2 RN Cnd H4
theorem zqm (c : UInt8) : Fun Tryz.prog 166 [.u (.int .u8 c.toNat)] (· = .u (.bool (zcR c))) := by
 unfold zcR;refine Fun.run Tryz.func166 Tryz.ntmps166 Tryz.results166 rfl (by simp) fun Γ hn => ?_
 repeat' (first
  | (refine Cnd.of (fun hc => ?_) (fun hc => ?_) <;> (try (exfalso; omega)) <;> (try simp))
  | (refine zaf rfl ?_; simp)
  | fail)
 all_goals
  (refine Pst.of ?_; simp)
 all_goals first | omega | (rw [Bool.eq_iff_iff]; simp; omega) | (simp; omega)
theorem zpo (c : UInt8) : Fun Tryz.prog 180 [.u (.int .u8 c.toNat)] (· = .u (.bool (zdO c))) := by
 unfold zdO;refine Fun.run Tryz.func180 Tryz.ntmps180 Tryz.results180 rfl (by simp) fun Γ hn => ?_
 repeat' (first
  | (refine Cnd.of (fun hc => ?_) (fun hc => ?_) <;> (try (exfalso; omega)) <;> (try simp))
  | (refine zaf rfl ?_; simp)
  | ((first | refine CallP.f2 rfl (zez c) (by first | simp <;> rfl | fail) ?_ | refine CallP.f2 rfl (zfl c) (by first | simp <;> rfl | fail) ?_ | fail); simp)
  | fail)
 all_goals
  (refine Pst.of ?_; simp)
 all_goals simp_all
theorem zem (p : UInt8 -> Bool) (l : List UInt8) : zdj p l <= l.length := by
 unfold zdj;exact (List.takeWhile_sublist p).length_le
theorem zkk {p : UInt8 -> Bool} {l : List UInt8} (h : zdj p l = l.length) : ∀ c ∈ l, p c = true := by
 have : l.takeWhile p = l := (List.takeWhile_sublist p).eq_of_length h;intro c hc;rw [<- this] at hc;exact List.all_eq_true.1 (List.all_takeWhile (l := l) (p := p)) c hc
theorem znS (s : List UInt8) (hl : s.length <= 1000000) : Fun Tryz.prog 181 [.u (.str s)] (· = .tup [.u (.int .i64 ((zgz s).getD 0)), .u (.bool (zgz s).isSome)]) := by
 have hsp := zf2 s hl 157 zav (fun c _ => zfl c) (by simp);unfold zgz;cases s with
 | nil =>
  refine Fun.run Tryz.func181 Tryz.ntmps181 Tryz.results181 rfl (by simp) fun Γ hn => ?_
  repeat' (first
  | (refine zaf rfl ?_; simp)
  | fail)
  all_goals
   (refine Pst.of ?_; simp)
 | cons c s =>
  by_cases h1 : zdj zav (c :: s) = (c :: s).length
  case neg =>
   rw [if_pos (.inr (.inl h1))];have h1' : ¬ (zdj zav (c :: s) : Int) = s.length + 1 := by simp at h1; omega
   refine Fun.run Tryz.func181 Tryz.ntmps181 Tryz.results181 rfl (by simp) fun Γ hn => ?_
   repeat' (first
  | (refine zaf rfl ?_; simp [h1'])
  | (refine CallP.f2 rfl (hsp) (by first | simp [h1'] <;> rfl | fail) ?_; simp [h1'])
  | fail)
   all_goals
    (refine Pst.of ?_; simp)
  have h1' : (zdj zav (c :: s) : Int) = s.length + 1 := by simp at h1; omega
  by_cases h2 : c.toNat = 48 /\ s ≠ []
  ·rw [if_pos (.inr (.inr (.inl ⟨by have := h2.1; simp; exact UInt8.toNat_inj.1 this, by simp; intro _; exact h2.2⟩)))];have h2b := h2.1;have h2a := h2.2;refine Fun.run Tryz.func181 Tryz.ntmps181 Tryz.results181 rfl (by simp) fun Γ hn => ?_
   repeat' (first
  | (refine zaf rfl ?_; simp [h1', h2a, h2b])
  | (refine CallP.f2 rfl (hsp) (by first | simp [h1', h2a, h2b] <;> rfl | fail) ?_; simp [h1', h2a, h2b])
  | fail)
   all_goals
    (refine Pst.of ?_; simp)
  have h2' : c.toNat = 48 -> s = [] := fun h => by
   by_cases hs : s = []
   ·exact hs
   ·exact absurd ⟨h, hs⟩ h2
  by_cases h3 : 13 < (c :: s).length
  ·rw [if_pos (.inr (.inr (.inr h3)))];have h3' : 13 < (s.length : Int) + 1 := by simp at h3; omega
   have hne : s ≠ [] := fun e => by rw [e] at h3; simp at h3
   have h2'' : ¬ c.toNat = 48 := fun h => hne (h2' h);refine Fun.run Tryz.func181 Tryz.ntmps181 Tryz.results181 rfl (by simp) fun Γ hn => ?_
   repeat' (first
  | (refine Cnd.of (fun hc => ?_) (fun hc => ?_) <;> (try (exfalso; omega)) <;> (try simp [h1', h2'', h3']))
  | (refine zaf rfl ?_; simp [h1', h2'', h3'])
  | (refine CallP.f2 rfl (hsp) (by first | simp [h1', h2'', h3'] <;> rfl | fail) ?_; simp [h1', h2'', h3'])
  | fail)
   all_goals
    (refine Pst.of ?_; simp)
  have hall := zkk h1;rw [if_neg (by
   simp only [not_or];refine ⟨by simp, fun h => h h1, fun h => ?_, h3⟩;have hc48 : c = 48 := by have := h.1; simpa using this
   have := h2' (by rw [hc48]; rfl);rw [this, hc48] at h;exact h.2 rfl)]
  have h3' : ¬ 13 < (s.length : Int) + 1 := by simp at h3; omega
  have hval : ∀ k, k <= (c :: s).length -> 0 <= zby ((c :: s).take k) /\ zby ((c :: s).take k) < 10 ^ 13 := fun k hk => by
   have h4 := zge k ((c :: s).take k) (by simp; simp at hk; omega) (fun x hx => hall x (List.mem_of_mem_take hx));have : (10 : Int) ^ k <= 10 ^ 13 := by
    have := Nat.pow_le_pow_right (n := 10) (by omega) (show k <= 13 by simp at h3 hk; omega)
    exact_mod_cast this
   omega
  have hloop : ∀ (hw : c.toNat = 48 -> s = []), Fun Tryz.prog 181 [.u (.str (c :: s))] (· = .tup [.u (.int .i64 ((if 1099511627776 < zby (c :: s) then none else some (zby (c :: s)) : Option Int).getD 0)), .u (.bool (if 1099511627776 < zby (c :: s) then none else some (zby (c :: s)) : Option Int).isSome)]) := fun hw => by
   by_cases h48 : c.toNat = 48
   ·have h48' : (c.toNat : Int) = 48 := by omega
    have hc48 : (c = 48) = True := eq_true (UInt8.toNat_inj.1 h48);have hs0 : (s = []) = True := eq_true (hw h48);refine Fun.run Tryz.func181 Tryz.ntmps181 Tryz.results181 rfl (by simp) fun Γ hn => ?_
    repeat' (first
  | (refine zaf rfl ?_; simp [h1', h3', h48', hc48, hs0])
  | (refine CallP.f2 rfl (hsp) (by first | simp [h1', h3', h48', hc48, hs0] <;> rfl | fail) ?_; simp [h1', h3', h48', hc48, hs0])
  | fail)
    refine zcs (α := { i : Nat // i <= (c :: s).length }) [0, 30] (fun i => [(4, .u (.int .i64 (zby ((c :: s).take i.1)))), (31, .u (.int .i64 i.1))]) (fun i => (c :: s).length - i.1) ⟨0, by omega⟩ ?_ ?_
    ·exact (Wk.zda (by simp [hn, zby] <;> grind))
    rintro ⟨i, hi⟩;simp;rcases hx : (c :: s)[i]? with _ | a
    ·have hge : (c :: s).length <= i := by simpa using hx
     obtain rfl : i = (c :: s).length := by omega
     rw [List.take_length];have hge2 : ¬ ((c :: s).length : Int) < s.length + 1 := by simp
     by_cases hb : 1099511627776 < zby (c :: s)
     ·repeat' (first
  | (refine zaf rfl ?_; simp [hb, hge2])
  | fail)
      (refine Pst.of ?_; simp)
      try simp [hb]
     ·repeat' (first
  | (refine zaf rfl ?_; simp [hb, hge2])
  | fail)
      (refine Pst.of ?_; simp)
      try simp [hb]
    ·have hlt : i < (c :: s).length := (List.getElem?_eq_some_iff.1 hx).1;have hlt2 : (i : Int) < s.length + 1 := by simp at hlt; omega
     have hd := hall a (List.mem_of_getElem? hx);simp only [zav, Bool.and_eq_true, decide_eq_true_eq] at hd;have hv := hval i hi;have hv2 := hval (i + 1) hlt;have hsn : zby ((c :: s).take (i + 1)) = 10 * zby ((c :: s).take i) + ((a.toNat : Int) - 48) := by
      rw [List.take_succ, hx]; exact zeq _ _
     generalize zby ((c :: s).take i) = dv at hv hsn;have hsn2 := hsn.symm
     repeat' (first
  | (refine zaf rfl ?_; simp [hx, hlt2, hsn2])
  | (refine And.intro (by omega) ?_)
  | fail)
     refine LoopW.next ⟨i + 1, hlt⟩ (by simp at hlt; simp; omega) ?_
     exact (Wk.zda (by simp [hn, hsn] <;> grind))
   ·refine Fun.run Tryz.func181 Tryz.ntmps181 Tryz.results181 rfl (by simp) fun Γ hn => ?_
    repeat' (first
  | (refine Cnd.of (fun hc => ?_) (fun hc => ?_) <;> (try (exfalso; omega)) <;> (try simp [h1', h3', h48]))
  | (refine zaf rfl ?_; simp [h1', h3', h48])
  | (refine CallP.f2 rfl (hsp) (by first | simp [h1', h3', h48] <;> rfl | fail) ?_; simp [h1', h3', h48])
  | fail)
    refine zcs (α := { i : Nat // i <= (c :: s).length }) [0, 30] (fun i => [(4, .u (.int .i64 (zby ((c :: s).take i.1)))), (31, .u (.int .i64 i.1))]) (fun i => (c :: s).length - i.1) ⟨0, by omega⟩ ?_ ?_
    ·exact (Wk.zda (by simp [hn, zby] <;> grind))
    rintro ⟨i, hi⟩;simp;rcases hx : (c :: s)[i]? with _ | a
    ·have hge : (c :: s).length <= i := by simpa using hx
     obtain rfl : i = (c :: s).length := by omega
     rw [List.take_length];have hge2 : ¬ ((c :: s).length : Int) < s.length + 1 := by simp
     by_cases hb : 1099511627776 < zby (c :: s)
     ·repeat' (first
  | (refine zaf rfl ?_; simp [hb, hge2])
  | fail)
      (refine Pst.of ?_; simp)
      try simp [hb]
     ·repeat' (first
  | (refine zaf rfl ?_; simp [hb, hge2])
  | fail)
      (refine Pst.of ?_; simp)
      try simp [hb]
    ·have hlt : i < (c :: s).length := (List.getElem?_eq_some_iff.1 hx).1;have hlt2 : (i : Int) < s.length + 1 := by simp at hlt; omega
     have hd := hall a (List.mem_of_getElem? hx);simp only [zav, Bool.and_eq_true, decide_eq_true_eq] at hd;have hv := hval i hi;have hv2 := hval (i + 1) hlt;have hsn : zby ((c :: s).take (i + 1)) = 10 * zby ((c :: s).take i) + ((a.toNat : Int) - 48) := by
      rw [List.take_succ, hx]; exact zeq _ _
     generalize zby ((c :: s).take i) = dv at hv hsn;have hsn2 := hsn.symm
     repeat' (first
  | (refine zaf rfl ?_; simp [hx, hlt2, hsn2])
  | (refine And.intro (by omega) ?_)
  | fail)
     refine LoopW.next ⟨i + 1, hlt⟩ (by simp at hlt; simp; omega) ?_
     exact (Wk.zda (by simp [hn, hsn] <;> grind))
  exact hloop h2'
theorem zlW (s p : List UInt8) : Fun Tryz.prog 189 [.u (.str s), .u (.str p)] (· = .u (.bool (p.isPrefixOf s))) := by
 by_cases hl : p.length <= s.length
 ·have hl2 : (p.length : Int) <= s.length := by omega
  by_cases he : s.take p.length = p
  ·have hp : p.isPrefixOf s = true := List.isPrefixOf_iff_prefix.2 (List.prefix_iff_eq_take.2 he.symm);refine Fun.run Tryz.func189 Tryz.ntmps189 Tryz.results189 rfl (by simp) fun Γ hn => ?_
   repeat' (first
  | (refine zaf rfl ?_; simp [hl, hl2, he])
  | fail)
   all_goals
    (refine Pst.of ?_; simp)
   all_goals first | (rw [hp]; done) | exact List.isPrefixOf_iff_prefix.1 hp | (simp [hp]; done) | rfl
  ·have hp : p.isPrefixOf s = false := by
    cases h : p.isPrefixOf s with
    | false => rfl
    | true => exact absurd (List.prefix_iff_eq_take.1 (List.isPrefixOf_iff_prefix.1 h)).symm he
   refine Fun.run Tryz.func189 Tryz.ntmps189 Tryz.results189 rfl (by simp) fun Γ hn => ?_
   repeat' (first
  | (refine zaf rfl ?_; simp [hl, hl2, he])
  | fail)
   all_goals
    (refine Pst.of ?_; simp)
   all_goals first | (rw [hp]; done) | exact List.isPrefixOf_iff_prefix.1 hp | (simp [hp]; done) | rfl
 ·have hl2 : ¬ (p.length : Int) <= s.length := by omega
  have hp : p.isPrefixOf s = false := by
   cases h : p.isPrefixOf s with
   | false => rfl
   | true => exact absurd (List.isPrefixOf_iff_prefix.1 h).length_le hl
  refine Fun.run Tryz.func189 Tryz.ntmps189 Tryz.results189 rfl (by simp) fun Γ hn => ?_
  repeat' (first
  | (refine zaf rfl ?_; simp [hl, hl2])
  | fail)
  all_goals
   (refine Pst.of ?_; simp)
  all_goals first | (rw [hp]; done) | exact List.isPrefixOf_iff_prefix.1 hp | (simp [hp]; done) | rfl
theorem znJ (s p : List UInt8) : Fun Tryz.prog 182 [.u (.str s), .u (.str p)] (· = .u (.bool (p.isPrefixOf s))) := by
 have h := zlW s p;refine Fun.run Tryz.func182 Tryz.ntmps182 Tryz.results182 rfl (by simp) fun Γ hn => ?_
 repeat' (first
  | (refine zaf rfl ?_; simp)
  | (refine CallP.f2 rfl (h) (by first | simp <;> rfl | fail) ?_; simp)
  | fail)
 (refine Pst.of ?_; simp)
@[local simp] theorem zt3 : zma 8 = .u (.row (signsL.map .str) 0) := by
 simp [zma, globs, signsL, uOf]
theorem hsl : signsL.length = 11 := rfl
theorem zq8 (s : List UInt8) (hs : s ≠ []) (hl : s.length <= 1000000) : Fun Tryz.prog 167 [.u (.str s)] (· = nextD s) := by
 obtain ⟨c, r, rfl⟩ : ∃ c r, s = c :: r := by cases s with | nil => exact absurd rfl hs | cons c r => exact ⟨c, r, rfl⟩
 have h1 := zez c;have h2 := zfl c;have h3 := zf2 (c :: r) hl 180 zdO (fun c _ => zpo c) (by simp);have h4 := zf2 (c :: r) hl 157 zav (fun c _ => zfl c) (by simp);have h5 := zmB ((c :: r).take (zdj zdO (c :: r)));have h6 := znS ((c :: r).take (zdj zav (c :: r))) (by have := zem zav (c :: r); rw [List.length_take]; omega);have l1 : (zdj zdO (c :: r) : Int) <= r.length + 1 := by have := zem zdO (c :: r); simp at this; omega
 have l2 : (zdj zav (c :: r) : Int) <= r.length + 1 := by have := zem zav (c :: r); simp at this; omega
 have l1' : zdj zdO (c :: r) <= r.length + 1 := by omega
 have l2' : zdj zav (c :: r) <= r.length + 1 := by omega
 unfold nextD zih;cases c1 : zcn c with
 | true =>
  rw [c1] at h1;cases c3 : zfE ((c :: r).take (zdj zdO (c :: r))) with
  | true =>
   rw [c3] at h5;refine Fun.run Tryz.func167 Tryz.ntmps167 Tryz.results167 rfl (by simp) fun Γ hn => ?_
   repeat' (first
  | (refine zaf rfl ?_; simp [l1, l1'])
  | ((first | refine CallP.f2 rfl (h1) (by first | simp [l1, l1'] <;> rfl | fail) ?_ | refine CallP.f2 rfl (h3) (by first | simp [l1, l1'] <;> rfl | fail) ?_ | refine CallP.f2 rfl (h5) (by first | simp [l1, l1'] <;> rfl | fail) ?_ | fail); simp [l1, l1'])
  | fail)
   (refine Pst.of ?_; simp)
   simp [c1, c3]
  | false =>
   rw [c3] at h5;refine Fun.run Tryz.func167 Tryz.ntmps167 Tryz.results167 rfl (by simp) fun Γ hn => ?_
   repeat' (first
  | (refine zaf rfl ?_; simp [l1, l1'])
  | ((first | refine CallP.f2 rfl (h1) (by first | simp [l1, l1'] <;> rfl | fail) ?_ | refine CallP.f2 rfl (h3) (by first | simp [l1, l1'] <;> rfl | fail) ?_ | refine CallP.f2 rfl (h5) (by first | simp [l1, l1'] <;> rfl | fail) ?_ | fail); simp [l1, l1'])
  | fail)
   (refine Pst.of ?_; simp)
   simp [c1, c3]
 | false =>
  rw [c1] at h1;cases c2 : zav c with
  | true =>
   rw [c2] at h2;cases c3 : zgz ((c :: r).take (zdj zav (c :: r))) with
   | none =>
    rw [c3] at h6;refine Fun.run Tryz.func167 Tryz.ntmps167 Tryz.results167 rfl (by simp) fun Γ hn => ?_
    repeat' (first
  | (refine zaf rfl ?_; simp [l2, l2'])
  | ((first | refine CallP.f2 rfl (h1) (by first | simp [l2, l2'] <;> rfl | fail) ?_ | refine CallP.f2 rfl (h2) (by first | simp [l2, l2'] <;> rfl | fail) ?_ | refine CallP.f2 rfl (h4) (by first | simp [l2, l2'] <;> rfl | fail) ?_ | refine CallP.f2 rfl (h6) (by first | simp [l2, l2'] <;> rfl | fail) ?_ | fail); simp [l2, l2'])
  | fail)
    (refine Pst.of ?_; simp)
    simp [c1, c2, c3]
   | some n =>
    rw [c3] at h6;refine Fun.run Tryz.func167 Tryz.ntmps167 Tryz.results167 rfl (by simp) fun Γ hn => ?_
    repeat' (first
  | (refine zaf rfl ?_; simp [l2, l2'])
  | ((first | refine CallP.f2 rfl (h1) (by first | simp [l2, l2'] <;> rfl | fail) ?_ | refine CallP.f2 rfl (h2) (by first | simp [l2, l2'] <;> rfl | fail) ?_ | refine CallP.f2 rfl (h4) (by first | simp [l2, l2'] <;> rfl | fail) ?_ | refine CallP.f2 rfl (h6) (by first | simp [l2, l2'] <;> rfl | fail) ?_ | fail); simp [l2, l2'])
  | fail)
    (refine Pst.of ?_; simp)
    simp [c1, c2, c3]
  | false =>
   rw [c2] at h2;refine Fun.run Tryz.func167 Tryz.ntmps167 Tryz.results167 rfl (by simp) fun Γ hn => ?_
   repeat' (first
  | (refine zaf rfl ?_; simp [hsl, List.take_of_length_le])
  | ((first | refine CallP.f2 rfl (h1) (by first | simp [hsl, List.take_of_length_le] <;> rfl | fail) ?_ | refine CallP.f2 rfl (h2) (by first | simp [hsl, List.take_of_length_le] <;> rfl | fail) ?_ | fail); simp [hsl, List.take_of_length_le])
  | fail)
   refine zcs (α := { i : Nat // i <= 11 /\ ∀ x ∈ signsL.take i, x.isPrefixOf (c :: r) = false }) [0, 2, 3, 43] (fun i => [(44, .u (.int .i64 i.1))]) (fun i => 11 - i.1) ⟨0, by omega, by simp⟩ ?_ ?_
   ·exact (Wk.zda (by simp [hn] <;> grind))
   rintro ⟨i, hi, hb⟩;simp;rcases hx : signsL[i]? with _ | x
   ·have hge : signsL.length <= i := by simpa using hx
    obtain rfl : i = 11 := by rw [hsl] at hge; omega
    have hnone : signsL.find? (fun x => x.isPrefixOf (c :: r)) = none := List.find?_eq_none.2 fun x hx => by
     rw [hb x (by rw [List.take_of_length_le (by rw [hsl]; omega)]; exact hx)]; simp
    repeat' (first
  | (refine zaf rfl ?_; simp)
  | fail)
    (refine Pst.of ?_; simp)
    simp [c1, c2, hnone]
   ·have hlt : i < 11 := by have := (List.getElem?_eq_some_iff.1 hx).1; rw [hsl] at this; exact this
    have hlt2 : (i : Int) < 11 := by omega
    have hp := znJ (c :: r) x;by_cases hpx : x.isPrefixOf (c :: r) = true
    ·have hfind : signsL.find? (fun x => x.isPrefixOf (c :: r)) = some x := by
      have e : signsL = signsL.take i ++ x :: signsL.drop (i + 1) := by
       obtain ⟨h5, h6⟩ := List.getElem?_eq_some_iff.1 hx;rw [<- h6, List.getElem_cons_drop, List.take_append_drop]
      rw [e, List.find?_append, List.find?_eq_none.2 (fun y hy => by rw [hb y hy]; simp), List.find?_cons, hpx];rfl
     rw [hpx] at hp
     repeat' (first
  | (refine zaf rfl ?_; simp [hx, hsl, hlt2])
  | (refine CallP.f2 rfl (hp) (by first | simp [hx, hsl, hlt2] <;> rfl | fail) ?_; simp [hx, hsl, hlt2])
  | fail)
     (refine Pst.of ?_; simp)
     simp [c1, c2, hfind]
    ·rw [Bool.eq_false_iff.2 hpx] at hp
     repeat' (first
  | (refine zaf rfl ?_; simp [hx, hsl, hlt2])
  | (refine And.intro (by omega) ?_)
  | (refine CallP.f2 rfl (hp) (by first | simp [hx, hsl, hlt2] <;> rfl | fail) ?_; simp [hx, hsl, hlt2])
  | fail)
     refine LoopW.next ⟨i + 1, by omega, fun y hy => ?_⟩ (by simp; omega) ?_
     ·rw [List.take_succ, hx] at hy;rcases List.mem_append.1 hy with h | h
      ·exact hb y h
      ·simp at h; subst h; exact Bool.eq_false_iff.2 hpx
     ·exact (Wk.zda (by simp [hn] <;> grind))
structure By where
 kind : Int
 period : Int
 grace : Int
 wait : Int
 last : Int
 order : Int
 sld : Bool
 backs : Int
 voices : Int
 jury : Int
 fund : Int
 lets : List Let
 due : Exp
 fine : Exp
 pay : Exp
 cover : Exp
 hold : Exp
 deriving Inhabited
theorem zhz (c : UInt8) : Fun Tryz.prog 159 [.u (.int .u8 c.toNat)] (· = .u (.bool (zcn c))) := by
 unfold zcn;refine Fun.run Tryz.func159 Tryz.ntmps159 Tryz.results159 rfl (by simp) fun Γ hn => ?_
 repeat' (first
  | (refine Cnd.of (fun hc => ?_) (fun hc => ?_) <;> (try (exfalso; omega)) <;> (try simp))
  | (refine zaf rfl ?_; simp)
  | fail)
 all_goals
  (refine Pst.of ?_; simp)
 all_goals first | omega | (simp; omega) | (rw [Bool.eq_iff_iff]; simp; omega)
theorem znF (c : UInt8) : Fun Tryz.prog 160 [.u (.int .u8 c.toNat)] (· = .u (.bool (zav c))) := by
 unfold zav;refine Fun.run Tryz.func160 Tryz.ntmps160 Tryz.results160 rfl (by simp) fun Γ hn => ?_
 repeat' (first
  | (refine Cnd.of (fun hc => ?_) (fun hc => ?_) <;> (try (exfalso; omega)) <;> (try simp))
  | (refine zaf rfl ?_; simp)
  | fail)
 all_goals
  (refine Pst.of ?_; simp)
 all_goals first | omega | (simp; omega) | (rw [Bool.eq_iff_iff]; simp; omega)
theorem zo2 (s : List UInt8) : Fun Tryz.prog 133 [.u (.str s)] (· = .u (.bool (zfE s))) := by
 cases s with
 | nil =>
  refine Fun.run Tryz.func133 Tryz.ntmps133 Tryz.results133 rfl (by simp) fun Γ hn => ?_
  repeat' (first
  | (refine zaf rfl ?_; simp)
  | fail)
  all_goals
   (refine Pst.of ?_; simp)
  all_goals simp [zfE]
 | cons c s =>
  by_cases hl : s.length + 1 <= 20
  ·have h1 := zhz c;by_cases hc1 : zcn c = true
   ·rw [hc1] at h1;refine Fun.run Tryz.func133 Tryz.ntmps133 Tryz.results133 rfl (by simp) fun Γ hn => ?_
    repeat' (first
  | (refine Cnd.of (fun hc => ?_) (fun hc => ?_) <;> (try (exfalso; omega)) <;> (try simp))
  | (refine zaf rfl ?_; simp)
  | (refine CallP.f2 rfl (h1) (by first | simp <;> rfl | fail) ?_; simp)
  | fail)
    refine zcs (α := { i : Nat // 1 <= i /\ i <= (c :: s).length /\ ∀ x ∈ (c :: s).take i, (zcn x || zav x) = true }) [0] (fun i => [(3, .u (.int .i64 i.1))]) (fun i => (c :: s).length - i.1) ⟨1, by omega, by simp, by simp [hc1]⟩ ?_ ?_
    ·exact (Wk.env rfl rfl rfl (by simp [wkE, St.lp, zaA, zaa, getK] <;> (try (intros; simp_all; done)) <;> (try (intros; omega)) <;> (try grind)))
    rintro ⟨i, h0, hi, hb⟩;simp;rcases hx : (c :: s)[i]? with _ | y
    ·have hge : (c :: s).length <= i := by simpa using hx
     simp only [List.length_cons] at hge hi
     repeat' (first
  | (refine Cnd.of (fun hc => ?_) (fun hc => ?_) <;> (try (exfalso; omega)) <;> (try simp [hx]))
  | (refine zaf rfl ?_; simp [hx])
  | fail)
     (refine Pst.of ?_; simp)
     rw [List.take_of_length_le (by simpa using hge)] at hb;have h2 := zhc (p := fun c => zcn c || zav c) (l := c :: s) (i := (c :: s).length) (by rw [List.take_length]; exact hb) (Nat.le_refl _) (.inl rfl);simp only [zfE, hc1, h2];simp; omega
    ·have hlt := (List.getElem?_eq_some_iff.1 hx).1;have h2 := zhz y;have h3 := znF y;simp only [List.length_cons] at hlt hi;generalize hyl : zcn y = yl at h2;generalize hyd : zav y = yd at h3
     repeat' (first
  | (refine Cnd.of (fun hc => ?_) (fun hc => ?_) <;> (try (exfalso; omega)) <;> (try simp [hx]))
  | (refine zaf rfl ?_; simp [hx])
  | (refine And.intro (by omega) ?_)
  | ((first | refine CallP.f2 rfl (h2) (by first | simp [hx] <;> rfl | fail) ?_ | refine CallP.f2 rfl (h3) (by first | simp [hx] <;> rfl | fail) ?_ | fail); simp [hx])
  | fail)
     all_goals first
      | (refine LoopW.next ⟨i + 1, by omega, by simp; omega, zca hx hb (by simp_all)⟩ (by simp; omega) ?_; exact (Wk.env rfl rfl rfl (by simp [wkE, St.lp, zaA, zaa, getK] <;> (try (intros; simp_all; done)) <;> (try (intros; omega)) <;> (try grind))))
      | ((refine Pst.of ?_; simp)
         have h4 := zhc (p := fun c => zcn c || zav c) (l := c :: s) (i := i) hb (by simp; omega) (.inr ⟨y, hx, by simp_all⟩);simp only [zfE, hc1, h4];simp; omega)
   ·rw [Bool.not_eq_true] at hc1;rw [hc1] at h1;refine Fun.run Tryz.func133 Tryz.ntmps133 Tryz.results133 rfl (by simp) fun Γ hn => ?_
    repeat' (first
  | (refine Cnd.of (fun hc => ?_) (fun hc => ?_) <;> (try (exfalso; omega)) <;> (try simp))
  | (refine zaf rfl ?_; simp)
  | (refine CallP.f2 rfl (h1) (by first | simp <;> rfl | fail) ?_; simp)
  | fail)
    all_goals
     (refine Pst.of ?_; simp)
    all_goals simp [zfE, hc1]
  ·refine Fun.run Tryz.func133 Tryz.ntmps133 Tryz.results133 rfl (by simp) fun Γ hn => ?_
   repeat' (first
  | (refine Cnd.of (fun hc => ?_) (fun hc => ?_) <;> (try (exfalso; omega)) <;> (try simp))
  | (refine zaf rfl ?_; simp)
  | fail)
   all_goals
    (refine Pst.of ?_; simp)
   all_goals
    simp [zfE]
    try omega
set_option maxHeartbeats 4000000 in
set_option maxRecDepth 100000 in
theorem zjk : Fun Tryz.prog 132 [] (· = .u (zlJ words)) := by
 refine Fun.runW Tryz.func132 Tryz.ntmps132 rfl (by simp) fun Γ hn => ?_; simp only [entry, List.zipIdx_cons, List.zipIdx_nil, List.map_cons, List.map_nil, Nat.zero_add];simp only [zlJ, words, List.map_cons, List.map_nil]
 repeat' (first
  | (refine zaf rfl ?_; simp [zbc, za6])
  | fail)
 (refine EndW.frzN 1 ?_; simp [del])
 refine EndW.here ?_
 (refine EndOK.val (.inr rfl) ?_; simp [Tryz.results132])
set_option maxRecDepth 100000 in
theorem zko (s : List UInt8) : Fun Tryz.prog 89 [.u (.str s)] (· = .u (.bool (zfa s))) := by
 have h2 := zo2 s;have h3 := zjk;simp only [zlJ] at h3;unfold zfa;generalize hW : words = W at h3 ⊢;have hWl : W.length = 35 := by rw [<- hW]; rfl
 clear hW;refine Fun.run Tryz.func89 Tryz.ntmps89 Tryz.results89 rfl (by simp) fun Γ hn => ?_
 repeat' (first
  | (refine zaf rfl ?_; simp)
  | (refine CallP.f2 rfl (h3) (by first | simp <;> rfl | fail) ?_; simp)
  | fail)
 refine zcs (α := { i : Nat // i <= W.length /\ ∀ x ∈ W.take i, ¬ x = s }) [0, 3] (fun i => [(4, .u (.int .i64 i.1))]) (fun i => W.length - i.1) ⟨0, by omega, by simp⟩ ?_ ?_
 ·exact (Wk.env rfl rfl rfl (by simp [wkE, St.lp, zaA, zaa, getK] <;> (try (intros; simp_all; done)) <;> (try (intros; omega)) <;> (try grind)))
 rintro ⟨i, hi, hb⟩;simp;rcases hx : W[i]? with _ | y
 ·have hge : W.length <= i := by simpa using hx
  repeat' (first
  | (refine Cnd.of (fun hc => ?_) (fun hc => ?_) <;> (try (exfalso; omega)) <;> (try simp [hx]))
  | (refine zaf rfl ?_; simp [hx])
  | (refine CallP.f2 rfl (h2) (by first | simp [hx] <;> rfl | fail) ?_; simp [hx])
  | fail)
  (refine Pst.of ?_; simp)
  rw [List.take_of_length_le hge] at hb;have : s ∉ W := fun h => hb s h rfl;simp [this]
 ·have hlt := (List.getElem?_eq_some_iff.1 hx).1
  repeat' (first
  | (refine Cnd.of (fun hc => ?_) (fun hc => ?_) <;> (try (exfalso; omega)) <;> (try simp [hx]))
  | (refine zaf rfl ?_; simp [hx])
  | (refine And.intro (by omega) ?_)
  | fail)
  ·(refine Pst.of ?_; simp)
   have : s ∈ W := by
     have h5 := List.mem_of_getElem? hx;simp_all
   simp [this]
  ·refine LoopW.next ⟨i + 1, by omega, zca hx hb (by assumption)⟩ (by simp; omega) ?_
   exact (Wk.env rfl rfl rfl (by simp [wkE, St.lp, zaA, zaa, getK] <;> (try (intros; simp_all; done)) <;> (try (intros; omega)) <;> (try grind)))
theorem ziA : ∀ (d : Nat) (e : Exp), (d : Int) <= 100 -> Fun Tryz.prog 69 [zce e, .u (.int .i64 d)] (· = .u (.bool (zaL d e)))
 | 0, e, _ => by
  refine Fun.run Tryz.func69 Tryz.ntmps69 Tryz.results69 rfl (by simp) fun Γ hn => ?_; simp only [entry, List.zipIdx_cons, List.zipIdx_nil, List.map_cons, List.map_nil, Nat.zero_add];simp only [zce]
  repeat' (first
  | (refine zaf rfl ?_; simp)
  | fail)
  (refine Pst.of ?_; simp)
  rfl
 | d + 1, e, hd => by
  by_cases hop : 0 <= e.op /\ e.op < 14
  case neg =>
   have hf : zaL (d + 1) e = false := by
    rw [zaL];have : ¬ ((e.args.length : Int) = zaO e.op) := by
     unfold zaO;split
     ·omega
     ·split
      ·omega
      ·split
       ·omega
       ·rw [if_pos (by omega)]; omega
    simp [this]
   rw [hf];refine Fun.run Tryz.func69 Tryz.ntmps69 Tryz.results69 rfl (by simp) fun Γ hn => ?_; simp only [entry, List.zipIdx_cons, List.zipIdx_nil, List.map_cons, List.map_nil, Nat.zero_add];simp only [zce]
   repeat' (first
  | (refine Cnd.of (fun hc => ?_) (fun hc => ?_) <;> (try (exfalso; omega)) <;> (try simp))
  | (refine zaf rfl ?_; simp)
  | fail)
   all_goals
    (refine Pst.of ?_; simp)
  obtain ⟨hop1, hop2⟩ := hop;by_cases h0 : e.op = 0
  ·have hs : zaL (d + 1) e = (decide (e.args.length = 0) && zuS e) := by
    rw [zaL, h0]; simp [zaO]
   rw [hs];unfold zuS;refine Fun.run Tryz.func69 Tryz.ntmps69 Tryz.results69 rfl (by simp) fun Γ hn => ?_; simp only [entry, List.zipIdx_cons, List.zipIdx_nil, List.map_cons, List.map_nil, Nat.zero_add];simp only [zce]
   repeat' (first
  | (refine Cnd.of (fun hc => ?_) (fun hc => ?_) <;> (try (exfalso; omega)) <;> (try simp [h0]))
  | (refine zaf rfl ?_; simp [h0])
  | fail)
   all_goals
    (refine Pst.of ?_; simp)
   all_goals (first | (simp_all; done) | grind)
  by_cases h1 : e.op = 1
  ·have hs : zaL (d + 1) e = (decide (e.args.length = 0) && (decide (e.n = 0) && decide (e.unit = 0)) && zfa e.s) := by
    rw [zaL, h1];simp [zaO];by_cases hn : e.n = 0 <;> by_cases hu : e.unit = 0 <;> simp [hn, hu]
   have h2 := zko e.s;rw [hs];generalize zfa e.s = b at h2 ⊢;refine Fun.run Tryz.func69 Tryz.ntmps69 Tryz.results69 rfl (by simp) fun Γ hn => ?_; simp only [entry, List.zipIdx_cons, List.zipIdx_nil, List.map_cons, List.map_nil, Nat.zero_add];simp only [zce]
   repeat' (first
  | (refine Cnd.of (fun hc => ?_) (fun hc => ?_) <;> (try (exfalso; omega)) <;> (try simp [h0, h1]))
  | (refine zaf rfl ?_; simp [h0, h1])
  | (refine CallP.f2 rfl (h2) (by first | simp [h0, h1] <;> rfl | fail) ?_; simp [h0, h1])
  | fail)
   all_goals
    (refine Pst.of ?_; simp)
   all_goals (clear h2; first | (simp_all; done) | grind)
  have hs : zaL (d + 1) e = (decide ((e.args.length : Int) = zaO e.op) && (decide (e.n = 0) && decide (e.unit = 0)) && decide (e.s = []) && e.args.all (zaL d)) := by
   rw [zaL, if_neg h0, if_neg h1];have : (!e.args.any fun x => !zaL d x) = e.args.all (zaL d) := by simp [List.all_eq_not_any_not]
   rw [this];by_cases hn : e.n = 0 <;> by_cases hu : e.unit = 0 <;> simp [hn, hu, Bool.and_assoc]
  rw [hs];clear hs;have hk : ∀ k : Int, zaO e.op = k -> True := fun _ _ => trivial;by_cases h12 : e.op = 12
  all_goals by_cases h13 : e.op = 13
  all_goals try (exfalso; omega)
  all_goals
   first
    | (have hopr : zaO e.op = 1 := by first | (rw [h12]; rfl; done) | fail)
    | (have hopr : zaO e.op = 3 := by first | (rw [h13]; rfl; done) | fail)
    | (have hopr : zaO e.op = 2 := by
        unfold zaO;rw [if_neg (by omega), if_neg h12, if_neg h13, if_neg (by omega)])
   rw [hopr];refine Fun.run Tryz.func69 Tryz.ntmps69 Tryz.results69 rfl (by simp) fun Γ hn => ?_; simp only [entry, List.zipIdx_cons, List.zipIdx_nil, List.map_cons, List.map_nil, Nat.zero_add];simp only [zce]
   repeat' (first
  | (refine Cnd.of (fun hc => ?_) (fun hc => ?_) <;> (try (exfalso; omega)) <;> (try simp [h0, h1, h12, h13]))
  | (refine zaf rfl ?_; simp [h0, h1, h12, h13])
  | fail)
   all_goals try ((refine Pst.of ?_; simp); first | (simp_all; done) | (grind))
   all_goals
    refine zcs (α := { i : Nat // i <= e.args.length /\ ∀ x ∈ e.args.take i, zaL d x = true }) [1, 2] (fun i => [(6, .u (.int .i64 i.1))]) (fun i => e.args.length - i.1) ⟨0, by omega, by simp⟩ ?_ ?_
    ·exact (Wk.zda (by simp [hn] <;> grind))
    rintro ⟨i, hi, hb⟩;simp;rcases hx : e.args[i]? with _ | x
    ·have hge : e.args.length <= i := by simpa using hx
     obtain rfl : i = e.args.length := by omega
     rw [List.take_length] at hb;have hall : e.args.all (zaL d) = true := List.all_eq_true.2 hb
     repeat' (first
  | (refine zaf rfl ?_; simp [hx])
  | fail)
     (refine Pst.of ?_; simp)
     simp_all
    ·have hlt : i < e.args.length := (List.getElem?_eq_some_iff.1 hx).1;have h5 := ziA d x (by omega);simp only [zce] at h5;cases hrx : zaL d x
     ·rw [hrx] at h5;have hall : e.args.all (zaL d) = false := by
       rw [List.all_eq_false];exact ⟨x, List.mem_of_getElem? hx, by simp [hrx]⟩
      repeat' (first
  | (refine Cnd.of (fun hc => ?_) (fun hc => ?_) <;> (try (exfalso; omega)) <;> (try simp [hx, x.row_eq]))
  | (refine zaf rfl ?_; simp [hx, x.row_eq])
  | (refine And.intro (by omega) ?_)
  | (refine CallP.f2 rfl (h5) (by first | simp [hx, x.row_eq] <;> rfl | fail) ?_; simp [hx, x.row_eq])
  | fail)
      (refine Pst.of ?_; simp)
      simp_all
     ·rw [hrx] at h5
      repeat' (first
  | (refine Cnd.of (fun hc => ?_) (fun hc => ?_) <;> (try (exfalso; omega)) <;> (try simp [hx, x.row_eq]))
  | (refine zaf rfl ?_; simp [hx, x.row_eq])
  | (refine And.intro (by omega) ?_)
  | (refine CallP.f2 rfl (h5) (by first | simp [hx, x.row_eq] <;> rfl | fail) ?_; simp [hx, x.row_eq])
  | fail)
      refine LoopW.next ⟨i + 1, by omega, zca hx hb hrx⟩ (by simp; omega) ?_
      exact (Wk.zda (by simp [hn] <;> grind))
theorem zd5 (e : Exp) : Fun Tryz.prog 39 [zce e] (· = .u (.bool (zaL 12 e))) := by
 have h1 := ziA 12 e (by omega);simp only [zce] at h1 ⊢;refine Fun.run Tryz.func39 Tryz.ntmps39 Tryz.results39 rfl (by simp) fun Γ hn => ?_
 repeat' (first
  | (refine zaf rfl ?_; simp)
  | (refine CallP.f2 rfl (h1) (by first | simp <;> rfl | fail) ?_; simp)
  | fail)
 (refine Pst.of ?_; simp)
def zg7 {β : Type} : List (List UInt8 × β) -> List UInt8 -> Option β
 | [], _ => none
 | p :: l, n => match zg7 l n with | some r => some r | none => if p.1 = n then some p.2 else none
theorem ziP {β : Type} {l : List (List UInt8 × β)} {n : List UInt8} (h : ∀ x ∈ l, ¬ x.1 = n) : zg7 l n = none := by
 induction l with
 | nil => rfl
 | cons a l ih => rw [zg7, ih fun x hx => h x (by simp [hx])]; simp only; rw [if_neg (h a (by simp))]
theorem zrp {β : Type} {l : List (List UInt8 × β)} {i : Nat} {p : List UInt8 × β} {n : List UInt8} (h : ∀ x ∈ l.drop (i + 1), ¬ x.1 = n) (hx : l[i]? = some p) (hn : p.1 = n) : zg7 l n = some p.2 := by
 induction l generalizing i with
 | nil => simp at hx
 | cons a l ih =>
  cases i with
  | zero =>
   simp at hx; subst hx;rw [zg7, ziP (by simpa using h)];simp [hn]
  | succ i => rw [zg7, ih (i := i) (by simpa using h) (by simpa using hx)]
theorem zp2 {α : Type} {p : α -> Prop} {l : List α} {k : Nat} {x : α} (hx : l[k]? = some x) (h : ∀ c ∈ l.drop (k + 1), p c) (hp : p x) : ∀ c ∈ l.drop k, p c := by
 obtain ⟨hi, rfl⟩ := List.getElem?_eq_some_iff.1 hx;rw [List.drop_eq_getElem_cons hi];intro c hc;rcases List.mem_cons.1 hc with rfl | hc
 ·exact hp
 ·exact h c hc
theorem znC (lets : List Let) (e : Exp) : Fun Tryz.prog 113 [.u (zaz lets), zce e] (· = .u (.bool (zcm lets e))) := by
 have h1 := zd5 e;simp only [zce] at h1 ⊢;unfold zcm;generalize hre : zaL 12 e = re at h1 ⊢;generalize hrl : (lets.any fun l => !zaL 12 l.body) = rl;refine Fun.run Tryz.func113 Tryz.ntmps113 Tryz.results113 rfl (by simp) fun Γ hn => ?_; simp only [entry, List.zipIdx_cons, List.zipIdx_nil, List.map_cons, List.map_nil, Nat.zero_add];simp only [zaz]
 repeat' (first
  | (refine Cnd.of (fun hc => ?_) (fun hc => ?_) <;> (try (exfalso; omega)) <;> (try simp))
  | (refine zaf rfl ?_; simp)
  | fail)
 all_goals try ((refine Pst.of ?_; simp); have h20 : ¬ lets.length <= 20 := (by first | omega | fail); simp [h20]; done)
 refine zcs (α := { i : Nat // i <= lets.length /\ ∀ x ∈ lets.take i, zaL 12 x.body = true }) [0, 3] (fun i => [(5, .u (.int .i64 i.1))]) (fun i => lets.length - i.1) ⟨0, by omega, by simp⟩ ?_ ?_
 ·exact (Wk.zda (by simp [hn] <;> grind))
 rintro ⟨i, hi, hb⟩;simp;rcases hx : lets[i]? with _ | l
 ·have hge : lets.length <= i := by simpa using hx
  obtain rfl : i = lets.length := by omega
  rw [List.take_length] at hb;have hall : rl = false := by
   rw [<- hrl, List.any_eq_false];intro x hx;simp [hb x hx]
  have h20 : lets.length <= 20 := by omega
  repeat' (first
  | (refine zaf rfl ?_; simp [hx])
  | (refine CallP.f2 rfl (h1) (by first | simp [hx] <;> rfl | fail) ?_; simp [hx])
  | fail)
  (refine Pst.of ?_; simp)
  simp [hall, h20]
 ·have hlt : i < lets.length := (List.getElem?_eq_some_iff.1 hx).1;have h5 := zd5 l.body;simp only [zce] at h5;cases hrx : zaL 12 l.body
  ·rw [hrx] at h5;have hall : rl = true := by
    rw [<- hrl, List.any_eq_true];exact ⟨l, List.mem_of_getElem? hx, by simp [hrx]⟩
   repeat' (first
  | (refine Cnd.of (fun hc => ?_) (fun hc => ?_) <;> (try (exfalso; omega)) <;> (try simp [hx]))
  | (refine zaf rfl ?_; simp [hx])
  | (refine CallP.f2 rfl (h5) (by first | simp [hx] <;> rfl | fail) ?_; simp [hx])
  | fail)
   (refine Pst.of ?_; simp)
   simp [hall]
  ·rw [hrx] at h5
   repeat' (first
  | (refine Cnd.of (fun hc => ?_) (fun hc => ?_) <;> (try (exfalso; omega)) <;> (try simp [hx]))
  | (refine zaf rfl ?_; simp [hx])
  | (refine And.intro (by omega) ?_)
  | (refine CallP.f2 rfl (h5) (by first | simp [hx] <;> rfl | fail) ?_; simp [hx])
  | fail)
   refine LoopW.next ⟨i + 1, by omega, zca hx hb hrx⟩ (by simp; omega) ?_
   exact (Wk.zda (by simp [hn] <;> grind))
abbrev SB := List (List UInt8 × Bool)
def bF (sh : SB) : List UInt8 -> Bool := fun n => (zg7 sh n).getD false
theorem zd7 (sh : SB) (hlen : sh.length <= 1000) : ∀ (d : Nat) (e : Exp), zaL d e = true -> Fun Tryz.prog 114 [.u (.sl (sh.map fun p => [.str p.1])), .u (.sl (sh.map fun p => [.bool p.2])), zce e] (· = .u (.bool (zbY (bF sh) e)))
 | 0, e, h => by simp [zaL] at h
 | d + 1, e, h => by
  obtain ⟨h1, h2, h3, h4⟩ := zdf h;rw [zkm];by_cases h0 : e.op = 0
  ·rw [if_pos h0];refine Fun.run Tryz.func114 Tryz.ntmps114 Tryz.results114 rfl (by simp) fun Γ hn => ?_; simp only [entry, List.zipIdx_cons, List.zipIdx_nil, List.map_cons, List.map_nil, Nat.zero_add];simp only [zce]
   repeat' (first
  | (refine zaf rfl ?_; simp [h0])
  | fail)
   (refine Pst.of ?_; simp)
  rw [if_neg h0];by_cases hnm : e.op = 1
  ·rw [if_pos hnm];refine Fun.run Tryz.func114 Tryz.ntmps114 Tryz.results114 rfl (by simp) fun Γ hn => ?_; simp only [entry, List.zipIdx_cons, List.zipIdx_nil, List.map_cons, List.map_nil, Nat.zero_add];simp only [zce]
   repeat' (first
  | (refine zaf rfl ?_; simp [h0, hnm])
  | (refine And.intro (by omega) ?_)
  | fail)
   refine zcs (α := { k : Nat // k <= sh.length /\ ∀ x ∈ sh.drop k, ¬ x.1 = e.s }) [0, 1, 5, 13] (fun k => [(7, .u (.int .i64 ((k.1 : Int) - 1)))]) (fun k => k.1) ⟨sh.length, by omega, by simp⟩ ?_ ?_
   ·exact (Wk.zda (by simp [hn] <;> grind))
   rintro ⟨k, hk, hd⟩;simp;cases k with
   | zero =>
    rw [List.drop_zero] at hd;have hl := ziP hd
    repeat' (first
  | (refine zaf rfl ?_; simp)
  | fail)
    (refine Pst.of ?_; simp)
    simp [bF, hl]
   | succ k =>
    obtain ⟨p, hp⟩ : ∃ p, sh[k]? = some p := ⟨sh[k], List.getElem?_eq_getElem (by omega)⟩;have ek : ((k + 1 : Nat) : Int) - 1 = k := by omega
    rw [ek];by_cases hpn : p.1 = e.s
    ·have hl := zrp hd hp hpn
     repeat' (first
  | (refine zaf rfl ?_; simp [hp, hpn])
  | (refine ⟨hC _ (by kernel_rfl), hk _ (zeI 8 _ _ _ ?_)⟩; clear hC hk C k; simp [hp, hpn])
  | (refine zeH rfl (by kernel_rfl) (by first | (simp [hn]; done) | (simp [hn]; omega) | fail) fun C k hC hk => ?_; simp [hp, hpn])
  | fail)
     (refine Pst.of ?_; simp)
     simp [bF, hl]
    ·repeat' (first
  | (refine zaf rfl ?_; simp [hp, hpn])
  | (refine And.intro (by omega) ?_)
  | (refine ⟨hC _ (by kernel_rfl), hk _ (zeI 8 _ _ _ ?_)⟩; clear hC hk C k; simp [hp, hpn])
  | (refine zeH rfl (by kernel_rfl) (by first | (simp [hn]; done) | (simp [hn]; omega) | fail) fun C k hC hk => ?_; simp [hp, hpn])
  | fail)
     refine LoopW.next ⟨k, by omega, zp2 hp hd hpn⟩ (by simp) ?_
     exact (Wk.zda (by simp [hn] <;> grind))
  rw [if_neg hnm];have hr := h4 h0 hnm;by_cases hA : e.op = 2 \/ e.op = 3 \/ e.op = 6 \/ e.op = 7
  ·rw [if_pos hA];have hl : e.args.length = 2 := by
    rcases hA with ha | ha | ha | ha <;> rw [ha] at h1 <;> simp [zaO] at h1 <;> omega
   obtain ⟨a, b, hab⟩ : ∃ a b, e.args = [a, b] := by
    match hq : e.args, hl with
    | [a, b], _ => exact ⟨a, b, rfl⟩
   have h5 := zd7 sh hlen d a (hr a (by simp [hab]));simp only [zce] at h5;rw [hab, zdl];rcases hA with ha | ha | ha | ha
   all_goals
    refine Fun.run Tryz.func114 Tryz.ntmps114 Tryz.results114 rfl (by simp) fun Γ hn => ?_; simp only [entry, List.zipIdx_cons, List.zipIdx_nil, List.map_cons, List.map_nil, Nat.zero_add];simp only [zce]
    repeat' (first
  | (refine zaf rfl ?_; simp [ha, hab, a.row_eq, b.row_eq])
  | (refine CallP.f2 rfl (h5) (by first | simp [ha, hab, a.row_eq, b.row_eq] <;> rfl | fail) ?_; simp [ha, hab, a.row_eq, b.row_eq])
  | fail)
    (refine Pst.of ?_; simp)
  rw [if_neg hA];by_cases hB : e.op = 4
  ·rw [if_pos hB];have hl : e.args.length = 2 := by rw [hB] at h1; simp [zaO] at h1; omega
   obtain ⟨a, b, hab⟩ : ∃ a b, e.args = [a, b] := by
    match hq : e.args, hl with
    | [a, b], _ => exact ⟨a, b, rfl⟩
   have h5 := zd7 sh hlen d a (hr a (by simp [hab]));have h6 := zd7 sh hlen d b (hr b (by simp [hab]));simp only [zce] at h5 h6;rw [hab, zdl, zdl, zdl];generalize zbY (bF sh) a = x1 at h5 ⊢;generalize zbY (bF sh) b = x2 at h6 ⊢;refine Fun.run Tryz.func114 Tryz.ntmps114 Tryz.results114 rfl (by simp) fun Γ hn => ?_; simp only [entry, List.zipIdx_cons, List.zipIdx_nil, List.map_cons, List.map_nil, Nat.zero_add];simp only [zce]
   repeat' (first
  | (refine Cnd.of (fun hc => ?_) (fun hc => ?_) <;> (try (exfalso; omega)) <;> (try simp [hB, hab, a.row_eq, b.row_eq]))
  | (refine zaf rfl ?_; simp [hB, hab, a.row_eq, b.row_eq])
  | ((first | refine CallP.f2 rfl (h5) (by first | simp [hB, hab, a.row_eq, b.row_eq] <;> rfl | fail) ?_ | refine CallP.f2 rfl (h6) (by first | simp [hB, hab, a.row_eq, b.row_eq] <;> rfl | fail) ?_ | fail); simp [hB, hab, a.row_eq, b.row_eq])
  | fail)
   all_goals
    (refine Pst.of ?_; simp)
   all_goals (simp_all; done)
  rw [if_neg hB];by_cases hC : e.op = 13
  ·rw [if_pos hC];have hl : e.args.length = 3 := by rw [hC] at h1; simp [zaO] at h1; omega
   obtain ⟨a, b, c, hab⟩ : ∃ a b c, e.args = [a, b, c] := by
    match hq : e.args, hl with
    | [a, b, c], _ => exact ⟨a, b, c, rfl⟩
   have h5 := zd7 sh hlen d b (hr b (by simp [hab]));simp only [zce] at h5;rw [hab, zdl, zdl];refine Fun.run Tryz.func114 Tryz.ntmps114 Tryz.results114 rfl (by simp) fun Γ hn => ?_; simp only [entry, List.zipIdx_cons, List.zipIdx_nil, List.map_cons, List.map_nil, Nat.zero_add];simp only [zce]
   repeat' (first
  | (refine zaf rfl ?_; simp [hC, hab, a.row_eq, b.row_eq, c.row_eq])
  | (refine CallP.f2 rfl (h5) (by first | simp [hC, hab, a.row_eq, b.row_eq, c.row_eq] <;> rfl | fail) ?_; simp [hC, hab, a.row_eq, b.row_eq, c.row_eq])
  | fail)
   (refine Pst.of ?_; simp)
  rw [if_neg hC];have hD : ¬ e.op = 2 /\ ¬ e.op = 3 /\ ¬ e.op = 6 /\ ¬ e.op = 7 := by omega
  refine Fun.run Tryz.func114 Tryz.ntmps114 Tryz.results114 rfl (by simp) fun Γ hn => ?_; simp only [entry, List.zipIdx_cons, List.zipIdx_nil, List.map_cons, List.map_nil, Nat.zero_add];simp only [zce]
  repeat' (first
  | (refine zaf rfl ?_; simp [h0, hnm, hB, hC, hD.1, hD.2.1, hD.2.2.1, hD.2.2.2])
  | fail)
  (refine Pst.of ?_; simp)
def zlL (lets : List Let) : SB := lets.foldl (fun sh l => sh ++ [(l.name, zbY (bF sh) l.body)]) []
theorem zo0 {lets : List Let} {i : Nat} {l : Let} (h : lets[i]? = some l) : zlL (lets.take (i + 1)) = zlL (lets.take i) ++ [(l.name, zbY (bF (zlL (lets.take i))) l.body)] := ziX _ _ h
theorem zmH (lets : List Let) : (zlL lets).length = lets.length := by
 unfold zlL;have : ∀ (l : List Let) (s : SB), (l.foldl (fun sh l => sh ++ [(l.name, zbY (bF sh) l.body)]) s).length = s.length + l.length := by
  intro l
  induction l with
  | nil => intro s; simp
  | cons a l ih => intro s; rw [List.foldl_cons, ih]; simp; omega
 simpa using this lets []
def zmG (lets : List Let) (e : Exp) : Bool := zcm lets e && zbY (bF (zlL lets)) e
theorem zgx {lets : List Let} {e : Exp} (h : zcm lets e = true) : lets.length <= 20 /\ zaL 12 e = true /\ ∀ l ∈ lets, zaL 12 l.body = true := by
 simp only [zcm, Bool.and_eq_true, decide_eq_true_eq, Bool.not_eq_true', List.any_eq_false] at h;exact ⟨h.1.1, h.1.2, fun l hl => by simpa using h.2 l hl⟩
theorem znH (lets : List Let) (e : Exp) : Fun Tryz.prog 73 [.u (zaz lets), zce e] (· = .u (.bool (zmG lets e))) := by
 have h1 := znC lets e;have hra := zgx (lets := lets) (e := e);simp only [zce, zaz] at h1 ⊢;unfold zmG;generalize zcm lets e = ra at h1 hra ⊢;refine Fun.run Tryz.func73 Tryz.ntmps73 Tryz.results73 rfl (by simp) fun Γ hn => ?_; simp only [entry, List.zipIdx_cons, List.zipIdx_nil, List.map_cons, List.map_nil, Nat.zero_add];cases ra
 ·repeat' (first
  | (refine zaf rfl ?_; simp)
  | (refine CallP.f2 rfl (h1) (by first | simp <;> rfl | fail) ?_; simp)
  | fail)
  (refine Pst.of ?_; simp)
 obtain ⟨h20, hre, hrl⟩ := hra rfl
 repeat' (first
  | (refine zaf rfl ?_; simp)
  | (refine CallP.f2 rfl (h1) (by first | simp <;> rfl | fail) ?_; simp)
  | fail)
 refine zlG _ (Wk.own 5 9 1 (by decide) rfl) ?_;simp [St.own];refine zlG _ (Wk.own 6 4 1 (by decide) rfl) ?_;simp [St.own];refine zb8 (α := { i : Nat // i <= lets.length }) [0, 3] (fun i => [(5, .vec 1 i.1), (6, .vec 2 i.1), (7, .u (.int .i64 i.1))])
  (fun i => [(1, .vec 9 1 (rowsD ((zlL (lets.take i.1)).map fun p => [U.str p.1]))), (2, .vec 4 1 (rowsD ((zlL (lets.take i.1)).map fun p => [U.bool p.2]))), (0, .box [.u (.int .i64 e.op), .u (.int .i64 e.n), .u (.int .i64 e.unit), .u (.str e.s), .u (.sl (e.args.map Exp.row))])]) 3
  (fun i => lets.length - i.1) ⟨0, by omega⟩ ?_ ?_
 ·exact (Wk.ren ((fun i => i)) rfl (by first | (simp [hn]; done) | (intro i hi; rw [hn] at hi; constructor <;> (try simp) <;> (try (intro _)) <;> omega)) (by simp [zee, St.lp, zaA, zaa, getK, zac, zad, D.under, D.le, D.ren, zlL] <;> (try (intros; simp_all; done)) <;> (try omega)) (by simp [wkR, St.lp, zaa, getK, zac, zad, obR, leU, zaN, zan, Ob.under, D.under, D.le, D.ren, zlL] <;> (try (intros; simp_all; done)) <;> (try omega)) (by simp [zlL]))
 rintro ⟨k, hk⟩;simp;have hsl := zmH (lets.take k);rw [List.length_take, Nat.min_eq_left hk] at hsl;rcases hy : lets[k]? with _ | l
 ·have hgk : lets.length <= k := by simpa using hy
  obtain rfl : k = lets.length := by omega
  have h5 := zd7 (zlL lets) (by rw [zmH]; omega) 12 e hre;simp only [zce] at h5;rw [List.take_length] at hsl
  repeat' (first
  | (refine zaf rfl ?_; simp [hy, hsl])
  | (refine CallP.f2 rfl (h5) (by first | simp [hy, hsl] <;> rfl | fail) ?_; simp [hy, hsl])
  | fail)
  (refine Pst.of ?_; simp)
 ·have hlk : k < lets.length := (List.getElem?_eq_some_iff.1 hy).1;have hsu := zo0 hy;have h5 := zd7 (zlL (lets.take k)) (by rw [hsl]; omega) 12 l.body (hrl l (List.mem_of_getElem? hy));simp only [zce] at h5;generalize zbY (bF (zlL (lets.take k))) l.body = r at h5 hsu
  repeat' (first
  | (refine Cnd.of (fun hc => ?_) (fun hc => ?_) <;> (try (exfalso; omega)) <;> (try simp [hy, hsl]))
  | (refine zaf rfl ?_; simp [hy, hsl])
  | (refine And.intro (by omega) ?_)
  | (refine CallP.f2 rfl (h5) (by first | simp [hy, hsl] <;> rfl | fail) ?_; simp [hy, hsl])
  | fail)
  refine LoopW.next ⟨k + 1, by omega⟩ (by simp; omega) ?_
  exact (Wk.ren ((fun i => if i = 1 then 4 else if i = 2 then 6 else i)) rfl (by first | (simp [hn]; done) | (intro i hi; rw [hn] at hi; constructor <;> (try simp) <;> (try (intro _)) <;> omega)) (by simp [zee, St.lp, zaA, zaa, getK, zac, zad, D.under, D.le, D.ren, hsu] <;> (try (intros; simp_all; done)) <;> (try omega)) (by simp [wkR, St.lp, zaa, getK, zac, zad, obR, leU, zaN, zan, Ob.under, D.under, D.le, D.ren, hsu] <;> (try (intros; simp_all; done)) <;> (try omega)) (by simp [hsu]))
end Go.Proofs.YtkdhmbhbbciedaaGreatDoor
namespace Go.Proofs.YtkdhmbhbbciedaaGreatDoor
open Go Go.VL
section
attribute [local simp] zba zcP zb4 evPure opd uOf zat St.put St.at getK binD binI binS binB nilD aggD ze5 zfC lookD lookR zbZ rangeS Go.VL.nextD Go.VL.nextS zb1 zfI zfF ze0 zci mkV zbb zcX zaW za9 mapEff zdX zeK Key.kk shiftI arith unD convD zdg loadD cellsAt fieldAddrD fieldD indexAddrD indexSlD arrAddr indexD sliceD cutD lenD minmaxD nilCheckD buildD fillD zbu zcQ zek setAll zcI zed zbU ze3 zbR St.add zaq zbe rowsOf zcY zco zad zac zaa za5 zcH zaS entry za6 zbc valD zb7 zcG ze4 zcV zcW zbz zbv zag zaM za8 delAll effD St.effS zck zaJ zaw zcl zaK zay zbr zax zas zbs zch za7 zbq zaU zbp zai mkD zb3 zbg zbk zag zb6 D.ids Op.operands Call.operands zbj makeIfD makeFuncD typeAssertD zfB zc2 zc4 zfn zb0 IntKind.bits zb5 zam List.take_of_length_le List.range_succ zcA zbJ zcB zcu zbf zbA zbC zcv zbE za0 zbD zbB zgo zbI zcy zaQ zaB zcz zaR zaD zbH zaC zau zcE zcF zfZ zab frzN frz1 zaH zaG St.frz St.frzS frzS fv zbh zbx zbM zaI zar zal frz zbN za1 za2 zbt zbP zbQ zaV St.norm St.lp St.only zaA wkE wkO wkU Ob.under D.under zak zap zcC zbK zcD h4s zdt zao zaY List.zipIdx_cons List.zipIdx_nil List.map_cons List.map_nil Nat.zero_add
attribute [local irreducible] V G H HD HD2 zaX Eff CallP CallV EndOK Fun Ret FinOK LoopI LoopW EndW HR vs2 RN Cnd H4
end
end Go.Proofs.YtkdhmbhbbciedaaGreatDoor
namespace Go.VL
theorem zsJ {P : Program} {Γ : Ctx} {c : Code} {s : St} {Q : Exit -> St -> Prop} {x j : Nat} {cells : List U} {rows : List (List U)} (hx : getK s.env x = some (.u (.agg cells))) (hj : cells[j]? = some (.sl rows)) (h : rows.length <= 9223372036854775807 -> V P Γ c s Q) : V P Γ c s Q :=
 zqt (fun K a w hs => by
  have hr := (hs.getK hx).2;obtain ⟨vs, hl, _, hr⟩ := zeo hr;have hr := hr j _ hj;generalize vs.getD j undef = v at hr;cases hr with
  | slE => simp
  | sl _ b o sz c f hc hcx => unfold maxLen at hcx; omega) h
end Go.VL
namespace Go.Proofs.YtkdhmbhbbciedaaGreatDoor
open Go Go.VL
attribute [local simp] zba zcP zb4 evPure opd uOf zat St.put St.at getK binD binI binS binB nilD aggD ze5 zfC lookD lookR zbZ rangeS Go.VL.nextD Go.VL.nextS zb1 zfI zfF ze0 zci mkV zbb zcX zaW za9 mapEff zdX zeK Key.kk shiftI arith unD convD zdg loadD cellsAt fieldAddrD fieldD indexAddrD indexSlD arrAddr indexD sliceD cutD lenD minmaxD nilCheckD buildD fillD zbu zcQ zek setAll zcI zed zbU ze3 zbR St.add zaq zbe rowsOf zcY zco zad zac zaa za5 zcH zaS entry za6 zbc valD zb7 zcG ze4 zcV zcW zbz zbv zag zaM za8 delAll effD St.effS zck zaJ zaw zcl zaK zay zbr zax zas zbs zch za7 zbq zaU zbp zai mkD zb3 zbg zbk zag zb6 D.ids Op.operands Call.operands zbj makeIfD makeFuncD typeAssertD zfB zc2 zc4 zfn zb0 IntKind.bits zb5 zam List.take_of_length_le List.range_succ zcA zbJ zcB zcu zbf zbA zbC zcv zbE za0 zbD zbB zgo zbI zcy zaQ zaB zcz zaR zaD zbH zaC zau zcE zcF zfZ zab frzN frz1 zaH zaG St.frz St.frzS frzS fv zbh zbx zbM zaI zar zal frz zbN za1 za2 zbt zbP zbQ zaV St.norm St.lp St.only zaA wkE wkO wkU Ob.under D.under zak zap zcC zbK zcD h4s zdt zao zaY List.zipIdx_cons List.zipIdx_nil List.map_cons List.map_nil Nat.zero_add
attribute [local irreducible] V G H HD HD2 zaX Eff CallP CallV EndOK Fun Ret FinOK LoopI LoopW EndW HR vs2 RN Cnd H4
def zcS : Nat -> Exp -> Int -> Int
 | 0, _, most => most + 1
 | L + 1, e, most => if 60 < e.s.length then most + 1 else e.args.foldl (fun n x => if n <= most then n + zcS L x (most - n) else n) 1
theorem zhM (L : Nat) (e : Exp) (most : Int) : zcS (L + 1) e most = if 60 < e.s.length then most + 1 else e.args.foldl (fun n x => if n <= most then n + zcS L x (most - n) else n) 1 := by rw [zcS]
theorem zfO : ∀ (L : Nat) (e : Exp) (most : Int), 0 <= most -> 1 <= zcS L e most /\ zcS L e most <= most + 1
 | 0, e, most, h => by rw [zcS]; omega
 | L + 1, e, most, h => by
  rw [zcS];split
  ·omega
  ·have : ∀ (l : List Exp) (n : Int), 1 <= n -> n <= most + 1 -> 1 <= l.foldl (fun n x => if n <= most then n + zcS L x (most - n) else n) n /\ l.foldl (fun n x => if n <= most then n + zcS L x (most - n) else n) n <= most + 1 := by
    intro l
    induction l with
    | nil => intro n h1 h2; exact ⟨h1, h2⟩
    | cons a l ih =>
     intro n h1 h2;rw [List.foldl_cons];split
     ·rename_i hn;have := zfO L a (most - n) (by omega);exact ih _ (by omega) (by omega)
     ·exact ih n h1 h2
   exact this _ 1 (by omega) (by omega)
theorem zfz {L : Nat} {most : Int} : ∀ (l : List Exp) (n : Int), ¬ n <= most -> l.foldl (fun n x => if n <= most then n + zcS L x (most - n) else n) n = n
 | [], _, _ => rfl
 | a :: l, n, h => by rw [List.foldl_cons, if_neg h]; exact zfz l n h
theorem zkS : ∀ (L : Nat) (e : Exp) (most : Int), 0 <= most -> most <= 1000 -> (L : Int) <= 100 -> Fun Tryz.prog 58 [zce e, .u (.int .i64 most), .u (.int .i64 L)] (· = .u (.int .i64 (zcS L e most)))
 | 0, e, most, _, _, _ => by
  rw [zcS];refine Fun.run Tryz.func58 Tryz.ntmps58 Tryz.results58 rfl (by simp) fun Γ hn => ?_; simp only [entry, List.zipIdx_cons, List.zipIdx_nil, List.map_cons, List.map_nil, Nat.zero_add];simp only [zce]
  repeat' (first
  | (refine zaf rfl ?_; simp)
  | (refine And.intro (by omega) ?_)
  | fail)
  (refine Pst.of ?_; simp)
 | L + 1, e, most, h0, h1, hL => by
  rw [zhM];by_cases hs : 60 < e.s.length
  ·rw [if_pos hs];refine Fun.run Tryz.func58 Tryz.ntmps58 Tryz.results58 rfl (by simp) fun Γ hn => ?_; simp only [entry, List.zipIdx_cons, List.zipIdx_nil, List.map_cons, List.map_nil, Nat.zero_add];simp only [zce]
   repeat' (first
  | (refine Cnd.of (fun hc => ?_) (fun hc => ?_) <;> (try (exfalso; omega)) <;> (try simp))
  | (refine zaf rfl ?_; simp)
  | (refine And.intro (by omega) ?_)
  | fail)
   all_goals first
    | (exfalso; omega)
    | ((refine Pst.of ?_; simp); done)
  rw [if_neg hs];generalize hg : (e.args.foldl (fun n x => if n <= most then n + zcS L x (most - n) else n) 1) = g;refine Fun.run Tryz.func58 Tryz.ntmps58 Tryz.results58 rfl (by simp) fun Γ hn => ?_; simp only [entry, List.zipIdx_cons, List.zipIdx_nil, List.map_cons, List.map_nil, Nat.zero_add];simp only [zce];refine zsJ (x := 0) (j := 4) rfl rfl fun hl => ?_;simp only [List.length_map] at hl
  repeat' (first
  | (refine Cnd.of (fun hc => ?_) (fun hc => ?_) <;> (try (exfalso; omega)) <;> (try simp))
  | (refine zaf rfl ?_; simp)
  | fail)
  refine zcs (α := { p : Nat × Int // p.1 <= e.args.length /\ 1 <= p.2 /\ p.2 <= most + 1 /\ g = (e.args.drop p.1).foldl (fun n x => if n <= most then n + zcS L x (most - n) else n) p.2 }) [1, 2, 3] (fun p => [(7, .u (.int .i64 p.1.2)), (8, .u (.int .i64 p.1.1))]) (fun p => e.args.length - p.1.1) ⟨(0, 1), by simp, by simp, by simp; omega, by simp [hg]⟩ ?_ ?_
  ·exact (Wk.zda (by simp [hn] <;> grind))
  rintro ⟨⟨i, n⟩, hi, hn1, hn2, hgn⟩;simp only at hi hn1 hn2 hgn;simp;rcases hx : e.args[i]? with _ | x
  ·have hge : e.args.length <= i := by simpa using hx
   rw [List.drop_of_length_le hge] at hgn
   repeat' (first
  | (refine Cnd.of (fun hc => ?_) (fun hc => ?_) <;> (try (exfalso; omega)) <;> (try simp [hx]))
  | (refine zaf rfl ?_; simp [hx])
  | fail)
   (refine Pst.of ?_; simp)
   rw [hgn]; rfl
  ·have hlt : i < e.args.length := (List.getElem?_eq_some_iff.1 hx).1;by_cases hm : n <= most
   ·have h5 := zkS L x (most - n) (by omega) (by omega) (by omega);have hb := zfO L x (most - n) (by omega);simp only [zce] at h5;rw [List.drop_eq_getElem_cons hlt, List.foldl_cons, if_pos hm, (List.getElem?_eq_some_iff.1 hx).2] at hgn;generalize zcS L x (most - n) = y at h5 hb hgn
    repeat' (first
  | (refine Cnd.of (fun hc => ?_) (fun hc => ?_) <;> (try (exfalso; omega)) <;> (try simp [hx, x.row_eq]))
  | (refine zaf rfl ?_; simp [hx, x.row_eq])
  | (refine And.intro (by omega) ?_)
  | (refine CallP.f2 rfl (h5) (by first | simp [hx, x.row_eq] <;> rfl | fail) ?_; simp [hx, x.row_eq])
  | fail)
    refine LoopW.next ⟨(i + 1, n + y), (by omega : i + 1 <= e.args.length), (by omega : 1 <= n + y), (by omega : n + y <= most + 1), hgn⟩ (by simp; omega) ?_
    exact (Wk.zda (by simp [hn] <;> grind))
   ·rw [zfz _ _ hm] at hgn
    repeat' (first
  | (refine Cnd.of (fun hc => ?_) (fun hc => ?_) <;> (try (exfalso; omega)) <;> (try simp [hx]))
  | (refine zaf rfl ?_; simp [hx])
  | fail)
    (refine Pst.of ?_; simp)
    rw [hgn]
def zrz (e : Exp) (n : Int) : Bool := decide (zcS 16 e n <= n)
theorem ziZ (e : Exp) (n : Int) (h0 : 0 <= n) (h1 : n <= 1000) : Fun Tryz.prog 26 [zce e, .u (.int .i64 n)] (· = .u (.bool (zrz e n))) := by
 have h2 := zkS 16 e n h0 h1 (by omega);unfold zrz;simp only [zce] at h2 ⊢;generalize zcS 16 e n = y at h2 ⊢;refine Fun.run Tryz.func26 Tryz.ntmps26 Tryz.results26 rfl (by simp) fun Γ hn => ?_
 repeat' (first
  | (refine zaf rfl ?_; simp)
  | (refine CallP.f2 rfl (h2) (by first | simp <;> rfl | fail) ?_; simp)
  | fail)
 (refine Pst.of ?_; simp)
mutual
def zew : Exp -> Int
 | .mk op _ _ _ args => (if op = 1 then 1 else 0) + zcp args
def zcp : List Exp -> Int
 | [] => 0
 | e :: r => zew e + zcp r
end
theorem zkU (e : Exp) : zew e = (if e.op = 1 then 1 else 0) + zcp e.args := by cases e with | mk op n u s args => rw [zew]; rfl
mutual
theorem zeN : ∀ e : Exp, 0 <= zew e
 | .mk op n u s args => by
  rw [zew];have := zdm args;split <;> omega
theorem zdm : ∀ l : List Exp, 0 <= zcp l
 | [] => by rw [zcp]; omega
 | e :: r => by
  rw [zcp];have := zeN e;have := zdm r;omega
end
theorem znW {l : List Exp} {i : Nat} {x : Exp} (h : l[i]? = some x) : zcp (l.take (i + 1)) = zcp (l.take i) + zew x := by
 induction l generalizing i with
 | nil => simp at h
 | cons a l ih =>
  cases i with
  | zero => simp at h; subst h; simp [zcp]
  | succ i => rw [List.take_succ_cons, List.take_succ_cons, zcp, zcp, ih (i := i) (by simpa using h)]; omega
theorem znV {l : List Exp} (i : Nat) : zcp (l.take i) <= zcp l := by
 induction l generalizing i with
 | nil => simp
 | cons a l ih =>
  cases i with
  | zero => rw [List.take_zero]; have := zdm (a :: l); rw [show zcp [] = 0 by rw [zcp]]; exact this
  | succ i => rw [List.take_succ_cons, zcp, zcp]; have := ih i; omega
theorem zlc : ∀ (L : Nat) (e : Exp) (most : Int), 0 <= most -> zcS L e most <= most -> zew e <= zcS L e most
 | 0, e, most, _, h => by rw [zcS] at h; omega
 | L + 1, e, most, h0, h => by
  rw [zhM] at h ⊢;by_cases hs : 60 < e.s.length
  ·rw [if_pos hs] at h; omega
  rw [if_neg hs] at h ⊢;have key : ∀ (l : List Exp) (n : Int), 1 <= n -> l.foldl (fun n x => if n <= most then n + zcS L x (most - n) else n) n <= most -> n + zcp l <= l.foldl (fun n x => if n <= most then n + zcS L x (most - n) else n) n := by
   intro l
   induction l with
   | nil => intro n _ _; rw [zcp]; simp
   | cons a l ih =>
    intro n h1 h2;rw [List.foldl_cons] at h2 ⊢;by_cases hn : n <= most
    ·rw [if_pos hn] at h2 ⊢;have hb := zfO L a (most - n) (by omega);have h3 := ih _ (by omega) h2;have h4 : n + zcS L a (most - n) <= most := by
      rcases Int.lt_or_le most (n + zcS L a (most - n)) with h5 | h5
      ·rw [zfz _ _ (by omega)] at h2; omega
      ·exact h5
     have h5 := zlc L a (most - n) (by omega) (by omega);rw [zcp];omega
    ·rw [if_neg hn, zfz _ _ hn] at h2; omega
  have h1 := key e.args 1 (by omega) h;rw [zkU];by_cases h3 : e.op = 1
  ·rw [if_pos h3]; omega
  ·rw [if_neg h3]; omega
theorem ziB : ∀ (m : Nat) (e : Exp), SizeOf.sizeOf e <= m -> zew e <= 1000000 -> Fun Tryz.prog 62 [zce e] (· = .u (.int .i64 (zew e)))
 | 0, e, hm, _ => by cases e; simp at hm
 | m + 1, e, hm, hN => by
  have hch : ∀ x ∈ e.args, SizeOf.sizeOf x <= m := fun x hx => by
   cases e with
   | mk op n u s args =>
    have h1 := List.sizeOf_lt_of_mem (show x ∈ args from hx);simp at hm;omega
  rw [zkU] at hN ⊢;have hnn := zdm e.args;generalize hk : (if e.op = 1 then (1 : Int) else 0) = k0 at hN ⊢;have hk01 : 0 <= k0 /\ k0 <= 1 := by rw [<- hk]; split <;> omega
  refine Fun.run Tryz.func62 Tryz.ntmps62 Tryz.results62 rfl (by simp) fun Γ hn => ?_; simp only [entry, List.zipIdx_cons, List.zipIdx_nil, List.map_cons, List.map_nil, Nat.zero_add];simp only [zce];refine zsJ (x := 0) (j := 4) rfl rfl fun hl => ?_;simp only [List.length_map] at hl
  repeat' (first
  | (refine Cnd.of (fun hc => ?_) (fun hc => ?_) <;> (try (exfalso; omega)) <;> (try simp))
  | (refine zaf rfl ?_; simp)
  | fail)
  all_goals
   refine zcs (α := { i : Nat // i <= e.args.length }) [1] (fun i => [(3, .u (.int .i64 (k0 + zcp (e.args.take i.1)))), (4, .u (.int .i64 i.1))]) (fun i => e.args.length - i.1) ⟨0, by omega⟩ ?_ ?_
   ·exact (Wk.zda (by simp [hn, zcp] <;> grind))
   rintro ⟨i, hi⟩;simp;rcases hx : e.args[i]? with _ | x
   ·have hge : e.args.length <= i := by simpa using hx
    obtain rfl : i = e.args.length := by omega
    repeat' (first
  | (refine zaf rfl ?_; simp [hx])
  | fail)
    (refine Pst.of ?_; simp)
   ·have hlt : i < e.args.length := (List.getElem?_eq_some_iff.1 hx).1;have hat := znW hx;have hle := znV (l := e.args) (i + 1);have hn0 := zdm (e.args.take i);have hnx := zeN x;have h5 := ziB m x (hch x (List.mem_of_getElem? hx)) (by omega);simp only [zce] at h5
    repeat' (first
  | (refine Cnd.of (fun hc => ?_) (fun hc => ?_) <;> (try (exfalso; omega)) <;> (try simp [hx, x.row_eq]))
  | (refine zaf rfl ?_; simp [hx, x.row_eq])
  | (refine And.intro (by omega) ?_)
  | (refine CallP.f2 rfl (h5) (by first | simp [hx, x.row_eq] <;> rfl | fail) ?_; simp [hx, x.row_eq])
  | fail)
    all_goals
     refine LoopW.next ⟨i + 1, by omega⟩ (by simp; omega) ?_
     exact (Wk.zda (by simp [hn, hat, Int.add_assoc] <;> grind))
end Go.Proofs.YtkdhmbhbbciedaaGreatDoor
namespace Go.Proofs.YtkdhmbhbbciedaaGreatDoor
open Go Go.VL
attribute [local simp] zba zcP zb4 evPure opd uOf zat St.put St.at getK binD binI binS binB nilD aggD ze5 zfC lookD lookR zbZ rangeS Go.VL.nextD Go.VL.nextS zb1 zfI zfF ze0 zci mkV zbb zcX zaW za9 mapEff zdX zeK Key.kk shiftI arith unD convD zdg loadD cellsAt fieldAddrD fieldD indexAddrD indexSlD arrAddr indexD sliceD cutD lenD minmaxD nilCheckD buildD fillD zbu zcQ zek setAll zcI zed zbU ze3 zbR St.add zaq zbe rowsOf zcY zco zad zac zaa za5 zcH zaS entry za6 zbc valD zb7 zcG ze4 zcV zcW zbz zbv zag zaM za8 delAll effD St.effS zck zaJ zaw zcl zaK zay zbr zax zas zbs zch za7 zbq zaU zbp zai mkD zb3 zbg zbk zag zb6 D.ids Op.operands Call.operands zbj makeIfD makeFuncD typeAssertD zfB zc2 zc4 zfn zb0 IntKind.bits zb5 zam List.take_of_length_le List.range_succ zcA zbJ zcB zcu zbf zbA zbC zcv zbE za0 zbD zbB zgo zbI zcy zaQ zaB zcz zaR zaD zbH zaC zau zcE zcF zfZ zab frzN frz1 zaH zaG St.frz St.frzS frzS fv zbh zbx zbM zaI zar zal frz zbN za1 za2 zbt zbP zbQ zaV St.norm St.lp St.only zaA wkE wkO wkU Ob.under D.under zak zap zcC zbK zcD h4s zdt zao zaY List.zipIdx_cons List.zipIdx_nil List.map_cons List.map_nil Nat.zero_add
attribute [local irreducible] V G H HD HD2 zaX Eff CallP CallV EndOK Fun Ret FinOK LoopI LoopW EndW HR vs2 RN Cnd H4
def zoh (n m : Int) : List Let -> Int -> Int -> Bool
 | [], _, _ => true
 | l :: r, i, p => if i <= m then (if 60 < l.name.length \/ zrz l.body n = false then false else if 2000 < p * (1 + zew l.body) then false else zoh n m r (i + 1) (p * (1 + zew l.body))) else true
def zuo (l : List Let) (m n : Int) : Bool := zoh n m l 0 1 && decide ((l.length : Int) <= m)
theorem zmc (l : List Let) (m n : Int) (h0 : 0 <= n) (h1 : n <= 1000) (h2 : 0 <= m) (h3 : m <= 1000) : Fun Tryz.prog 29 [.u (zaz l), .u (.int .i64 m), .u (.int .i64 n)] (· = .u (.bool (zuo l m n))) := by
 unfold zuo;generalize hB : zoh n m l 0 1 = B;refine Fun.run Tryz.func29 Tryz.ntmps29 Tryz.results29 rfl (by simp) fun Γ hn => ?_; simp only [entry, List.zipIdx_cons, List.zipIdx_nil, List.map_cons, List.map_nil, Nat.zero_add];simp only [zaz];refine zir (x := 0) rfl fun hl => ?_;simp only [List.length_map] at hl
 repeat' (first
  | (refine zaf rfl ?_; simp)
  | fail)
 refine zcs (α := { q : Nat × Int // q.1 <= l.length /\ (q.1 : Int) <= m + 1 /\ 1 <= q.2 /\ q.2 <= 2000 /\ B = zoh n m (l.drop q.1) q.1 q.2 }) [0, 1, 2] (fun q => [(7, .u (.int .i64 q.1.2)), (8, .u (.int .i64 q.1.1))]) (fun q => l.length - q.1.1) ⟨(0, 1), by simp, by simp; omega, by simp, by simp, by simp [hB]⟩ ?_ ?_
 ·exact (Wk.env rfl rfl rfl (by simp [wkE, St.lp, zaA, zaa, getK] <;> (try (intros; simp_all; done)) <;> (try (intros; omega)) <;> (try grind)))
 rintro ⟨⟨i, p⟩, hi, him, hp1, hp2, hb⟩;simp only at hi him hp1 hp2 hb;simp;rcases hx : l[i]? with _ | x
 ·have hge : l.length <= i := by simpa using hx
  obtain rfl : i = l.length := by omega
  rw [List.drop_length, zoh] at hb
  repeat' (first
  | (refine zaf rfl ?_; simp [hx])
  | fail)
  all_goals
   (refine Pst.of ?_; simp)
  all_goals simp [hb]
 ·have hlt : i < l.length := (List.getElem?_eq_some_iff.1 hx).1;rw [List.drop_eq_getElem_cons hlt, (List.getElem?_eq_some_iff.1 hx).2, zoh] at hb;by_cases hm : (i : Int) <= m
  ·rw [if_pos hm] at hb;have h5 := ziZ x.body n h0 h1;simp only [zce] at h5;by_cases hn60 : 60 < x.name.length
   ·rw [if_pos (.inl hn60)] at hb;cases hf : zrz x.body n
    all_goals
     rw [hf] at h5
     repeat' (first
  | (refine Cnd.of (fun hc => ?_) (fun hc => ?_) <;> (try (exfalso; omega)) <;> (try simp [hx, hm]))
  | (refine zaf rfl ?_; simp [hx, hm])
  | fail)
     all_goals first
      | (exfalso; omega)
      | ((refine Pst.of ?_; simp); simp [hb]; done)
   ·cases hf : zrz x.body n with
    | false =>
     rw [if_pos (.inr hf)] at hb;rw [hf] at h5
     repeat' (first
  | (refine Cnd.of (fun hc => ?_) (fun hc => ?_) <;> (try (exfalso; omega)) <;> (try simp [hx, hm]))
  | (refine zaf rfl ?_; simp [hx, hm])
  | (refine CallP.f2 rfl (h5) (by first | simp [hx, hm] <;> rfl | fail) ?_; simp [hx, hm])
  | fail)
     all_goals first
      | (exfalso; omega)
      | ((refine Pst.of ?_; simp); simp [hb]; done)
    | true =>
     rw [if_neg (by simp [hn60, hf])] at hb;rw [hf] at h5;have hfn : zew x.body <= 1000 := by
      unfold zrz at hf;simp only [decide_eq_true_eq] at hf;have := zlc 16 x.body n h0 hf;omega
     have hnn := zeN x.body;have h6 := ziB _ x.body (Nat.le_refl _) (by omega);simp only [zce] at h6;generalize zew x.body = y at h6 hb hfn hnn;have hpy : p * (1 + y) <= 2000 * 1001 := Int.mul_le_mul hp2 (by omega) (by omega) (by omega);have hpy1 : 1 <= p * (1 + y) := by
      have := Int.mul_le_mul hp1 (show (1 : Int) <= 1 + y by omega) (by omega) (by omega);omega
     repeat' (first
  | (refine Cnd.of (fun hc => ?_) (fun hc => ?_) <;> (try (exfalso; omega)) <;> (try simp [hx, hm]))
  | (refine zaf rfl ?_; simp [hx, hm])
  | (refine And.intro (by omega) ?_)
  | ((first | refine CallP.f2 rfl (h5) (by first | simp [hx, hm] <;> rfl | fail) ?_ | refine CallP.f2 rfl (h6) (by first | simp [hx, hm] <;> rfl | fail) ?_ | fail); simp [hx, hm])
  | fail)
     all_goals first
      | (exfalso; omega)
      | ((refine Pst.of ?_; simp); rw [if_pos (by omega)] at hb; simp [hb]; done)
      | (refine LoopW.next ⟨(i + 1, p * (1 + y)), (by omega : i + 1 <= l.length), (by simp; omega), hpy1, (by omega : p * (1 + y) <= 2000), by rw [if_neg (by omega)] at hb; simpa using hb⟩ (by simp; omega) ?_; exact (Wk.env rfl rfl rfl (by simp [wkE, St.lp, zaA, zaa, getK] <;> (try (intros; simp_all; done)) <;> (try (intros; omega)) <;> (try grind))))
  ·rw [if_neg hm] at hb
   repeat' (first
  | (refine Cnd.of (fun hc => ?_) (fun hc => ?_) <;> (try (exfalso; omega)) <;> (try simp [hx, hm]))
  | (refine zaf rfl ?_; simp [hx, hm])
  | fail)
   (refine Pst.of ?_; simp)
   simp [hb]
end Go.Proofs.YtkdhmbhbbciedaaGreatDoor
namespace Go.Proofs.YtkdhmbhbbciedaaGreatDoor
open Go Go.VL
section
attribute [local simp] zba zcP zb4 evPure opd uOf zat St.put St.at getK binD binI binS binB nilD aggD ze5 zfC lookD lookR zbZ rangeS Go.VL.nextD Go.VL.nextS zb1 zfI zfF ze0 zci mkV zbb zcX zaW za9 mapEff zdX zeK Key.kk shiftI arith unD convD zdg loadD cellsAt fieldAddrD fieldD indexAddrD indexSlD arrAddr indexD sliceD cutD lenD minmaxD nilCheckD buildD fillD zbu zcQ zek setAll zcI zed zbU ze3 zbR St.add zaq zbe rowsOf zcY zco zad zac zaa za5 zcH zaS entry za6 zbc valD zb7 zcG ze4 zcV zcW zbz zbv zag zaM za8 delAll effD St.effS zck zaJ zaw zcl zaK zay zbr zax zas zbs zch za7 zbq zaU zbp zai mkD zb3 zbg zbk zag zb6 D.ids Op.operands Call.operands zbj makeIfD makeFuncD typeAssertD zfB zc2 zc4 zfn zb0 IntKind.bits zb5 zam List.take_of_length_le List.range_succ zcA zbJ zcB zcu zbf zbA zbC zcv zbE za0 zbD zbB zgo zbI zcy zaQ zaB zcz zaR zaD zbH zaC zau zcE zcF zfZ zab frzN frz1 zaH zaG St.frz St.frzS frzS fv zbh zbx zbM zaI zar zal frz zbN za1 za2 zbt zbP zbQ zaV St.norm St.lp St.only zaA wkE wkO wkU Ob.under D.under zak zap zcC zbK zcD h4s zdt zao zaY List.zipIdx_cons List.zipIdx_nil List.map_cons List.map_nil Nat.zero_add
attribute [local irreducible] V G H HD HD2 zaX Eff CallP CallV EndOK Fun Ret FinOK LoopI LoopW EndW HR vs2 RN Cnd H4
theorem zr1 (lets : List Let) (e : Exp) : Fun Tryz.prog 10 [.u (zaz lets), zce e] (· = .u (.bool (zuo lets 4 30 && zrz e 30))) := by
 have h1 := zmc lets 4 30 (by omega) (by omega) (by omega) (by omega);have h2 := ziZ e 30 (by omega) (by omega);generalize zuo lets 4 30 = x at *;generalize zrz e 30 = y at *;simp only [zaz, zce] at h1 h2 ⊢;cases x <;> cases y
 all_goals
  refine Fun.run Tryz.func10 Tryz.ntmps10 Tryz.results10 rfl (by simp) fun Γ hn => ?_
  repeat' (first
  | (refine zaf rfl ?_; simp)
  | ((first | refine CallP.f2 rfl (h1) (by first | simp <;> rfl | fail) ?_ | refine CallP.f2 rfl (h2) (by first | simp <;> rfl | fail) ?_ | fail); simp)
  | fail)
  (refine Pst.of ?_; simp)
end
end Go.Proofs.YtkdhmbhbbciedaaGreatDoor
namespace Go.Proofs.YtkdhmbhbbciedaaGreatDoor
open Go Go.VL
def zf3 (lets : List Let) (e : Exp) : Bool := zcm lets e && zbY (sF (mOf [] lets)) e
abbrev Tab := List (Int × Int × Bool)
def zpJ (n : Int) : Except Int Int := if 1099511627776 < n \/ n < -1099511627776 then .error 3 else .ok n
def zsA (a b : Int) : Int := if a.tdiv b * b ≠ a /\ ¬ (a < 0 ↔ b < 0) then a.tdiv b - 1 else a.tdiv b
def zu2 (a b c : Int) : Except Int Int :=
 if a ≠ 0 /\ ((1099511627777 * c).tdiv (max a (-a)) < b \/ b < (-(1099511627777 * c)).tdiv (max a (-a))) then .error 3 else zpJ (zsA (a * b) c)
def zdI (b : Bool) : Int := if b = true then 1 else 0
def zyp (op : Int) (sh : Bool) (a b : Int) : Except Int Int :=
 if op = 2 then zpJ (a + b) else if op = 3 then zpJ (a - b) else if op = 4 then zu2 a b (if sh = true then 1000 else 1)
 else if op = 5 then (if b = 0 then .error 15 else zpJ (zsA a b))
 else if op = 6 then .ok (min a b) else if op = 7 then .ok (max a b) else if op = 8 then .ok (zdI (decide (a < b))) else .ok (zdI (decide (a = b)))
abbrev TM := Tab -> Except Int Int × Tab
def TM.bind (f : TM) (g : Int -> TM) : TM := fun t => match f t with | (.ok v, t') => g v t' | (.error e, t') => (.error e, t')
def TM.ret (x : Except Int Int) : TM := fun t => (x, t)
theorem TM.bind_ok {f : TM} {g : Int -> TM} {t t' : Tab} {v : Int} (h : f t = (.ok v, t')) : f.bind g t = g v t' := by unfold TM.bind; rw [h]
mutual
def zu0 (nm : List UInt8 -> TM) (sh : Exp -> Bool) : Exp -> TM
 | .mk op n _ s args =>
  if op = 0 then .ret (zpJ n)
  else if op = 1 then nm s
  else if op = 10 then (zoP nm sh args 0).bind fun a => if a = 0 then .ret (.ok 0) else (zoP nm sh args 1).bind fun b => .ret (.ok (zdI (decide (b ≠ 0))))
  else if op = 11 then (zoP nm sh args 0).bind fun a => if a ≠ 0 then .ret (.ok 1) else (zoP nm sh args 1).bind fun b => .ret (.ok (zdI (decide (b ≠ 0))))
  else if op = 12 then (zoP nm sh args 0).bind fun a => .ret (.ok (zdI (decide (a = 0))))
  else if op = 13 then (zoP nm sh args 0).bind fun a => if a ≠ 0 then zoP nm sh args 1 else zoP nm sh args 2
  else (zoP nm sh args 0).bind fun a => (zoP nm sh args 1).bind fun b => .ret (zyp op ((args.take 2).any sh) a b)
def zoP (nm : List UInt8 -> TM) (sh : Exp -> Bool) : List Exp -> Nat -> TM
 | [], _ => .ret (.error 0)
 | e :: _, 0 => zu0 nm sh e
 | _ :: r, i + 1 => zoP nm sh r i
end
def zxx : Except Int Int -> Int × Int × Bool
 | .ok v => (v, 0, true)
 | .error e => (0, e, true)
def inC (v : Int) : Prop := -1099511627776 <= v /\ v <= 1099511627776
theorem zkc (b : Bool) : inC (zdI b) := by unfold inC zdI; split <;> omega
structure TabOK (L : Nat) (t : Tab) : Prop where
 len : t.length = L
 small : ∀ (i : Nat) (v e : Int) (d : Bool), t[i]? = some (v, e, d) -> inC v
def TMok (L : Nat) (f : TM) : Prop := ∀ t, TabOK L t -> TabOK L (f t).2 /\ (∀ v, (f t).1 = .ok v -> inC v) /\ (∀ e, (f t).1 = .error e -> e ≠ 0)
theorem TMok.bind {L f g} (hf : TMok L f) (hg : ∀ a, inC a -> TMok L (g a)) : TMok L (TM.bind f g) := fun t ht => by
 obtain ⟨h1, h2, h3⟩ := hf t ht;unfold TM.bind;rcases hft : f t with ⟨r | v, t'⟩
 ·rw [hft] at h1 h3;refine ⟨h1, ?_, ?_⟩
  ·intro v h; cases h
  ·intro e h; exact h3 e h
 ·rw [hft] at h1 h2;exact hg v (h2 v rfl) t' h1
theorem TMok.ret {L} {x : Except Int Int} (h : ∀ v, x = .ok v -> inC v) (he : ∀ e, x = .error e -> e ≠ 0) : TMok L (TM.ret x) := fun t ht => ⟨ht, h, he⟩
theorem TMok.ok {L} {v : Int} (h : inC v) : TMok L (TM.ret (.ok v)) := .ret (fun w hw => by cases hw; exact h) (fun e he => by cases he)
end Go.Proofs.YtkdhmbhbbciedaaGreatDoor
namespace Go.Proofs.YtkdhmbhbbciedaaGreatDoor
open Go Go.VL
def TM.Pure (f : TM) : Prop := ∀ t, f t = ((f []).1, t)
theorem TM.Pure.ret (x) : TM.Pure (TM.ret x) := fun t => rfl
theorem TM.Pure.bind {f : TM} {g : Int -> TM} (hf : f.Pure) (hg : ∀ a, (g a).Pure) : (f.bind g).Pure := fun t => by
 unfold TM.bind;rw [hf t, hf []];rcases (f []).1 with e | v
 ·rfl
 ·exact hg v t
def nmP (lets : List Let) (G : List UInt8 -> Option Int) : Nat -> List UInt8 -> TM
 | 0, s => .ret (match G s with | some v => .ok v | none => .error 13)
 | n + 1, s => match G s with
  | some v => .ret (.ok v)
  | none => match lets[n]? with
   | none => .ret (.error 13)
   | some l => if l.name = s then .ret (zu0 (nmP lets G n) (zf3 (lets.take n)) l.body []).1 else nmP lets G n s
def zwd (lets : List Let) (G : List UInt8 -> Option Int) (n : Nat) (e : Exp) : Except Int Int := (zu0 (nmP lets G n) (zf3 (lets.take n)) e []).1
def zvW (lets : List Let) (G : List UInt8 -> Option Int) (t : Tab) : Prop := ∀ (i : Nat) (v e : Int), t[i]? = some (v, e, true) -> ∃ l, lets[i]? = some l /\ (v, e, true) = zxx (zwd lets G i l.body)
def Sm (lets : List Let) (G : List UInt8 -> Option Int) (f f' : TM) : Prop := ∀ t, TabOK lets.length t -> zvW lets G t -> (f t).1 = (f' []).1 /\ zvW lets G (f t).2
theorem Sm.ret {lets G x} : Sm lets G (TM.ret x) (TM.ret x) := fun t _ h => ⟨rfl, h⟩
theorem Sm.bind {lets G} {f f' : TM} {g g' : Int -> TM} (hf : Sm lets G f f') (hk : TMok lets.length f) (hp : f'.Pure) (hg : ∀ a, Sm lets G (g a) (g' a)) : Sm lets G (f.bind g) (f'.bind g') := fun t h1 h2 => by
 obtain ⟨e1, v1⟩ := hf t h1 h2;obtain ⟨k1, _, _⟩ := hk t h1;unfold TM.bind;rcases hft : f t with ⟨er | v, t'⟩
 ·rw [hft] at e1 v1;simp only at e1 v1;rw [hp [], <- e1];exact ⟨rfl, v1⟩
 ·rw [hft] at e1 v1 k1;simp only at e1 v1 k1;rw [hp [], <- e1];exact hg v t' k1 v1
end Go.Proofs.YtkdhmbhbbciedaaGreatDoor
namespace Go.Proofs.YtkdhmbhbbciedaaGreatDoor
open Go Go.VL
end Go.Proofs.YtkdhmbhbbciedaaGreatDoor
namespace Go.Proofs.YtkdhmbhbbciedaaGreatDoor
open Go Go.VL
end Go.Proofs.YtkdhmbhbbciedaaGreatDoor
