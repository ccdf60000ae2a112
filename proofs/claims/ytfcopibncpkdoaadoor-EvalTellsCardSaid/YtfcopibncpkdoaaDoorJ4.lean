/- Texts joined by a program of mine: VLX VLY VLQ VLZ Fb Gc Fc Fd Fe Ff. -/
import Derived.Test.YtfcopibncpkdoaaDoorJ3
set_option linter.all false
set_option maxRecDepth 100000
set_option maxHeartbeats 8000000
namespace Go.VL
open Go
/-- Code at which a walk stops. -/
@[irreducible] def zpU (c : Code) : Code := c
theorem zmq (c : Code) : zpU c = c := by unfold zpU; rfl
theorem zdm {id : Nat} {o1 : Oper} {dst : Option Tmp} {cl : Call} {type : TypeId} {pos : String} {after : Array Edge} {guard : Option (Nat × Bool)} {rest : Code} :
  Code.seq (.region id #[o1, { dst, op := .defer cl, type, pos, after, guard }] false) rest = zpU (.seq (.region id #[o1, { dst, op := .defer cl, type, pos, after, guard }] false) rest) := (zmq _).symm
/-- What a deferred function does to the objects, and to the frame below. -/
def RetDf (P : Program) (g : FuncId) (caps : List D) (obs : List (Nat × Ob)) (nx : Nat) (u : FrameMode) (post : FrameMode → List (Nat × Ob) → Nat → Prop) : Prop :=
 ∀ (k : Kr) (own : Nat → Prop) (w : World) (vs : Array Value), Sat k own obs w → (∀ i, nx ≤ i → k.hdr i = none) → (∀ b, w.heap.size ≤ b → own b) → RepL k caps vs →
  CallsD P g vs u w fun e u' w' => ∃ v obs' nx' k', e = .returned v ∧ In (.of own k nx w) k' w' ∧ Sat k' own obs' w' ∧ (∀ i, nx' ≤ i → k'.hdr i = none) ∧ nx ≤ nx' ∧ post u' obs' nx'
theorem RetDf.mono {P g caps obs nx u} {p q : FrameMode → List (Nat × Ob) → Nat → Prop} (h : RetDf P g caps obs nx u p) (hq : ∀ u o n, p u o n → q u o n) : RetDf P g caps obs nx u q :=
 fun k own w vs h1 h2 h3 h4 => (h k own w vs h1 h2 h3 h4).mono fun _ _ _ ⟨v, o, n, k', e, a, b, c, d, hp⟩ => ⟨v, o, n, k', e, a, b, c, d, hq _ _ _ hp⟩
theorem RetDf.congr {P g caps obs obs' nx u post} (h : RetDf P g caps obs nx u post) (e : ∀ i, getK obs' i = getK obs i) : RetDf P g caps obs' nx u post :=
 fun k own w vs hsat hhdr hfresh hrep => h k own w vs (Sat.congr hsat fun i => (e i).symm) hhdr hfresh hrep
theorem RetDf.frame {P g caps obs nx u post} (F : List (Nat × Ob)) (hF : ∀ i ob, getK F i = some ob → getK obs i = none) (h : RetDf P g caps obs nx u post) :
  RetDf P g caps (F ++ obs) nx u (fun u o n => ∃ o1, o = F ++ o1 ∧ post u o1 n) := by
 intro k own w vs hsat hhdr hfresh hrep
 refine (h k _ w vs (zha hF hsat) hhdr (zgo hsat hfresh) hrep).mono ?_
 rintro e u' w' ⟨v, o1, n', k', he, hin, hs1, hh1, hle, hp⟩
 exact ⟨v, F ++ o1, n', k', he, zko hfresh hin, ziW hsat hin hs1, hh1, hle, o1, rfl, hp⟩
/-- Where a function leaves that has put off g: the deferred call makes its end good. -/
def LeaveD (P : Program) (Γb : Ctx) (fn : Func) (post : Out → List (Nat × Ob) → Nat → Prop) (g : FuncId) (caps : List D) (u : FrameMode) (s : St) : Prop :=
 RetDf P g caps s.obs s.next u fun u' o n => settle u' = .returning ∧ EndW P Γb fn Γb.n0 (fun d o n => post (.val d) o n) .ret { s with obs := o, next := n }
def zsa (P : Program) (Γb : Ctx) (fn : Func) (post : Out → List (Nat × Ob) → Nat → Prop) (g : FuncId) (caps : List D) (e : Exit) (s : St) : Prop := e = .ret ∧ LeaveD P Γb fn post g caps .returning s
theorem zk2 {P Γ Γ' fn post g caps u s K K1 a w w1} (hmode : u ≠ .run) (h : LeaveD P Γ.base fn post g caps u s) (hin1 : In Γ K1 w1) (hin : In Γ' K w) (hs : Sim K Γ'.own s a w) (ho : Γ'.own.own = Γ.own.own) (hk : Γ'.k0 = K1) (hn : ∀ i, Γ'.n0 ≤ i → K1.hdr i = none) (hw : Γ'.w0 = w1)
  (hc : zao P g = true) (vs : Array Value) (hrep : RepL K1 caps vs) :
  Leaves P fn a.tmps (RX Γ.base post) [{ target := .fn (.func g) vs, args := #[] }] u w := by
 have hle1 : K1.le K := by rw [← hk]; exact hin.le
 have hin0 : In Γ K w := hin1.step hle1 (fun b o v e => by have := hin.memNew b o v e; rw [hk, ho] at this; exact this) (by rw [hin.os, hw]) (by rw [hin.tape, hw]) (by rw [hin.output, hw]) (by have := hin.size; rw [hw] at this; exact this)
  (fun b hb => by have := hin.block b (by rw [ho]; exact hb); rw [hw] at this; exact this)
 refine leaves_cons (f := g) (args := vs) hmode ?_ ?_
 ·unfold zao at hc
  split at hc
  ·rename_i fn' hfn
   simp at hc
   obtain ⟨hb, hname⟩ := hc
   have hb' : fn'.body.isNone = false := by cases hbb : fn'.body <;> simp_all
   simp [invoke, callFunc, hfn, hb', hname]
   intro h0
   rw [h0] at hb
   simp at hb
  ·cases hc
 ·refine (h K Γ'.own.own w vs hs.sat hs.hdr (fun b hb => by rw [ho]; exact hin0.own_of_ge hb) ⟨hrep.1, fun j d hj => (hrep.2 j d hj).mono hle1⟩).mono ?_
  rintro e u' w' ⟨v, o, n, k', rfl, hin2, hsat, hhdr, hnx, hset, hend⟩
  rw [ho] at hin2 hsat
  have hin3 : In Γ k' w' := hin0.step hin2.le (fun b o v e => hin2.memNew b o v e) hin2.os hin2.tape hin2.output hin2.size hin2.block
  have hsim : Sim k' Γ.base.own ({ s with obs := o, next := n } : St) { a with defers := [] } w' := ⟨hsat, rfl, hs.size, fun x d hx => ⟨(hs.env x d hx).1, (hs.env x d hx).2.mono hin2.le⟩, hhdr⟩
  obtain ⟨v', h1, h2⟩ := zef (Γ := Γ.base) (post := post) hend (hin3.conv rfl rfl rfl rfl) hsim
  show Leaves P fn a.tmps (RX Γ.base post) [] (settle u') w'
  rw [hset]
  exact ⟨v', h1, h2⟩
/-- A function value is made and put off: what follows is walked in a context of its own. -/
theorem zfv {P Γ fn post s Q kt id g t type pos after type2 pos2 after2 rest} {ts : Array TypeId} {caps : List Operand}
  (hesc : ∀ e a w', bodyPostD P fn (RX Γ.base post) e a w' → Γ.esc e a w') (hd : Γ.own.dfr = []) (hc : zao P g = true) (ht : t < s.n)
  (h : ∀ Γ' : Ctx, Γ'.n0 = s.next → (∀ ch s2, LeaveD P Γ.base fn post g (caps.map (opd s)) (.panicking ch) s2 → Γ'.pan ch s2) →
    V P Γ' rest (s.put (some t) (.fnc (.func g) (caps.map (opd s)))) (zal P Γ' (zsa P Γ.base fn post g (caps.map (opd s))) .done)) :
  V P Γ (zpU (.seq (.region id #[{ dst := some t, op := .makeFunc (.func g) #[] caps.toArray, type := type, pos := pos, after := after, guard := none },
   { dst := none, op := .defer { callee := .value (.tmp t), args := #[], argTypes := ts }, type := type2, pos := pos2, after := after2, guard := none }] false) rest)) s (zal P Γ Q kt) := by
 rw [zmq]
 intro K a w hin hs
 refine wp_seq (wp_region_lit ?_)
 have hrep : RepL K (caps.map (opd s)) (caps.map a.eval).toArray := ⟨by simp, fun j d hj => by have := zfn hs caps j d hj; simpa using this⟩
 have hfv : Rep K (.fnc (.func g) (caps.map (opd s))) (.func (.func g) #[] (caps.map a.eval).toArray) := .fnc _ _ _ (by simp) (zfn hs caps)
 have hts : t < a.tmps.size := by rw [hs.size]; exact ht
 refine wpList_plain rfl fun K1 hK1 => ?_
 have hrun1 : (execOp a.eval { dst := some t, op := .makeFunc (.func g) #[] caps.toArray, type := type, pos := pos, after := after, guard := none }).run P w = .ok (.value (.func (.func g) #[] (caps.map a.eval).toArray)) w := by
  simp [execOp, Instr.makeFunc]
 unfold Oper.wp
 rw [hrun1]
 refine hK1 _ _ (wpList_plain rfl fun K2 hK2 => ?_)
 generalize ha1 : (a.put (some t) (.func (.func g) #[] (caps.map a.eval).toArray)) = a1
 have hev : a1.eval (.tmp t) = .func (.func g) #[] (caps.map a.eval).toArray := by
  subst ha1
  simp [Act.eval, Act.put, hts]
 have hrun2 : (execOp a1.eval { dst := none, op := .defer { callee := .value (.tmp t), args := #[], argTypes := ts }, type := type2, pos := pos2, after := after2, guard := none }).run P w = .ok (.defer { target := .fn (.func g) (caps.map a.eval).toArray, args := #[] }) w := by
  simp [execOp, resolve, hev, Deferred.ofValue]
 unfold Oper.wp
 rw [hrun2]
 refine hK2 _ _ ?_
 let Γ' : Ctx := ⟨⟨Γ.own.own, [{ target := .fn (.func g) (caps.map a.eval).toArray, args := #[] }]⟩, K, s.next, w, fun ch s2 => LeaveD P Γ.base fn post g (caps.map (opd s)) (.panicking ch) s2, fun _ _ _ => False⟩
 have hin' : In Γ' K w := ⟨.refl _, hs.hdr, fun b o v e => .inl e, fun b hb => hin.own_of_ge hb, rfl, rfl, rfl, Nat.le_refl _, fun _ _ => rfl⟩
 have hs1 : Sim K Γ.own (s.put (some t) (.fnc (.func g) (caps.map (opd s)))) a1 w := by
  subst ha1
  exact hs.put (by simpa [zaB] using ht) hfv
 have hs' : Sim K Γ'.own (s.put (some t) (.fnc (.func g) (caps.map (opd s)))) (({ a1 with defers := { target := .fn (.func g) (caps.map a.eval).toArray, args := #[] } :: a1.defers } : Act).put none undef) w :=
  ⟨hs1.sat, by have := hs1.defers; rw [hd] at this; show _ :: a1.defers = _; rw [this], hs1.size, hs1.env, hs1.hdr⟩
 refine wp_mono (h Γ' rfl (fun ch s2 h => h) K _ w hin' hs') ?_
 rintro e a' w' (⟨K', s', h1, h2, h3⟩ | h3)
 ·have hdf : a'.defers = [{ target := .fn (.func g) (caps.map a.eval).toArray, args := #[] }] := h2.defers
  have go : ∀ u, u ≠ .run → LeaveD P Γ.base fn post g (caps.map (opd s)) u s' → Leaves P fn a'.tmps (RX Γ.base post) a'.defers u w' := fun u hu hl => by
   rw [hdf]
   exact zk2 hu hl hin h1 h2 rfl rfl hs.hdr rfl hc _ hrep
  cases e with
  | panic ch => exact .inr ⟨trivial, hesc _ _ _ (go (.panicking ch) (by simp) h3)⟩
  | ret => exact .inr ⟨trivial, hesc _ _ _ (go .returning (by simp) h3.2)⟩
  | normal => exact absurd h3.1 (by simp)
  | exit i => exact absurd h3.1 (by simp)
  | goto i => exact absurd h3.1 (by simp)
  | outgrown => exact absurd h3.1 (by simp)
 ·exact h3.2.elim
def HS (P : Program) (Γ : Ctx) : List Oper → St → (St → Prop) → Prop
 | [], s, k => k s
 | o :: l, s, k => o.guard = none ∧ zbN P Γ o.dst o.op s fun s' => HS P Γ l s' k
theorem zn4 {P Γ cs} {Q : Exit → Act → List Frame → World → Prop} {k : St → Prop} (ops : Array Oper) : ∀ (l : List Oper) (i : Nat) (s : St) (K : Kr) (a : Act) (w : World), (∀ j, ops[i + j]? = l[j]?) → HS P Γ l s k → In Γ K w → Sim K Γ.own s a w →
  (∀ K' a' w' s', In Γ K' w' → Sim K' Γ.own s' a' w' → k s' → Q .normal a' cs w') → (∀ ch K' a' w' s', In Γ K' w' → Sim K' Γ.own s' a' w' → Γ.pan ch s' → Q (.panic ch) a' cs w') →
  wpOpsS P ops Q (List.range' i l.length) a cs w
 | [], i, s, K, a, w, _, h, hin, hs, hQ, _ => by simpa [wpOpsS] using hQ K a w s hin hs h
 | o :: l, i, s, K, a, w, ho, h, hin, hs, hQ, hP => by
  have h0 : ops[i]? = some o := by simpa using ho 0
  obtain ⟨hg, hst⟩ := h
  rw [List.length_cons, List.range'_succ]
  unfold wpOpsS
  rw [h0]
  simp only [Region.wanted, hg, if_true]
  have hw := zeq hst K a w hin hs (fun a' w' => wpOpsS P ops Q (List.range' (i + 1) l.length) a' cs w') (fun e a' w' => Q e a' cs w')
   (fun K' a' w' s' h1 h2 h3 => zn4 ops l (i + 1) s' K' a' w' (fun j => by have := ho (j + 1); simpa [Nat.add_assoc, Nat.add_comm 1 j] using this) h3 h1 h2 hQ hP) hP
  unfold Oper.wp at hw
  split
  ·rename_i w' hr
   rw [hr] at hw
   exact hw.elim
  ·exact hw
/-- What recover hands out, and how the frame below goes on. -/
def zjq : FrameMode → Value × FrameMode
 | .panicking ({ v, recovered := false, goexit := false } :: older) => (v, .panicking ({ v, recovered := true } :: older))
 | u => (.nilIface, u)
def zrg (Γ : Ctx) (post : FrameMode → List (Nat × Ob) → Nat → Prop) (u' : FrameMode) (e : Exit) (s : St) : Prop := (e = .normal ∨ e = .ret) ∧ ∃ s', Wk Γ s s' ∧ Γ.n0 ≤ s'.next ∧ post u' s'.obs s'.next
theorem RetDf.of_body {P g fn caps obs nx u post id x type pos after l rest} (hf : P.funcs[g]? = some fn)
  (hb : fn.body = some (.seq (.region id ({ dst := some x, op := .call { callee := .builtin .recover, args := #[], argTypes := #[] }, type := type, pos := pos, after := after, guard := none } :: l : List Oper).toArray false) rest))
  (hn : caps.length ≤ fn.ntmps) (hx : x < fn.ntmps) (hres : fn.results = #[])
  (h : ∀ Γ : Ctx, Γ.n0 = nx → HS P Γ l ((entry caps fn.ntmps obs nx).put (some x) (.u (.oth (zjq u).1))) fun s' => V P Γ rest s' (zal P Γ (zrg Γ post (zjq u).2) .done)) : RetDf P g caps obs nx u post := by
 intro k own w vs hsat hhdr hfresh hrep
 have hsz : vs.size = caps.length := hrep.1
 let Γ : Ctx := .of own k nx w
 have hin : In Γ k w := ⟨.refl _, hhdr, fun b o v e => .inl e, hfresh, rfl, rfl, rfl, Nat.le_refl _, fun _ _ => rfl⟩
 have hs : Sim k Γ.own (entry caps fn.ntmps obs nx) { tmps := vs ++ Array.replicate (fn.ntmps - vs.size) undef, defers := [] } w := by
  refine ⟨hsat, rfl, ?_, fun y d hy => ?_, hhdr⟩
  ·simp [entry, hsz]; omega
  ·simp only [entry, zeF, Nat.zero_le, if_true, Nat.sub_zero] at hy
   have hlt := (List.getElem?_eq_some_iff.1 hy).1
   refine ⟨by simp [entry]; omega, ?_⟩
   have := hrep.2 y d hy
   have e : (vs ++ Array.replicate (fn.ntmps - vs.size) undef).getD y undef = vs.getD y undef := by
    simp [Array.getElem?_append, show y < vs.size by omega]
   rw [e]
   exact this
 refine callsD_of_wpS hf hb fun c0 cs hm => wpS_seq (wpS_region ?_)
 have hsize : ({ dst := some x, op := .call { callee := .builtin .recover, args := #[], argTypes := #[] }, type := type, pos := pos, after := after, guard := none } :: l : List Oper).toArray.size = l.length + 1 := by simp
 rw [hsize, List.range_eq_range', List.range'_succ]
 generalize hops : ({ dst := some x, op := .call { callee := .builtin .recover, args := #[], argTypes := #[] }, type := type, pos := pos, after := after, guard := none } :: l : List Oper).toArray = ops
 have h0 : ops[0]? = some { dst := some x, op := .call { callee := .builtin .recover, args := #[], argTypes := #[] }, type := type, pos := pos, after := after, guard := none } := by rw [← hops]; simp
 unfold wpOpsS
 rw [h0]
 have hrun : ∀ ρ : Operand → Value, (execOp ρ { dst := some x, op := .call { callee := .builtin .recover, args := #[], argTypes := #[] }, type := type, pos := pos, after := after, guard := none }).run P w = .ok .recover w := fun ρ => by
  simp [execOp, resolve, invoke, builtin]
 simp only [Region.wanted, if_true, hrun]
 have hrec : recoverD (c0 :: cs) = some ((zjq u).1, { c0 with mode := (zjq u).2 } :: cs) ∨ (recoverD (c0 :: cs) = none ∧ (zjq u).1 = .nilIface ∧ { c0 with mode := (zjq u).2 } = c0) := by
  subst hm
  have same : ∀ m, c0.mode = m → ({ c0 with mode := m } : Frame) = c0 := fun m h => by rw [← h]
  cases hmo : c0.mode with
  | run => exact .inr ⟨by simp [recoverD, hmo], rfl, same _ hmo⟩
  | returning => exact .inr ⟨by simp [recoverD, hmo], rfl, same _ hmo⟩
  | panicking ch =>
   cases ch with
   | nil => exact .inr ⟨by simp [recoverD, hmo], rfl, same _ hmo⟩
   | cons e older =>
    obtain ⟨v, r, g⟩ := e
    cases r <;> cases g
    ·exact .inl (by simp [recoverD, hmo, zjq])
    ·exact .inr ⟨by simp [recoverD, hmo], rfl, same _ hmo⟩
    ·exact .inr ⟨by simp [recoverD, hmo], rfl, same _ hmo⟩
    ·exact .inr ⟨by simp [recoverD, hmo], rfl, same _ hmo⟩
 have main : wpOpsS P ops (Exit.thenS (rest.wpS P (bodyPostS P fn c0 cs fun e u' w' => ∃ v obs' nx' k', e = .returned v ∧ In (.of own k nx w) k' w' ∧ Sat k' own obs' w' ∧ (∀ i, nx' ≤ i → k'.hdr i = none) ∧ nx ≤ nx' ∧ post u' obs' nx'))
   (bodyPostS P fn c0 cs fun e u' w' => ∃ v obs' nx' k', e = .returned v ∧ In (.of own k nx w) k' w' ∧ Sat k' own obs' w' ∧ (∀ i, nx' ≤ i → k'.hdr i = none) ∧ nx ≤ nx' ∧ post u' obs' nx')) (List.range' (0 + 1) l.length)
   (Act.put { tmps := vs ++ Array.replicate (fn.ntmps - vs.size) undef, defers := [] } (some x) (zjq u).1) ({ c0 with mode := (zjq u).2 } :: cs) w := by
  refine zn4 ops l (0 + 1) _ k _ w (fun j => by rw [← hops]; simp [Nat.add_comm 1 j]) (h Γ rfl) hin (hs.put (by simpa [zaB, entry] using hx) (.u _ _ (.oth _))) (fun K' a' w' s' h1 h2 h3 => ?_) (fun ch K' a' w' s' _ _ h3 => h3.elim)
  refine wpS_of_wp (wp_mono (h3 K' a' w' h1 h2) ?_)
  rintro e a2 w2 (⟨K2, s2, g1, g2, g3⟩ | g3)
  ·have hd2 : a2.defers = [] := g2.defers
   have fin : zrg Γ post (zjq u).2 e s2 → a2.defers = [] ∧ ∃ u', ({ c0 with mode := (zjq u).2 } :: cs : List Frame) = { c0 with mode := u' } :: cs ∧ ∃ v, (results fn a2.tmps).run P w2 = .ok v w2 ∧
     ∃ v' obs' nx' k', Ending.returned v = .returned v' ∧ In (.of own k nx w) k' w2 ∧ Sat k' own obs' w2 ∧ (∀ i, nx' ≤ i → k'.hdr i = none) ∧ nx ≤ nx' ∧ post u' obs' nx' := fun ⟨_, s3, hw, hnx, hp⟩ => by
    obtain ⟨K3, q1, q2⟩ := hw K2 a2 w2 g1 g2
    exact ⟨hd2, _, rfl, .tuple #[], by simp [results, hres], _, s3.obs, s3.next, K3, rfl, q1, q2.sat, q2.hdr, hnx, hp⟩
   cases e with
   | normal => exact fin g3
   | ret => exact fin g3
   | panic ch => exact g3.elim
   | exit i => rcases g3.1 with h | h <;> cases h
   | goto i => rcases g3.1 with h | h <;> cases h
   | outgrown => rcases g3.1 with h | h <;> cases h
  ·exact g3.2.elim
 rcases hrec with hr | ⟨hr, h1, h2⟩
 ·rw [hr]
  exact main
 ·rw [hr]
  rw [h1, h2] at main
  exact main
end Go.VL
namespace Go.VL
open Go
/-- A call that is sure to panic, wherever its operands and objects are az here. -/
def zoX (P : Program) (Γ : Ctx) (s : St) (op : Op) : Prop :=
 ∀ s' : St, s'.n = s.n → (∀ y, getK s'.obs y = getK s.obs y) → (∀ x ∈ op.operands, opd s' x = opd s x) → s.next ≤ s'.next → ∀ o : Oper, o.op = op → o.guard = none → zaB o.dst s' → EffP P Γ o s' fun _ => False
/-- A call that changes the objects it is handed, and makes none. -/
def zo5 (P : Program) (N : Nat) (s : St) (op : Op) (d : D) (W : Wr) (R : List Nat) : Prop :=
 ∃ fop args f caps, ∃ (O O' : List (Nat × Ob)) (L : List Nat), zbB op = some (fop, args) ∧ zav (opd s fop) = some (f, caps) ∧ zao P f = true ∧ R = O.map (·.1) ∧ W = (O'.filter fun p => L.contains p.1).map (fun p => (p.1, some p.2)) ∧ O'.map (·.1) = O.map (·.1) ∧
  (∀ y, L.contains y = false → getK O' y = getK O y) ∧ (∀ p ∈ O, getK s.obs p.1 = some p.2) ∧ (O.map (·.1)).Nodup ∧ (d.under N = true ∧ ∀ p ∈ O', p.2.under N = true) ∧
  ∀ nx, s.next ≤ nx → RetX P f (args.map (opd s) ++ caps) O nx fun r o n => r = .val d ∧ (∀ y, getK o y = getK O' y) ∧ n = nx
def zoZ (P : Program) (N : Nat) (s : St) (op : Op) (dst : Option Tmp) (d : D) (W : Wr) (cr : Option Nat) (R : List Nat) : Prop :=
 Op1 P s op dst d W cr R ∨ (zo5 P N s op d W R ∧ cr = none)
def zpF (P : Program) (N : Nat) (all : Array Oper) (s : St) (o : Oper) (d : D) (W : Wr) (cr : Option Nat) (R : List Nat) : Prop :=
 match o.guard with
 | none => zoZ P N s o.op o.dst d W cr R
 | some (j, want) => ∃ t, zaH all j = some t ∧ ((∃ b, getK s.env t = some (.u (.bool b)) ∧
  if b = want then zoZ P N s o.op o.dst d W cr R else d = .un ∧ W = [] ∧ cr = none) ∨ (getK s.env t = some .un ∧ d = .un ∧ W = [] ∧ cr = none))
theorem zcL {α : Type} (l : List (Nat × α)) (c : List Nat) (y : Nat) : getK (l.filter fun p => !c.contains p.1) y = if c.contains y = true then none else getK l y := by
 induction l with
 | nil => simp [getK]
 | cons p l ih =>
  obtain ⟨k, x⟩ := p
  rw [List.filter_cons]
  by_cases hk : c.contains k = true
  ·rw [if_neg (by simpa using hk), ih, zaa]
   by_cases hy : y = k
   ·subst hy; rw [if_pos hk, if_pos hk]
   ·rw [if_neg hy]
  ·rw [if_pos (by simpa using hk), zaa, zaa, ih]
   by_cases hy : y = k
   ·subst hy; rw [if_pos rfl, if_pos rfl, if_neg hk]
   ·rw [if_neg hy, if_neg hy]
theorem ziU {α : Type} (l : List (Nat × α)) (c : List Nat) (y : Nat) : getK (l.filter fun p => c.contains p.1) y = if c.contains y = true then getK l y else none := by
 induction l with
 | nil => simp [getK]
 | cons p l ih =>
  obtain ⟨k, x⟩ := p
  rw [List.filter_cons]
  by_cases hk : c.contains k = true
  ·rw [if_pos (by exact hk), zaa, zaa, ih]
   by_cases hy : y = k
   ·subst hy; rw [if_pos rfl, if_pos rfl, if_pos hk]
   ·rw [if_neg hy, if_neg hy]
  ·rw [if_neg (by exact hk), ih, zaa]
   by_cases hy : y = k
   ·subst hy; rw [if_neg hk, if_neg hk]
   ·rw [if_neg hy]
theorem ze0 {α : Type} {l : List (Nat × α)} {y : Nat} {x : α} (h : getK l y = some x) : (y, x) ∈ l := by
 induction l with
 | nil => cases h
 | cons p l ih =>
  obtain ⟨k, d⟩ := p
  rw [zaa] at h
  by_cases hyk : y = k
  ·rw [if_pos hyk] at h; cases h; subst hyk; simp
  ·rw [if_neg hyk] at h; exact List.mem_cons_of_mem _ (ih h)
theorem zc1 {α : Type} {l : List (Nat × α)} {y : Nat} (h : y ∈ l.map (·.1)) : ∃ x, getK l y = some x := by
 induction l with
 | nil => cases h
 | cons p l ih =>
  obtain ⟨k, d⟩ := p
  rw [zaa]
  by_cases hyk : y = k
  ·exact ⟨d, by rw [if_pos hyk]⟩
  ·rw [if_neg hyk]
   simp only [List.map_cons, List.mem_cons] at h
   exact ih (h.resolve_left hyk)
theorem zhT (O : List (Nat × Ob)) (y : Nat) : getK (O.map fun p => (p.1, some p.2) : Wr) y = (getK O y).map some := by
 induction O with
 | nil => rfl
 | cons p l ih =>
  obtain ⟨k, d⟩ := p
  rw [List.map_cons, zaa, zaa, ih]
  split <;> rfl
theorem zc0 {ρ : Nat → Nat} {N M : Nat} (hρ : ∀ y, y < N → ρ y = y) (hNM : N ≤ M) : ∀ {d : D}, d.under N = true → Good ρ M d
 | .u x, _ => ⟨by simp [D.ren], by simp [D.under]⟩
 | .any, _ => ⟨by simp [D.ren], by simp [D.under]⟩
 | .ptr i off, h => by simp [D.under] at h; exact ⟨by simp [D.ren, hρ i h], by simp [D.under]; omega⟩
 | .vec i len, h => by simp [D.under] at h; exact ⟨by simp [D.ren, hρ i h], by simp [D.under]; omega⟩
 | .mp i, h => by simp [D.under] at h; exact ⟨by simp [D.ren, hρ i h], by simp [D.under]; omega⟩
 | .elt i sz idx off, h => by simp [D.under] at h; exact ⟨by simp [D.ren, hρ i h], by simp [D.under]; omega⟩
 | .fnc f caps, h => by
  have hc : ∀ c ∈ caps, Good ρ M c := fun c hc => zc0 hρ hNM (by rw [D.under] at h; simp only [List.all_map, List.all_eq_true] at h; exact h c hc)
  refine ⟨by rw [D.ren]; congr 1; exact (List.map_congr_left fun c hc' => (hc c hc').1).trans (List.map_id _), ?_⟩
  rw [D.under]
  simp only [List.all_map, List.all_eq_true]
  exact fun c hc' => (hc c hc').2
 | .agg caps, h => by
  have hc : ∀ c ∈ caps, Good ρ M c := fun c hc => zc0 hρ hNM (by rw [D.under] at h; simp only [List.all_map, List.all_eq_true] at h; exact h c hc)
  refine ⟨by rw [D.ren]; congr 1; exact (List.map_congr_left fun c hc' => (hc c hc').1).trans (List.map_id _), ?_⟩
  rw [D.under]
  simp only [List.all_map, List.all_eq_true]
  exact fun c hc' => (hc c hc').2
 | .tup caps, h => by
  have hc : ∀ c ∈ caps, Good ρ M c := fun c hc => zc0 hρ hNM (by rw [D.under] at h; simp only [List.all_map, List.all_eq_true] at h; exact h c hc)
  refine ⟨by rw [D.ren]; congr 1; exact (List.map_congr_left fun c hc' => (hc c hc').1).trans (List.map_id _), ?_⟩
  rw [D.under]
  simp only [List.all_map, List.all_eq_true]
  exact fun c hc' => (hc c hc').2
theorem zhI {ρ : Nat → Nat} {N M : Nat} (hρ : ∀ y, y < N → ρ y = y) (hNM : N ≤ M) {ob : Ob} (h : ob.under N = true) : ob.all (Good ρ M) := by
 cases ob with
 | it => trivial
 | box cs => exact fun c hc => zc0 hρ hNM ((List.all_eq_true.1 h) c hc)
 | vec e sz rows => exact fun r hr c hc => zc0 hρ hNM ((List.all_eq_true.1 ((List.all_eq_true.1 h) r hr)) c hc)
 | map kk ag es => exact fun p hp c hc => zc0 hρ hNM ((List.all_eq_true.1 ((List.all_eq_true.1 h) p hp)) c hc)
/-- What comes before stands before. -/
theorem zmI {ops : List Oper} (hord : zgF ops = true) : ∀ {i j : Nat} {y : Oper}, ops[j]? = some y → zdS ops ops.length i j = true → i < j := by
 have key : ∀ (n i j : Nat) (y : Oper), ops[j]? = some y → zdS ops n i j = true → i < j := by
  intro n
  induction n with
  | zero => intro i j y hj h; simp [zdS] at h
  | succ n ih =>
   intro i j y hj h
   simp only [zdS, hj] at h
   rw [List.any_eq_true] at h
   obtain ⟨p, hp, h⟩ := h
   have hlt := (zc6 hord hj).1 p hp
   simp only [Bool.or_eq_true, beq_iff_eq] at h
   rcases h with rfl | h
   ·exact hlt
   ·have hpl : p < ops.length := by have := (List.getElem?_eq_some_iff.1 hj).1; omega
    have := ih i p _ (List.getElem?_eq_getElem hpl) h
    omega
 exact fun {i j y} hj h => key _ i j y hj h
theorem EffP.guard {P Γ s k} {dst op type pos after guard} (h : EffP P Γ { dst, op, type, pos, after, guard := none } s k) : EffP P Γ { dst, op, type, pos, after, guard } s k := h
set_option maxHeartbeats 4000000 in
theorem zoR {P Γ} {Q : Exit → St → Prop} {kt : Kt} {id : Nat} {ops : List Oper} {T : Nat → D} {W : Nat → Wr} {cr : Nat → Option Nat} {R : Nat → List Nat} {kd : Nat → Nat} {s : St} {M : Nat}
  (hm : P.follows .mixedOrders = true) (hord : zgF ops = true) (hn0 : Γ.n0 ≤ s.next) (hM : s.next ≤ M)
  (hcr : ∀ i x, cr i = some x → s.next ≤ x ∧ x < M) (hcr1 : ∀ i j x, cr i = some x → cr j = some x → i = j)
  (hpair : ∀ i j, i < j → j < ops.length → zdS ops ops.length i j = false → (∀ y ∈ zda (W i), y ∉ R j ∧ y ∉ zda (W j)) ∧ ∀ y ∈ zda (W j), y ∉ R i)
  (hkd : ∀ i, kd i ≠ 0 → W i = [] ∧ cr i = none) (hstop : ∀ p i, kd p = 1 → i < ops.length → W i ≠ [] → zdS ops ops.length i p = true ∨ zdS ops ops.length p i = true)
  (hval : ∀ i o, ops[i]? = some o → zaB o.dst s ∧ if kd i = 2 then ∃ p, kd p = 1 ∧ p < ops.length ∧ zdS ops ops.length p i = true else if kd i = 1 then o.guard = none ∧ zoX P Γ (stW ops T W s M fun j => decide (j < i)) o.op else
    zpF P s.next ops.toArray (stW ops T W s M fun j => decide (j < i)) o (T i) (W i) (cr i) (R i))
  (hfin : (∀ i, i < ops.length → kd i ≠ 1) → ∃ s', (stW ops T W s M fun _ => true).Eqo s' ∧ zal P Γ Q kt .normal s') : V P Γ (.region id ops.toArray true) s (zal P Γ Q kt) := by
 intro K a w hin hs
 refine wp_region_any hm ?_
 have hin0 : In Γ K { w with drawn := w.drawn + 1 } := ⟨hin.le, hin.none0, hin.memNew, hin.fresh, hin.os, hin.tape, hin.output, hin.size, hin.block⟩
 have hs0 : Sim K Γ.own s a { w with drawn := w.drawn + 1 } := ⟨⟨hs.sat.mem, fun i ob hi => by
   obtain ⟨h, h1, h2, h3⟩ := hs.sat.ob i ob hi
   exact ⟨h, h1, h2, h3.keep (.refl _) fun b e => rfl⟩, hs.sat.apart⟩, hs.defers, hs.size, hs.env, hs.hdr⟩
 generalize ({ w with drawn := w.drawn + 1 } : World) = w0 at hin0 hs0
 have key : ∀ (fuel : Nat) (listed : Array Bool) (K : Kr) (a : Act) (w : World), listed.size = ops.length → (listed.toList.filter (! ·)).length ≤ fuel →
   (∀ j y, ops[j]? = some y → listed.getD j false = true → ∀ p ∈ zb6 y, listed.getD p false = true) → In Γ K w → Sim K Γ.own (stW ops T W s M fun j => listed.getD j false) a w →
   (∀ j x, j < ops.length → listed.getD j false = false → cr j = some x → K.hdr x = none) → (∀ p, kd p = 1 → p < ops.length → listed.getD p false = false) →
   wpAny P .any ops.toArray (VPost Γ (zal P Γ Q kt)) fuel listed a w := by
  have allDone : ∀ (listed : Array Bool) (K : Kr) (a : Act) (w : World), (∀ p, kd p = 1 → p < ops.length → listed.getD p false = false) → (∀ j, j < ops.length → listed.getD j false = true) → In Γ K w → Sim K Γ.own (stW ops T W s M fun j => listed.getD j false) a w →
    ∃ K' s', In Γ K' w ∧ Sim K' Γ.own s' a w ∧ zal P Γ Q kt .normal s' := fun listed K a w hsp hall hin hs => by
   obtain ⟨s', he, hfin⟩ := hfin fun i hi hk => by have h1 := hsp i hk hi; rw [hall i hi] at h1; cases h1
   refine ⟨K, _, hin, Sim.eqo (hs.eqo ?_) he, hfin⟩
   refine ⟨rfl, fun x => ?_, rfl, fun x => ?_⟩
   ·simp only [stW, zaz]
    rw [zb5 W _ (fun _ => true) x ops.length fun j hj _ => hall j hj]
   ·exact zbA T _ _ x ops 0 s.env s.env rfl fun j o hj _ => by
     have hl := (List.getElem?_eq_some_iff.1 hj).1
     simp only [Nat.zero_add]
     exact hall j hl
  have least : ∀ (listed : Array Bool), listed.size = ops.length → ∀ i, i < ops.length → listed.getD i false = false → ∃ i0, i0 ∈ Region.ready .any ops.toArray listed := fun listed hsz i hi hu => by
   induction i using Nat.strongRecOn with
   | _ i ih =>
    have ho : ops[i]? = some ops[i] := List.getElem?_eq_getElem hi
    by_cases hp : ∀ p ∈ zb6 ops[i], listed.getD p false = true
    ·refine ⟨i, mem_ready.2 ⟨?_, ops[i], by simp, fun e he hb => hp e.on ?_⟩⟩
     ·have hi' : i < listed.size := by omega
      simp [hi'] at hu ⊢
      exact hu
     ·simp only [zb6, List.mem_map, List.mem_filter]
      exact ⟨e, ⟨by simpa using he, hb⟩, rfl⟩
    ·simp only [Classical.not_forall] at hp
     obtain ⟨p, hpm, hpu⟩ := hp
     have hlt := (zc6 hord ho).1 p hpm
     exact ih p hlt (by omega) (by simpa using hpu)
  intro fuel
  induction fuel with
  | zero =>
   intro listed K a w hsz hcnt hcl hin hs _ hsp
   have hall : ∀ j, j < ops.length → listed.getD j false = true := fun j hj => by
    have hj' : j < listed.size := by omega
    have h0 : (listed.toList.filter (! ·)) = [] := List.eq_nil_of_length_eq_zero (by omega)
    have := (List.filter_eq_nil_iff.1 h0) listed[j] (by simp)
    simp only [Bool.not_eq_true', Bool.not_eq_false] at this
    simp [hj', this]
   refine ⟨?_, .inl (allDone listed K a w hsp hall hin hs)⟩
   refine List.eq_nil_iff_forall_not_mem.2 fun i hi => ?_
   obtain ⟨h1, o, ho, _⟩ := mem_ready.1 hi
   have hl : i < ops.length := by
    have := (Array.getElem?_eq_some_iff.1 ho).1
    simpa using this
   have := hall i hl
   have hi' : i < listed.size := by omega
   simp [hi'] at h1 this
   rw [h1] at this
   cases this
  | succ fuel ih =>
   intro listed K a w hsz hcnt hcl hin hs hfr hsp
   refine ⟨fun hnil => .inl (allDone listed K a w hsp (fun j hj => ?_) hin hs), fun i hi => ?_⟩
   ·cases hu : listed.getD j false with
    | true => rfl
    | false =>
     obtain ⟨i0, h0⟩ := least listed hsz j hj hu
     rw [hnil] at h0
     cases h0
   ·obtain ⟨hun, o, ho, hall⟩ := mem_ready.1 hi
    have ho' : ops[i]? = some o := by simpa using ho
    have hil := (List.getElem?_eq_some_iff.1 ho').1
    have hil' : i < listed.size := by omega
    have hunf : listed.getD i false = false := by simp [hil'] at hun ⊢; exact hun
    have hpred : ∀ p ∈ zb6 o, listed.getD p false = true := fun p hp => by
     simp only [zb6, List.mem_map, List.mem_filter] at hp
     obtain ⟨e, ⟨he, hb⟩, rfl⟩ := hp
     exact hall e (by simpa using he) hb
    obtain ⟨hpo, hv⟩ := hval i o ho'
    have bef1 : ∀ j, zdS ops ops.length j i = true → listed.getD j false = true := fun j hb => zc4 hcl _ j i o ho' hpred hb
    have bef2 : ∀ j x, ops[j]? = some x → zdS ops ops.length i j = true → listed.getD j false = false := fun j x hj hb => by
     cases hu : listed.getD j false with
     | false => rfl
     | true =>
      have := zc4 hcl _ i j x hj (hcl j x hj hu) hb
      rw [hunf] at this
      cases this
    -- who writes a slot that this operation looks at, or writes
    have before : ∀ j x, ops[j]? = some x → j < i → zdc ops.toArray x o = true ∨ zdc ops.toArray o x = true → listed.getD j false = true := fun j x hj hlt hmm =>
     bef1 j ((zc6 hord ho').2.2 j x hlt hj hmm)
    have behind : ∀ j x, ops[j]? = some x → i < j → zdc ops.toArray x o = true ∨ zdc ops.toArray o x = true → listed.getD j false = false := fun j x hj hlt hmm =>
     bef2 j x hj ((zc6 hord hj).2.2 i o hlt ho' hmm.symm)
    have agree : ∀ t, t ∈ o.looksAt ops.toArray → getK (zdi T (fun j => listed.getD j false) ops 0 s.env) t = getK (zdi T (fun j => decide (j < i)) ops 0 s.env) t := fun t ht => by
     refine zbA T _ _ t ops 0 s.env s.env rfl fun j x hj hx => ?_
     simp only [Nat.zero_add]
     have hmm : zdc ops.toArray x o = true := by simp [zdc, hx, ht]
     rcases Nat.lt_trichotomy j i with h | h | h
     ·rw [before j x hj h (.inl hmm)]; simp [h]
     ·subst h; rw [hunf]; simp
     ·rw [behind j x hj h (.inl hmm)]; simp; omega
    have hopd : ∀ x ∈ o.op.operands, opd (stW ops T W s M fun j => decide (j < i)) x = opd (stW ops T W s M fun j => listed.getD j false) x := fun x hx => by
     cases x with
     | tmp t =>
      simp only [opd, St.at, stW]
      rw [agree t (List.mem_append_left _ (List.mem_filterMap.2 ⟨.tmp t, by simpa using hx, rfl⟩))]
     | _ => rfl
    -- who changes an object that this operation looks at
    have hloc : ∀ y ∈ R i, getK (stW ops T W s M fun j => decide (j < i)).obs y = getK (stW ops T W s M fun j => listed.getD j false).obs y := fun y hy => by
     simp only [stW, zaz]
     rw [zb5 W (fun j => decide (j < i)) (fun j => listed.getD j false) y ops.length fun j hj hk => ?_]
     rcases Nat.lt_trichotomy j i with h | h | h
     ·have hb : zdS ops ops.length j i = true := by
       cases hb : zdS ops ops.length j i with
       | true => rfl
       | false => exact absurd hy (((hpair j i h hil hb).1 y hk).1)
      rw [bef1 j hb]
      simp [h]
     ·subst h; rw [hunf]; simp
     ·have hb : zdS ops ops.length i j = true := by
       cases hb : zdS ops ops.length i j with
       | true => rfl
       | false => exact absurd hy ((hpair i j h hj hb).2 y hk)
      rw [bef2 j _ (List.getElem?_eq_getElem hj) hb]
      simp; omega
    have hlast : ∀ y ∈ zda (W i), ∀ j, j < ops.length → i < j → y ∈ zda (W j) → listed.getD j false = false := fun y hy j hj hlt hk => by
     have hb : zdS ops ops.length i j = true := by
      cases hb : zdS ops ops.length i j with
      | true => rfl
      | false => exact absurd hk ((hpair i j hlt hj hb).1 y hy).2
     exact bef2 j _ (List.getElem?_eq_getElem hj) hb
    have hS : (fun j => (listed.setIfInBounds i true).getD j false) = fun j => listed.getD j false || j == i := funext fun j => by
     by_cases hji : j = i
     ·subst hji; simp [hil']
     ·simp [Array.getElem?_setIfInBounds_ne (Ne.symm hji), hji]
    -- the slots behind this operation
    have henv : ∀ (x : Nat), o.dst = some x → getK (zdi T (fun j => listed.getD j false || j == i) ops 0 s.env) x = some (T i) := fun x hdx =>
     zfS T _ i x ops 0 s.env i o ho' (by omega) hdx fun j o' hj hlt hd' => by
      rw [Nat.zero_add]
      exact behind j o' hj hlt (.inl (by simp [zdc, hd', hdx]))
    have henv' : ∀ (x : Nat), o.dst ≠ some x → getK (zdi T (fun j => listed.getD j false || j == i) ops 0 s.env) x = getK (zdi T (fun j => listed.getD j false) ops 0 s.env) x := fun x hdx =>
     zbA T _ (fun j => listed.getD j false) x ops 0 s.env s.env rfl fun j o' hj hd' => by
      simp only [Nat.zero_add]
      have : j ≠ i := fun e => by subst e; rw [ho'] at hj; cases hj; exact hdx hd'
      simp [this]
    -- an operation after one that panics is never ready
    by_cases hk2 : kd i = 2
    ·rw [if_pos hk2] at hv
     obtain ⟨p, hp1, hp2, hp3⟩ := hv
     have := bef1 p hp3
     rw [hsp p hp1 hp2] at this
     cases this
    rw [if_neg hk2] at hv
    by_cases hk1 : kd i = 1
    ·rw [if_pos hk1] at hv
     obtain ⟨hg, hst⟩ := hv
     unfold wpOp
     rw [ho]
     simp only [Region.wanted, hg, if_true]
     refine .inl (hst (stW ops T W s M fun j => listed.getD j false) rfl (fun y => ?_) (fun x hx => (hopd x hx).symm) (Nat.le_refl _) o rfl hg hpo K a w hin hs _ _ (fun _ _ _ _ _ _ h => h.elim) fun ch K' a' w' s' h1 h2 h3 => .inl ⟨K', s', h1, h2, h3⟩)
     simp only [stW, zaz]
     rw [zb5 W (fun j => listed.getD j false) (fun j => decide (j < i)) y ops.length fun j hj hk => ?_]
     have hne : W j ≠ [] := fun e => by rw [e] at hk; cases hk
     rcases hstop i j hk1 hj hne with hb | hb
     ·have h1 := bef1 j hb
      have hji : j < i := by
       rcases Nat.lt_trichotomy j i with h | h | h
       ·exact h
       ·subst h; rw [hunf] at h1; cases h1
       ·have := zmI hord ho' hb; omega
      rw [h1]; simp [hji]
     ·have h1 := bef2 j _ (List.getElem?_eq_getElem hj) hb
      have hji : ¬ j < i := by have := zmI hord (List.getElem?_eq_getElem hj) hb; omega
      rw [h1]; simp [hji]
    rw [if_neg hk1] at hv
    have go : ∀ K' a' w', In Γ K' w' → Sim K' Γ.own (stW ops T W s M fun j => listed.getD j false || j == i) a' w' →
      (∀ j x, j < ops.length → (listed.getD j false || j == i) = false → cr j = some x → K'.hdr x = none) →
      wpAny P .any ops.toArray (VPost Γ (zal P Γ Q kt)) fuel (listed.setIfInBounds i true) a' w' := fun K' a' w' h1 h2 h3 => by
     have hS' : ∀ j, (listed.setIfInBounds i true).getD j false = (listed.getD j false || j == i) := fun j => congrFun hS j
     refine ih (listed.setIfInBounds i true) K' a' w' (by simp [hsz]) ?_ (fun j y hj hSj p hp => ?_) h1 (by rw [hS]; exact h2) (fun j x hj hu => h3 j x hj (by rw [← hS']; exact hu)) (fun p hp1 hp2 => by
      rw [hS', hsp p hp1 hp2]
      have : p ≠ i := fun e => hk1 (e ▸ hp1)
      simp [this])
     ·have cnt : ∀ (l : List Bool) (n : Nat), l[n]? = some false → ((l.set n true).filter (! ·)).length + 1 = (l.filter (! ·)).length := by
       intro l
       induction l with
       | nil => intro n h; simp at h
       | cons b l ih =>
               intro n h
               cases n with
               | zero => simp at h; subst h; simp
               | succ n =>
                have := ih n (by simpa using h)
                cases b <;> simp at this ⊢ <;> omega
      have := cnt listed.toList i (by
       rw [Array.getElem?_toList, Array.getElem?_eq_getElem hil']
       simp [hil'] at hunf
       rw [hunf])
      rw [Array.toList_setIfInBounds]
      omega
     ·rw [hS'] at hSj ⊢
      simp only [Bool.or_eq_true, beq_iff_eq] at hSj ⊢
      rcases hSj with hSj | rfl
      ·exact .inl (hcl j y hj hSj p hp)
      ·rw [ho'] at hj
       cases hj
       exact .inl (hpred p hp)
    -- an operation that changes nothing
    have next : W i = [] → ∀ K' v w', In Γ K' w' → K.le K' → K'.hdr = K.hdr → Sat K' Γ.own (stW ops T W s M fun j => listed.getD j false).obs w' → Rep K' (T i) v →
      wpAny P .any ops.toArray (VPost Γ (zal P Γ Q kt)) fuel (listed.setIfInBounds i true) (a.put o.dst v) w' := fun hW K' v w' h1 h2 h3 h4 h5 => by
     refine go K' _ w' h1 ?_ fun j x hj hu hc => by
      rw [h3]
      simp only [Bool.or_eq_false_iff] at hu
      exact hfr j x hj hu.1 hc
     have hdef : (a.put o.dst v).defers = Γ.own.dfr := by cases o.dst <;> exact hs.defers
     have hsize : (a.put o.dst v).tmps.size = s.n := by
      have hsz2 : a.tmps.size = s.n := hs.size
      cases o.dst <;> simp [Act.put, hsz2]
     refine ⟨h4.eqo fun y => ?_, hdef, hsize, fun x d hx => ?_, fun j hj => by rw [h3]; exact hs.hdr j hj⟩
     ·simp only [stW, zaz]
      rw [zb5 W (fun j => listed.getD j false) (fun j => listed.getD j false || j == i) y ops.length fun j hj hk => ?_]
      by_cases hji : j = i
      ·subst hji; rw [hW] at hk; cases hk
      ·simp [hji]
     ·simp only [stW] at hx
      by_cases hdx : o.dst = some x
      ·rw [henv x hdx] at hx
       cases hx
       have hlt : x < s.n := by rw [hdx] at hpo; exact hpo
       refine ⟨hlt, ?_⟩
       have hsz' : a.tmps.size = s.n := hs.size
       rw [hdx]
       simpa [Act.put, hsz', hlt] using h5
      ·rw [henv' x hdx] at hx
       obtain ⟨g1, g2⟩ := hs.env x d hx
       refine ⟨g1, ?_⟩
       have e : (a.put o.dst v).tmps.getD x undef = a.tmps.getD x undef := by
               cases hd : o.dst with
               | none => rfl
               | some y =>
                have hne : y ≠ x := fun e => hdx (by rw [hd, e])
                simp [Act.put, Array.getElem?_setIfInBounds_ne hne]
       rw [e]
       exact g2.mono h2
    unfold wpOp
    rw [ho]
    simp only
    have two : (Region.wanted o (yielded ops.toArray a.tmps) = true ∧ zoZ P s.next (stW ops T W s M fun j => decide (j < i)) o.op o.dst (T i) (W i) (cr i) (R i)) ∨ (Region.wanted o (yielded ops.toArray a.tmps) = false ∧ T i = .un ∧ W i = []) := by
     unfold zpF at hv
     split at hv
     ·rename_i hg
      exact .inl ⟨by simp [Region.wanted, hg], hv⟩
     ·rename_i j want hg
      obtain ⟨t, ht, hv⟩ := hv
      have lift : ∀ dd, getK (stW ops T W s M fun j => decide (j < i)).env t = some dd → getK (stW ops T W s M fun j => listed.getD j false).env t = some dd := fun dd hb => by
       simp only [stW] at hb ⊢
       rw [agree t (by
               refine List.mem_append_right _ ?_
               unfold zaH at ht
               simp only [hg]
               rw [ht]
               simp)]
       exact hb
      rcases hv with ⟨b, hb, hv⟩ | ⟨hb, hv⟩
      ·have hb' := lift _ hb
       obtain ⟨hlt, hr⟩ := hs.getK hb'
       have hbv := zcC hr
       have hyd : yielded ops.toArray a.tmps j = some b := by
               unfold yielded
               unfold zaH at ht
               rw [ht]
               simp only [Option.bind_some]
               have : a.tmps[t]? = some (.bool b) := by
                rw [Array.getElem?_eq_getElem hlt]
                simp [hlt] at hbv
                rw [hbv]
               rw [this]
       by_cases hbw : b = want
       ·rw [if_pos hbw] at hv
        exact .inl ⟨by simp [Region.wanted, hg, hyd, hbw], hv⟩
       ·rw [if_neg hbw] at hv
        exact .inr ⟨by simp [Region.wanted, hg, hyd, hbw], hv.1, hv.2.1⟩
      ·have hb' := lift _ hb
       obtain ⟨hlt, hr⟩ := hs.getK hb'
       have hbv := zcY hr
       have hyd : yielded ops.toArray a.tmps j = none := by
               unfold yielded
               unfold zaH at ht
               rw [ht]
               simp only [Option.bind_some]
               have : a.tmps[t]? = some undef := by
                rw [Array.getElem?_eq_getElem hlt]
                simp [hlt] at hbv
                rw [hbv]
               rw [this]
               try rfl
       exact .inr ⟨by simp [Region.wanted, hg, hyd], hv.1, hv.2.1⟩
    rcases two with ⟨hw, hv⟩ | ⟨hw, hv⟩
    ·rw [if_pos hw]
     rcases hv with (⟨hv, hW, hcn, hR⟩ | ⟨e, he, hR, hcase⟩) | ⟨⟨fop, args, f, caps, O, O', L, hco, hcf, hcb, hR, hW, hkeys, hsm, hO, hnd, ⟨hdu, hOu⟩, hret⟩, hcn⟩
     ·replace hv := zfM (s := stW ops T W s M fun j => decide (j < i)) (s' := stW ops T W s M fun j => listed.getD j false) (by rw [← hR]; exact hloc) hopd hv
      exact .inl (zfL hv hin hs fun K' v w' h1 h2 h3 h4 h5 => next hW K' v w' h1 h2 h3 h4 h5)
     ·
      replace he := zdx (s := stW ops T W s M fun j => decide (j < i)) (s' := stW ops T W s M fun j => listed.getD j false) (by rw [← hR]; exact hloc) hopd he
      let un : Nat → Prop := fun y => ∃ j, j < ops.length ∧ (listed.getD j false || j == i) = false ∧ cr j = some y
      let ρ : Nat → Nat := fun y => open Classical in if cr i = some y then M else if un y then M + 1 + y else y
      have hknown : ∀ y h, K.hdr y = some h → ρ y = y ∧ y < M := fun y h hy => by
       have h1 : cr i ≠ some y := fun e => by rw [hfr i y hil hunf e] at hy; cases hy
       have h2 : ¬ un y := fun ⟨j, hj, hu, hc⟩ => by
               simp only [Bool.or_eq_false_iff] at hu
               rw [hfr j y hj hu.1 hc] at hy
               cases hy
       refine ⟨by simp only [ρ]; rw [if_neg h1, if_neg h2], ?_⟩
       rcases Nat.lt_or_ge y M with h | h
       ·exact h
       ·rw [hs.hdr y h] at hy; cases hy
      have hobs : ∀ y ob, getK (stW ops T W s M fun j => listed.getD j false).obs y = some ob → (ρ y = y ∧ y < M) ∧ ob.all (Good ρ M) := fun y ob hy => by
       have hok := hs.sat.ob y ob hy
       obtain ⟨h, h1, _⟩ := hok
       exact ⟨hknown y h h1, (hs.sat.ob y ob hy).good hknown⟩
      have hgood := zks (g := Good ρ M) (fun _ => ⟨by simp [D.ren], by simp [D.under]⟩) (fun cs h => h.agg) he (fun x hx => (zaL hs x).good hknown) (fun y ob hy => (hobs y ob hy).2)
      obtain ⟨e', he', ⟨rfl, hgU, hgN⟩⟩ := Lin.effD.2 _ hgood
      have he2 : effD P (stW ops T W s M fun j => listed.getD j false) o.op fun e => zaB o.dst (stW ops T W s M fun j => listed.getD j false) ∧ (e.nw = none → o.dst = none) ∧
               ((stW ops T W s M fun j => listed.getD j false).effS e o.dst) = (stW ops T W s M fun j => listed.getD j false).effS e' o.dst :=
       Lin.effD.1 _ _ (fun e hee => by
               subst hee
               refine ⟨hpo, fun hn => ?_, rfl⟩
               rw [hn] at hcase
               exact hcase.1) he
      refine .inl (zeq (k := fun s' => s' = (stW ops T W s M fun j => listed.getD j false).effS e' o.dst) (zhg he2) K a w hin hs _ _ (fun K' a' w' s' h1 h2 h3 => ?_) fun ch K' a' w' s' h1 h2 h3 => .inl ⟨K', s', h1, h2, h3⟩)
      subst h3
      have hle : St.Le Γ.n0 ρ ((stW ops T W s M fun j => listed.getD j false).effS e' o.dst) (stW ops T W s M fun j => listed.getD j false || j == i) := by
       have hWi : ∀ y, y ∈ zda (W i) → getK (zdU W (fun j => listed.getD j false || j == i) ops.length) y = getK (W i) y := fun y hy =>
               zfK W _ i y hy ops.length hil fun j hj hlt hk => hlast y hy j hj hlt hk
       have hWn : ∀ y, y ∉ zda (W i) → getK (zdU W (fun j => listed.getD j false || j == i) ops.length) y = getK (zdU W (fun j => listed.getD j false) ops.length) y := fun y hy =>
               zb5 W _ _ y ops.length fun j hj hk => by
                by_cases hji : j = i
                ·subst hji; exact absurd hk hy
                ·simp [hji]
       have hinj : ∀ y1 y2, y1 < M → y2 < M → ρ y1 = ρ y2 → y1 = y2 := fun y1 y2 g1 g2 hr => by
               simp only [ρ] at hr
               by_cases c1 : cr i = some y1 <;> by_cases c2 : cr i = some y2
               ·rw [c1] at c2; cases c2; rfl
               ·rw [if_pos c1, if_neg c2] at hr
                split at hr <;> omega
               ·rw [if_neg c1, if_pos c2] at hr
                split at hr <;> omega
               ·rw [if_neg c1, if_neg c2] at hr
                split at hr <;> split at hr <;> omega
       have hobs2 : ∀ y ob', getK (stW ops T W s M fun j => listed.getD j false || j == i).obs y = some ob' → y < M ∧
                ∃ ob, getK ((stW ops T W s M fun j => listed.getD j false).effS e' o.dst).obs (ρ y) = some ob ∧ Ob.le ρ ob ob' ∧ ob'.under M = true := fun y ob' hy => by
               simp only [stW, zaz] at hy
               cases hn : e'.nw with
               | none =>
                rw [hn] at hcase
                obtain ⟨hd0, hWU, hcn⟩ := hcase
                have hob : ∀ z, getK ((stW ops T W s M fun j => listed.getD j false).effS e' o.dst).obs z = match getK (W i) z with | some x => x | none => getK (stW ops T W s M fun j => listed.getD j false).obs z := fun z => by
                 simp only [St.effS, hn, zaz, hWU]
                 try rfl
                by_cases hk : y ∈ zda (W i)
                ·rw [hWi y hk] at hy
                 obtain ⟨x, hx⟩ := zdn (W i) y hk
                 rw [hx] at hy
                 simp only at hy
                 subst hy
                 have hmem : (y, some ob') ∈ e'.U := by
                  rw [← hWU]
                  have : ∀ (l : Wr), getK l y = some (some ob') → (y, some ob') ∈ l := by
                   intro l
                   induction l with
                   | nil => intro h; cases h
                   | cons p l ih =>
                    obtain ⟨k', d'⟩ := p
                    intro h
                    rw [zaa] at h
                    by_cases hyk : y = k'
                    ·rw [if_pos hyk] at h; cases h; subst hyk; simp
                    ·rw [if_neg hyk] at h; exact List.mem_cons_of_mem _ (ih h)
                  exact this _ hx
                 obtain ⟨hga, o0, ho0⟩ := hgU _ hmem ob' rfl
                 obtain ⟨⟨hr, hlt⟩, _⟩ := hobs y o0 ho0
                 refine ⟨hlt, ob', ?_, (Ob.zck hga).1, (Ob.zck hga).2⟩
                 rw [hr, hob, hx]
                ·rw [hWn y hk] at hy
                 obtain ⟨⟨hr, hlt⟩, hga⟩ := hobs y ob' (by simp only [stW, zaz]; exact hy)
                 refine ⟨hlt, ob', ?_, (Ob.zck hga).1, (Ob.zck hga).2⟩
                 rw [hr, hob, zbX (W i) y hk]
                 simp only [stW, zaz]
                 exact hy
               | some nb =>
                rw [hn] at hcase
                obtain ⟨x0, hcx, hWU, hTi⟩ := hcase
                have hx0 := hcr i x0 hcx
                have hob : ∀ z, z ≠ M → getK ((stW ops T W s M fun j => listed.getD j false).effS e' o.dst).obs z = match getK e'.U z with | some x => x | none => getK (stW ops T W s M fun j => listed.getD j false).obs z := fun z hz => by
                 have : ∀ (q : St) (d : D), (q.put o.dst d).obs = q.obs := fun q d => by cases o.dst <;> rfl
                 simp only [St.effS, hn, this, zaa]
                 rw [if_neg (by simpa [stW] using hz), zaz]
                 try rfl
                have hobM : getK ((stW ops T W s M fun j => listed.getD j false).effS e' o.dst).obs M = some nb := by
                 have : ∀ (q : St) (d : D), (q.put o.dst d).obs = q.obs := fun q d => by cases o.dst <;> rfl
                 simp only [St.effS, hn, this, zaa]
                 rw [if_pos (by simp [stW])]
                by_cases hyx : y = x0
                ·subst hyx
                 have hk : y ∈ zda (W i) := by rw [hWU]; simp [zda]
                 rw [hWi y hk, hWU, zaa, if_pos rfl] at hy
                 simp only at hy
                 cases hy
                 have hga := hgN ob' hn
                 refine ⟨hx0.2, ob', ?_, (Ob.zck hga).1, (Ob.zck hga).2⟩
                 simp only [ρ]
                 rw [if_pos hcx]
                 exact hobM
                ·by_cases hk : y ∈ zda (W i)
                 ·rw [hWi y hk, hWU, zaa, if_neg hyx] at hy
                  have hk' : y ∈ e'.U.map (·.1) := by
                   rw [hWU] at hk
                   simp only [zda, List.map_cons, List.mem_cons] at hk
                   exact hk.resolve_left hyx
                  obtain ⟨x, hx⟩ := zdn e'.U y hk'
                  rw [hx] at hy
                  simp only at hy
                  subst hy
                  have hmem : (y, some ob') ∈ e'.U := by
                   have : ∀ (l : Wr), getK l y = some (some ob') → (y, some ob') ∈ l := by
                    intro l
                    induction l with
                    | nil => intro h; cases h
                    | cons p l ih =>
                     obtain ⟨k', d'⟩ := p
                     intro h
                     rw [zaa] at h
                     by_cases hyk : y = k'
                     ·rw [if_pos hyk] at h; cases h; subst hyk; simp
                     ·rw [if_neg hyk] at h; exact List.mem_cons_of_mem _ (ih h)
                   exact this _ hx
                  obtain ⟨hga, o0, ho0⟩ := hgU _ hmem ob' rfl
                  obtain ⟨⟨hr, hlt⟩, _⟩ := hobs y o0 ho0
                  refine ⟨hlt, ob', ?_, (Ob.zck hga).1, (Ob.zck hga).2⟩
                  rw [hr, hob y (by omega), hx]
                 ·rw [hWn y hk] at hy
                  obtain ⟨⟨hr, hlt⟩, hga⟩ := hobs y ob' (by simp only [stW, zaz]; exact hy)
                  refine ⟨hlt, ob', ?_, (Ob.zck hga).1, (Ob.zck hga).2⟩
                  have hk' : y ∉ e'.U.map (·.1) := by
                   rw [hWU] at hk
                   simp only [zda, List.map_cons, List.mem_cons, not_or] at hk
                   exact hk.2
                  rw [hr, hob y (by omega), zbX e'.U y hk']
                  simp only [stW, zaz]
                  exact hy
       have henv2 : ∀ x d', getK (stW ops T W s M fun j => listed.getD j false || j == i).env x = some d' →
                (D.le ρ (((stW ops T W s M fun j => listed.getD j false).effS e' o.dst).at x) d' ∧ d'.under M = true) ∧ x < s.n := fun x d' hx => by
               simp only [stW] at hx
               by_cases hdx : o.dst = some x
               ·rw [henv x hdx] at hx
                cases hx
                have hlt : x < s.n := by rw [hdx] at hpo; exact hpo
                cases hn : e'.nw with
                | none =>
                 rw [hn] at hcase
                 rw [hcase.1] at hdx
                 cases hdx
                | some nb =>
                 rw [hn] at hcase
                 obtain ⟨x0, hcx, hWU, hTi⟩ := hcase
                 have hx0 := hcr i x0 hcx
                 have hρ : ρ x0 = M := by simp only [ρ]; rw [if_pos hcx]
                 refine ⟨⟨.inr (.inl ?_), ?_⟩, hlt⟩
                 ·rw [hTi]
                  simp only [St.effS, hn, hdx, St.put, St.at, zaa, if_true, Option.getD_some]
                  cases e'.how <;> simp [mkD, D.ren, hρ, stW]
                 ·rw [hTi]
                  cases e'.how <;> simp [mkD, D.under, hx0.2]
               ·rw [henv' x hdx] at hx
                obtain ⟨g1, g2⟩ := hs.env x d' hx
                have hgd := g2.good hknown
                have hat : ((stW ops T W s M fun j => listed.getD j false).effS e' o.dst).at x = d' := by
                 have : ∀ (q : St) (d : D), getK (q.put o.dst d).env x = getK q.env x := fun q d => by
                  cases hd : o.dst with
                  | none => rfl
                  | some y =>
                   have hne : ¬ x = y := fun e => hdx (by rw [hd, e])
                   simp only [St.put, zaa, if_neg hne]
                 simp only [St.at, St.effS]
                 cases hn : e'.nw with
                 | none => simp only [stW, hx]; rfl
                 | some nb => simp only [this, stW, hx]; rfl
                rw [hat]
                exact ⟨⟨.inr (.inl hgd.1.symm), hgd.2⟩, g1⟩
       refine ⟨?_, fun x d' hx => (henv2 x d' hx).1, fun x d' hx => ?_, hobs2, fun y1 y2 o1 o2 g1 g2 hr => hinj y1 y2 (hobs2 y1 o1 g1).1 (hobs2 y2 o2 g2).1 hr, fun j hj => ?_⟩
       ·have : ∀ (q : St) (d : D), (q.put o.dst d).n = q.n := fun q d => by cases o.dst <;> rfl
        simp only [St.effS]
        cases e'.nw <;> simp only [this] <;> rfl
       ·have : ∀ (q : St) (d : D), (q.put o.dst d).n = q.n := fun q d => by cases o.dst <;> rfl
        have e2 : ((stW ops T W s M fun j => listed.getD j false).effS e' o.dst).n = s.n := by
         simp only [St.effS]
         cases e'.nw <;> simp only [this] <;> rfl
        rw [e2]
        exact (henv2 x d' hx).2
       ·have c1 : cr i ≠ some j := fun e => by have := (hcr i j e).1; omega
        have c2 : ¬ un j := fun ⟨q, _, _, hc⟩ => by have := (hcr q j hc).1; omega
        refine ⟨by simp only [ρ]; rw [if_neg c1, if_neg c2], ?_⟩
        show j < M
        omega
      obtain ⟨g1, g2⟩ := Sim.weak h1 h2 hle
      refine go _ a' w' g1 g2 fun j x hj hu hc => ?_
      simp only [Kr.ren]
      split
      ·have c1 : cr i ≠ some x := fun e => by
               have := hcr1 i j x e hc
               subst this
               simp at hu
       have c2 : un x := ⟨j, hj, hu, hc⟩
       simp only [ρ]
       rw [if_neg c1, if_pos c2]
       refine h2.hdr _ ?_
       have : ∀ (q : St) (d : D), (q.put o.dst d).next = q.next := fun q d => by cases o.dst <;> rfl
       simp only [St.effS]
       cases e'.nw <;> simp only [this, stW] <;> omega
      ·rfl
     ·
      let un : Nat → Prop := fun y => ∃ j, j < ops.length ∧ (listed.getD j false || j == i) = false ∧ cr j = some y
      let ρ : Nat → Nat := fun y => open Classical in if un y then M + 1 + y else y
      have hρs : ∀ y, y < s.next → ρ y = y := fun y hy => by
       have : ¬ un y := fun ⟨j, _, _, hc⟩ => by have := (hcr j y hc).1; omega
       simp only [ρ]; rw [if_neg this]
      have hknown : ∀ y h, K.hdr y = some h → ρ y = y ∧ y < M := fun y h hy => by
       have h2 : ¬ un y := fun ⟨j, hj, hu, hc⟩ => by
               simp only [Bool.or_eq_false_iff] at hu
               rw [hfr j y hj hu.1 hc] at hy
               cases hy
       refine ⟨by simp only [ρ]; rw [if_neg h2], ?_⟩
       rcases Nat.lt_or_ge y M with h | h
       ·exact h
       ·rw [hs.hdr y h] at hy; cases hy
      have hobs : ∀ y ob, getK (stW ops T W s M fun j => listed.getD j false).obs y = some ob → (ρ y = y ∧ y < M) ∧ ob.all (Good ρ M) := fun y ob hy => by
       have hok := hs.sat.ob y ob hy
       obtain ⟨h, h1, _⟩ := hok
       exact ⟨hknown y h h1, (hs.sat.ob y ob hy).good hknown⟩
      have hOact : ∀ p ∈ O, getK (stW ops T W s M fun j => listed.getD j false).obs p.1 = some p.2 := fun p hp => by
       rw [← hloc p.1 (by rw [hR]; exact List.mem_map.2 ⟨p, hp, rfl⟩)]
       exact hO p hp
      have hOget : ∀ y ob, getK O y = some ob → getK (stW ops T W s M fun j => listed.getD j false).obs y = some ob := fun y ob h => hOact _ (ze0 h)
      let F := (stW ops T W s M fun j => listed.getD j false).obs.filter fun p => !(O.map (·.1)).contains p.1
      have hFg : ∀ y, getK F y = if (O.map (·.1)).contains y = true then none else getK (stW ops T W s M fun j => listed.getD j false).obs y := fun y => zcL _ _ y
      have hOn : ∀ y, ¬ (O.map (·.1)).contains y = true → getK O y = none := fun y h => zbX O y (by simpa using h)
      have heq : ∀ y, getK (stW ops T W s M fun j => listed.getD j false).obs y = getK (F ++ O) y := fun y => by
       rw [zab, hFg]
       by_cases hy : (O.map (·.1)).contains y = true
       ·rw [if_pos hy]
        obtain ⟨x, hx⟩ := zc1 (l := O) (y := y) (by simpa using hy)
        rw [hx, hOget y x hx]
       ·rw [if_neg hy, hOn y hy]
        cases getK (stW ops T W s M fun j => listed.getD j false).obs y <;> rfl
      have hF : ∀ y ob, getK F y = some ob → getK O y = none := fun y ob h => by
       rw [hFg] at h
       by_cases hy : (O.map (·.1)).contains y = true
       ·rw [if_pos hy] at h; cases h
       ·exact hOn y hy
      have hopdS : ∀ x, x ∈ fop :: args → opd (stW ops T W s M fun j => listed.getD j false) x = opd (stW ops T W s M fun j => decide (j < i)) x := fun x hx => (hopd x (by
       rcases o with ⟨odst, oop, ot, opos, oaf, og⟩
       unfold zbB at hco
       split at hco
       ·rename_i c hop
        simp only at hop
        subst hop
        split at hco
        ·cases hco
         rename_i f' hcal
         simp only [Op.operands, Call.operands, hcal]
         simp only [List.mem_cons] at hx
         simp
         rcases hx with rfl | hx
         ·exact .inl rfl
         ·exact .inr (by simpa using hx)
        ·cases hco
       ·cases hco)).symm
      have hcall : CallP P Γ fop args o.dst (stW ops T W s M fun j => listed.getD j false) fun s' => ∃ o1, (∀ y, getK o1 y = getK O' y) ∧ s' = (({ (stW ops T W s M fun j => listed.getD j false) with obs := F ++ o1, next := M } : St).put o.dst (T i)) :=
       CallP.xF F O (hret M (Nat.le_refl _)) heq hF (by rw [hopdS fop (by simp)]; exact hcf) hcb (by rw [List.map_congr_left fun x hx => hopdS x (by simp [hx])]) hpo
               (fun d o1 nx' _ ⟨h1, h2, h3⟩ => ⟨o1, h2, by cases h1; rw [h3]⟩) (fun ch o1 nx' _ ⟨h1, _⟩ => by cases h1)
      have heff : EffP P Γ o (stW ops T W s M fun j => listed.getD j false) fun s' => ∃ o1, (∀ y, getK o1 y = getK O' y) ∧ s' = (({ (stW ops T W s M fun j => listed.getD j false) with obs := F ++ o1, next := M } : St).put o.dst (T i)) := by
       have e := hcall
       rcases o with ⟨odst, oop, ot, opos, oaf, og⟩
       unfold zbB at hco
       split at hco
       ·rename_i c hop
        simp only at hop
        subst hop
        split at hco
        ·cases hco
         rename_i f' hcal
         obtain ⟨cal, cargs, cts⟩ := c
         simp only at hcal
         subst hcal
         exact EffP.guard (e cts ot opos oaf)
        ·cases hco
       ·cases hco
      refine .inl (heff K a w hin hs _ _ (fun K' a' w' s' h1 h2 h3 => ?_) fun ch K' a' w' s' h1 h2 h3 => .inl ⟨K', s', h1, h2, h3⟩)
      obtain ⟨o1, ho1, rfl⟩ := h3
      have hWi : ∀ y, y ∈ zda (W i) → getK (zdU W (fun j => listed.getD j false || j == i) ops.length) y = getK (W i) y := fun y hy =>
       zfK W _ i y hy ops.length hil fun j hj hlt hk => hlast y hy j hj hlt hk
      have hWn : ∀ y, y ∉ zda (W i) → getK (zdU W (fun j => listed.getD j false || j == i) ops.length) y = getK (zdU W (fun j => listed.getD j false) ops.length) y := fun y hy =>
       zb5 W _ _ y ops.length fun j hj hk => by
               by_cases hji : j = i
               ·subst hji; exact absurd hk hy
               ·simp [hji]
      have hWg : ∀ y, getK (W i) y = if L.contains y = true then (getK O' y).map some else none := fun y => by
       rw [hW, zhT, ziU]
       split <;> rfl
      have hkW : ∀ y, y ∈ zda (W i) ↔ L.contains y = true ∧ y ∈ O.map (·.1) := fun y => by
       rw [hW, ← hkeys]
       simp only [zda, List.map_map, List.mem_map, List.mem_filter, Function.comp]
       exact ⟨fun ⟨p, ⟨h1, h2⟩, h3⟩ => ⟨h3 ▸ h2, p, h1, h3⟩, fun ⟨h1, p, h2, h3⟩ => ⟨p, ⟨h2, by rw [h3]; exact h1⟩, h3⟩⟩
      have pobs : ∀ (q : St) (d : D), (q.put o.dst d).obs = q.obs := fun q d => by cases o.dst <;> rfl
      have pn : ∀ (q : St) (d : D), (q.put o.dst d).n = q.n := fun q d => by cases o.dst <;> rfl
      have pnext : ∀ (q : St) (d : D), (q.put o.dst d).next = q.next := fun q d => by cases o.dst <;> rfl
      have hobs2 : ∀ y ob', getK (stW ops T W s M fun j => listed.getD j false || j == i).obs y = some ob' → y < M ∧
               ∃ ob, getK (({ (stW ops T W s M fun j => listed.getD j false) with obs := F ++ o1, next := M } : St).put o.dst (T i)).obs (ρ y) = some ob ∧ Ob.le ρ ob ob' ∧ ob'.under M = true := fun y ob' hy => by
       rw [pobs]
       simp only [stW, zaz] at hy
       by_cases hk : y ∈ zda (W i)
       ·rw [hWi y hk, hWg, if_pos ((hkW y).1 hk).1] at hy
        have hyO : y ∈ O.map (·.1) := ((hkW y).1 hk).2
        obtain ⟨x0, hx0⟩ := zc1 (l := O) (y := y) hyO
        obtain ⟨⟨hr, hlt⟩, _⟩ := hobs y x0 (hOget y x0 hx0)
        cases hq : getK O' y with
        | none =>
         obtain ⟨x1, hx1⟩ := zc1 (l := O') (y := y) (by rw [hkeys]; exact hyO)
         rw [hx1] at hq
         cases hq
        | some ob =>
         rw [hq] at hy
         have hy : ob = ob' := by simpa using hy
         subst hy
         have hga := zhI (M := M) hρs hM (hOu _ (ze0 hq))
         refine ⟨hlt, ob, ?_, (Ob.zck hga).1, (Ob.zck hga).2⟩
         rw [hr, zab, hFg, if_pos (by simpa using hyO), ho1 y, hq]
       ·rw [hWn y hk] at hy
        obtain ⟨⟨hr, hlt⟩, hga⟩ := hobs y ob' (by simp only [stW, zaz]; exact hy)
        refine ⟨hlt, ob', ?_, (Ob.zck hga).1, (Ob.zck hga).2⟩
        by_cases hyO : (O.map (·.1)).contains y = true
        ·have hL : L.contains y = false := by
          cases hL : L.contains y with
          | false => rfl
          | true => exact absurd ((hkW y).2 ⟨hL, by simpa using hyO⟩) hk
         obtain ⟨x0, hx0⟩ := zc1 (l := O) (y := y) (by simpa using hyO)
         have hx1 := hOget y x0 hx0
         simp only [stW, zaz] at hx1
         rw [hy] at hx1
         rw [hr, zab, hFg, if_pos hyO, ho1 y, hsm y hL, hx0]
         exact hx1.symm
        ·rw [hr, zab, hFg, if_neg hyO]
         simp only [stW, zaz]
         rw [hy]
      have henv2 : ∀ x d', getK (stW ops T W s M fun j => listed.getD j false || j == i).env x = some d' →
               (D.le ρ ((({ (stW ops T W s M fun j => listed.getD j false) with obs := F ++ o1, next := M } : St).put o.dst (T i)).at x) d' ∧ d'.under M = true) ∧ x < s.n := fun x d' hx => by
       simp only [stW] at hx
       by_cases hdx : o.dst = some x
       ·rw [henv x hdx] at hx
        cases hx
        have hlt : x < s.n := by rw [hdx] at hpo; exact hpo
        have hg := zc0 (M := M) hρs hM hdu
        refine ⟨⟨.inr (.inl ?_), hg.2⟩, hlt⟩
        simp only [hdx, St.put, St.at, zaa, if_true, Option.getD_some]
        exact hg.1.symm
       ·rw [henv' x hdx] at hx
        obtain ⟨g1, g2⟩ := hs.env x d' hx
        have hgd := g2.good hknown
        have hat : (({ (stW ops T W s M fun j => listed.getD j false) with obs := F ++ o1, next := M } : St).put o.dst (T i)).at x = d' := by
         have : ∀ (q : St) (d : D), getK (q.put o.dst d).env x = getK q.env x := fun q d => by
          cases hd : o.dst with
          | none => rfl
          | some y =>
           have hne : ¬ x = y := fun e => hdx (by rw [hd, e])
           simp only [St.put, zaa, if_neg hne]
         simp only [St.at, this, stW, hx]
         try rfl
        rw [hat]
        exact ⟨⟨.inr (.inl hgd.1.symm), hgd.2⟩, g1⟩
      have hinj : ∀ y1 y2, y1 < M → y2 < M → ρ y1 = ρ y2 → y1 = y2 := fun y1 y2 g1 g2 hr => by
       simp only [ρ] at hr
       split at hr <;> split at hr <;> omega
      have hle : St.Le Γ.n0 ρ (({ (stW ops T W s M fun j => listed.getD j false) with obs := F ++ o1, next := M } : St).put o.dst (T i)) (stW ops T W s M fun j => listed.getD j false || j == i) := by
       refine ⟨by rw [pn]; rfl, fun x d' hx => (henv2 x d' hx).1, fun x d' hx => by rw [pn]; exact (henv2 x d' hx).2, hobs2, fun y1 y2 o1 o2 g1 g2 hr => hinj y1 y2 (hobs2 y1 o1 g1).1 (hobs2 y2 o2 g2).1 hr, fun j hj => ⟨hρs j (by omega), ?_⟩⟩
       show j < M
       omega
      obtain ⟨g1, g2⟩ := Sim.weak h1 h2 hle
      refine go _ a' w' g1 g2 fun j x hj hu hc => ?_
      simp only [Kr.ren]
      split
      ·have c2 : un x := ⟨j, hj, hu, hc⟩
       simp only [ρ]
       rw [if_pos c2]
       refine h2.hdr _ ?_
       rw [pnext]
       show M ≤ M + 1 + x
       omega
      ·rfl
    ·rw [if_neg (by rw [hw]; simp)]
     exact next hv.2 K undef w hin (.refl _) rfl hs.sat (by rw [hv.1]; exact .u _ _ (.oth _))
 have h0 : (fun j => (Array.replicate ops.toArray.size false).getD j false) = fun _ => false := funext fun j => by
  by_cases hj : j < ops.length <;> simp [hj]
 refine key _ _ K a w0 (by simp) (by simp) (fun j y hj hS => ?_) hin0 ?_ (fun j x _ _ hc => hs.hdr x (hcr j x hc).1) (fun p _ _ => congrFun h0 p)
 ·have : (Array.replicate ops.toArray.size false).getD j false = false := congrFun h0 j
  rw [this] at hS
  cases hS
 ·rw [h0]
  have none : ∀ (l : List Oper) (i : Nat) (e : List (Nat × D)), zdi T (fun _ => false) l i e = e := by
   intro l
   induction l with
   | nil => intro i e; rfl
   | cons o l ih => intro i e; simp [zdi, ih]
  have wn : ∀ m, zdU W (fun _ => false) m = [] := by
   intro m
   induction m with
   | zero => rfl
   | succ m ih => simp [zdU, ih]
  refine ⟨hs0.sat.eqo fun y => ?_, hs0.defers, hs0.size, fun x d hx => hs0.env x d ?_, fun y hy => hs0.hdr y (Nat.le_trans hM hy)⟩
  ·simp only [stW, wn]; rfl
  ·simp only [stW, none] at hx; exact hx
abbrev zof := Ent × Nat
abbrev Fp4 := List (List Nat × List Nat × Nat)
def eE (E : Nat → zof) (j : Nat) : Ent := (E j).1
def tF4 (E : Nat → zof) (n : Nat) : Fp4 := (List.range n).map fun j => (tR (eE E) j, zda (tW (eE E) j), (E j).2)
def zrf (P : Program) (N : Nat) (s : St) (o : O1) (e : Ent) : Prop :=
 match o.guard with
 | none => zoZ P N s o.op o.dst e.1 e.2.1 e.2.2.1 e.2.2.2
 | some (t, want) => (∃ b, getK s.env t = some (.u (.bool b)) ∧ if b = want then zoZ P N s o.op o.dst e.1 e.2.1 e.2.2.1 e.2.2.2 else e.1 = .un ∧ e.2.1 = [] ∧ e.2.2.1 = none) ∨
  (getK s.env t = some .un ∧ e.1 = .un ∧ e.2.1 = [] ∧ e.2.2.1 = none)
def Op4 (P : Program) (Γ : Ctx) (N : Nat) (s : St) (o : O1) (e : zof) : Prop :=
 if e.2 = 2 then e.1.2.1 = [] ∧ e.1.2.2.1 = none else if e.2 = 1 then o.guard = none ∧ zoX P Γ s o.op ∧ e.1.2.1 = [] ∧ e.1.2.2.1 = none else e.2 = 0 ∧ zrf P N s o e.1
def zi6 (P : Program) (Γ : Ctx) (N : Nat) : List O1 → St → Fp4 → (St → Fp4 → Prop) → Prop
 | [], s, fp, k => k s fp
 | o :: rest, s, fp, k => ∃ e : zof, zaB o.dst s ∧ Op4 P Γ N s o e ∧ (∀ x, e.1.2.2.1 = some x → x = s.next) ∧ zi6 P Γ N rest (s.app o.dst e.1) (fp ++ [(e.1.2.2.2, zda e.1.2.1, e.2)]) k
def HD4 (P : Program) (Γ : Ctx) (N : Nat) (l : List O1) (s : St) (fp : Fp4) (C : Fp4 → Prop) (k : St → Prop) : Prop :=
 ∀ s0 : St, s0.Eqo s → zi6 P Γ N l s0 fp fun s1 fp => C fp ∧ ((∀ p ∈ fp, p.2.2 ≠ 1) → ∃ s', s1.Eqo s' ∧ k s')
/-- The head of a list of operations goes through. -/
def zhn (P : Program) (Γ : Ctx) (N : Nat) (o : O1) (rest : List O1) (s : St) (fp : Fp4) (C : Fp4 → Prop) (k : St → Prop) : Prop :=
 ∀ s0 : St, s0.Eqo s → ∃ e : zof, zaB o.dst s0 ∧ Op4 P Γ N s0 o e ∧ e.2 ≠ 1 ∧ (∀ x, e.1.2.2.1 = some x → x = s0.next) ∧ zi6 P Γ N rest (s0.app o.dst e.1) (fp ++ [(e.1.2.2.2, zda e.1.2.1, e.2)]) fun s1 fp => C fp ∧ ((∀ p ∈ fp, p.2.2 ≠ 1) → ∃ s', s1.Eqo s' ∧ k s')
theorem HD4.of_h {P Γ N o rest s fp C k} (h : zhn P Γ N o rest s fp C k) : HD4 P Γ N (o :: rest) s fp C k := fun s0 e => by
 obtain ⟨en, h1, h2, _, h3, h4⟩ := h s0 e
 exact ⟨en, h1, h2, h3, h4⟩
theorem zb1 {P Γ N s fp C k} (hC : C fp) (h : k s) : HD4 P Γ N [] s fp C k := fun s0 e => ⟨hC, fun _ => ⟨s, e, h⟩⟩
theorem zdB {P Γ N s fp C k} (hC : C fp) (h : (fp.any fun p => p.2.2 == 1) = true) : HD4 P Γ N [] s fp C k := fun s0 e => ⟨hC, fun h1 => by
 obtain ⟨p, hp, hk⟩ := List.any_eq_true.1 h
 exact absurd (by simpa using hk) (h1 p hp)⟩
theorem zeu {P Γ N s dst op rest fp C k} (_ : za8 op = false) (h : valD P s op fun d => zaB dst s ∧ HD4 P Γ N rest (s.put dst d) (fp ++ [(zbk s op, [], 0)]) C k) : zhn P Γ N ⟨dst, op, none⟩ rest s fp C k := fun s0 e => by
 obtain ⟨d, hv, hp, hr⟩ := Lin.valD.2 _ h
 refine ⟨((d, [], none, zbk s op), 0), by cases dst <;> simp_all [zaB, e.1], ?_, by simp, fun x hx => (by cases hx), hr _ (e.put dst d)⟩
 unfold Op4
 rw [if_neg (by simp), if_neg (by simp)]
 exact ⟨rfl, .inl (.inl ⟨by rw [zj4 e]; exact hv, rfl, rfl, (zdK e op).symm⟩)⟩
theorem znR {P Γ N s dst op rest fp C k} (_ : za8 op = true) (h : effD P s op fun e => zaB dst s ∧ (e.nw = none → dst = none) ∧
  HD4 P Γ N rest (s.effS e dst) (fp ++ [(zbk s op, match e.nw with | none => (e.U.map (·.1), 0) | some _ => (s.next :: e.U.map (·.1), 0))]) C k) : zhn P Γ N ⟨dst, op, none⟩ rest s fp C k := fun s0 e0 => by
 obtain ⟨e, hv, hp, hd, hr⟩ := Lin.effD.2 _ h
 have hp0 : zaB dst s0 := by cases dst <;> simp_all [zaB, e0.1]
 have hv0 : effD P s0 op (· = e) := by rw [zkr e0]; exact hv
 cases hn : e.nw with
 | none =>
  obtain rfl := hd hn
  refine ⟨((.any, e.U, none, zbk s op), 0), hp0, ?_, by simp, fun x hx => (by cases hx), ?_⟩
  ·unfold Op4
   rw [if_neg (by simp), if_neg (by simp)]
   exact ⟨rfl, .inl (.inr ⟨e, hv0, (zdK e0 op).symm, by rw [hn]; exact ⟨rfl, rfl, rfl⟩⟩)⟩
  rw [hn] at hr
  refine hr _ ?_
  simp only [St.app, St.effS, hn, St.put]
  exact ⟨e0.1, fun x => by simp only [zaz, e0.2.1 x], e0.2.2.1, e0.2.2.2⟩
 | some ob =>
  refine ⟨((mkD e.how s0.next, (s0.next, some ob) :: e.U, some s0.next, zbk s op), 0), hp0, ?_, by simp, fun x hx => (by cases hx; rfl), ?_⟩
  ·unfold Op4
   rw [if_neg (by simp), if_neg (by simp)]
   exact ⟨rfl, .inl (.inr ⟨e, hv0, (zdK e0 op).symm, by rw [hn]; exact ⟨s0.next, rfl, rfl, rfl⟩⟩)⟩
  rw [hn] at hr
  have h1 := hr (s0.app dst (mkD e.how s0.next, (s0.next, some ob) :: e.U, some s0.next, zbk s op)) (by
   simp only [St.app, St.effS, hn, e0.2.2.1]
   apply St.Eqo.put
   refine ⟨e0.1, fun x => ?_, by simp, e0.2.2.2⟩
   simp only [zat, zaj, zaa, zaz, e0.2.1 x])
  simp only [zda, List.map_cons]
  rw [e0.2.2.1] at h1 ⊢
  exact h1
theorem zbo {P Γ N s dst op rest fp C k} (h0 : za8 op = false) (h : valD P s op fun d => zaB dst s ∧ HD4 P Γ N rest (s.put dst d) (fp ++ [(zbk s op, [], 0)]) C k) : HD4 P Γ N (⟨dst, op, none⟩ :: rest) s fp C k := .of_h (zeu h0 h)
theorem zd7 {P Γ N s dst op rest fp C k} (h0 : za8 op = true) (h : effD P s op fun e => zaB dst s ∧ (e.nw = none → dst = none) ∧
  HD4 P Γ N rest (s.effS e dst) (fp ++ [(zbk s op, match e.nw with | none => (e.U.map (·.1), 0) | some _ => (s.next :: e.U.map (·.1), 0))]) C k) : HD4 P Γ N (⟨dst, op, none⟩ :: rest) s fp C k := .of_h (znR h0 h)
theorem zdu {P Γ N s dst op rest fp C k t want b} (hb : getK s.env t = some (.u (.bool b))) (hp : zaB dst s)
  (hy : b = want → zhn P Γ N ⟨dst, op, none⟩ rest (s.put (some t) (.u (.bool want))) fp C k)
  (hn : b = !want → HD4 P Γ N rest ((s.put (some t) (.u (.bool (!want)))).put dst .un) (fp ++ [([], [], 0)]) C k) : HD4 P Γ N (⟨dst, op, some (t, want)⟩ :: rest) s fp C k := fun s0 e => by
 have lit : ∀ b', b = b' → s.Eqo (s.put (some t) (.u (.bool b'))) := fun b' e' => ⟨rfl, fun _ => rfl, rfl, fun x => by
  subst e'
  simp only [St.put, zaa]
  split
  ·rename_i hx; rw [hx, hb]
  ·rfl⟩
 have hp0 : zaB dst s0 := by cases dst <;> simp_all [zaB, e.1]
 by_cases hw : b = want
 ·have e1 := e.trans (lit want hw)
  obtain ⟨en, h1, h2, h5, h3, h4⟩ := hy hw s0 e1
  refine ⟨en, h1, ?_, h3, h4⟩
  unfold Op4 at h2 ⊢
  by_cases h6 : en.2 = 2
  ·rw [if_pos h6] at h2 ⊢
   exact h2
  ·rw [if_neg h6, if_neg h5] at h2 ⊢
   exact ⟨h2.1, .inl ⟨b, by rw [e.2.2.2 t]; exact hb, by rw [if_pos hw]; exact h2.2⟩⟩
 ·have hw' : b = !want := by cases b <;> cases want <;> simp_all
  have e1 := e.trans (lit _ hw')
  refine ⟨((.un, [], none, []), 0), hp0, ?_, fun x hx => (by cases hx), hn hw' _ (e1.put dst .un)⟩
  unfold Op4
  rw [if_neg (by simp), if_neg (by simp)]
  exact ⟨rfl, .inl ⟨b, by rw [e.2.2.2 t]; exact hb, by rw [if_neg hw]; exact ⟨rfl, rfl, rfl⟩⟩⟩
/-- An operation that is never reached, for one ahead of it panics. -/
theorem zkB {P Γ N s dst op g rest fp C k} (hp : zaB dst s) (h : HD4 P Γ N rest (s.put dst .any) (fp ++ [([], [], 2)]) C k) : HD4 P Γ N (⟨dst, op, g⟩ :: rest) s fp C k := fun s0 e => by
 refine ⟨((.any, [], none, []), 2), by cases dst <;> simp_all [zaB, e.1], ?_, fun x hx => (by cases hx), h _ (e.put dst .any)⟩
 unfold Op4
 rw [if_pos rfl]
 exact ⟨rfl, rfl⟩
theorem zjO (W : Wr) {o o' : List (Nat × Ob)} (h : ∀ y, getK o y = getK o' y) : ∀ y, getK (zat W o) y = getK (zat W o') y := fun y => by rw [zaz, zaz, h y]
/-- A call that changes some of the objects it is handed, and makes none. -/
theorem zjf {P : Program} {Γ : Ctx} {N : Nat} {s : St} {dst : Option Tmp} {rest fp C k} {fop : Operand} {args : Array Operand} {ts : Array TypeId} {f caps} {ds : List D} {d : D} (O O' : List (Nat × Ob)) (L : List Nat)
  (hret : ∀ nx, s.next ≤ nx → RetX P f ds O nx fun r o n => r = .val d ∧ (∀ y, getK o y = getK O' y) ∧ n = nx)
  (hf : zav (opd s fop) = some (f, caps)) (hc : zao P f = true) (hds : args.toList.map (opd s) ++ caps = ds) (hkeys : O'.map (·.1) = O.map (·.1)) (hsm : ∀ y, L.contains y = false → getK O' y = getK O y) (hO : ∀ p ∈ O, getK s.obs p.1 = some p.2) (hnd : (O.map (·.1)).Nodup)
  (hu : d.under N = true ∧ ∀ p ∈ O', p.2.under N = true) (hp : zaB dst s)
  (h : HD4 P Γ N rest (({ s with obs := zat ((O'.filter fun p => L.contains p.1).map fun p => (p.1, some p.2)) s.obs } : St).put dst d) (fp ++ [(O.map (·.1), (O'.filter fun p => L.contains p.1).map (·.1), 0)]) C k) :
  HD4 P Γ N (⟨dst, .call { callee := .value fop, args, argTypes := ts }, none⟩ :: rest) s fp C k := fun s0 e => by
 refine ⟨((d, (O'.filter fun p => L.contains p.1).map (fun p => (p.1, some p.2)), none, O.map (·.1)), 0), by cases dst <;> simp_all [zaB, e.1], ?_, fun x hx => (by cases hx), ?_⟩
 ·unfold Op4
  rw [if_neg (by simp), if_neg (by simp)]
  refine ⟨rfl, .inr ⟨⟨fop, args.toList, f, caps, O, O', L, rfl, by rw [zdY e]; exact hf, hc, rfl, rfl, hkeys, hsm, fun p hp => by rw [e.2.1]; exact hO p hp, hnd, hu, fun nx hnx => ?_⟩, rfl⟩⟩
  have e1 : args.toList.map (opd s0) = args.toList.map (opd s) := List.map_congr_left fun x _ => zdY e x
  rw [e1, hds]
  exact hret nx (by rw [e.2.2.1] at hnx; exact hnx)
 ·have := h (s0.app dst (d, (O'.filter fun p => L.contains p.1).map (fun p => (p.1, some p.2)), none, O.map (·.1))) (by
   simp only [St.app]
   apply St.Eqo.put
   exact ⟨e.1, zjO _ e.2.1, by simpa using e.2.2.1, e.2.2.2⟩)
  simpa [zda, List.map_map, Function.comp_def] using this
theorem zlc {O O' : List (Nat × Ob)} (hkeys : O'.map (·.1) = O.map (·.1)) : (O'.filter fun p => (O.map (·.1)).contains p.1) = O' := by
 refine List.filter_eq_self.2 fun p hp => ?_
 rw [← hkeys]
 simp only [List.contains_eq_mem, decide_eq_true_eq]
 exact List.mem_map.2 ⟨p, hp, rfl⟩
/-- A call that changes the objects it is handed, and makes none. -/
theorem zkC {P : Program} {Γ : Ctx} {N : Nat} {s : St} {dst : Option Tmp} {rest fp C k} {fop : Operand} {args : Array Operand} {ts : Array TypeId} {f caps} {ds : List D} {d : D} (O O' : List (Nat × Ob))
  (hret : ∀ nx, s.next ≤ nx → RetX P f ds O nx fun r o n => r = .val d ∧ (∀ y, getK o y = getK O' y) ∧ n = nx)
  (hf : zav (opd s fop) = some (f, caps)) (hc : zao P f = true) (hds : args.toList.map (opd s) ++ caps = ds) (hkeys : O'.map (·.1) = O.map (·.1)) (hO : ∀ p ∈ O, getK s.obs p.1 = some p.2) (hnd : (O.map (·.1)).Nodup)
  (hu : d.under N = true ∧ ∀ p ∈ O', p.2.under N = true) (hp : zaB dst s)
  (h : HD4 P Γ N rest (({ s with obs := zat (O'.map fun p => (p.1, some p.2)) s.obs } : St).put dst d) (fp ++ [(O.map (·.1), O'.map (·.1), 0)]) C k) :
  HD4 P Γ N (⟨dst, .call { callee := .value fop, args, argTypes := ts }, none⟩ :: rest) s fp C k :=
 zjf O O' (O.map (·.1)) hret hf hc hds hkeys (fun y hy => by
  rw [zbX O y (by simpa using hy), zbX O' y (by rw [hkeys]; simpa using hy)]) hO hnd hu hp (by rw [zlc hkeys]; exact h)
/-- A call that panics: nothing behind it is reached. -/
theorem zkA {P : Program} {Γ : Ctx} {N : Nat} {s : St} {dst : Option Tmp} {rest fp C k} {fop : Operand} {args : Array Operand} {ts : Array TypeId} {f caps} {ds : List D} {post : Out → List (Nat × Ob) → Nat → Prop} (O : List (Nat × Ob))
  (hret : ∀ nx, s.next ≤ nx → RetX P f ds O nx post) (hno : ∀ d o n, ¬ post (.val d) o n)
  (hf : zav (opd s fop) = some (f, caps)) (hc : zao P f = true) (hds : args.toList.map (opd s) ++ caps = ds) (hO : ∀ p ∈ O, getK s.obs p.1 = some p.2) (hp : zaB dst s)
  (hx : ∀ env ch o n, s.next ≤ n → post (.pan ch) o n → ∃ s2, Wk Γ { n := s.n, env := env, obs := (s.obs.filter fun p => !(O.map (·.1)).contains p.1) ++ o, next := n } s2 ∧ Γ.pan ch s2)
  (h : HD4 P Γ N rest (s.put dst .any) (fp ++ [([], [], 1)]) C k) :
  HD4 P Γ N (⟨dst, .call { callee := .value fop, args, argTypes := ts }, none⟩ :: rest) s fp C k := fun s0 e => by
 refine ⟨((.any, [], none, []), 1), by cases dst <;> simp_all [zaB, e.1], ?_, fun x hx => (by cases hx), h _ (e.put dst .any)⟩
 unfold Op4
 rw [if_neg (by simp), if_pos rfl]
 refine ⟨rfl, fun s' hn ho hopd hnx o hop hg hpo => ?_, rfl, rfl⟩
 obtain ⟨odst, oop, ot, opos, oaf, og⟩ := o
 simp only at hop hg hpo
 subst hop
 subst hg
 have hopS : ∀ x ∈ fop :: args.toList, opd s' x = opd s x := fun x hx => by
  rw [hopd x (by
   simp only [Op.operands, Call.operands]
   simp only [List.mem_cons] at hx
   simp
   rcases hx with rfl | hx
   ·exact .inl rfl
   ·exact .inr (by simpa using hx)), zdY e]
 have hOget : ∀ y, getK s'.obs y = getK s.obs y := fun y => by rw [ho, e.2.1]
 have hcall : CallP P Γ fop args.toList odst s' fun _ => False :=
  CallP.xF (s'.obs.filter fun p => !(O.map (·.1)).contains p.1) O (hret s'.next (by rw [← e.2.2.1]; exact hnx)) (fun y => by
   rw [zab, zcL]
   by_cases hy : (O.map (·.1)).contains y = true
   ·rw [if_pos hy]
    obtain ⟨x, hx⟩ := zc1 (l := O) (y := y) (by simpa using hy)
    rw [hx, hOget y, hO _ (ze0 hx)]
   ·rw [if_neg hy, zbX O y (by simpa using hy)]
    cases getK s'.obs y <;> rfl) (fun y ob hy => by
   rw [zcL] at hy
   by_cases hc : (O.map (·.1)).contains y = true
   ·rw [if_pos hc] at hy; cases hy
   ·exact zbX O y (by simpa using hc)) (by rw [hopS fop (by simp)]; exact hf) hc (by rw [List.map_congr_left fun x hx => hopS x (by simp [hx])]; exact hds) hpo
   (fun d o1 nx' _ hp => absurd hp (hno d o1 nx')) (fun ch o1 nx' hn' hp => by
     obtain ⟨s2, h1, h2⟩ := hx s'.env ch o1 nx' (by have := e.2.2.1; omega) hp
     refine ⟨s2, fun K a w hin hs => h1 K a w hin (hs.eqo ⟨by simp [hn, e.1], fun y => ?_, rfl, fun _ => rfl⟩), h2⟩
     simp only [zab, zcL, hOget])
 exact hcall ts ot opos oaf
theorem zkt {P : Program} {Γ : Ctx} {N : Nat} {all : Array Oper} {s0 : St} {ops : List Oper} {k : St → Fp4 → Prop} : ∀ (l : List O1) (tail : List Oper) (i : Nat) (E : Nat → zof), za5 all tail = some l → (∀ j, tail[j]? = ops[i + j]?) →
  zi6 P Γ N l (stE ops s0 (eE E) i) (tF4 E i) k → ∃ E' : Nat → zof, (∀ j, j < i → E' j = E j) ∧
   (∀ j o, i ≤ j → ops[j]? = some o → zaB o.dst s0 ∧ (if (E' j).2 = 2 then tW (eE E') j = [] ∧ tC (eE E') j = none else if (E' j).2 = 1 then o.guard = none ∧ zoX P Γ (stE ops s0 (eE E') j) o.op ∧ tW (eE E') j = [] ∧ tC (eE E') j = none else
     (E' j).2 = 0 ∧ zpF P N all (stE ops s0 (eE E') j) o (tT (eE E') j) (tW (eE E') j) (tC (eE E') j) (tR (eE E') j)) ∧ ∀ x, tC (eE E') j = some x → x = s0.next + cnt (eE E') j) ∧
   k (stE ops s0 (eE E') (i + tail.length)) (tF4 E' (i + tail.length))
 | [], tail, i, E, hs, ht, h => by
  cases tail with
  | nil => exact ⟨E, fun _ _ => rfl, fun j o hj ho => by have := ht (j - i); rw [show i + (j - i) = j by omega, ho] at this; simp at this, by simpa [zi6] using h⟩
  | cons x l => simp only [za5] at hs; split at hs <;> simp at hs
 | o1 :: l, tail, i, E, hs, ht, h => by
  obtain ⟨x, tl, rfl, hx, hr⟩ := zdV hs
  obtain ⟨e, hp, hv, hnx, hc⟩ := h
  have hxi : ops[i]? = some x := by have := ht 0; simpa using this.symm
  have hdst : o1.dst = x.dst ∧ o1.op = x.op := by
   unfold zcl at hx
   split at hx
   ·simp at hx; subst hx; exact ⟨rfl, rfl⟩
   ·split at hx
    ·simp at hx; subst hx; exact ⟨rfl, rfl⟩
    ·cases hx
  let E1 : Nat → zof := fun j => if j = i then e else E j
  have h1 : ∀ j, j < i → E j = E1 j := fun j hj => by simp only [E1]; rw [if_neg (by omega)]
  have h1' : ∀ j, j < i → eE E j = eE E1 j := fun j hj => by simp only [eE, h1 j hj]
  have hi : E1 i = e := by simp [E1]
  have hi' : eE E1 i = e.1 := by simp only [eE, hi]
  have zbN : (stE ops s0 (eE E) i).app o1.dst e.1 = stE ops s0 (eE E1) (i + 1) := by
   rw [zeU h1', hdst.1]
   simp only [stE, St.app]
   rw [ze1 (tT (eE E1)) i ops 0 s0.env x (Nat.zero_le _) (by simpa using hxi)]
   have hw : zdU (tW (eE E1)) (fun _ => true) (i + 1) = e.1.2.1 ++ zdU (tW (eE E1)) (fun _ => true) i := by
    rw [zdU, if_pos rfl, show tW (eE E1) i = e.1.2.1 by simp only [tW, hi']]
   have hcn : cnt (eE E1) (i + 1) = cnt (eE E1) i + if e.1.2.2.1.isSome then 1 else 0 := by
    rw [cnt, show tC (eE E1) i = e.1.2.2.1 by simp only [tC, hi']]
   rw [hw, zdj, hcn]
   have hT : tT (eE E1) i = e.1.1 := by simp only [tT, hi']
   cases x.dst with
   | none => simp only [St.put, Nat.add_assoc]
   | some y => simp only [St.put, hT, Nat.add_assoc]
  have hfp : tF4 E i ++ [(e.1.2.2.2, zda e.1.2.1, e.2)] = tF4 E1 (i + 1) := by
   have hc1 : tF4 E i = tF4 E1 i := List.map_congr_left fun j hj => by
    have := h1 j (List.mem_range.1 hj)
    simp only [eE, tR, tW, this]
   rw [hc1]
   simp only [tF4, List.range_succ, List.map_append, List.map_cons, List.map_nil]
   rw [show tR (eE E1) i = e.1.2.2.2 by simp only [tR, hi'], show tW (eE E1) i = e.1.2.1 by simp only [tW, hi'], hi]
  rw [zbN, hfp] at hc
  obtain ⟨E', g1, g2, g3⟩ := zkt l tl (i + 1) E1 hr (fun j => by have := ht (j + 1); rw [show i + 1 + j = i + (j + 1) by omega, ← this]; simp) hc
  refine ⟨E', fun j hj => by rw [g1 j (by omega), h1 j hj], fun j o hj ho => ?_, ?_⟩
  ·rcases Nat.lt_or_ge i j with h' | h'
   ·exact g2 j o h' ho
   ·obtain rfl : i = j := by omega
    rw [hxi] at ho
    cases ho
    have hEi : E' i = e := by rw [g1 i (by omega), hi]
    have hEi' : eE E' i = e.1 := by simp only [eE, hEi]
    have hst : stE ops s0 (eE E') i = stE ops s0 (eE E) i := zeU fun j hj => by simp only [eE]; rw [g1 j (by omega), ← h1 j hj]
    refine ⟨by rw [hdst.1] at hp; exact hp, ?_, fun y hy => ?_⟩
    ·rw [hst]
     simp only [tT, tW, tC, tR, hEi, hEi']
     unfold Op4 at hv
     by_cases c2 : e.2 = 2
     ·rw [if_pos c2] at hv ⊢
      exact hv
     ·rw [if_neg c2] at hv ⊢
      by_cases c1 : e.2 = 1
      ·rw [if_pos c1] at hv ⊢
       obtain ⟨v1, v2, v3⟩ := hv
       refine ⟨?_, by rw [← hdst.2]; exact v2, v3⟩
       unfold zcl at hx
       split at hx
       ·rename_i hg; exact hg
       ·split at hx
        ·simp at hx; subst hx; cases v1
        ·cases hx
      ·rw [if_neg c1] at hv ⊢
       obtain ⟨v0, hv⟩ := hv
       refine ⟨v0, ?_⟩
       unfold zcl at hx
       unfold zpF
       unfold zrf at hv
       split at hx
       ·rename_i hg
        simp at hx
        subst hx
        try rw [hg]
        exact hv
       ·rename_i q want hg
        split at hx
        ·rename_i t ht'
         simp at hx
         subst hx
         try rw [hg]
         exact ⟨t, ht', hv⟩
        ·cases hx
    ·have : tC (eE E') i = e.1.2.2.1 := by simp only [tC, hEi']
     rw [this] at hy
     have := hnx y hy
     rw [this, ze7 (eE E') (eE E) i fun j hj => by simp only [eE]; rw [g1 j (by omega), ← h1 j hj]]
     try rfl
  ·rw [show i + (x :: tl).length = i + 1 + tl.length by simp; omega]
   exact g3
def zo9 (ops : List Oper) (fp : Fp4) : Bool :=
 okP ops (fp.map fun p => (p.1, p.2.1)) &&
 (List.range ops.length).all fun j => ((fp.getD j ([], [], 0)).2.2 != 2 || (List.range ops.length).any fun p => (fp.getD p ([], [], 0)).2.2 == 1 && zdS ops ops.length p j) &&
   ((fp.getD j ([], [], 0)).2.2 != 1 || (List.range ops.length).all fun i => (fp.getD i ([], [], 0)).2.1.isEmpty || zdS ops ops.length i j || zdS ops ops.length j i)
theorem zbm {P Γ s} {Q : Exit → St → Prop} {kt : Kt} {id : Nat} {l : List Oper} (hm : P.follows .mixedOrders = true) (hord : zgF l = true) (hn0 : Γ.n0 ≤ s.next)
  (h : ∀ (C : Fp4 → Prop) (k : St → Prop), (∀ fp, zo9 l fp = true → C fp) → (∀ s', zal P Γ Q kt .normal s' → k s') → match za5 l.toArray l with | some l' => HD4 P Γ s.next l' s [] C k | none => False) :
  V P Γ (.region id l.toArray true) s (zal P Γ Q kt) := by
 have := h (fun fp => zo9 l fp = true) _ (fun _ h => h) fun _ h => h
 split at this
 ·rename_i l' hl
  have h0 : stE l s (eE fun _ => default) 0 = s := by
   have hnone : ∀ (l : List Oper) (i : Nat) (e : List (Nat × D)), zdi (tT (eE fun _ => default)) (fun j => decide (j < 0)) l i e = e := by
    intro l
    induction l with
    | nil => intro i e; rfl
    | cons o l ih => intro i e; exact ih (i + 1) e
   simp only [stE, hnone]
   try rfl
  have hc := this s (.refl s)
  rw [← h0] at hc
  obtain ⟨E, _, h2, hok, hfin⟩ := zkt l' l 0 (fun _ => default) hl (fun j => by rw [Nat.zero_add]) hc
  rw [Nat.zero_add] at hok hfin
  simp only [zo9, Bool.and_eq_true] at hok
  obtain ⟨hok1, hok2⟩ := hok
  have hlen4 : ∀ i, i < l.length → (tF4 E l.length).getD i ([], [], 0) = (tR (eE E) i, zda (tW (eE E) i), (E i).2) := fun i hi => by
   simp [tF4, hi]
  have hlen : ∀ i, i < l.length → ((tF4 E l.length).map fun p => (p.1, p.2.1)).getD i ([], []) = (tR (eE E) i, zda (tW (eE E) i)) := fun i hi => by
   simp [tF4, hi]
  have mono : ∀ i j, i ≤ j → cnt (eE E) i ≤ cnt (eE E) j := fun i j hij => by
   induction hij with
   | refl => exact Nat.le_refl _
   | step _ ih => simp only [cnt]; omega
  have hcr : ∀ i x, i < l.length → tC (eE E) i = some x → x = s.next + cnt (eE E) i ∧ cnt (eE E) (i + 1) = cnt (eE E) i + 1 := fun i x hi hx => by
   have := (h2 i _ (Nat.zero_le _) (List.getElem?_eq_getElem hi)).2.2 x hx
   exact ⟨this, by simp only [cnt, hx]; rfl⟩
  let cr : Nat → Option Nat := fun i => if i < l.length then tC (eE E) i else none
  let kd : Nat → Nat := fun i => if i < l.length then (E i).2 else 0
  let W : Nat → Wr := fun i => if i < l.length then tW (eE E) i else []
  have hWe : ∀ i, i < l.length → W i = tW (eE E) i := fun i hi => by simp only [W]; rw [if_pos hi]
  refine zoR (T := tT (eE E)) (W := W) (cr := cr) (R := tR (eE E)) (kd := kd) (M := s.next + cnt (eE E) l.length) hm hord hn0 (by omega) (fun i x hx => ?_) (fun i j x hi hj => ?_) (fun i j hij hj hb => ?_) (fun i hk => ?_) (fun p i hp hi hw => ?_) (fun i o ho => ?_) (fun hnk => ?_)
  ·simp only [cr] at hx
   split at hx
   ·rename_i hi
    obtain ⟨e1, e2⟩ := hcr i x hi hx
    have := mono (i + 1) l.length hi
    omega
   ·cases hx
  ·simp only [cr] at hi hj
   split at hi
   ·rename_i hil
    split at hj
    ·rename_i hjl
     obtain ⟨e1, e2⟩ := hcr i x hil hi
     obtain ⟨e3, e4⟩ := hcr j x hjl hj
     rcases Nat.lt_trichotomy i j with hlt | hlt | hlt
     ·have := mono (i + 1) j hlt
      omega
     ·exact hlt
     ·have := mono (j + 1) i hlt
      omega
    ·cases hj
   ·cases hi
  ·have := (List.all_eq_true.1 ((List.all_eq_true.1 hok1) j (List.mem_range.2 hj))) i (List.mem_range.2 hij)
   rw [hb, hlen i (by omega), hlen j hj] at this
   simp only [Bool.false_or, Bool.and_eq_true] at this
   rw [hWe i (by omega), hWe j hj]
   refine ⟨fun y hy => ?_, fun y hy => ze2 this.2 y hy⟩
   have := ze2 this.1 y hy
   rw [List.mem_append, not_or] at this
   exact this
  ·simp only [kd] at hk
   split at hk
   ·rename_i hi
    obtain ⟨_, g2, _⟩ := h2 i _ (Nat.zero_le _) (List.getElem?_eq_getElem hi)
    have hci : cr i = tC (eE E) i := by simp only [cr]; rw [if_pos hi]
    rw [hWe i hi, hci]
    by_cases c2 : (E i).2 = 2
    ·rw [if_pos c2] at g2; exact g2
    ·rw [if_neg c2] at g2
     by_cases c1 : (E i).2 = 1
     ·rw [if_pos c1] at g2; exact g2.2.2
     ·rw [if_neg c1] at g2; exact absurd g2.1 hk
   ·exact absurd rfl hk
  ·simp only [kd] at hp
   split at hp
   ·rename_i hpl
    have := (List.all_eq_true.1 hok2) p (List.mem_range.2 hpl)
    rw [Bool.and_eq_true, hlen4 p hpl] at this
    have h3 := this.2
    simp only [hp] at h3
    have h4 : ((List.range l.length).all fun i => ((tF4 E l.length).getD i ([], [], 0)).2.1.isEmpty || zdS l l.length i p || zdS l l.length p i) = true := by simpa using h3
    have h5 := (List.all_eq_true.1 h4) i (List.mem_range.2 hi)
    rw [hlen4 i hi] at h5
    simp only [Bool.or_eq_true] at h5
    rcases h5 with (h5 | h5) | h5
    ·exfalso
     apply hw
     rw [hWe i hi]
     have : zda (tW (eE E) i) = [] := by simpa using h5
     simpa [zda] using this
    ·exact .inl h5
    ·exact .inr h5
   ·cases hp
  ·have hi := (List.getElem?_eq_some_iff.1 ho).1
   obtain ⟨g1, g2, g3⟩ := h2 i o (Nat.zero_le _) ho
   refine ⟨g1, ?_⟩
   have hwl : ∀ S m, m ≤ l.length → zdU W S m = zdU (tW (eE E)) S m := fun S m hm => zdT W (tW (eE E)) S m fun j hj => hWe j (by omega)
   have hst : stW l (tT (eE E)) W s (s.next + cnt (eE E) l.length) (fun j => decide (j < i)) = { stE l s (eE E) i with next := s.next + cnt (eE E) l.length } := by
    simp only [stW, stE]
    rw [hwl _ _ (Nat.le_refl _), zfY (tW (eE E)) i l.length (by omega)]
   have hcri : cr i = tC (eE E) i := by simp only [cr]; rw [if_pos hi]
   have hkdi : kd i = (E i).2 := by simp only [kd]; rw [if_pos hi]
   rw [hst, hcri, hkdi, hWe i hi]
   have opo : ∀ x, opd { stE l s (eE E) i with next := s.next + cnt (eE E) l.length } x = opd (stE l s (eE E) i) x := fun x => by cases x <;> rfl
   have eqo : ∀ (op : Op) (r : D → Prop), valD P { stE l s (eE E) i with next := s.next + cnt (eE E) l.length } op r = valD P (stE l s (eE E) i) op r := fun op r => zdk rfl fun x _ => by cases x <;> rfl
   have ero : ∀ (op : Op), zbk { stE l s (eE E) i with next := s.next + cnt (eE E) l.length } op = zbk (stE l s (eE E) i) op := fun op => by
    have e : opd { stE l s (eE E) i with next := s.next + cnt (eE E) l.length } = opd (stE l s (eE E) i) := funext fun x => by cases x <;> rfl
    unfold zbk zbd zbS
    rw [e]
   have efo : ∀ (op : Op) (r : ERes → Prop), effD P { stE l s (eE E) i with next := s.next + cnt (eE E) l.length } op r = effD P (stE l s (eE E) i) op r := fun op r =>
    propext ⟨zdx (fun _ _ => rfl) fun x _ => by cases x <;> rfl, zdx (fun _ _ => rfl) fun x _ => by cases x <;> rfl⟩
   have hle : (stE l s (eE E) i).next ≤ s.next + cnt (eE E) l.length := by
    have := mono i l.length (by omega)
    simp only [stE]; omega
   have cao : ∀ (op : Op) (d : D) (W : Wr) (R : List Nat), zo5 P s.next (stE l s (eE E) i) op d W R → zo5 P s.next { stE l s (eE E) i with next := s.next + cnt (eE E) l.length } op d W R :=
    fun op d W R ⟨fop, args, f, caps, O, O', L, q1, q2, q3, q4, q5, q6, q6b, q7, q8, q9, q10⟩ => ⟨fop, args, f, caps, O, O', L, q1, by rw [opo]; exact q2, q3, q4, q5, q6, q6b, q7, q8, q9, fun nx hnx => by
     rw [List.map_congr_left fun x _ => opo x]
     exact q10 nx (Nat.le_trans hle hnx)⟩
   have c1x : ∀ (op : Op) (dst : Option Tmp) (d : D) (W : Wr) (cr : Option Nat) (R : List Nat), zoZ P s.next (stE l s (eE E) i) op dst d W cr R → zoZ P s.next { stE l s (eE E) i with next := s.next + cnt (eE E) l.length } op dst d W cr R :=
    fun op dst d W cr R h => by
     rcases h with h | ⟨h, hc⟩
     ·left
      unfold Op1 at h ⊢
      simp only [eqo, ero, efo]
      exact h
     ·exact .inr ⟨cao _ _ _ _ h, hc⟩
   by_cases k2 : (E i).2 = 2
   ·rw [if_pos k2]
    have := (List.all_eq_true.1 hok2) i (List.mem_range.2 hi)
    rw [Bool.and_eq_true, hlen4 i hi] at this
    have h3 := this.1
    simp only [k2] at h3
    have h4 : ((List.range l.length).any fun p => ((tF4 E l.length).getD p ([], [], 0)).2.2 == 1 && zdS l l.length p i) = true := by simpa using h3
    obtain ⟨p, hp, h5⟩ := List.any_eq_true.1 h4
    have hpl := List.mem_range.1 hp
    rw [hlen4 p hpl, Bool.and_eq_true] at h5
    exact ⟨p, by simp only [kd]; rw [if_pos hpl]; simpa using h5.1, hpl, h5.2⟩
   ·rw [if_neg k2] at g2 ⊢
    by_cases k1 : (E i).2 = 1
    ·rw [if_pos k1] at g2 ⊢
     refine ⟨g2.1, fun s' a1 a2 a3 a4 => g2.2.1 s' a1 a2 (fun x hx => by rw [a3 x hx, opo]) (Nat.le_trans hle a4)⟩
    ·rw [if_neg k1] at g2 ⊢
     obtain ⟨_, g2⟩ := g2
     unfold zpF at g2 ⊢
     split
     ·rename_i hg; rw [hg] at g2; exact c1x _ _ _ _ _ _ g2
     ·rename_i j want hg
      rw [hg] at g2
      obtain ⟨t, ht, g2⟩ := g2
      refine ⟨t, ht, ?_⟩
      rcases g2 with ⟨b, hb, g2⟩ | g2
      ·refine .inl ⟨b, hb, ?_⟩
       split
       ·rename_i hbw; rw [if_pos hbw] at g2; exact c1x _ _ _ _ _ _ g2
       ·rename_i hbw; rw [if_neg hbw] at g2; exact g2
      ·exact .inr g2
  ·obtain ⟨s', h3, h4⟩ := hfin fun p hp => by
    obtain ⟨i, hi, rfl⟩ := List.mem_map.1 hp
    have hil := List.mem_range.1 hi
    have := hnk i hil
    simp only [kd] at this
    rw [if_pos hil] at this
    exact this
   refine ⟨s', St.Eqo.trans (b := stE l s (eE E) l.length) ⟨rfl, fun x => ?_, rfl, fun x => ?_⟩ h3, h4⟩
   ·simp only [stW, stE]
    rw [zdT W (tW (eE E)) (fun _ => true) l.length fun j hj => hWe j hj]
   ·simp only [stW, stE]
    exact zbA (tT (eE E)) _ _ x l 0 s.env s.env rfl fun j o hj _ => by
     have := (List.getElem?_eq_some_iff.1 hj).1
     simp [this]
 ·exact this.elim
end Go.VL
namespace Go.VL
open Go
/-- Numbers of objects by their places: the first zdR are those that were handed over. -/
def zip (ids : List Nat) (nx k : Nat) : Nat := match ids[k]? with | some x => x | none => nx + (k - ids.length)
theorem zna {ids : List Nat} {nx : Nat} (hd : ids.Nodup) (hlt : ∀ x ∈ ids, x < nx) {a b : Nat} (h : zip ids nx a = zip ids nx b) : a = b := by
 unfold zip at h
 rcases ha : ids[a]? with _ | x <;> rcases hb : ids[b]? with _ | y <;> rw [ha, hb] at h <;> simp only at h
 ·have := List.getElem?_eq_none_iff.1 ha
  have := List.getElem?_eq_none_iff.1 hb
  omega
 ·have := hlt y (List.mem_of_getElem? hb)
  omega
 ·have := hlt x (List.mem_of_getElem? ha)
  omega
 ·obtain ⟨h1, h2⟩ := List.getElem?_eq_some_iff.1 ha
  obtain ⟨h3, h4⟩ := List.getElem?_eq_some_iff.1 hb
  rw [List.nodup_iff_pairwise_ne, List.pairwise_iff_getElem] at hd
  rcases Nat.lt_trichotomy a b with hlt' | hlt' | hlt'
  ·exact absurd (h2.trans (h.trans h4.symm)) (hd a b h1 h3 hlt')
  ·exact hlt'
  ·exact absurd (h2.trans (h.trans h4.symm)).symm (hd b a h3 h1 hlt')
inductive KL (ids : List Nat) (nx : Nat) : List Nat → List Nat → Prop
 | nil : KL ids nx [] []
 | cons (k : Nat) {x l l0} (h : zip ids nx k = x) (t : KL ids nx l l0) : KL ids nx (x :: l) (k :: l0)
theorem KL.map {ids nx l l0} (h : KL ids nx l l0) : l = l0.map (zip ids nx) := by
 induction h with
 | nil => rfl
 | cons k h t ih => rw [List.map_cons, h, ← ih]
inductive KF (ids : List Nat) (nx : Nat) : Fp4 → Fp4 → Prop
 | nil : KF ids nx [] []
 | cons {a a0 b b0 k fp fp0} (h1 : KL ids nx a a0) (h2 : KL ids nx b b0) (h3 : KF ids nx fp fp0) : KF ids nx ((a, b, k) :: fp) ((a0, b0, k) :: fp0)
theorem KF.map {ids nx l l0} (h : KF ids nx l l0) : l = l0.map fun p => (p.1.map (zip ids nx), p.2.1.map (zip ids nx), p.2.2) := by
 induction h with
 | nil => rfl
 | cons h1 h2 _ ih => rw [List.map_cons, ← h1.map, ← h2.map, ← ih]
theorem zmD {ρ : Nat → Nat} (hρ : ∀ a b, ρ a = ρ b → a = b) (a b : List Nat) : zlf (a.map ρ) (b.map ρ) = zlf a b := by
 unfold zlf
 rw [List.all_map]
 congr 1
 funext y
 simp only [Function.comp]
 congr 1
 rw [Bool.eq_iff_iff]
 simp only [List.contains_eq_mem, decide_eq_true_eq, List.mem_map]
 exact ⟨fun ⟨z, h1, h2⟩ => hρ _ _ h2 ▸ h1, fun h => ⟨y, h, rfl⟩⟩
theorem zbg {ops : List Oper} {fp : Fp4} (ids : List Nat) (nx : Nat) (hd : ids.Nodup) (hlt : ∀ x ∈ ids, x < nx) (h : ∃ fp0, KF ids nx fp fp0 ∧ zo9 ops fp0 = true) : zo9 ops fp = true := by
 obtain ⟨fp0, hk, h⟩ := h
 have hr := hk.map
 subst hr
 have hρ : ∀ a b, zip ids nx a = zip ids nx b → a = b := fun a b => zna hd hlt
 have g4 : ∀ i, (fp0.map fun p => (p.1.map (zip ids nx), p.2.1.map (zip ids nx), p.2.2)).getD i ([], [], 0) = (((fp0.getD i ([], [], 0)).1.map (zip ids nx), (fp0.getD i ([], [], 0)).2.1.map (zip ids nx), (fp0.getD i ([], [], 0)).2.2)) := fun i => by
  simp only [List.getD_eq_getElem?_getD, List.getElem?_map]
  cases fp0[i]? <;> rfl
 have g2 : ∀ i, ((fp0.map fun p => (p.1.map (zip ids nx), p.2.1.map (zip ids nx), p.2.2)).map fun p => (p.1, p.2.1)).getD i ([], []) =
   ((((fp0.map fun p => (p.1, p.2.1)).getD i ([], [])).1.map (zip ids nx), ((fp0.map fun p => (p.1, p.2.1)).getD i ([], [])).2.map (zip ids nx))) := fun i => by
  simp only [List.getD_eq_getElem?_getD, List.getElem?_map]
  cases fp0[i]? <;> rfl
 unfold zo9 okP at h ⊢
 simp only [g4, g2, ← List.map_append, zmD hρ, List.isEmpty_map] at h ⊢
 exact h
/-- A call that changes the one object it is handed. -/
theorem zh3 {P : Program} {Γ : Ctx} {N : Nat} {s : St} {dst : Option Tmp} {rest fp C k} {fop : Operand} {args : Array Operand} {ts : Array TypeId} {f caps} {ds : List D} {d : D} {j : Nat} {ob ob' : Ob}
  (hret : ∀ nx, s.next ≤ nx → RetX P f ds [(j, ob)] nx fun r o n => r = .val d ∧ o = [(j, ob')] ∧ n = nx)
  (hj : getK s.obs j = some ob) (hf : zav (opd s fop) = some (f, caps)) (hc : zao P f = true) (hds : args.toList.map (opd s) ++ caps = ds)
  (hu : d.under N = true ∧ ob'.under N = true) (hp : zaB dst s)
  (h : HD4 P Γ N rest (({ s with obs := zat [(j, some ob')] s.obs } : St).put dst d) (fp ++ [([j], [j], 0)]) C k) :
  HD4 P Γ N (⟨dst, .call { callee := .value fop, args, argTypes := ts }, none⟩ :: rest) s fp C k :=
 zkC [(j, ob)] [(j, ob')] (fun nx hnx => (hret nx hnx).mono fun r o n ⟨h1, h2, h3⟩ => ⟨h1, fun y => by rw [h2], h3⟩) hf hc hds rfl (by simpa using hj) (by simp) ⟨hu.1, by simpa using hu.2⟩ hp h
/-- The same, and it panics. -/
theorem zfX {P : Program} {Γ : Ctx} {N : Nat} {s : St} {dst : Option Tmp} {rest fp C k} {fop : Operand} {args : Array Operand} {ts : Array TypeId} {f caps} {ds : List D} {j : Nat} {ob : Ob} {ch : List PanicEntry} {p : Ob → Prop}
  (hret : ∀ nx, s.next ≤ nx → RetX P f ds [(j, ob)] nx fun r o n => r = .pan ch ∧ (∃ ob', p ob' ∧ o = [(j, ob')]) ∧ n = nx)
  (hj : getK s.obs j = some ob) (hf : zav (opd s fop) = some (f, caps)) (hc : zao P f = true) (hds : args.toList.map (opd s) ++ caps = ds) (hp : zaB dst s)
  (hx : ∀ env ob' n, s.next ≤ n → p ob' → ∃ s2, Wk Γ { n := s.n, env := env, obs := del s.obs j ++ [(j, ob')], next := n } s2 ∧ Γ.pan ch s2)
  (h : HD4 P Γ N rest (s.put dst .any) (fp ++ [([], [], 1)]) C k) :
  HD4 P Γ N (⟨dst, .call { callee := .value fop, args, argTypes := ts }, none⟩ :: rest) s fp C k := by
 have hfil : (s.obs.filter fun p => !(([(j, ob)] : List (Nat × Ob)).map (·.1)).contains p.1) = del s.obs j := by
  unfold del
  congr 1
  funext p
  simp only [List.map_cons, List.map_nil, List.contains_cons, List.contains_nil, Bool.or_false]
 refine zkA (post := fun r o _ => r = .pan ch ∧ ∃ ob', p ob' ∧ o = [(j, ob')]) [(j, ob)] (fun nx hnx => (hret nx hnx).mono fun r o n ⟨h1, h2, _⟩ => ⟨h1, h2⟩) (fun d o n h => by cases h.1) hf hc hds (by simpa using hj) hp (fun env ch' o n hn h => ?_) h
 obtain ⟨h1, ob', h2, rfl⟩ := h
 cases h1
 rw [hfil]
 exact hx env ob' n hn h2
/-- Behind a call that panics. -/
theorem zfb {P Γ N s dst op g rest fp C k} (_ : (fp.any fun p => p.2.2 == 1) = true) (hp : zaB dst s) (h : HD4 P Γ N rest (s.put dst .any) (fp ++ [([], [], 2)]) C k) : HD4 P Γ N (⟨dst, op, g⟩ :: rest) s fp C k := zkB hp h
/-- The end of a call: without its slots and its own objects. -/
theorem FinOK.cut {n0 : Nat} {post : D → List (Nat × Ob) → Nat → Prop} {s : St} {d : D} (obs : List (Nat × Ob)) (N : Nat) (ho : ∀ p ∈ obs, getK s.obs p.1 = some p.2 ∧ p.1 < N ∧ p.2.under N = true) (hd : d.under N = true) (hn : n0 ≤ N)
  (h : post d obs N) : FinOK n0 post s d :=
 .inl ⟨{ s with env := [], obs := obs, next := N }, fun i => i, d, ⟨rfl, fun x d' hx => by simp [getK] at hx, fun x d' hx => by simp [getK] at hx,
  fun i ob hi => ⟨(ho _ (zeG hi)).2.1, ob, (ho _ (zeG hi)).1, Ob.le_id ob, (ho _ (zeG hi)).2.2⟩, fun _ _ _ _ _ _ h => h, fun i hi => ⟨rfl, Nat.lt_of_lt_of_le hi hn⟩⟩, D.le_id d, hd, hn, h⟩
def zp0 : D → Bool
 | .vec .. => true
 | _ => false
/-- A slice that is handed over and not needed any more is frozen ahead of the call. -/
theorem za2 {P : Program} {Γ : Ctx} {s : St} {k : St → Prop} {dst : Option Tmp} {fop : Operand} {args : List Operand} (_ : (args.map (opd s)).any zp0 = true) (h : CallP P Γ fop args dst (frzN 1 s) k) : CallP P Γ fop args dst s k :=
 zkE (Wk.frzN 1 _) h
end Go.VL
namespace Go.VL
open Go
def zbe {α : Type} (obs : List (Nat × α)) : List Nat → List (Nat × α)
 | [] => obs
 | i :: l => zbe (del obs i) l
theorem zd2 {α : Type} : ∀ (l : List Nat) (obs : List (Nat × α)), zbe obs l = obs.filter fun p => !l.contains p.1
 | [], obs => by rw [zbe]; exact (List.filter_eq_self.2 (by simp)).symm
 | i :: l, obs => by
  rw [zbe, zd2 l, del, List.filter_filter]
  congr 1
  funext p
  simp only [List.contains_cons]
  cases p.1 == i <;> cases l.contains p.1 <;> rfl
theorem zhX {obs O : List (Nat × Ob)} (hO : ∀ p ∈ O, getK obs p.1 = some p.2) (i : Nat) : getK obs i = getK (zbe obs (O.map (·.1)) ++ O) i := by
 rw [zd2, zab, zcL]
 by_cases hy : (O.map (·.1)).contains i = true
 ·rw [if_pos hy]
  obtain ⟨x, hx⟩ := zc1 (l := O) (y := i) (by simpa using hy)
  rw [hx, hO _ (ze0 hx)]
 ·rw [if_neg hy, zbX O i (by simpa using hy)]
  cases getK obs i <;> rfl
theorem zgr {obs O : List (Nat × Ob)} (i : Nat) (ob : Ob) (h : getK (zbe obs (O.map (·.1))) i = some ob) : getK O i = none := by
 rw [zd2, zcL] at h
 by_cases hc : (O.map (·.1)).contains i = true
 ·rw [if_pos hc] at h; cases h
 ·exact zbX O i (by simpa using hc)
/-- A call that is handed objects, and goes through. -/
theorem CallP.okL {P : Program} {Γ : Ctx} {s : St} {k : St → Prop} {dst : Option Tmp} {fop : Operand} {args : List Operand} {f caps} {ds : List D} {O O' : List (Nat × Ob)} {d : D} {N : Nat}
  (hret : RetX P f ds O s.next fun r o n => r = .val d ∧ o = O' ∧ n = N) (hO : ∀ p ∈ O, getK s.obs p.1 = some p.2)
  (hf : zav (opd s fop) = some (f, caps)) (hc : zao P f = true) (hds : args.map (opd s) ++ caps = ds) (hp : zaB dst s)
  (hk : k (({ s with obs := zbe s.obs (O.map (·.1)) ++ O', next := N } : St).put dst d)) : CallP P Γ fop args dst s k :=
 CallP.xF (zbe s.obs (O.map (·.1))) O hret (zhX hO) zgr hf hc hds hp (fun d' o1 nx' _ ⟨h1, h2, h3⟩ => by cases h1; subst h2; subst h3; exact hk) (fun ch o1 nx' _ ⟨h1, _⟩ => by cases h1)
/-- A call that is handed objects, and panics. -/
theorem CallP.zh5 {P : Program} {Γ : Ctx} {s : St} {k : St → Prop} {dst : Option Tmp} {fop : Operand} {args : List Operand} {f caps} {ds : List D} {O O' : List (Nat × Ob)} {ch : List PanicEntry}
  (hret : RetX P f ds O s.next fun r o n => r = .pan ch ∧ o = O' ∧ n = s.next) (hO : ∀ p ∈ O, getK s.obs p.1 = some p.2)
  (hf : zav (opd s fop) = some (f, caps)) (hc : zao P f = true) (hds : args.map (opd s) ++ caps = ds) (hp : zaB dst s)
  (hx : ∃ s2, Wk Γ { s with obs := zbe s.obs (O.map (·.1)) ++ O', next := s.next } s2 ∧ Γ.pan ch s2) : CallP P Γ fop args dst s k :=
 CallP.xF (zbe s.obs (O.map (·.1))) O hret (zhX hO) zgr hf hc hds hp (fun d' o1 nx' _ ⟨h1, _⟩ => by cases h1) (fun ch' o1 nx' _ ⟨h1, h2, h3⟩ => by cases h1; subst h2; subst h3; exact hx)
theorem zmU {P : Program} {Γ : Ctx} {N : Nat} {s : St} {dst : Option Tmp} {rest fp C k} {fop : Operand} {args : Array Operand} {ts : Array TypeId} {f caps} {ds : List D} {d : D} {O O' : List (Nat × Ob)}
  (hret : ∀ nx, s.next ≤ nx → RetX P f ds O nx fun r o n => r = .val d ∧ o = O' ∧ n = nx)
  (hO : ∀ p ∈ O, getK s.obs p.1 = some p.2) (hkeys : O'.map (·.1) = O.map (·.1)) (hnd : (O.map (·.1)).Nodup)
  (hf : zav (opd s fop) = some (f, caps)) (hc : zao P f = true) (hds : args.toList.map (opd s) ++ caps = ds)
  (hu : d.under N = true ∧ ∀ p ∈ O', p.2.under N = true) (hp : zaB dst s)
  (h : HD4 P Γ N rest (({ s with obs := zat (O'.map fun p => (p.1, some p.2)) s.obs } : St).put dst d) (fp ++ [(O.map (·.1), O'.map (·.1), 0)]) C k) :
  HD4 P Γ N (⟨dst, .call { callee := .value fop, args, argTypes := ts }, none⟩ :: rest) s fp C k :=
 zkC O O' (fun nx hnx => (hret nx hnx).mono fun r o n ⟨h1, h2, h3⟩ => ⟨h1, fun y => by rw [h2], h3⟩) hf hc hds hkeys hO hnd hu hp h
/-- A call that changes the first one of the objects it is handed. -/
theorem zgx {P : Program} {Γ : Ctx} {N : Nat} {s : St} {dst : Option Tmp} {rest fp C k} {fop : Operand} {args : Array Operand} {ts : Array TypeId} {f caps} {ds : List D} {d : D} {j : Nat} {ob ob' : Ob} {F : List (Nat × Ob)}
  (hret : ∀ nx, s.next ≤ nx → RetX P f ds ((j, ob) :: F) nx fun r o n => r = .val d ∧ (∀ y, getK o y = getK ((j, ob') :: F) y) ∧ n = nx)
  (hO : ∀ p ∈ (j, ob) :: F, getK s.obs p.1 = some p.2) (hnd : (((j, ob) :: F).map (·.1)).Nodup)
  (hf : zav (opd s fop) = some (f, caps)) (hc : zao P f = true) (hds : args.toList.map (opd s) ++ caps = ds)
  (hu : d.under N = true ∧ ∀ p ∈ (j, ob') :: F, p.2.under N = true) (hp : zaB dst s)
  (h : HD4 P Γ N rest (({ s with obs := zat [(j, some ob')] s.obs } : St).put dst d) (fp ++ [(j :: F.map (·.1), [j], 0)]) C k) :
  HD4 P Γ N (⟨dst, .call { callee := .value fop, args, argTypes := ts }, none⟩ :: rest) s fp C k := by
 have hj : ∀ p ∈ F, ¬ p.1 = j := fun p hp e => by
  rw [List.map_cons, List.nodup_cons] at hnd
  exact hnd.1 (List.mem_map.2 ⟨p, hp, e⟩)
 have hfl : (((j, ob') :: F).filter fun p => [j].contains p.1) = [(j, ob')] := by
  rw [List.filter_cons, if_pos (by simp)]
  congr 1
  refine List.filter_eq_nil_iff.2 fun p hp => ?_
  have := hj p hp
  simp only [List.contains_cons, List.contains_nil, Bool.or_false, beq_iff_eq]
  exact this
 refine zjf ((j, ob) :: F) ((j, ob') :: F) [j] hret hf hc hds rfl (fun y hy => ?_) hO hnd hu hp ?_
 ·have : ¬ y = j := fun e => by subst e; simp at hy
  rw [zaa, zaa, if_neg this, if_neg this]
 ·rw [hfl]
  exact h
theorem zfW {P : Program} {Γ : Ctx} {N : Nat} {s : St} {dst : Option Tmp} {rest fp C k} {fop : Operand} {args : Array Operand} {ts : Array TypeId} {f caps} {ds : List D} {O O' : List (Nat × Ob)} {ch : List PanicEntry}
  (hret : ∀ nx, s.next ≤ nx → RetX P f ds O nx fun r o n => r = .pan ch ∧ o = O' ∧ n = nx)
  (hO : ∀ p ∈ O, getK s.obs p.1 = some p.2)
  (hf : zav (opd s fop) = some (f, caps)) (hc : zao P f = true) (hds : args.toList.map (opd s) ++ caps = ds) (hp : zaB dst s)
  (hx : ∀ env n, s.next ≤ n → ∃ s2, Wk Γ { n := s.n, env := env, obs := zbe s.obs (O.map (·.1)) ++ O', next := n } s2 ∧ Γ.pan ch s2)
  (h : HD4 P Γ N rest (s.put dst .any) (fp ++ [([], [], 1)]) C k) :
  HD4 P Γ N (⟨dst, .call { callee := .value fop, args, argTypes := ts }, none⟩ :: rest) s fp C k := by
 refine zkA (post := fun r o _ => r = .pan ch ∧ o = O') O (fun nx hnx => (hret nx hnx).mono fun r o n ⟨h1, h2, _⟩ => ⟨h1, h2⟩) (fun d o n h => by cases h.1) hf hc hds hO hp (fun env ch' o n hn h => ?_) h
 obtain ⟨h1, rfl⟩ := h
 cases h1
 rw [← zd2]
 exact hx env n hn
/-- A call behind one that panics. -/
theorem zje {P Γ N s dst c g rest fp C k} (_ : (fp.any fun p => p.2.2 == 1) = true) (hp : zaB dst s) (h : HD4 P Γ N rest (s.put dst .any) (fp ++ [([], [], 2)]) C k) : HD4 P Γ N (⟨dst, .call c, g⟩ :: rest) s fp C k := zkB hp h
/-- A function is left behind which a deferred one is called that is handed objects. -/
theorem LeaveD.of {P : Program} {Γb : Ctx} {fn : Func} {post : Out → List (Nat × Ob) → Nat → Prop} {g : FuncId} {caps : List D} {u : FrameMode} {s : St} (O : List (Nat × Ob)) {O' : List (Nat × Ob)} (hO : ∀ p ∈ O, getK s.obs p.1 = some p.2)
  (h : RetDf P g caps O s.next u fun u' o n => settle u' = .returning ∧ n = s.next ∧ o = O') (hk : EndW P Γb fn Γb.n0 (fun d o n => post (.val d) o n) .ret { s with obs := zbe s.obs (O.map (·.1)) ++ O', next := s.next }) :
  LeaveD P Γb fn post g caps u s :=
 ((h.frame (zbe s.obs (O.map (·.1))) zgr).congr (zhX hO)).mono fun u' o n ⟨o1, ho, hs, hn, ho1⟩ => ⟨hs, by subst ho; subst ho1; subst hn; exact hk⟩
theorem nef {i nx : Nat} (h : i < nx) : ¬ i = nx ∧ ¬ nx = i ∧ (∀ k, ¬ i = nx + k) ∧ ∀ k, ¬ nx + k = i := ⟨by omega, by omega, fun k => by omega, fun k => by omega⟩
end Go.VL
namespace Go.Proofs.YtfcopibncpkdoaaDoor
open Go Go.VL
attribute [local simp] HS zcp zbN evPure opd uOf zaB St.put St.at getK binD binI binS binB nilD aggD zeJ ze8 lookD lookR zbT Go.VL.nextD zbY zfe zfd zev zbM mkV zaW zaP zaO zaN zcm zaM za1 zbc mapEff zcS zek Key.kk shiftI arith unD convD zcP loadD cellsAt fieldAddrD fieldD indexAddrD indexD sliceD cutD lenD minmaxD nilCheckD buildD fillD zbt zcq zdR setAll zcg zdy zbQ zeN zbO St.add zaC zbj rowsOf zcM zce zaj zac zaa za5 zcl zaH entry za4 za6 valD zbS zb7 zez zct zcu zbx zbs zav zaT za7 delAll effD St.effS zb9 zaQ zaI zca zaR zaK zby zaJ zaD zbz zb8 zbb zbw zaZ zbu zbv zat mkD zbk zbd zbB zav zbP D.ids Op.operands Call.operands za8 makeIfD typeAssertD ze6 zcH zcI zeR zbV IntKind.bits zch List.take_of_length_le List.range_succ
attribute [local irreducible] V G H HD HD2 HD4 zhn RetX zal Eff CallP CallV EndOK Fun Ret FinOK LoopI LoopW EndW
theorem zgR (lets : List Let) (e : Exp) : Fun Tryd.prog 99 [.u (zaw lets), za3 e] (· = .u (.bool (zbC lets e))) := by
 have h1 := zmk lets [] e
 have hk : okJ lets [] e = zbL lets e := by simp [okJ]
 unfold zbC
 unfold zml at h1
 rw [hk] at h1
 cases hK : zbL lets e
 ·rw [hK] at h1
  simp only [zaw, zcF, za3, Bool.false_eq_true, if_false, List.map_nil] at h1 ⊢
  (refine Fun.of_body Tryd.func99 rfl (by simp) fun Γ hn => ?_); simp only [entry, List.zipIdx_cons, List.zipIdx_nil, List.map_cons, List.map_nil, Nat.zero_add, Tryd.ntmps99]
  repeat' (first
  | (refine zah ?_; simp)
  | (refine zak ?_; simp)
  | (refine zai ?_; simp)
  | (refine zar ?_; simp only [zal])
  | (refine CallP.fun_ (h1) (by first | rfl | fail) (by first | assumption | (simp; done) | fail) (by first | (simp; done) | (simp; rfl) | fail) (by first | (simp; done) | fail) (fun d hd => ?_); subst hd; (try simp))
  | fail)
  (refine EndOK.val (.inr rfl) ?_; simp [zay, zae, zau, Tryd.results99])
 ·rw [hK] at h1
  have h2 := zdJ (gOf []) (mOf (gOf []) lets) 12 e (zgX hK).2.1
  have hg : gOf [] = [] := rfl
  rw [hg] at h1 h2
  simp only [zaw, zcF, za3, if_true, jU, List.map_nil] at h1 h2 ⊢
  generalize zcK (sF (mOf [] lets)) e = r at h2 ⊢
  (refine Fun.of_body Tryd.func99 rfl (by simp) fun Γ hn => ?_); simp only [entry, List.zipIdx_cons, List.zipIdx_nil, List.map_cons, List.map_nil, Nat.zero_add, Tryd.ntmps99]
  repeat' (first
  | (refine zah ?_; simp)
  | (refine zak ?_; simp)
  | (refine zai ?_; simp)
  | (refine zar ?_; simp only [zal])
  | (refine CallP.fun_ (h1) (by first | rfl | fail) (by first | assumption | (simp; done) | fail) (by first | (simp; done) | (simp; rfl) | fail) (by first | (simp; done) | fail) (fun d hd => ?_); subst hd; (try simp))
  | (refine CallP.fun_ (h2) (by first | rfl | fail) (by first | assumption | (simp; done) | fail) (by first | (simp; done) | (simp; rfl) | fail) (by first | (simp; done) | fail) (fun d hd => ?_); subst hd; (try simp))
  | fail)
  (refine EndOK.val (.inr rfl) ?_; simp [zay, zae, zau, Tryd.results99])
/-- The panic of a fault. -/
def chF (e : Int) : List PanicEntry := [{ v := .iface 93 (.agg #[.int .i64 e]), recovered := false }]
def zco : Except Int Int → Out
 | .ok v => .val (.u (.int .i64 v))
 | .error e => .pan (chF e)
theorem zc7 (b : Bool) : Fun Tryd.prog 75 [.u (.bool b)] (· = .u (.int .i64 (zbI b))) := by
 cases b
 all_goals
  (refine Fun.of_body Tryd.func75 rfl (by simp) fun Γ hn => ?_); simp only [entry, List.zipIdx_cons, List.zipIdx_nil, List.map_cons, List.map_nil, Nat.zero_add, Tryd.ntmps75]
  repeat' (first
  | (refine zah ?_; simp)
  | (refine zak ?_; simp)
  | (refine zai ?_; simp)
  | (refine zag ?_; simp)
  | (refine zar ?_; simp only [zal])
  | (refine zaq ?_; simp only [zal])
  | fail)
  (refine EndOK.val (.inr rfl) ?_; simp [zay, zae, zau, Tryd.results75])
 all_goals (try rfl)
theorem zdP (n : Int) (nx : Nat) : RetX Tryd.prog 73 [.u (.int .i64 n)] [] nx (fun r o m => r = zco (zcG n) ∧ o = [] ∧ m = nx) := by
 unfold zcG
 by_cases h1 : 1099511627776 < n
 ·(refine RetX.of_bodyW Tryd.func73 rfl (by simp) fun Γ hn hpan => ?_); simp only [entry, List.zipIdx_cons, List.zipIdx_nil, List.map_cons, List.map_nil, Nat.zero_add, Tryd.ntmps73]
  repeat' (first
  | (refine zah ?_; simp [h1])
  | (refine zak ?_; simp [h1])
  | (refine zai ?_; simp [h1])
  | (refine zag ?_; simp [h1])
  | (refine zas ?_; simp [h1])
  | fail)
  (refine hpan _ _ ⟨{ n := _, env := [], obs := [], next := nx }, (Wk.cut rfl (by simp [hn]) (by simp [wkO, zaa, getK, zab, zac, Ob.under, D.under, zad, zaf]) (by simp [wkU, zap, zaa, getK, D.under]) (by simp [wkE, zap, zaa, getK])), by simp [hn], ?_⟩; try simp)
  all_goals try simp [h1, zco, chF]
 ·by_cases h2 : n < -1099511627776
  ·(refine RetX.of_bodyW Tryd.func73 rfl (by simp) fun Γ hn hpan => ?_); simp only [entry, List.zipIdx_cons, List.zipIdx_nil, List.map_cons, List.map_nil, Nat.zero_add, Tryd.ntmps73]
   repeat' (first
  | (refine zah ?_; simp [h1, h2])
  | (refine zak ?_; simp [h1, h2])
  | (refine zai ?_; simp [h1, h2])
  | (refine zag ?_; simp [h1, h2])
  | (refine zas ?_; simp [h1, h2])
  | fail)
   (refine hpan _ _ ⟨{ n := _, env := [], obs := [], next := nx }, (Wk.cut rfl (by simp [hn]) (by simp [wkO, zaa, getK, zab, zac, Ob.under, D.under, zad, zaf]) (by simp [wkU, zap, zaa, getK, D.under]) (by simp [wkE, zap, zaa, getK])), by simp [hn], ?_⟩; try simp)
   all_goals try simp [h1, h2, zco, chF]
  ·(refine RetX.of_bodyW Tryd.func73 rfl (by simp) fun Γ hn hpan => ?_); simp only [entry, List.zipIdx_cons, List.zipIdx_nil, List.map_cons, List.map_nil, Nat.zero_add, Tryd.ntmps73]
   repeat' (first
  | (refine zah ?_; simp [h1, h2])
  | (refine zak ?_; simp [h1, h2])
  | (refine zai ?_; simp [h1, h2])
  | (refine zag ?_; simp [h1, h2])
  | (refine zar ?_; simp only [zal])
  | (refine zaq ?_; simp only [zal])
  | fail)
   (refine EndW.here ?_; (first | (refine EndOK.fin (.inr rfl) ?_) | (refine EndOK.fin (.inl rfl) ?_)); simp [zay, zae, Tryd.results73]; refine FinOK.here (by simp) ?_; try simp)
   all_goals try simp [h1, h2, zco]
theorem zdI (a b : Int) (hb : b ≠ 0) : (a.tdiv b).natAbs ≤ a.natAbs := by
 rw [Int.natAbs_tdiv]
 exact Nat.div_le_self _ _
theorem zew (a b : Int) : (a.tdiv b * b).natAbs ≤ a.natAbs := by
 rw [Int.natAbs_mul, Int.natAbs_tdiv]
 exact Nat.div_mul_le_self _ _
theorem zgp (a b : Int) (ha : -1000000000000000000 ≤ a ∧ a ≤ 1000000000000000000) (hb : b ≠ 0) (hb2 : -1000000000000000000 ≤ b ∧ b ≤ 1000000000000000000) :
  Fun Tryd.prog 101 [.u (.int .i64 a), .u (.int .i64 b)] (· = .u (.int .i64 (zdd a b))) := by
 have h1 := zdI a b hb
 have h2 := zew a b
 unfold zdd
 generalize hq : a.tdiv b = q at *
 generalize hp : q * b = p at *
 by_cases c1 : p = a
 ·(refine Fun.of_body Tryd.func101 rfl (by simp) fun Γ hn => ?_); simp only [entry, List.zipIdx_cons, List.zipIdx_nil, List.map_cons, List.map_nil, Nat.zero_add, Tryd.ntmps101]
  repeat' (first
  | (refine zah ?_; simp [hb, hq, hp, c1])
  | (refine zak ?_; simp [hb, hq, hp, c1])
  | (refine ⟨by omega, ?_⟩)
  | (refine zai ?_; simp [hb, hq, hp, c1])
  | (refine zag ?_; simp [hb, hq, hp, c1])
  | (refine zar ?_; simp only [zal])
  | (refine zaq ?_; simp only [zal])
  | fail)
  (refine EndOK.val (.inr rfl) ?_; simp [zay, zae, zau, Tryd.results101])
  all_goals try simp [c1]
 ·by_cases c2 : a < 0 <;> by_cases c3 : b < 0
  all_goals
   (refine Fun.of_body Tryd.func101 rfl (by simp) fun Γ hn => ?_); simp only [entry, List.zipIdx_cons, List.zipIdx_nil, List.map_cons, List.map_nil, Nat.zero_add, Tryd.ntmps101]
   repeat' (first
  | (refine zah ?_; simp [hb, hq, hp, c1, c2, c3])
  | (refine zak ?_; simp [hb, hq, hp, c1, c2, c3])
  | (refine ⟨by omega, ?_⟩)
  | (refine zai ?_; simp [hb, hq, hp, c1, c2, c3])
  | (refine zag ?_; simp [hb, hq, hp, c1, c2, c3])
  | (refine zas ?_; simp [hb, hq, hp, c1, c2, c3])
  | (refine zar ?_; simp only [zal])
  | (refine zaq ?_; simp only [zal])
  | fail)
   (refine EndOK.val (.inr rfl) ?_; simp [zay, zae, zau, Tryd.results101])
  all_goals simp [c1, c2, c3]
theorem zgZ {a b L : Int} (hL : 0 ≤ L) (h1 : ¬ L.tdiv (max a (-a)) < b) (h2 : ¬ b < (-L).tdiv (max a (-a))) : -L ≤ a * b ∧ a * b ≤ L := by
 have hm : (max a (-a)).natAbs = a.natAbs := by omega
 have h3 : (L.tdiv (max a (-a))).natAbs * a.natAbs ≤ L.natAbs := by
  rw [Int.natAbs_tdiv, hm]
  exact Nat.div_mul_le_self _ _
 have h4 : ((-L).tdiv (max a (-a))).natAbs * a.natAbs ≤ L.natAbs := by
  rw [Int.natAbs_tdiv, hm, Int.natAbs_neg]
  exact Nat.div_mul_le_self _ _
 have h5 : b.natAbs ≤ max (L.tdiv (max a (-a))).natAbs ((-L).tdiv (max a (-a))).natAbs := by omega
 have h6 : (a * b).natAbs ≤ L.natAbs := by
  rw [Int.natAbs_mul, Nat.mul_comm]
  refine Nat.le_trans (Nat.mul_le_mul_right _ h5) ?_
  rcases Nat.le_total (L.tdiv (max a (-a))).natAbs ((-L).tdiv (max a (-a))).natAbs with h | h
  ·rw [Nat.max_eq_right h]; exact h4
  ·rw [Nat.max_eq_left h]; exact h3
 omega
theorem zeC (a b c : Int) (nx : Nat) (ha : inC a) (hb : inC b) (hc : 1 ≤ c ∧ c ≤ 1000) :
  RetX Tryd.prog 100 [.u (.int .i64 a), .u (.int .i64 b), .u (.int .i64 c)] [] nx (fun r o m => r = zco (zeb a b c) ∧ o = [] ∧ m = nx) := by
 unfold inC at ha hb
 unfold zeb
 have hm : a ≠ 0 → max a (-a) ≠ 0 := by omega
 have hL := zgZ (a := a) (b := b) (L := 1099511627777 * c) (by omega)
 have q1 := zdI (1099511627777 * c) (max a (-a))
 have q2 := zdI (-(1099511627777 * c)) (max a (-a))
 generalize hl : (1099511627777 * c : Int) = L at *
 generalize hM : max a (-a) = M at *
 generalize hq1 : L.tdiv M = Q1 at *
 generalize hq2 : (-L).tdiv M = Q2 at *
 by_cases c0 : a = 0
 ·subst c0
  have hf := zgp 0 c (by omega) (by omega) (by omega)
  have hck := fun nx' => zdP (zdd 0 c) nx'
  rw [if_neg (by simp)]
  simp only [Int.zero_mul]
  cases hk : zcG (zdd 0 c) with
  | ok v =>
   simp only [hk, zco] at hck ⊢
   (refine RetX.of_bodyW Tryd.func100 rfl (by simp) fun Γ hn hpan => ?_); simp only [entry, List.zipIdx_cons, List.zipIdx_nil, List.map_cons, List.map_nil, Nat.zero_add, Tryd.ntmps100]
   repeat' (first
  | (refine zah ?_; simp [hl, hM, hq1, hq2])
  | (refine zak ?_; simp [hl, hM, hq1, hq2])
  | (refine ⟨by omega, ?_⟩)
  | (refine zai ?_; simp [hl, hM, hq1, hq2])
  | (refine zag ?_; simp [hl, hM, hq1, hq2])
  | (refine zar ?_; simp only [zal])
  | (refine zaq ?_; simp only [zal])
  | (refine CallP.fun_ (hf) (by first | rfl | fail) (by first | assumption | (simp; done) | fail) (by first | (simp [hl, hM, hq1, hq2]; done) | (simp [hl, hM, hq1, hq2]; rfl) | fail) (by first | (simp; done) | fail) (fun d hd => ?_); subst hd; (try simp [hl, hM, hq1, hq2]))
  | (refine CallP.okL (hck _) (by first | (simp [hl, hM, hq1, hq2, zaa, getK, zab, zac, zaj, zat, del]; done) | fail) (by rfl) (by first | assumption | (simp; done) | fail) (by rfl) (by simp) ?_; (try simp [hl, hM, hq1, hq2, zbe, del]))
  | fail)
   (refine EndW.here ?_; (first | (refine EndOK.fin (.inr rfl) ?_) | (refine EndOK.fin (.inl rfl) ?_)); simp [zay, zae, Tryd.results100]; refine FinOK.here (by simp) ?_; try simp)
  | error e =>
   simp only [hk, zco] at hck ⊢
   (refine RetX.of_bodyW Tryd.func100 rfl (by simp) fun Γ hn hpan => ?_); simp only [entry, List.zipIdx_cons, List.zipIdx_nil, List.map_cons, List.map_nil, Nat.zero_add, Tryd.ntmps100]
   repeat' (first
  | (refine zah ?_; simp [hl, hM, hq1, hq2])
  | (refine zak ?_; simp [hl, hM, hq1, hq2])
  | (refine ⟨by omega, ?_⟩)
  | (refine zai ?_; simp [hl, hM, hq1, hq2])
  | (refine zag ?_; simp [hl, hM, hq1, hq2])
  | (refine zaq ?_; simp only [zal])
  | (refine CallP.fun_ (hf) (by first | rfl | fail) (by first | assumption | (simp; done) | fail) (by first | (simp [hl, hM, hq1, hq2]; done) | (simp [hl, hM, hq1, hq2]; rfl) | fail) (by first | (simp; done) | fail) (fun d hd => ?_); subst hd; (try simp [hl, hM, hq1, hq2]))
  | (refine CallP.zh5 (hck _) (by first | (simp [hl, hM, hq1, hq2, zaa, getK, zab, zac, zaj, zat, del]; done) | fail) (by rfl) (by first | assumption | (simp; done) | fail) (by rfl) (by simp) ?_; refine ⟨_, Wk.refl _, ?_⟩; (try simp [hl, hM, hq1, hq2, zbe, del]))
  | fail)
   (refine hpan _ _ ⟨{ n := _, env := [], obs := [], next := nx }, (Wk.cut rfl (by simp [hn]) (by simp [wkO, zaa, getK, zab, zac, Ob.under, D.under, zad, zaf]) (by simp [wkU, zap, zaa, getK, D.under]) (by simp [wkE, zap, zaa, getK])), by simp [hn], ?_⟩; try simp)
 have hM0 := hm c0
 have q1 := q1 hM0
 have q2 := q2 hM0
 by_cases c1 : Q1 < b
 ·rw [if_pos ⟨c0, .inl c1⟩]
  (refine RetX.of_bodyW Tryd.func100 rfl (by simp) fun Γ hn hpan => ?_); simp only [entry, List.zipIdx_cons, List.zipIdx_nil, List.map_cons, List.map_nil, Nat.zero_add, Tryd.ntmps100]
  repeat' (first
  | (refine zah ?_; simp [c0, c1, hl, hM, hM0, hq1, hq2])
  | (refine zak ?_; simp [c0, c1, hl, hM, hM0, hq1, hq2])
  | (refine ⟨by omega, ?_⟩)
  | (refine zai ?_; simp [c0, c1, hl, hM, hM0, hq1, hq2])
  | (refine zag ?_; simp [c0, c1, hl, hM, hM0, hq1, hq2])
  | (refine zas ?_; simp [c0, c1, hl, hM, hM0, hq1, hq2])
  | fail)
  (refine hpan _ _ ⟨{ n := _, env := [], obs := [], next := nx }, (Wk.cut rfl (by simp [hn]) (by simp [wkO, zaa, getK, zab, zac, Ob.under, D.under, zad, zaf]) (by simp [wkU, zap, zaa, getK, D.under]) (by simp [wkE, zap, zaa, getK])), by simp [hn], ?_⟩; try simp)
  all_goals (try simp [zco, chF])
 by_cases c2 : b < Q2
 ·rw [if_pos ⟨c0, .inr c2⟩]
  (refine RetX.of_bodyW Tryd.func100 rfl (by simp) fun Γ hn hpan => ?_); simp only [entry, List.zipIdx_cons, List.zipIdx_nil, List.map_cons, List.map_nil, Nat.zero_add, Tryd.ntmps100]
  repeat' (first
  | (refine zah ?_; simp [c0, c1, c2, hl, hM, hM0, hq1, hq2])
  | (refine zak ?_; simp [c0, c1, c2, hl, hM, hM0, hq1, hq2])
  | (refine ⟨by omega, ?_⟩)
  | (refine zai ?_; simp [c0, c1, c2, hl, hM, hM0, hq1, hq2])
  | (refine zag ?_; simp [c0, c1, c2, hl, hM, hM0, hq1, hq2])
  | (refine zas ?_; simp [c0, c1, c2, hl, hM, hM0, hq1, hq2])
  | fail)
  (refine hpan _ _ ⟨{ n := _, env := [], obs := [], next := nx }, (Wk.cut rfl (by simp [hn]) (by simp [wkO, zaa, getK, zab, zac, Ob.under, D.under, zad, zaf]) (by simp [wkU, zap, zaa, getK, D.under]) (by simp [wkE, zap, zaa, getK])), by simp [hn], ?_⟩; try simp)
  all_goals (try simp [zco, chF])
 rw [if_neg (by rintro ⟨_, h | h⟩ <;> contradiction)]
 obtain ⟨hL1, hL2⟩ := hL c1 c2
 have hf := zgp (a * b) c (by omega) (by omega) (by omega)
 have hck := fun nx' => zdP (zdd (a * b) c) nx'
 cases hk : zcG (zdd (a * b) c) with
 | ok v =>
  simp only [hk, zco] at hck ⊢
  (refine RetX.of_bodyW Tryd.func100 rfl (by simp) fun Γ hn hpan => ?_); simp only [entry, List.zipIdx_cons, List.zipIdx_nil, List.map_cons, List.map_nil, Nat.zero_add, Tryd.ntmps100]
  repeat' (first
  | (refine zah ?_; simp [c0, c1, c2, hl, hM, hM0, hq1, hq2])
  | (refine zak ?_; simp [c0, c1, c2, hl, hM, hM0, hq1, hq2])
  | (refine ⟨by omega, ?_⟩)
  | (refine zai ?_; simp [c0, c1, c2, hl, hM, hM0, hq1, hq2])
  | (refine zag ?_; simp [c0, c1, c2, hl, hM, hM0, hq1, hq2])
  | (refine zar ?_; simp only [zal])
  | (refine zaq ?_; simp only [zal])
  | (refine CallP.fun_ (hf) (by first | rfl | fail) (by first | assumption | (simp; done) | fail) (by first | (simp [c0, c1, c2, hl, hM, hM0, hq1, hq2]; done) | (simp [c0, c1, c2, hl, hM, hM0, hq1, hq2]; rfl) | fail) (by first | (simp; done) | fail) (fun d hd => ?_); subst hd; (try simp [c0, c1, c2, hl, hM, hM0, hq1, hq2]))
  | (refine CallP.okL (hck _) (by first | (simp [c0, c1, c2, hl, hM, hM0, hq1, hq2, zaa, getK, zab, zac, zaj, zat, del]; done) | fail) (by rfl) (by first | assumption | (simp; done) | fail) (by rfl) (by simp) ?_; (try simp [c0, c1, c2, hl, hM, hM0, hq1, hq2, zbe, del]))
  | fail)
  (refine EndW.here ?_; (first | (refine EndOK.fin (.inr rfl) ?_) | (refine EndOK.fin (.inl rfl) ?_)); simp [zay, zae, Tryd.results100]; refine FinOK.here (by simp) ?_; try simp)
 | error e =>
  simp only [hk, zco] at hck ⊢
  (refine RetX.of_bodyW Tryd.func100 rfl (by simp) fun Γ hn hpan => ?_); simp only [entry, List.zipIdx_cons, List.zipIdx_nil, List.map_cons, List.map_nil, Nat.zero_add, Tryd.ntmps100]
  repeat' (first
  | (refine zah ?_; simp [c0, c1, c2, hl, hM, hM0, hq1, hq2])
  | (refine zak ?_; simp [c0, c1, c2, hl, hM, hM0, hq1, hq2])
  | (refine ⟨by omega, ?_⟩)
  | (refine zai ?_; simp [c0, c1, c2, hl, hM, hM0, hq1, hq2])
  | (refine zag ?_; simp [c0, c1, c2, hl, hM, hM0, hq1, hq2])
  | (refine zaq ?_; simp only [zal])
  | (refine CallP.fun_ (hf) (by first | rfl | fail) (by first | assumption | (simp; done) | fail) (by first | (simp [c0, c1, c2, hl, hM, hM0, hq1, hq2]; done) | (simp [c0, c1, c2, hl, hM, hM0, hq1, hq2]; rfl) | fail) (by first | (simp; done) | fail) (fun d hd => ?_); subst hd; (try simp [c0, c1, c2, hl, hM, hM0, hq1, hq2]))
  | (refine CallP.zh5 (hck _) (by first | (simp [c0, c1, c2, hl, hM, hM0, hq1, hq2, zaa, getK, zab, zac, zaj, zat, del]; done) | fail) (by rfl) (by first | assumption | (simp; done) | fail) (by rfl) (by simp) ?_; refine ⟨_, Wk.refl _, ?_⟩; (try simp [c0, c1, c2, hl, hM, hM0, hq1, hq2, zbe, del]))
  | fail)
  (refine hpan _ _ ⟨{ n := _, env := [], obs := [], next := nx }, (Wk.cut rfl (by simp [hn]) (by simp [wkO, zaa, getK, zab, zac, Ob.under, D.under, zad, zaf]) (by simp [wkU, zap, zaa, getK, D.under]) (by simp [wkE, zap, zaa, getK])), by simp [hn], ?_⟩; try simp)
end Go.Proofs.YtfcopibncpkdoaaDoor
namespace Go.Proofs.YtfcopibncpkdoaaDoor
open Go Go.VL
abbrev zgD (r : Except Int Int) : D := .tup [.u (.int .i64 (zcT r).1), .u (.int .i64 (zcT r).2.1)]
attribute [local simp] zcp zbN evPure opd uOf zaB St.put St.at getK binD binI binS binB nilD aggD zeJ ze8 lookD lookR zbT Go.VL.nextD zbY zfe zfd zev zbM mkV zaW zaP zaO zaN zcm zaM za1 zbc mapEff zcS zek Key.kk shiftI arith unD convD zcP loadD cellsAt fieldAddrD fieldD indexAddrD indexD sliceD cutD lenD minmaxD nilCheckD buildD fillD zbt zcq zdR setAll zcg zdy zbQ zeN zbO St.add zaC zbj rowsOf zcM zce zaj zac zaa za5 zcl zaH entry za4 za6 valD zbS zb7 zez zct zcu zbx zbs zav zaT za7 delAll effD St.effS zb9 zaQ zaI zca zaR zaK zby zaJ zaD zbz zb8 zbb zbw zaZ zbu zbv zat mkD zbk zbd zbB zav zbP D.ids Op.operands Call.operands za8 makeIfD typeAssertD ze6 zcH zcI zeR zbV IntKind.bits zch List.take_of_length_le List.range_succ
attribute [local irreducible] V G H HD HD2 zal Eff CallP CallV EndOK Fun Ret FinOK LoopI LoopW EndW
theorem zeo (n : Int) : Fun Tryd.prog 52 [.u (.int .i64 n)] (· = zgD (zcG n)) := by
 unfold zcG
 by_cases h1 : 1099511627776 < n
 ·(refine Fun.of_body Tryd.func52 rfl (by simp) fun Γ hn => ?_); simp only [entry, List.zipIdx_cons, List.zipIdx_nil, List.map_cons, List.map_nil, Nat.zero_add, Tryd.ntmps52]
  repeat' (first
  | (refine zah ?_; simp [h1])
  | (refine zak ?_; simp [h1])
  | (refine zai ?_; simp [h1])
  | (refine zag ?_; simp [h1])
  | (refine zar ?_; simp only [zal])
  | fail)
  (refine EndOK.val (.inr rfl) ?_; simp [zay, zae, zau, Tryd.results52])
  all_goals simp [h1, zcT]
 ·by_cases h2 : n < -1099511627776
  ·(refine Fun.of_body Tryd.func52 rfl (by simp) fun Γ hn => ?_); simp only [entry, List.zipIdx_cons, List.zipIdx_nil, List.map_cons, List.map_nil, Nat.zero_add, Tryd.ntmps52]
   repeat' (first
  | (refine zah ?_; simp [h1, h2])
  | (refine zak ?_; simp [h1, h2])
  | (refine zai ?_; simp [h1, h2])
  | (refine zag ?_; simp [h1, h2])
  | (refine zar ?_; simp only [zal])
  | fail)
   (refine EndOK.val (.inr rfl) ?_; simp [zay, zae, zau, Tryd.results52])
   all_goals simp [h1, h2, zcT]
  ·(refine Fun.of_body Tryd.func52 rfl (by simp) fun Γ hn => ?_); simp only [entry, List.zipIdx_cons, List.zipIdx_nil, List.map_cons, List.map_nil, Nat.zero_add, Tryd.ntmps52]
   repeat' (first
  | (refine zah ?_; simp [h1, h2])
  | (refine zak ?_; simp [h1, h2])
  | (refine zai ?_; simp [h1, h2])
  | (refine zag ?_; simp [h1, h2])
  | (refine zar ?_; simp only [zal])
  | (refine zaq ?_; simp only [zal])
  | fail)
   (refine EndOK.val (.inr rfl) ?_; simp [zay, zae, zau, Tryd.results52])
   all_goals simp [h1, h2, zcT]
theorem zd4 (b : Bool) : Fun Tryd.prog 55 [.u (.bool b)] (· = .u (.int .i64 (zbI b))) := by
 unfold zbI
 cases b
 all_goals
  (refine Fun.of_body Tryd.func55 rfl (by simp) fun Γ hn => ?_); simp only [entry, List.zipIdx_cons, List.zipIdx_nil, List.map_cons, List.map_nil, Nat.zero_add, Tryd.ntmps55]
  repeat' (first
  | (refine zah ?_; simp)
  | (refine zak ?_; simp)
  | (refine zai ?_; simp)
  | (refine zag ?_; simp)
  | (refine zar ?_; simp only [zal])
  | (refine zaq ?_; simp only [zal])
  | fail)
  (refine EndOK.val (.inr rfl) ?_; simp [zay, zae, zau, Tryd.results55])
theorem zmM (a : Int) (ha : -1099511627776000 ≤ a ∧ a ≤ 1099511627776000) : Fun Tryd.prog 84 [.u (.int .i64 a)] (· = .u (.int .i64 (max a (-a)))) := by
 (refine Fun.of_body Tryd.func84 rfl (by simp) fun Γ hn => ?_); simp only [entry, List.zipIdx_cons, List.zipIdx_nil, List.map_cons, List.map_nil, Nat.zero_add, Tryd.ntmps84]
 repeat' (first
  | (refine zah ?_; simp)
  | (refine zak ?_; simp)
  | (refine ⟨by omega, ?_⟩)
  | (refine zai ?_; simp)
  | (refine zag ?_; simp)
  | (refine zar ?_; simp only [zal])
  | (refine zaq ?_; simp only [zal])
  | (refine ⟨fun hc => ?_, fun hc => ?_⟩ <;> (try (exfalso; omega)))
  | fail)
 all_goals
  (refine EndOK.val (.inr rfl) ?_; simp [zay, zae, zau, Tryd.results84])
 all_goals omega
theorem zhW (a b : Int) (ha : -1000000000000000000 ≤ a ∧ a ≤ 1000000000000000000) (hb : b ≠ 0) (hb2 : -1000000000000000000 ≤ b ∧ b ≤ 1000000000000000000) :
  Fun Tryd.prog 58 [.u (.int .i64 a), .u (.int .i64 b)] (· = .u (.int .i64 (zdd a b))) := by
 have h1 := zdI a b hb
 have h2 := zew a b
 have hr : a.tmod b = a - a.tdiv b * b := by rw [Int.tmod_def, Int.mul_comm]
 unfold zdd
 generalize hq : a.tdiv b = q at *
 generalize hp : q * b = p at *
 by_cases c1 : p = a
 ·have hr0 : a.tmod b = 0 := by omega
  (refine Fun.of_body Tryd.func58 rfl (by simp) fun Γ hn => ?_); simp only [entry, List.zipIdx_cons, List.zipIdx_nil, List.map_cons, List.map_nil, Nat.zero_add, Tryd.ntmps58]
  repeat' (first
  | (refine zah ?_; simp [hb, hq, hr0])
  | (refine zak ?_; simp [hb, hq, hr0])
  | (refine ⟨by omega, ?_⟩)
  | (refine zai ?_; simp [hb, hq, hr0])
  | (refine zag ?_; simp [hb, hq, hr0])
  | (refine zar ?_; simp only [zal])
  | (refine zaq ?_; simp only [zal])
  | fail)
  (refine EndOK.val (.inr rfl) ?_; simp [zay, zae, zau, Tryd.results58])
  all_goals try simp [c1]
 ·have hr0 : ¬ a.tmod b = 0 := by omega
  generalize hrr : a.tmod b = r at *
  by_cases c2 : a < 0 <;> by_cases c3 : b < 0
  all_goals
   (refine Fun.of_body Tryd.func58 rfl (by simp) fun Γ hn => ?_); simp only [entry, List.zipIdx_cons, List.zipIdx_nil, List.map_cons, List.map_nil, Nat.zero_add, Tryd.ntmps58]
   repeat' (first
  | (refine zah ?_; simp [hb, hq, hrr, hr0, c2, c3])
  | (refine zak ?_; simp [hb, hq, hrr, hr0, c2, c3])
  | (refine ⟨by omega, ?_⟩)
  | (refine zai ?_; simp [hb, hq, hrr, hr0, c2, c3])
  | (refine zag ?_; simp [hb, hq, hrr, hr0, c2, c3])
  | (refine zas ?_; simp [hb, hq, hrr, hr0, c2, c3])
  | (refine zar ?_; simp only [zal])
  | (refine zaq ?_; simp only [zal])
  | fail)
   (refine EndOK.val (.inr rfl) ?_; simp [zay, zae, zau, Tryd.results58])
  all_goals try simp [c1, c2, c3]
theorem zlC (a b c : Int) (ha : inC a) (hb : inC b) (hc : 1 ≤ c ∧ c ≤ 1000) : Fun Tryd.prog 57 [.u (.int .i64 a), .u (.int .i64 b), .u (.int .i64 c)] (· = zgD (zeb a b c)) := by
 unfold inC at ha hb
 unfold zeb
 have hL := zgZ (a := a) (b := b) (L := 1099511627777 * c) (by omega)
 have q1 := zdI (1099511627777 * c) (max a (-a))
 have hn : (-(1099511627777 * c)).tdiv (max a (-a)) = -((1099511627777 * c).tdiv (max a (-a))) := Int.neg_tdiv _ _
 rw [hn] at hL ⊢
 have g1 := zmM a (by omega)
 have g2 := zmM b (by omega)
 have hcm : c * 1099511627777 = 1099511627777 * c := Int.mul_comm _ _
 by_cases c0 : a = 0
 ·subst c0
  have hf := zhW 0 c (by omega) (by omega) (by omega)
  have hk := zeo (zdd 0 c)
  rw [if_neg (by simp)]
  simp only [Int.zero_mul]
  (refine Fun.of_body Tryd.func57 rfl (by simp) fun Γ hn => ?_); simp only [entry, List.zipIdx_cons, List.zipIdx_nil, List.map_cons, List.map_nil, Nat.zero_add, Tryd.ntmps57]
  repeat' (first
  | (refine zah ?_; simp)
  | (refine zak ?_; simp)
  | (refine zai ?_; simp)
  | (refine zag ?_; simp)
  | (refine zar ?_; simp only [zal])
  | (refine zaq ?_; simp only [zal])
  | (refine CallP.fun_ (hf) (by first | rfl | fail) (by first | assumption | (simp; done) | fail) (by first | (simp; done) | (simp; rfl) | fail) (by first | (simp; done) | fail) (fun d hd => ?_); subst hd; (try simp))
  | (refine CallP.fun_ (hk) (by first | rfl | fail) (by first | assumption | (simp; done) | fail) (by first | (simp; done) | (simp; rfl) | fail) (by first | (simp; done) | fail) (fun d hd => ?_); subst hd; (try simp))
  | fail)
  (refine EndOK.val (.inr rfl) ?_; simp [zay, zae, zau, Tryd.results57])
 have hM0 : max a (-a) ≠ 0 := by omega
 have q1 := q1 hM0
 have hpos : 0 ≤ (1099511627777 * c).tdiv (max a (-a)) := Int.tdiv_nonneg (by omega) (by omega)
 generalize hl : (1099511627777 * c : Int) = L at *
 generalize hM : max a (-a) = M at *
 generalize hq1 : L.tdiv M = Q1 at *
 by_cases c1 : Q1 < max b (-b)
 ·rw [if_pos ⟨c0, by omega⟩]
  generalize max b (-b) = B at *
  (refine Fun.of_body Tryd.func57 rfl (by simp) fun Γ hn => ?_); simp only [entry, List.zipIdx_cons, List.zipIdx_nil, List.map_cons, List.map_nil, Nat.zero_add, Tryd.ntmps57]
  repeat' (first
  | (refine zah ?_; simp [c0, hcm, hM0, hq1, c1])
  | (refine zak ?_; simp [c0, hcm, hM0, hq1, c1])
  | (refine ⟨by omega, ?_⟩)
  | (refine zai ?_; simp [c0, hcm, hM0, hq1, c1])
  | (refine zag ?_; simp [c0, hcm, hM0, hq1, c1])
  | (refine zar ?_; simp only [zal])
  | (refine CallP.fun_ (g1) (by first | rfl | fail) (by first | assumption | (simp; done) | fail) (by first | (simp [c0, hcm, hM0, hq1, c1]; done) | (simp [c0, hcm, hM0, hq1, c1]; rfl) | fail) (by first | (simp; done) | fail) (fun d hd => ?_); subst hd; (try simp [c0, hcm, hM0, hq1, c1]))
  | (refine CallP.fun_ (g2) (by first | rfl | fail) (by first | assumption | (simp; done) | fail) (by first | (simp [c0, hcm, hM0, hq1, c1]; done) | (simp [c0, hcm, hM0, hq1, c1]; rfl) | fail) (by first | (simp; done) | fail) (fun d hd => ?_); subst hd; (try simp [c0, hcm, hM0, hq1, c1]))
  | fail)
  (refine EndOK.val (.inr rfl) ?_; simp [zay, zae, zau, Tryd.results57])
  all_goals try exact ⟨rfl, rfl⟩
 ·rw [if_neg (by omega)]
  have hL2 := hL (by omega) (by omega)
  have hf := zhW (a * b) c (by omega) (by omega) (by omega)
  have hk := zeo (zdd (a * b) c)
  generalize max b (-b) = B at *
  generalize hab : a * b = ab at *
  (refine Fun.of_body Tryd.func57 rfl (by simp) fun Γ hn => ?_); simp only [entry, List.zipIdx_cons, List.zipIdx_nil, List.map_cons, List.map_nil, Nat.zero_add, Tryd.ntmps57]
  repeat' (first
  | (refine zah ?_; simp [c0, hcm, hM0, hq1, c1, hab])
  | (refine zak ?_; simp [c0, hcm, hM0, hq1, c1, hab])
  | (refine ⟨by omega, ?_⟩)
  | (refine zai ?_; simp [c0, hcm, hM0, hq1, c1, hab])
  | (refine zag ?_; simp [c0, hcm, hM0, hq1, c1, hab])
  | (refine zar ?_; simp only [zal])
  | (refine zaq ?_; simp only [zal])
  | (refine CallP.fun_ (g1) (by first | rfl | fail) (by first | assumption | (simp; done) | fail) (by first | (simp [c0, hcm, hM0, hq1, c1, hab]; done) | (simp [c0, hcm, hM0, hq1, c1, hab]; rfl) | fail) (by first | (simp; done) | fail) (fun d hd => ?_); subst hd; (try simp [c0, hcm, hM0, hq1, c1, hab]))
  | (refine CallP.fun_ (g2) (by first | rfl | fail) (by first | assumption | (simp; done) | fail) (by first | (simp [c0, hcm, hM0, hq1, c1, hab]; done) | (simp [c0, hcm, hM0, hq1, c1, hab]; rfl) | fail) (by first | (simp; done) | fail) (fun d hd => ?_); subst hd; (try simp [c0, hcm, hM0, hq1, c1, hab]))
  | (refine CallP.fun_ (hf) (by first | rfl | fail) (by first | assumption | (simp; done) | fail) (by first | (simp [c0, hcm, hM0, hq1, c1, hab]; done) | (simp [c0, hcm, hM0, hq1, c1, hab]; rfl) | fail) (by first | (simp; done) | fail) (fun d hd => ?_); subst hd; (try simp [c0, hcm, hM0, hq1, c1, hab]))
  | (refine CallP.fun_ (hk) (by first | rfl | fail) (by first | assumption | (simp; done) | fail) (by first | (simp [c0, hcm, hM0, hq1, c1, hab]; done) | (simp [c0, hcm, hM0, hq1, c1, hab]; rfl) | fail) (by first | (simp; done) | fail) (fun d hd => ?_); subst hd; (try simp [c0, hcm, hM0, hq1, c1, hab]))
  | fail)
  (refine EndOK.val (.inr rfl) ?_; simp [zay, zae, zau, Tryd.results57])
end Go.Proofs.YtfcopibncpkdoaaDoor
namespace Go.Proofs.YtfcopibncpkdoaaDoor
open Go Go.VL
attribute [local simp] HS zcp zbN evPure opd uOf zaB St.put St.at getK binD binI binS binB nilD aggD zeJ ze8 lookD lookR zbT Go.VL.nextD zbY zfe zfd zev zbM mkV zaW zaP zaO zaN zcm zaM za1 zbc mapEff zcS zek Key.kk shiftI arith unD convD zcP loadD cellsAt fieldAddrD fieldD indexAddrD indexD sliceD cutD lenD minmaxD nilCheckD buildD fillD zbt zcq zdR setAll zcg zdy zbQ zeN zbO St.add zaC zbj rowsOf zcM zce zaj zac zaa za5 zcl zaH entry za4 za6 valD zbS zb7 zez zct zcu zbx zbs zav zaT za7 delAll effD St.effS zb9 zaQ zaI zca zaR zaK zby zaJ zaD zbz zb8 zbb zbw zaZ zbu zbv zat mkD zbk zbd zbB zav zbP D.ids Op.operands Call.operands za8 makeIfD typeAssertD ze6 zcH zcI zeR zbV IntKind.bits zch List.take_of_length_le List.range_succ
attribute [local irreducible] V G H HD HD2 HD4 zhn RetX zal Eff CallP CallV EndOK Fun Ret FinOK LoopI LoopW EndW
abbrev mOb (lets : List Let) (r : Nat) (g : GM) : Ob := .box [.u (zaw lets), .vec r lets.length, .u (.map .s false (zjF g))]
theorem zlk (lets : List Let) (r : Nat) (g : GM) (m nx : Nat) (hm : m < nx) (hr : r < nx) (e x y : Exp) (a b : Int) (n : Nat) (hnl : n ≤ lets.length) (hl : lets.length ≤ 20) (he : e.args = [x, y]) (ha : inC a) (hb : inC b)
  (hop : 2 ≤ e.op ∧ e.op ≤ 9) :
  RetX Tryd.prog 76 [.ptr m 0, za3 e, .u (.int .i64 a), .u (.int .i64 b), .u (.int .i64 n)] [(m, mOb lets r g)] nx
   (fun o obs n' => o = zco (zd5 e.op (zbC (lets.take n) x || zbC (lets.take n) y) a b) ∧ obs = [(m, mOb lets r g)] ∧ n' = nx) := by
 have hne := nef hm
 have hab := ha
 have hbb := hb
 unfold inC at ha hb
 have hf := zc7 true
 unfold mOb zaw za3
 rw [he]
 simp only [List.map_cons, List.map_nil]
 by_cases c : e.op = 2
 ·obtain ⟨Z, hZ⟩ : ∃ Z, a + b = Z := ⟨_, rfl⟩
  have hck := fun nx' => zdP Z nx'
  rw [c, show ∀ sh, zd5 2 sh a b = zcG Z from fun sh => by rw [← hZ]; rfl]
  cases hk : zcG Z with
  | ok v =>
   simp only [hk, zco] at hck ⊢
   (refine RetX.of_bodyW Tryd.func76 rfl (by simp) fun Γ hn hpan => ?_); simp only [entry, List.zipIdx_cons, List.zipIdx_nil, List.map_cons, List.map_nil, Nat.zero_add, Tryd.ntmps76]
   repeat' (first
  | (refine zah ?_; simp [c, hne, hZ])
  | (refine zak ?_; simp [c, hne, hZ])
  | (refine ⟨by omega, ?_⟩)
  | (refine zai ?_; simp [c, hne, hZ])
  | (refine zag ?_; simp [c, hne, hZ])
  | (refine zam ?_; simp [c, hne, hZ])
  | (refine zar ?_; simp only [zal])
  | (refine CallP.okL (hck _) (by first | (simp [c, hne, hZ, zaa, getK, zab, zac, zaj, zat, del]; done) | fail) (by rfl) (by first | assumption | (simp; done) | fail) (by rfl) (by simp) ?_; (try simp [c, hne, hZ, zbe, del]))
  | fail)
   (refine EndW.here ?_; (first | (refine EndOK.fin (.inr rfl) ?_) | (refine EndOK.fin (.inl rfl) ?_)); simp [zay, zae, Tryd.results76, hne, hm, hr, zaw]; refine FinOK.cut [(m, mOb lets r g)] (nx) (by simp [zaa, getK, zab, zac, Ob.under, D.under, zad, zaf, hne, hm, hr, zaw] <;> omega) (by simp [D.under]) (by simp [hn]) ?_; try simp)
   all_goals rfl
  | error err =>
   simp only [hk, zco] at hck ⊢
   (refine RetX.of_bodyW Tryd.func76 rfl (by simp) fun Γ hn hpan => ?_); simp only [entry, List.zipIdx_cons, List.zipIdx_nil, List.map_cons, List.map_nil, Nat.zero_add, Tryd.ntmps76]
   repeat' (first
  | (refine zah ?_; simp [c, hne, hZ])
  | (refine zak ?_; simp [c, hne, hZ])
  | (refine ⟨by omega, ?_⟩)
  | (refine zai ?_; simp [c, hne, hZ])
  | (refine zag ?_; simp [c, hne, hZ])
  | (refine zam ?_; simp [c, hne, hZ])
  | (refine CallP.zh5 (hck _) (by first | (simp [c, hne, hZ, zaa, getK, zab, zac, zaj, zat, del]; done) | fail) (by rfl) (by first | assumption | (simp; done) | fail) (by rfl) (by simp) ?_; refine ⟨_, Wk.refl _, ?_⟩; (try simp [c, hne, hZ, zbe, del]))
  | fail)
   (refine hpan _ _ ⟨{ n := _, env := [], obs := [(m, mOb lets r g)], next := nx }, (Wk.cut rfl (by simp [hn]) (by simp [wkO, zaa, getK, zab, zac, Ob.under, D.under, zad, zaf, hm, hr, hne, zaw, zab, zac, zaa, getK]) (by simp [wkU, zap, zaa, getK, D.under, hm, hr, hne, zaw, zab, zac, zaa, getK]) (by simp [wkE, zap, zaa, getK, hm, hr, hne, zaw, zab, zac, zaa, getK])), by simp [hn], ?_⟩; try simp)
   all_goals rfl
 by_cases c : e.op = 3
 ·obtain ⟨Z, hZ⟩ : ∃ Z, a - b = Z := ⟨_, rfl⟩
  have hck := fun nx' => zdP Z nx'
  rw [c, show ∀ sh, zd5 3 sh a b = zcG Z from fun sh => by rw [← hZ]; rfl]
  cases hk : zcG Z with
  | ok v =>
   simp only [hk, zco] at hck ⊢
   (refine RetX.of_bodyW Tryd.func76 rfl (by simp) fun Γ hn hpan => ?_); simp only [entry, List.zipIdx_cons, List.zipIdx_nil, List.map_cons, List.map_nil, Nat.zero_add, Tryd.ntmps76]
   repeat' (first
  | (refine zah ?_; simp [c, hne, hZ])
  | (refine zak ?_; simp [c, hne, hZ])
  | (refine ⟨by omega, ?_⟩)
  | (refine zai ?_; simp [c, hne, hZ])
  | (refine zag ?_; simp [c, hne, hZ])
  | (refine zam ?_; simp [c, hne, hZ])
  | (refine zar ?_; simp only [zal])
  | (refine CallP.okL (hck _) (by first | (simp [c, hne, hZ, zaa, getK, zab, zac, zaj, zat, del]; done) | fail) (by rfl) (by first | assumption | (simp; done) | fail) (by rfl) (by simp) ?_; (try simp [c, hne, hZ, zbe, del]))
  | fail)
   (refine EndW.here ?_; (first | (refine EndOK.fin (.inr rfl) ?_) | (refine EndOK.fin (.inl rfl) ?_)); simp [zay, zae, Tryd.results76, hne, hm, hr, zaw]; refine FinOK.cut [(m, mOb lets r g)] (nx) (by simp [zaa, getK, zab, zac, Ob.under, D.under, zad, zaf, hne, hm, hr, zaw] <;> omega) (by simp [D.under]) (by simp [hn]) ?_; try simp)
   all_goals rfl
  | error err =>
   simp only [hk, zco] at hck ⊢
   (refine RetX.of_bodyW Tryd.func76 rfl (by simp) fun Γ hn hpan => ?_); simp only [entry, List.zipIdx_cons, List.zipIdx_nil, List.map_cons, List.map_nil, Nat.zero_add, Tryd.ntmps76]
   repeat' (first
  | (refine zah ?_; simp [c, hne, hZ])
  | (refine zak ?_; simp [c, hne, hZ])
  | (refine ⟨by omega, ?_⟩)
  | (refine zai ?_; simp [c, hne, hZ])
  | (refine zag ?_; simp [c, hne, hZ])
  | (refine zam ?_; simp [c, hne, hZ])
  | (refine CallP.zh5 (hck _) (by first | (simp [c, hne, hZ, zaa, getK, zab, zac, zaj, zat, del]; done) | fail) (by rfl) (by first | assumption | (simp; done) | fail) (by rfl) (by simp) ?_; refine ⟨_, Wk.refl _, ?_⟩; (try simp [c, hne, hZ, zbe, del]))
  | fail)
   (refine hpan _ _ ⟨{ n := _, env := [], obs := [(m, mOb lets r g)], next := nx }, (Wk.cut rfl (by simp [hn]) (by simp [wkO, zaa, getK, zab, zac, Ob.under, D.under, zad, zaf, hm, hr, hne, zaw, zab, zac, zaa, getK]) (by simp [wkU, zap, zaa, getK, D.under, hm, hr, hne, zaw, zab, zac, zaa, getK]) (by simp [wkE, zap, zaa, getK, hm, hr, hne, zaw, zab, zac, zaa, getK])), by simp [hn], ?_⟩; try simp)
   all_goals rfl
 by_cases c : e.op = 4
 ·have hs1 := zgR (lets.take n) x
  have hs2 := zgR (lets.take n) y
  rw [c]
  simp only [zaw, List.map_take, za3] at hs1 hs2
  rw [Exp.row_eq x, Exp.row_eq y]
  cases hx : zbC (lets.take n) x
  ·rw [hx] at hs1
   cases hy : zbC (lets.take n) y
   ·rw [hy] at hs2
    have hck := fun nx' => zeC a b 1 nx' hab hbb (by omega)
    rw [show zd5 4 (false || false) a b = zeb a b 1 from rfl]
    cases hk : zeb a b 1 with
    | ok v =>
     simp only [hk, zco] at hck ⊢
     (refine RetX.of_bodyW Tryd.func76 rfl (by simp) fun Γ hn hpan => ?_); simp only [entry, List.zipIdx_cons, List.zipIdx_nil, List.map_cons, List.map_nil, Nat.zero_add, Tryd.ntmps76]
     repeat' (first
  | (refine zah ?_; simp [c, hne, del])
  | (refine zbo rfl ?_; simp [c, hne, del])
  | (refine zeu rfl ?_; simp [c, hne, del])
  | (refine zak ?_; simp [c, hne, del])
  | (refine ⟨by omega, ?_⟩)
  | (refine zai ?_; simp [c, hne, del])
  | (refine zag ?_; simp [c, hne, del])
  | (refine zb1 (hC _ (zbg [m] nx (by simp <;> omega) (by simp <;> omega) (by apply Exists.intro; apply And.intro; (focus (repeat' (first | exact KF.nil | exact KL.nil | apply KF.cons | apply KL.cons 0 rfl | apply KL.cons 1 rfl | apply KL.cons 2 rfl | apply KL.cons 3 rfl | apply KL.cons 4 rfl | apply KL.cons 5 rfl | apply KL.cons 6 rfl | apply KL.cons 7 rfl | apply KL.cons 8 rfl | apply KL.cons 9 rfl))); kernel_rfl))) (hk _ ?_); clear hC hk C k; simp only [zal])
  | (refine zbm rfl (by kernel_rfl) (by first | (simp [hn]; done) | (simp [hn]; omega) | fail) fun C k hC hk => ?_; simp [c, hne, del])
  | (refine zdu rfl (by simp [c, hne, del]) (fun hc => ?_) (fun hc => ?_) <;> (try simp [c, hne, del] at hc) <;> (try (exfalso; omega)) <;> (try simp [c, hne, del]))
  | (refine zam ?_; simp [c, hne, del])
  | (refine zar ?_; simp only [zal])
  | (refine zaq ?_; simp only [zal])
  | (refine CallV.fun_ (hs1) (by first | rfl | fail) (by first | assumption | (simp; done) | fail) (by first | (simp [c, hne, del]; done) | (simp [c, hne, del]; rfl) | fail) (by first | (simp; done) | fail) ?_ <;> (try simp [c, hne, del]))
  | (refine CallV.fun_ (hs2) (by first | rfl | fail) (by first | assumption | (simp; done) | fail) (by first | (simp [c, hne, del]; done) | (simp [c, hne, del]; rfl) | fail) (by first | (simp; done) | fail) ?_ <;> (try simp [c, hne, del]))
  | (refine CallP.okL (hck _) (by first | (simp [c, hne, del, zaa, getK, zab, zac, zaj, zat, del]; done) | fail) (by rfl) (by first | assumption | (simp; done) | fail) (by rfl) (by simp) ?_; (try simp [c, hne, del, zbe, del]))
  | fail)
     (refine EndW.here ?_; (first | (refine EndOK.fin (.inr rfl) ?_) | (refine EndOK.fin (.inl rfl) ?_)); simp [zay, zae, Tryd.results76, hne, hm, hr, zaw]; refine FinOK.cut [(m, mOb lets r g)] (nx) (by simp [zaa, getK, zab, zac, Ob.under, D.under, zad, zaf, hne, hm, hr, zaw] <;> omega) (by simp [D.under]) (by simp [hn]) ?_; try simp)
     all_goals rfl
    | error err =>
     simp only [hk, zco] at hck ⊢
     (refine RetX.of_bodyW Tryd.func76 rfl (by simp) fun Γ hn hpan => ?_); simp only [entry, List.zipIdx_cons, List.zipIdx_nil, List.map_cons, List.map_nil, Nat.zero_add, Tryd.ntmps76]
     repeat' (first
  | (refine zah ?_; simp [c, hne, del])
  | (refine zbo rfl ?_; simp [c, hne, del])
  | (refine zeu rfl ?_; simp [c, hne, del])
  | (refine zak ?_; simp [c, hne, del])
  | (refine ⟨by omega, ?_⟩)
  | (refine zai ?_; simp [c, hne, del])
  | (refine zag ?_; simp [c, hne, del])
  | (refine zb1 (hC _ (zbg [m] nx (by simp <;> omega) (by simp <;> omega) (by apply Exists.intro; apply And.intro; (focus (repeat' (first | exact KF.nil | exact KL.nil | apply KF.cons | apply KL.cons 0 rfl | apply KL.cons 1 rfl | apply KL.cons 2 rfl | apply KL.cons 3 rfl | apply KL.cons 4 rfl | apply KL.cons 5 rfl | apply KL.cons 6 rfl | apply KL.cons 7 rfl | apply KL.cons 8 rfl | apply KL.cons 9 rfl))); kernel_rfl))) (hk _ ?_); clear hC hk C k; simp only [zal])
  | (refine zbm rfl (by kernel_rfl) (by first | (simp [hn]; done) | (simp [hn]; omega) | fail) fun C k hC hk => ?_; simp [c, hne, del])
  | (refine zdu rfl (by simp [c, hne, del]) (fun hc => ?_) (fun hc => ?_) <;> (try simp [c, hne, del] at hc) <;> (try (exfalso; omega)) <;> (try simp [c, hne, del]))
  | (refine zam ?_; simp [c, hne, del])
  | (refine zaq ?_; simp only [zal])
  | (refine CallV.fun_ (hs1) (by first | rfl | fail) (by first | assumption | (simp; done) | fail) (by first | (simp [c, hne, del]; done) | (simp [c, hne, del]; rfl) | fail) (by first | (simp; done) | fail) ?_ <;> (try simp [c, hne, del]))
  | (refine CallV.fun_ (hs2) (by first | rfl | fail) (by first | assumption | (simp; done) | fail) (by first | (simp [c, hne, del]; done) | (simp [c, hne, del]; rfl) | fail) (by first | (simp; done) | fail) ?_ <;> (try simp [c, hne, del]))
  | (refine CallP.zh5 (hck _) (by first | (simp [c, hne, del, zaa, getK, zab, zac, zaj, zat, del]; done) | fail) (by rfl) (by first | assumption | (simp; done) | fail) (by rfl) (by simp) ?_; refine ⟨_, Wk.refl _, ?_⟩; (try simp [c, hne, del, zbe, del]))
  | fail)
     (refine hpan _ _ ⟨{ n := _, env := [], obs := [(m, mOb lets r g)], next := nx }, (Wk.cut rfl (by simp [hn]) (by simp [wkO, zaa, getK, zab, zac, Ob.under, D.under, zad, zaf, hm, hr, hne, zaw, zab, zac, zaa, getK]) (by simp [wkU, zap, zaa, getK, D.under, hm, hr, hne, zaw, zab, zac, zaa, getK]) (by simp [wkE, zap, zaa, getK, hm, hr, hne, zaw, zab, zac, zaa, getK])), by simp [hn], ?_⟩; try simp)
     all_goals rfl
   ·rw [hy] at hs2
    have hck := fun nx' => zeC a b 1000 nx' hab hbb (by omega)
    rw [show zd5 4 (false || true) a b = zeb a b 1000 from rfl]
    cases hk : zeb a b 1000 with
    | ok v =>
     simp only [hk, zco] at hck ⊢
     (refine RetX.of_bodyW Tryd.func76 rfl (by simp) fun Γ hn hpan => ?_); simp only [entry, List.zipIdx_cons, List.zipIdx_nil, List.map_cons, List.map_nil, Nat.zero_add, Tryd.ntmps76]
     repeat' (first
  | (refine zah ?_; simp [c, hne, del])
  | (refine zbo rfl ?_; simp [c, hne, del])
  | (refine zeu rfl ?_; simp [c, hne, del])
  | (refine zak ?_; simp [c, hne, del])
  | (refine ⟨by omega, ?_⟩)
  | (refine zai ?_; simp [c, hne, del])
  | (refine zag ?_; simp [c, hne, del])
  | (refine zb1 (hC _ (zbg [m] nx (by simp <;> omega) (by simp <;> omega) (by apply Exists.intro; apply And.intro; (focus (repeat' (first | exact KF.nil | exact KL.nil | apply KF.cons | apply KL.cons 0 rfl | apply KL.cons 1 rfl | apply KL.cons 2 rfl | apply KL.cons 3 rfl | apply KL.cons 4 rfl | apply KL.cons 5 rfl | apply KL.cons 6 rfl | apply KL.cons 7 rfl | apply KL.cons 8 rfl | apply KL.cons 9 rfl))); kernel_rfl))) (hk _ ?_); clear hC hk C k; simp only [zal])
  | (refine zbm rfl (by kernel_rfl) (by first | (simp [hn]; done) | (simp [hn]; omega) | fail) fun C k hC hk => ?_; simp [c, hne, del])
  | (refine zdu rfl (by simp [c, hne, del]) (fun hc => ?_) (fun hc => ?_) <;> (try simp [c, hne, del] at hc) <;> (try (exfalso; omega)) <;> (try simp [c, hne, del]))
  | (refine zam ?_; simp [c, hne, del])
  | (refine zar ?_; simp only [zal])
  | (refine CallV.fun_ (hs1) (by first | rfl | fail) (by first | assumption | (simp; done) | fail) (by first | (simp [c, hne, del]; done) | (simp [c, hne, del]; rfl) | fail) (by first | (simp; done) | fail) ?_ <;> (try simp [c, hne, del]))
  | (refine CallV.fun_ (hs2) (by first | rfl | fail) (by first | assumption | (simp; done) | fail) (by first | (simp [c, hne, del]; done) | (simp [c, hne, del]; rfl) | fail) (by first | (simp; done) | fail) ?_ <;> (try simp [c, hne, del]))
  | (refine CallP.okL (hck _) (by first | (simp [c, hne, del, zaa, getK, zab, zac, zaj, zat, del]; done) | fail) (by rfl) (by first | assumption | (simp; done) | fail) (by rfl) (by simp) ?_; (try simp [c, hne, del, zbe, del]))
  | fail)
     (refine EndW.here ?_; (first | (refine EndOK.fin (.inr rfl) ?_) | (refine EndOK.fin (.inl rfl) ?_)); simp [zay, zae, Tryd.results76, hne, hm, hr, zaw]; refine FinOK.cut [(m, mOb lets r g)] (nx) (by simp [zaa, getK, zab, zac, Ob.under, D.under, zad, zaf, hne, hm, hr, zaw] <;> omega) (by simp [D.under]) (by simp [hn]) ?_; try simp)
     all_goals rfl
    | error err =>
     simp only [hk, zco] at hck ⊢
     (refine RetX.of_bodyW Tryd.func76 rfl (by simp) fun Γ hn hpan => ?_); simp only [entry, List.zipIdx_cons, List.zipIdx_nil, List.map_cons, List.map_nil, Nat.zero_add, Tryd.ntmps76]
     repeat' (first
  | (refine zah ?_; simp [c, hne, del])
  | (refine zbo rfl ?_; simp [c, hne, del])
  | (refine zeu rfl ?_; simp [c, hne, del])
  | (refine zak ?_; simp [c, hne, del])
  | (refine ⟨by omega, ?_⟩)
  | (refine zai ?_; simp [c, hne, del])
  | (refine zag ?_; simp [c, hne, del])
  | (refine zb1 (hC _ (zbg [m] nx (by simp <;> omega) (by simp <;> omega) (by apply Exists.intro; apply And.intro; (focus (repeat' (first | exact KF.nil | exact KL.nil | apply KF.cons | apply KL.cons 0 rfl | apply KL.cons 1 rfl | apply KL.cons 2 rfl | apply KL.cons 3 rfl | apply KL.cons 4 rfl | apply KL.cons 5 rfl | apply KL.cons 6 rfl | apply KL.cons 7 rfl | apply KL.cons 8 rfl | apply KL.cons 9 rfl))); kernel_rfl))) (hk _ ?_); clear hC hk C k; simp only [zal])
  | (refine zbm rfl (by kernel_rfl) (by first | (simp [hn]; done) | (simp [hn]; omega) | fail) fun C k hC hk => ?_; simp [c, hne, del])
  | (refine zdu rfl (by simp [c, hne, del]) (fun hc => ?_) (fun hc => ?_) <;> (try simp [c, hne, del] at hc) <;> (try (exfalso; omega)) <;> (try simp [c, hne, del]))
  | (refine zam ?_; simp [c, hne, del])
  | (refine CallV.fun_ (hs1) (by first | rfl | fail) (by first | assumption | (simp; done) | fail) (by first | (simp [c, hne, del]; done) | (simp [c, hne, del]; rfl) | fail) (by first | (simp; done) | fail) ?_ <;> (try simp [c, hne, del]))
  | (refine CallV.fun_ (hs2) (by first | rfl | fail) (by first | assumption | (simp; done) | fail) (by first | (simp [c, hne, del]; done) | (simp [c, hne, del]; rfl) | fail) (by first | (simp; done) | fail) ?_ <;> (try simp [c, hne, del]))
  | (refine CallP.zh5 (hck _) (by first | (simp [c, hne, del, zaa, getK, zab, zac, zaj, zat, del]; done) | fail) (by rfl) (by first | assumption | (simp; done) | fail) (by rfl) (by simp) ?_; refine ⟨_, Wk.refl _, ?_⟩; (try simp [c, hne, del, zbe, del]))
  | fail)
     (refine hpan _ _ ⟨{ n := _, env := [], obs := [(m, mOb lets r g)], next := nx }, (Wk.cut rfl (by simp [hn]) (by simp [wkO, zaa, getK, zab, zac, Ob.under, D.under, zad, zaf, hm, hr, hne, zaw, zab, zac, zaa, getK]) (by simp [wkU, zap, zaa, getK, D.under, hm, hr, hne, zaw, zab, zac, zaa, getK]) (by simp [wkE, zap, zaa, getK, hm, hr, hne, zaw, zab, zac, zaa, getK])), by simp [hn], ?_⟩; try simp)
     all_goals rfl
  ·rw [hx] at hs1
   have hck := fun nx' => zeC a b 1000 nx' hab hbb (by omega)
   rw [show ∀ z, zd5 4 (true || z) a b = zeb a b 1000 from fun z => rfl]
   cases hk : zeb a b 1000 with
   | ok v =>
    simp only [hk, zco] at hck ⊢
    (refine RetX.of_bodyW Tryd.func76 rfl (by simp) fun Γ hn hpan => ?_); simp only [entry, List.zipIdx_cons, List.zipIdx_nil, List.map_cons, List.map_nil, Nat.zero_add, Tryd.ntmps76]
    repeat' (first
  | (refine zah ?_; simp [c, hne, del])
  | (refine zbo rfl ?_; simp [c, hne, del])
  | (refine zak ?_; simp [c, hne, del])
  | (refine ⟨by omega, ?_⟩)
  | (refine zai ?_; simp [c, hne, del])
  | (refine zag ?_; simp [c, hne, del])
  | (refine zb1 (hC _ (zbg [m] nx (by simp <;> omega) (by simp <;> omega) (by apply Exists.intro; apply And.intro; (focus (repeat' (first | exact KF.nil | exact KL.nil | apply KF.cons | apply KL.cons 0 rfl | apply KL.cons 1 rfl | apply KL.cons 2 rfl | apply KL.cons 3 rfl | apply KL.cons 4 rfl | apply KL.cons 5 rfl | apply KL.cons 6 rfl | apply KL.cons 7 rfl | apply KL.cons 8 rfl | apply KL.cons 9 rfl))); kernel_rfl))) (hk _ ?_); clear hC hk C k; simp only [zal])
  | (refine zbm rfl (by kernel_rfl) (by first | (simp [hn]; done) | (simp [hn]; omega) | fail) fun C k hC hk => ?_; simp [c, hne, del])
  | (refine zdu rfl (by simp [c, hne, del]) (fun hc => ?_) (fun hc => ?_) <;> (try simp [c, hne, del] at hc) <;> (try (exfalso; omega)) <;> (try simp [c, hne, del]))
  | (refine zam ?_; simp [c, hne, del])
  | (refine zar ?_; simp only [zal])
  | (refine CallV.fun_ (hs1) (by first | rfl | fail) (by first | assumption | (simp; done) | fail) (by first | (simp [c, hne, del]; done) | (simp [c, hne, del]; rfl) | fail) (by first | (simp; done) | fail) ?_ <;> (try simp [c, hne, del]))
  | (refine CallP.okL (hck _) (by first | (simp [c, hne, del, zaa, getK, zab, zac, zaj, zat, del]; done) | fail) (by rfl) (by first | assumption | (simp; done) | fail) (by rfl) (by simp) ?_; (try simp [c, hne, del, zbe, del]))
  | fail)
    (refine EndW.here ?_; (first | (refine EndOK.fin (.inr rfl) ?_) | (refine EndOK.fin (.inl rfl) ?_)); simp [zay, zae, Tryd.results76, hne, hm, hr, zaw]; refine FinOK.cut [(m, mOb lets r g)] (nx) (by simp [zaa, getK, zab, zac, Ob.under, D.under, zad, zaf, hne, hm, hr, zaw] <;> omega) (by simp [D.under]) (by simp [hn]) ?_; try simp)
    all_goals rfl
   | error err =>
    simp only [hk, zco] at hck ⊢
    (refine RetX.of_bodyW Tryd.func76 rfl (by simp) fun Γ hn hpan => ?_); simp only [entry, List.zipIdx_cons, List.zipIdx_nil, List.map_cons, List.map_nil, Nat.zero_add, Tryd.ntmps76]
    repeat' (first
  | (refine zah ?_; simp [c, hne, del])
  | (refine zbo rfl ?_; simp [c, hne, del])
  | (refine zak ?_; simp [c, hne, del])
  | (refine ⟨by omega, ?_⟩)
  | (refine zai ?_; simp [c, hne, del])
  | (refine zag ?_; simp [c, hne, del])
  | (refine zb1 (hC _ (zbg [m] nx (by simp <;> omega) (by simp <;> omega) (by apply Exists.intro; apply And.intro; (focus (repeat' (first | exact KF.nil | exact KL.nil | apply KF.cons | apply KL.cons 0 rfl | apply KL.cons 1 rfl | apply KL.cons 2 rfl | apply KL.cons 3 rfl | apply KL.cons 4 rfl | apply KL.cons 5 rfl | apply KL.cons 6 rfl | apply KL.cons 7 rfl | apply KL.cons 8 rfl | apply KL.cons 9 rfl))); kernel_rfl))) (hk _ ?_); clear hC hk C k; simp only [zal])
  | (refine zbm rfl (by kernel_rfl) (by first | (simp [hn]; done) | (simp [hn]; omega) | fail) fun C k hC hk => ?_; simp [c, hne, del])
  | (refine zdu rfl (by simp [c, hne, del]) (fun hc => ?_) (fun hc => ?_) <;> (try simp [c, hne, del] at hc) <;> (try (exfalso; omega)) <;> (try simp [c, hne, del]))
  | (refine zam ?_; simp [c, hne, del])
  | (refine CallV.fun_ (hs1) (by first | rfl | fail) (by first | assumption | (simp; done) | fail) (by first | (simp [c, hne, del]; done) | (simp [c, hne, del]; rfl) | fail) (by first | (simp; done) | fail) ?_ <;> (try simp [c, hne, del]))
  | (refine CallP.zh5 (hck _) (by first | (simp [c, hne, del, zaa, getK, zab, zac, zaj, zat, del]; done) | fail) (by rfl) (by first | assumption | (simp; done) | fail) (by rfl) (by simp) ?_; refine ⟨_, Wk.refl _, ?_⟩; (try simp [c, hne, del, zbe, del]))
  | fail)
    (refine hpan _ _ ⟨{ n := _, env := [], obs := [(m, mOb lets r g)], next := nx }, (Wk.cut rfl (by simp [hn]) (by simp [wkO, zaa, getK, zab, zac, Ob.under, D.under, zad, zaf, hm, hr, hne, zaw, zab, zac, zaa, getK]) (by simp [wkU, zap, zaa, getK, D.under, hm, hr, hne, zaw, zab, zac, zaa, getK]) (by simp [wkE, zap, zaa, getK, hm, hr, hne, zaw, zab, zac, zaa, getK])), by simp [hn], ?_⟩; try simp)
    all_goals rfl
 by_cases c : e.op = 5
 ·rw [c]
  by_cases hb0 : b = 0
  ·rw [show ∀ sh, zd5 5 sh a b = .error 15 from fun sh => by rw [hb0]; rfl]
   simp only [zco, chF]
   (refine RetX.of_bodyW Tryd.func76 rfl (by simp) fun Γ hn hpan => ?_); simp only [entry, List.zipIdx_cons, List.zipIdx_nil, List.map_cons, List.map_nil, Nat.zero_add, Tryd.ntmps76]
   repeat' (first
  | (refine zah ?_; simp [c, hne, hb0])
  | (refine zak ?_; simp [c, hne, hb0])
  | (refine zai ?_; simp [c, hne, hb0])
  | (refine zag ?_; simp [c, hne, hb0])
  | (refine zam ?_; simp [c, hne, hb0])
  | (refine zas ?_; simp [c, hne, hb0])
  | fail)
   (refine hpan _ _ ⟨{ n := _, env := [], obs := [(m, mOb lets r g)], next := nx }, (Wk.cut rfl (by simp [hn]) (by simp [wkO, zaa, getK, zab, zac, Ob.under, D.under, zad, zaf, hm, hr, hne, zaw, zab, zac, zaa, getK]) (by simp [wkU, zap, zaa, getK, D.under, hm, hr, hne, zaw, zab, zac, zaa, getK]) (by simp [wkE, zap, zaa, getK, hm, hr, hne, zaw, zab, zac, zaa, getK])), by simp [hn], ?_⟩; try simp)
   all_goals rfl
  ·obtain ⟨Z, hZ⟩ : ∃ Z, zdd a b = Z := ⟨_, rfl⟩
   have hck := fun nx' => zdP Z nx'
   have hf := zgp a b (by omega) hb0 (by omega)
   rw [hZ] at hf
   rw [show ∀ sh, zd5 5 sh a b = zcG Z from fun sh => by rw [← hZ]; simp [zd5, hb0]]
   cases hk : zcG Z with
   | ok v =>
    simp only [hk, zco] at hck ⊢
    (refine RetX.of_bodyW Tryd.func76 rfl (by simp) fun Γ hn hpan => ?_); simp only [entry, List.zipIdx_cons, List.zipIdx_nil, List.map_cons, List.map_nil, Nat.zero_add, Tryd.ntmps76]
    repeat' (first
  | (refine zah ?_; simp [c, hne, hb0])
  | (refine zak ?_; simp [c, hne, hb0])
  | (refine zai ?_; simp [c, hne, hb0])
  | (refine zag ?_; simp [c, hne, hb0])
  | (refine zam ?_; simp [c, hne, hb0])
  | (refine zar ?_; simp only [zal])
  | (refine zaq ?_; simp only [zal])
  | (refine CallP.fun_ (hf) (by first | rfl | fail) (by first | assumption | (simp; done) | fail) (by first | (simp [c, hne, hb0]; done) | (simp [c, hne, hb0]; rfl) | fail) (by first | (simp; done) | fail) (fun d hd => ?_); subst hd; (try simp [c, hne, hb0]))
  | (refine CallP.okL (hck _) (by first | (simp [c, hne, hb0, zaa, getK, zab, zac, zaj, zat, del]; done) | fail) (by rfl) (by first | assumption | (simp; done) | fail) (by rfl) (by simp) ?_; (try simp [c, hne, hb0, zbe, del]))
  | fail)
    (refine EndW.here ?_; (first | (refine EndOK.fin (.inr rfl) ?_) | (refine EndOK.fin (.inl rfl) ?_)); simp [zay, zae, Tryd.results76, hne, hm, hr, zaw]; refine FinOK.cut [(m, mOb lets r g)] (nx) (by simp [zaa, getK, zab, zac, Ob.under, D.under, zad, zaf, hne, hm, hr, zaw] <;> omega) (by simp [D.under]) (by simp [hn]) ?_; try simp)
    all_goals rfl
   | error err =>
    simp only [hk, zco] at hck ⊢
    (refine RetX.of_bodyW Tryd.func76 rfl (by simp) fun Γ hn hpan => ?_); simp only [entry, List.zipIdx_cons, List.zipIdx_nil, List.map_cons, List.map_nil, Nat.zero_add, Tryd.ntmps76]
    repeat' (first
  | (refine zah ?_; simp [c, hne, hb0])
  | (refine zak ?_; simp [c, hne, hb0])
  | (refine zai ?_; simp [c, hne, hb0])
  | (refine zag ?_; simp [c, hne, hb0])
  | (refine zam ?_; simp [c, hne, hb0])
  | (refine zaq ?_; simp only [zal])
  | (refine CallP.fun_ (hf) (by first | rfl | fail) (by first | assumption | (simp; done) | fail) (by first | (simp [c, hne, hb0]; done) | (simp [c, hne, hb0]; rfl) | fail) (by first | (simp; done) | fail) (fun d hd => ?_); subst hd; (try simp [c, hne, hb0]))
  | (refine CallP.zh5 (hck _) (by first | (simp [c, hne, hb0, zaa, getK, zab, zac, zaj, zat, del]; done) | fail) (by rfl) (by first | assumption | (simp; done) | fail) (by rfl) (by simp) ?_; refine ⟨_, Wk.refl _, ?_⟩; (try simp [c, hne, hb0, zbe, del]))
  | fail)
    (refine hpan _ _ ⟨{ n := _, env := [], obs := [(m, mOb lets r g)], next := nx }, (Wk.cut rfl (by simp [hn]) (by simp [wkO, zaa, getK, zab, zac, Ob.under, D.under, zad, zaf, hm, hr, hne, zaw, zab, zac, zaa, getK]) (by simp [wkU, zap, zaa, getK, D.under, hm, hr, hne, zaw, zab, zac, zaa, getK]) (by simp [wkE, zap, zaa, getK, hm, hr, hne, zaw, zab, zac, zaa, getK])), by simp [hn], ?_⟩; try simp)
    all_goals rfl
 have ht := zc7 (decide (a < b))
 by_cases c : e.op = 6
 ·rw [c, show ∀ sh, zd5 6 sh a b = .ok (min a b) from fun sh => rfl]
  simp only [zco]
  (refine RetX.of_bodyW Tryd.func76 rfl (by simp) fun Γ hn hpan => ?_); simp only [entry, List.zipIdx_cons, List.zipIdx_nil, List.map_cons, List.map_nil, Nat.zero_add, Tryd.ntmps76]
  repeat' (first
  | (refine zah ?_; simp [c, hne])
  | (refine zak ?_; simp [c, hne])
  | (refine zai ?_; simp [c, hne])
  | (refine zag ?_; simp [c, hne])
  | (refine zam ?_; simp [c, hne])
  | (refine zar ?_; simp only [zal])
  | fail)
  (refine EndW.here ?_; (first | (refine EndOK.fin (.inr rfl) ?_) | (refine EndOK.fin (.inl rfl) ?_)); simp [zay, zae, Tryd.results76, hne, hm, hr, zaw]; refine FinOK.cut [(m, mOb lets r g)] (nx) (by simp [zaa, getK, zab, zac, Ob.under, D.under, zad, zaf, hne, hm, hr, zaw] <;> omega) (by simp [D.under]) (by simp [hn]) ?_; try simp)
  all_goals rfl
 by_cases c : e.op = 7
 ·rw [c, show ∀ sh, zd5 7 sh a b = .ok (max a b) from fun sh => rfl]
  simp only [zco]
  (refine RetX.of_bodyW Tryd.func76 rfl (by simp) fun Γ hn hpan => ?_); simp only [entry, List.zipIdx_cons, List.zipIdx_nil, List.map_cons, List.map_nil, Nat.zero_add, Tryd.ntmps76]
  repeat' (first
  | (refine zah ?_; simp [c, hne])
  | (refine zak ?_; simp [c, hne])
  | (refine zai ?_; simp [c, hne])
  | (refine zag ?_; simp [c, hne])
  | (refine zam ?_; simp [c, hne])
  | (refine zar ?_; simp only [zal])
  | fail)
  (refine EndW.here ?_; (first | (refine EndOK.fin (.inr rfl) ?_) | (refine EndOK.fin (.inl rfl) ?_)); simp [zay, zae, Tryd.results76, hne, hm, hr, zaw]; refine FinOK.cut [(m, mOb lets r g)] (nx) (by simp [zaa, getK, zab, zac, Ob.under, D.under, zad, zaf, hne, hm, hr, zaw] <;> omega) (by simp [D.under]) (by simp [hn]) ?_; try simp)
  all_goals rfl
 by_cases c : e.op = 8
 ·rw [c, show ∀ sh, zd5 8 sh a b = .ok (zbI (decide (a < b))) from fun sh => rfl]
  simp only [zco]
  (refine RetX.of_bodyW Tryd.func76 rfl (by simp) fun Γ hn hpan => ?_); simp only [entry, List.zipIdx_cons, List.zipIdx_nil, List.map_cons, List.map_nil, Nat.zero_add, Tryd.ntmps76]
  repeat' (first
  | (refine zah ?_; simp [c, hne])
  | (refine zak ?_; simp [c, hne])
  | (refine zai ?_; simp [c, hne])
  | (refine zag ?_; simp [c, hne])
  | (refine zam ?_; simp [c, hne])
  | (refine zar ?_; simp only [zal])
  | (refine CallP.fun_ (ht) (by first | rfl | fail) (by first | assumption | (simp; done) | fail) (by first | (simp [c, hne]; done) | (simp [c, hne]; rfl) | fail) (by first | (simp; done) | fail) (fun d hd => ?_); subst hd; (try simp [c, hne]))
  | fail)
  (refine EndW.here ?_; (first | (refine EndOK.fin (.inr rfl) ?_) | (refine EndOK.fin (.inl rfl) ?_)); simp [zay, zae, Tryd.results76, hne, hm, hr, zaw]; refine FinOK.cut [(m, mOb lets r g)] (nx) (by simp [zaa, getK, zab, zac, Ob.under, D.under, zad, zaf, hne, hm, hr, zaw] <;> omega) (by simp [D.under]) (by simp [hn]) ?_; try simp)
  all_goals rfl
 have c : e.op = 9 := by omega
 have ht := zc7 (decide (a = b))
 rw [c, show ∀ sh, zd5 9 sh a b = .ok (zbI (decide (a = b))) from fun sh => rfl]
 simp only [zco]
 (refine RetX.of_bodyW Tryd.func76 rfl (by simp) fun Γ hn hpan => ?_); simp only [entry, List.zipIdx_cons, List.zipIdx_nil, List.map_cons, List.map_nil, Nat.zero_add, Tryd.ntmps76]
 repeat' (first
  | (refine zah ?_; simp [c, hne])
  | (refine zak ?_; simp [c, hne])
  | (refine zai ?_; simp [c, hne])
  | (refine zag ?_; simp [c, hne])
  | (refine zam ?_; simp [c, hne])
  | (refine zar ?_; simp only [zal])
  | (refine zaq ?_; simp only [zal])
  | (refine CallP.fun_ (ht) (by first | rfl | fail) (by first | assumption | (simp; done) | fail) (by first | (simp [c, hne]; done) | (simp [c, hne]; rfl) | fail) (by first | (simp; done) | fail) (fun d hd => ?_); subst hd; (try simp [c, hne]))
  | fail)
 (refine EndW.here ?_; (first | (refine EndOK.fin (.inr rfl) ?_) | (refine EndOK.fin (.inl rfl) ?_)); simp [zay, zae, Tryd.results76, hne, hm, hr, zaw]; refine FinOK.cut [(m, mOb lets r g)] (nx) (by simp [zaa, getK, zab, zac, Ob.under, D.under, zad, zaf, hne, hm, hr, zaw] <;> omega) (by simp [D.under]) (by simp [hn]) ?_; try simp)
 all_goals rfl
end Go.Proofs.YtfcopibncpkdoaaDoor
namespace Go.Proofs.YtfcopibncpkdoaaDoor
open Go Go.VL
section
variable {lets : List Let} {G : List UInt8 → Option Int} {n : Nat} {e x y z : Exp} {t t1 t2 : Tab}
theorem zjY (h : e.op = 0) : zbp lets G n e t = (zcG e.n, t) := by unfold zbp; rw [zcn, if_pos h]; rfl
theorem zh8 (h : e.op = 1) : zbp lets G n e t = nmT lets G n e.s t := by unfold zbp; rw [zcn, if_neg (by omega), if_pos h]
theorem zc5 {l : List Exp} {er : Int} (h0 : e.op ≠ 0) (h1 : e.op ≠ 1) (ha : e.args = x :: l) (hx : zbp lets G n x t = (.error er, t1)) : zbp lets G n e t = (.error er, t1) := by
 unfold zbp at *
 rw [zcn, if_neg h0, if_neg h1, ha, zcJ]
 repeat' split
 all_goals exact TM.zfV hx
theorem zib {l : List Exp} (h : e.op = 10) (ha : e.args = x :: l) (hx : zbp lets G n x t = (.ok 0, t1)) : zbp lets G n e t = (.ok 0, t1) := by
 unfold zbp at *
 rw [zcn, if_neg (by omega), if_neg (by omega), if_pos h, ha, zcJ, TM.bind_ok hx, if_pos rfl]; rfl
theorem zia {a er : Int} (h : e.op = 10) (ha : e.args = [x, y]) (hx : zbp lets G n x t = (.ok a, t1)) (h0 : a ≠ 0) (hy : zbp lets G n y t1 = (.error er, t2)) : zbp lets G n e t = (.error er, t2) := by
 unfold zbp at *
 rw [zcn, if_neg (by omega), if_neg (by omega), if_pos h, ha, zcJ, TM.bind_ok hx, if_neg h0, zcJ, zcJ, TM.zfV hy]
theorem zj3 {a b : Int} (h : e.op = 10) (ha : e.args = [x, y]) (hx : zbp lets G n x t = (.ok a, t1)) (h0 : a ≠ 0) (hy : zbp lets G n y t1 = (.ok b, t2)) : zbp lets G n e t = (.ok (zbI (decide (b ≠ 0))), t2) := by
 unfold zbp at *
 rw [zcn, if_neg (by omega), if_neg (by omega), if_pos h, ha, zcJ, TM.bind_ok hx, if_neg h0, zcJ, zcJ, TM.bind_ok hy]; rfl
theorem zjX {l : List Exp} {a : Int} (h : e.op = 11) (ha : e.args = x :: l) (hx : zbp lets G n x t = (.ok a, t1)) (h0 : a ≠ 0) : zbp lets G n e t = (.ok 1, t1) := by
 unfold zbp at *
 rw [zcn, if_neg (by omega), if_neg (by omega), if_neg (by omega), if_pos h, ha, zcJ, TM.bind_ok hx, if_pos h0]; rfl
theorem zjW {er : Int} (h : e.op = 11) (ha : e.args = [x, y]) (hx : zbp lets G n x t = (.ok 0, t1)) (hy : zbp lets G n y t1 = (.error er, t2)) : zbp lets G n e t = (.error er, t2) := by
 unfold zbp at *
 rw [zcn, if_neg (by omega), if_neg (by omega), if_neg (by omega), if_pos h, ha, zcJ, TM.bind_ok hx, if_neg (by simp), zcJ, zcJ, TM.zfV hy]
theorem zlx {b : Int} (h : e.op = 11) (ha : e.args = [x, y]) (hx : zbp lets G n x t = (.ok 0, t1)) (hy : zbp lets G n y t1 = (.ok b, t2)) : zbp lets G n e t = (.ok (zbI (decide (b ≠ 0))), t2) := by
 unfold zbp at *
 rw [zcn, if_neg (by omega), if_neg (by omega), if_neg (by omega), if_pos h, ha, zcJ, TM.bind_ok hx, if_neg (by simp), zcJ, zcJ, TM.bind_ok hy]; rfl
theorem zjZ {a : Int} (h : e.op = 12) (ha : e.args = [x]) (hx : zbp lets G n x t = (.ok a, t1)) : zbp lets G n e t = (.ok (zbI (decide (a = 0))), t1) := by
 unfold zbp at *
 rw [zcn, if_neg (by omega), if_neg (by omega), if_neg (by omega), if_neg (by omega), if_pos h, ha, zcJ, TM.bind_ok hx]; rfl
theorem zj0 {a : Int} (h : e.op = 13) (ha : e.args = [x, y, z]) (hx : zbp lets G n x t = (.ok a, t1)) (h0 : a ≠ 0) : zbp lets G n e t = zbp lets G n y t1 := by
 unfold zbp at *
 rw [zcn, if_neg (by omega), if_neg (by omega), if_neg (by omega), if_neg (by omega), if_neg (by omega), if_pos h, ha, zcJ, TM.bind_ok hx, if_pos h0, zcJ, zcJ]
theorem zj1 (h : e.op = 13) (ha : e.args = [x, y, z]) (hx : zbp lets G n x t = (.ok 0, t1)) : zbp lets G n e t = zbp lets G n z t1 := by
 unfold zbp at *
 rw [zcn, if_neg (by omega), if_neg (by omega), if_neg (by omega), if_neg (by omega), if_neg (by omega), if_pos h, ha, zcJ, TM.bind_ok hx, if_neg (by simp), zcJ, zcJ, zcJ]
theorem zh9 {a er : Int} (h : 2 ≤ e.op ∧ e.op ≤ 9) (ha : e.args = [x, y]) (hx : zbp lets G n x t = (.ok a, t1)) (hy : zbp lets G n y t1 = (.error er, t2)) : zbp lets G n e t = (.error er, t2) := by
 unfold zbp at *
 rw [zcn, if_neg (by omega), if_neg (by omega), if_neg (by omega), if_neg (by omega), if_neg (by omega), if_neg (by omega), ha, zcJ, TM.bind_ok hx, zcJ, zcJ, TM.zfV hy]
theorem zj2 {a b : Int} (h : 2 ≤ e.op ∧ e.op ≤ 9) (ha : e.args = [x, y]) (hx : zbp lets G n x t = (.ok a, t1)) (hy : zbp lets G n y t1 = (.ok b, t2)) :
  zbp lets G n e t = (zd5 e.op (zbC (lets.take n) x || zbC (lets.take n) y) a b, t2) := by
 unfold zbp at *
 rw [zcn, if_neg (by omega), if_neg (by omega), if_neg (by omega), if_neg (by omega), if_neg (by omega), if_neg (by omega), ha, zcJ, TM.bind_ok hx, zcJ, zcJ, TM.bind_ok hy]
 simp [TM.ret]
end
abbrev tOb (t : Tab) : Ob := .vec 153 3 (t.map fun x => [.u (.int .i64 x.1), .u (.int .i64 x.2.1), .u (.bool x.2.2)])
abbrev eOb (e : Exp) : Ob := .box [.u (.int .i64 e.op), .u (.int .i64 e.n), .u (.int .i64 e.unit), .u (.str e.s), .u (.sl (e.args.map Exp.row))]
def zdt (lets : List Let) (r : Nat) (g : GM) (m n : Nat) (e : Exp) : Prop := ∀ (t : Tab) (nx : Nat), m < nx → r < nx → TabOK lets.length t →
 RetX Tryd.prog 46 [.ptr m 0, za3 e, .u (.int .i64 n)] [(m, mOb lets r g), (r, tOb t)] nx
  (fun o obs n' => o = zco (zbp lets (gF g) n e t).1 ∧ obs = [(m, mOb lets r g), (r, tOb (zbp lets (gF g) n e t).2)] ∧ n' = nx)
attribute [local simp] HS zcp zbN evPure opd uOf zaB St.put St.at getK binD binI binS binB nilD aggD zeJ ze8 lookD lookR zbT Go.VL.nextD zbY zfe zfd zev zbM mkV zaW zaP zaO zaN zcm zaM za1 zbc mapEff zcS zek Key.kk shiftI arith unD convD zcP loadD cellsAt fieldAddrD fieldD indexAddrD indexD sliceD cutD lenD minmaxD nilCheckD buildD fillD zbt zcq zdR setAll zcg zdy zbQ zeN zbO St.add zaC zbj rowsOf zcM zce zaj zac zaa za5 zcl zaH entry za4 za6 valD zbS zb7 zez zct zcu zbx zbs zav zaT za7 delAll effD St.effS zb9 zaQ zaI zca zaR zaK zby zaJ zaD zbz zb8 zbb zbw zaZ zbu zbv zat mkD zbk zbd zbB zav zbP D.ids Op.operands Call.operands za8 makeIfD typeAssertD ze6 zcH zcI zeR zbV IntKind.bits zch List.take_of_length_le List.range_succ
attribute [local irreducible] V G H HD HD2 HD4 zhn RetX zal Eff CallP CallV EndOK Fun Ret FinOK LoopI LoopW EndW
def zan (N : Nat) (t : Tab) : (∀ x ∈ t, ∀ y ∈ [D.u (.int .i64 x.1), D.u (.int .i64 x.2.1), D.u (.bool x.2.2)], D.under N y = true) := by
 intro x _ y hy
 simp at hy
 rcases hy with rfl | rfl | rfl <;> simp [D.under]
theorem zds {lets : List Let} {r : Nat} {g : GM} {m n : Nat} {x : Exp} (hV : zdt lets r g m n x) (e : Exp) (ia : Nat) (hia : e.args[ia]? = some x) (hmr : m ≠ r) (N : Nat) (hm : m < N) (hr : r < N) (t : Tab) (nx : Nat) (hN : N + 3 ≤ nx) (ht : TabOK lets.length t) :
  RetX Tryd.prog 72 [.u (.int .i64 ia), .ptr N 0, .ptr (N + 1) 0, .ptr (N + 2) 0]
   [(N, .box [.ptr m 0]), (N + 1, eOb e), (N + 2, .box [.u (.int .i64 n)]), (m, mOb lets r g), (r, tOb t)] nx
   (fun o obs n' => o = zco (zbp lets (gF g) n x t).1 ∧ obs = [(N, .box [.ptr m 0]), (N + 1, eOb e), (N + 2, .box [.u (.int .i64 n)]), (m, mOb lets r g), (r, tOb (zbp lets (gF g) n x t).2)] ∧ n' = nx) := by
 have hne := nef hm
 have hne2 := nef hr
 have hv := fun nx' (h : N + 3 ≤ nx') => hV t nx' (by omega) (by omega) ht
 have hil := (List.getElem?_eq_some_iff.1 hia).1
 unfold za3 at hv
 rcases hvl : zbp lets (gF g) n x t with ⟨er | v, t1⟩
 ·simp only [hvl, zco] at hv ⊢
  (refine RetX.of_bodyW Tryd.func72 rfl (by simp) fun Γ hn hpan => ?_); simp only [entry, List.zipIdx_cons, List.zipIdx_nil, List.map_cons, List.map_nil, Nat.zero_add, Tryd.ntmps72]
  repeat' (first
  | (refine zfW (fun nx' h' => hv nx' (by simp at h'; omega)) (by first | (simp [hne, hne2, hmr, Ne.symm hmr, hia, Exp.row_eq, zan, zaa, getK, zab, zac, zaj, zat, del]; done) | fail) (by rfl) (by first | assumption | (simp; done) | fail) (by rfl) (by simp) ?_ ?_; intro env' n' hn'; refine ⟨_, Wk.refl _, ?_⟩; (try simp [hne, hne2, hmr, Ne.symm hmr, hia, Exp.row_eq, zan, zbe, del]))
  | (refine zbo rfl ?_; simp [hne, hne2, hmr, Ne.symm hmr, hia, Exp.row_eq, zan]; (fail_if_success (guard_target =ₛ False)))
  | (refine zah ?_; simp [hne, hne2, hmr, Ne.symm hmr, hia, Exp.row_eq, zan])
  | (refine zak ?_; simp [hne, hne2, hmr, Ne.symm hmr, hia, Exp.row_eq, zan])
  | (refine zai ?_; simp [hne, hne2, hmr, Ne.symm hmr, hia, Exp.row_eq, zan])
  | (refine zdB (hC _ (zbg [N, N + 1, N + 2, m, r] nx (by simp <;> omega) (by simp <;> omega) (by apply Exists.intro; apply And.intro; (focus (repeat' (first | exact KF.nil | exact KL.nil | apply KF.cons | apply KL.cons 0 rfl | apply KL.cons 1 rfl | apply KL.cons 2 rfl | apply KL.cons 3 rfl | apply KL.cons 4 rfl | apply KL.cons 5 rfl | apply KL.cons 6 rfl | apply KL.cons 7 rfl | apply KL.cons 8 rfl | apply KL.cons 9 rfl))); kernel_rfl))) rfl; done)
  | (refine zbm rfl (by kernel_rfl) (by first | (simp [hn]; done) | (simp [hn]; omega) | fail) fun C k hC hk => ?_; simp [hne, hne2, hmr, Ne.symm hmr, hia, Exp.row_eq, zan])
  | fail)
  (refine hpan _ _ ⟨{ n := _, env := [], obs := [(N, .box [.ptr m 0]), (N + 1, eOb e), (N + 2, .box [.u (.int .i64 n)]), (m, mOb lets r g), (r, tOb t1)], next := nx }, (Wk.cut rfl (by simp [hn]) (by simp [wkO, zaa, getK, zab, zac, Ob.under, D.under, zad, zaf, hm, hr, hne, hne2, hmr, Ne.symm hmr, zan, zab, zac, zaa, getK] <;> (try omega)) (by simp [wkU, zap, zaa, getK, D.under, hm, hr, hne, hne2, hmr, Ne.symm hmr, zan, zab, zac, zaa, getK] <;> (try omega)) (by simp [wkE, zap, zaa, getK, hm, hr, hne, hne2, hmr, Ne.symm hmr, zan, zab, zac, zaa, getK] <;> (try omega))), (by simp [hn] <;> (try omega)), ?_⟩; try simp)
 ·simp only [hvl, zco] at hv ⊢
  (refine RetX.of_bodyW Tryd.func72 rfl (by simp) fun Γ hn hpan => ?_); simp only [entry, List.zipIdx_cons, List.zipIdx_nil, List.map_cons, List.map_nil, Nat.zero_add, Tryd.ntmps72]
  repeat' (first
  | (refine zmU (fun nx' h' => hv nx' (by simp at h'; omega)) (by first | (simp [hne, hne2, hmr, Ne.symm hmr, hia, Exp.row_eq, zan, zaa, getK, zab, zac, zaj, zat, del]; done) | fail) rfl (by first | (simp [hne, hne2, hmr, Ne.symm hmr, hia, Exp.row_eq, zan]; done) | fail) (by rfl) (by first | assumption | (simp; done) | fail) (by rfl) (by first | (simp [hne, hne2, hmr, Ne.symm hmr, hia, Exp.row_eq, zan, D.under, Ob.under, zad, zaf]; done) | (simp [hne, hne2, hmr, Ne.symm hmr, hia, Exp.row_eq, zan, D.under, Ob.under, zad, zaf]; omega) | fail) (by simp) ?_; (try simp [hne, hne2, hmr, Ne.symm hmr, hia, Exp.row_eq, zan]))
  | (refine zah ?_; simp [hne, hne2, hmr, Ne.symm hmr, hia, Exp.row_eq, zan])
  | (refine zbo rfl ?_; simp [hne, hne2, hmr, Ne.symm hmr, hia, Exp.row_eq, zan])
  | (refine zak ?_; simp [hne, hne2, hmr, Ne.symm hmr, hia, Exp.row_eq, zan])
  | (refine zai ?_; simp [hne, hne2, hmr, Ne.symm hmr, hia, Exp.row_eq, zan])
  | (refine zb1 (hC _ (zbg [N, N + 1, N + 2, m, r] nx (by simp <;> omega) (by simp <;> omega) (by apply Exists.intro; apply And.intro; (focus (repeat' (first | exact KF.nil | exact KL.nil | apply KF.cons | apply KL.cons 0 rfl | apply KL.cons 1 rfl | apply KL.cons 2 rfl | apply KL.cons 3 rfl | apply KL.cons 4 rfl | apply KL.cons 5 rfl | apply KL.cons 6 rfl | apply KL.cons 7 rfl | apply KL.cons 8 rfl | apply KL.cons 9 rfl))); kernel_rfl))) (hk _ ?_); clear hC hk C k; simp only [zal])
  | (refine zbm rfl (by kernel_rfl) (by first | (simp [hn]; done) | (simp [hn]; omega) | fail) fun C k hC hk => ?_; simp [hne, hne2, hmr, Ne.symm hmr, hia, Exp.row_eq, zan])
  | (refine zar ?_; simp only [zal])
  | fail)
  (refine EndW.here ?_; (first | (refine EndOK.fin (.inr rfl) ?_) | (refine EndOK.fin (.inl rfl) ?_)); simp [zay, zae, Tryd.results72, hm, hr, hne, hne2, hmr, Ne.symm hmr, zan]; refine FinOK.cut [(N, .box [.ptr m 0]), (N + 1, eOb e), (N + 2, .box [.u (.int .i64 n)]), (m, mOb lets r g), (r, tOb t1)] (nx) (by simp [zaa, getK, zab, zac, Ob.under, D.under, zad, zaf, hm, hr, hne, hne2, hmr, Ne.symm hmr, zan] <;> omega) (by simp [D.under]) (by simp [hn]) ?_; try simp)
/-- The same, the table first. -/
theorem zky {lets : List Let} {r : Nat} {g : GM} {m n : Nat} {x : Exp} {v : Int} {t1 : Tab} (hV : zdt lets r g m n x) (e : Exp) (ia : Nat) (hia : e.args[ia]? = some x) (hmr : m ≠ r) (N : Nat) (hm : m < N) (hr : r < N) (t : Tab) (nx : Nat) (hN : N + 3 ≤ nx) (ht : TabOK lets.length t)
  (hv : zbp lets (gF g) n x t = (.ok v, t1)) :
  RetX Tryd.prog 72 [.u (.int .i64 ia), .ptr N 0, .ptr (N + 1) 0, .ptr (N + 2) 0]
   [(r, tOb t), (N, .box [.ptr m 0]), (N + 1, eOb e), (N + 2, .box [.u (.int .i64 n)]), (m, mOb lets r g)] nx
   (fun o obs n' => o = .val (.u (.int .i64 v)) ∧ (∀ y, getK obs y = getK [(r, tOb t1), (N, .box [.ptr m 0]), (N + 1, eOb e), (N + 2, .box [.u (.int .i64 n)]), (m, mOb lets r g)] y) ∧ n' = nx) := by
 have hne2 := nef hr
 have hperm : ∀ (T : Tab) (y : Nat), getK [(N, .box [.ptr m 0]), (N + 1, eOb e), (N + 2, .box [.u (.int .i64 n)]), (m, mOb lets r g), (r, tOb T)] y = getK [(r, tOb T), (N, .box [.ptr m 0]), (N + 1, eOb e), (N + 2, .box [.u (.int .i64 n)]), (m, mOb lets r g)] y := fun T y => by
  simp only [zaa]
  by_cases h : y = r
  ·subst h
   rw [if_neg (by omega), if_neg (by omega), if_neg (by omega), if_neg (Ne.symm hmr)]
   simp
  ·simp [h]
 have h := zds hV e ia hia hmr N hm hr t nx hN ht
 rw [hv] at h
 exact (h.congr fun y => (hperm t y).symm).mono fun o obs n' ⟨h1, h2, h3⟩ => ⟨h1, fun y => by rw [h2]; exact hperm t1 y, h3⟩
end Go.Proofs.YtfcopibncpkdoaaDoor
namespace Go.Proofs.YtfcopibncpkdoaaDoor
open Go Go.VL
def zpC (lets : List Let) (r : Nat) (g : GM) (m n : Nat) (e : Exp) : Prop := ∀ (t : Tab) (nx : Nat), m < nx → r < nx → TabOK lets.length t →
 RetX Tryd.prog 27 [.ptr m 0, za3 e, .u (.int .i64 n)] [(m, mOb lets r g), (r, tOb t)] nx
  (fun o obs n' => o = .val (.tup [.u (.int .i64 (zcT (zbp lets (gF g) n e t).1).1), .u (.int .i64 (zcT (zbp lets (gF g) n e t).1).2.1)]) ∧ obs = [(m, mOb lets r g), (r, tOb (zbp lets (gF g) n e t).2)] ∧ n' = nx)
attribute [local simp] HS zcp zbN evPure opd uOf zaB St.put St.at getK binD binI binS binB nilD aggD zeJ ze8 lookD lookR zbT Go.VL.nextD zbY zfe zfd zev zbM mkV zaW zaP zaO zaN zcm zaM za1 zbc mapEff zcS zek Key.kk shiftI arith unD convD zcP loadD cellsAt fieldAddrD fieldD indexAddrD indexD sliceD cutD lenD minmaxD nilCheckD buildD fillD zbt zcq zdR setAll zcg zdy zbQ zeN zbO St.add zaC zbj rowsOf zcM zce zaj zac zaa za5 zcl zaH entry za4 za6 valD zbS zb7 zez zct zcu zbx zbs zav zaT za7 delAll effD St.effS zb9 zaQ zaI zca zaR zaK zby zaJ zaD zbz zb8 zbb zbw zaZ zbu zbv zat mkD zbk zbd zbB zav zbP D.ids Op.operands Call.operands za8 makeIfD typeAssertD ze6 zcH zcI zeR zbV IntKind.bits zch List.take_of_length_le List.range_succ
attribute [local irreducible] V G H HD HD2 HD4 zhn RetX zal Eff CallP CallV EndOK Fun Ret FinOK LoopI LoopW EndW
theorem zdH (N : Nat) (t : Tab) (c : Nat) (a b : Int) (d : Bool) : (∀ x ∈ (t.map fun x => [D.u (.int .i64 x.1), D.u (.int .i64 x.2.1), D.u (.bool x.2.2)]).set c [D.u (.int .i64 a), D.u (.int .i64 b), D.u (.bool d)], ∀ y ∈ x, D.under N y = true) ↔ True := by
 refine ⟨fun _ => trivial, fun _ => ?_⟩
 have h : ((t.map fun x => [D.u (.int .i64 x.1), D.u (.int .i64 x.2.1), D.u (.bool x.2.2)]).set c [D.u (.int .i64 a), D.u (.int .i64 b), D.u (.bool d)]) = (t.set c (a, b, d)).map fun x => [D.u (.int .i64 x.1), D.u (.int .i64 x.2.1), D.u (.bool x.2.2)] := by rw [List.map_set]
 rw [h]
 intro x hx
 obtain ⟨q, _, rfl⟩ := List.mem_map.1 hx
 intro y hy
 simp at hy
 rcases hy with rfl | rfl | rfl <;> simp [D.under]
theorem ziJ {lets : List Let} {g : List UInt8 → Option Int} {s : List UInt8} {v : Int} (h : g s = some v) : ∀ n, nmT lets g n s = TM.ret (.ok v)
 | 0 => by rw [nmT, h]
 | n + 1 => by rw [nmT, h]
theorem zpn {lets : List Let} {g : List UInt8 → Option Int} {s : List UInt8} (h : g s = none) : nmT lets g 0 s = TM.ret (.error 13) := by rw [nmT, h]
theorem ziI {lets : List Let} {g : List UInt8 → Option Int} {s : List UInt8} {c : Nat} {l : Let} (h : g s = none) (hl : lets[c]? = some l) (hs : ¬ l.name = s) : nmT lets g (c + 1) s = nmT lets g c s := by
 rw [nmT, h, hl]
 simp only
 rw [if_neg hs]
theorem zng {lets : List Let} {g : List UInt8 → Option Int} {s : List UInt8} {c : Nat} {l : Let} {t : Tab} {v e : Int} (h : g s = none) (hl : lets[c]? = some l) (hs : l.name = s) (ht : t[c]? = some (v, e, true)) :
  nmT lets g (c + 1) s t = (zfF v e, t) := by
 rw [nmT, h, hl]
 simp only
 rw [if_pos hs]
 simp only [ht]
theorem zot {lets : List Let} {g : List UInt8 → Option Int} {s : List UInt8} {c : Nat} {l : Let} {t : Tab} {v e : Int} (h : g s = none) (hl : lets[c]? = some l) (hs : l.name = s) (ht : t[c]? = some (v, e, false)) :
  nmT lets g (c + 1) s t = (zfF (zcT (zbp lets g c l.body t).1).1 (zcT (zbp lets g c l.body t).1).2.1, (zbp lets g c l.body t).2.set c (zcT (zbp lets g c l.body t).1)) := by
 rw [nmT, h, hl]
 simp only
 rw [if_pos hs]
 simp only [ht]
 rfl
theorem znk {lets : List Let} {r : Nat} {g : GM} {m n : Nat} (hgs : ∀ s v, gF g s = some v → inC v) (hrb : ∀ l ∈ lets, zax 12 l.body = true) (hT : ∀ i l, i < n → lets[i]? = some l → zpC lets r g m i l.body) (s : List UInt8) (hnl : n ≤ lets.length) (hl : lets.length ≤ 20) (hmr : m ≠ r) (t : Tab) (nx : Nat) (hm : m < nx) (hr : r < nx) (htab : TabOK lets.length t) :
  RetX Tryd.prog 74 [.ptr m 0, .u (.str s), .u (.int .i64 n)] [(m, mOb lets r g), (r, tOb t)] nx
   (fun o obs n' => o = zco (nmT lets (gF g) n s t).1 ∧ obs = [(m, mOb lets r g), (r, tOb (nmT lets (gF g) n s t).2)] ∧ n' = nx) := by
 have hne := nef hm
 have hne2 := nef hr
 have hlen := htab.len
 have hg := zkf g s
 rcases hga : asc g s with _ | v
 ·have hgz : gF g s = none := hga
  rw [hga] at hg
  simp only [Option.map_none] at hg
  generalize hR : nmT lets (gF g) n s = R
  (refine RetX.of_bodyW Tryd.func74 rfl (by simp) fun Γ hn hpan => ?_); simp only [entry, List.zipIdx_cons, List.zipIdx_nil, List.map_cons, List.map_nil, Nat.zero_add, Tryd.ntmps74]
  repeat' (first
  | (refine zah ?_; simp [hne, hne2, hmr, Ne.symm hmr, hg])
  | (refine zak ?_; simp [hne, hne2, hmr, Ne.symm hmr, hg])
  | (refine ⟨by omega, ?_⟩)
  | (refine zai ?_; simp [hne, hne2, hmr, Ne.symm hmr, hg])
  | (refine zag ?_; simp [hne, hne2, hmr, Ne.symm hmr, hg])
  | (refine zam ?_; simp [hne, hne2, hmr, Ne.symm hmr, hg])
  | (refine zaq ?_; simp only [zal])
  | fail)
  refine zcR (α := { c : Nat // c ≤ n ∧ R = nmT lets (gF g) c s }) [0, 1] (fun c => [(9, .u (.int .i64 ((c.1 : Int) - 1)))]) (fun c => [(m, mOb lets r g), (r, tOb t)]) nx (fun c => c.1) ⟨n, by omega, hR.symm⟩ ?_ ?_
  ·exact (Wk.cut rfl (by simp [hn, St.lp]) (by simp [wkO, St.lp, zaa, getK, Ob.under, D.under, zad, zaf, hm, hr, hne, hne2, hmr, Ne.symm hmr, zan]) (by simp [wkU, St.lp, zap, zaa, getK, D.under, hm, hr, hne, hne2, hmr, Ne.symm hmr, zan]) (by simp [wkE, St.lp, zap, zaa, getK, hm, hr, hne, hne2, hmr, Ne.symm hmr, zan] <;> (try (intros; simp_all; done)) <;> (try (intros; omega)) <;> (try grind)))
  rintro ⟨c, hc1, hc2⟩
  simp [St.lp, St.only, zap, zaa, getK]
  rcases c with _ | c
  ·rw [zpn hgz] at hc2
   rw [hc2] at hpan
   repeat' (first
  | (refine zah ?_; simp [hne, hne2, hmr, Ne.symm hmr])
  | (refine zak ?_; simp [hne, hne2, hmr, Ne.symm hmr])
  | (refine zai ?_; simp [hne, hne2, hmr, Ne.symm hmr])
  | (refine zag ?_; simp [hne, hne2, hmr, Ne.symm hmr])
  | (refine zas ?_; simp [hne, hne2, hmr, Ne.symm hmr])
  | (refine zba ?_; simp [zal])
  | fail)
   (refine hpan _ _ ⟨{ n := _, env := [], obs := [(m, mOb lets r g), (r, tOb t)], next := nx }, (Wk.cut rfl (by simp [hn]) (by simp [wkO, zaa, getK, zab, zac, Ob.under, D.under, zad, zaf, hm, hr, hne, hne2, hmr, Ne.symm hmr, zan] <;> (try omega)) (by simp [wkU, zap, zaa, getK, D.under, hm, hr, hne, hne2, hmr, Ne.symm hmr, zan] <;> (try omega)) (by simp [wkE, zap, zaa, getK, hm, hr, hne, hne2, hmr, Ne.symm hmr, zan] <;> (try omega))), (by simp [hn] <;> (try omega)), ?_⟩; try simp)
   all_goals simp [TM.ret, zco, chF]
  ·obtain ⟨l, hx⟩ : ∃ l, lets[c]? = some l := ⟨_, List.getElem?_eq_getElem (by omega)⟩
   obtain ⟨⟨v0, e0, d0⟩, hy⟩ : ∃ q, t[c]? = some q := ⟨_, List.getElem?_eq_getElem (by omega)⟩
   by_cases hs : l.name = s
   ·cases d0
    ·have hc3 := congrFun hc2 t
     rw [zot hgz hx hs hy] at hc3
     have hTT := fun nx' (h : nx ≤ nx') => hT c l (by omega) hx t nx' (by omega) (by omega) htab
     obtain ⟨k1, k2, k3⟩ := zhq hrb hgs c 12 l.body (hrb l (List.mem_of_getElem? hx)) t htab
     generalize zbp lets (gF g) c l.body t = w at *
     obtain ⟨res, t1⟩ := w
     have hlen1 := k1.len
     simp only at hlen1 k2 k3 hc3 hTT
     unfold za3 at hTT
     obtain ⟨⟨v1, e1, d1⟩, hz⟩ : ∃ q, t1[c]? = some q := ⟨_, List.getElem?_eq_getElem (by omega)⟩
     have hst : ∀ x : List D, ((t1.map fun x => [D.u (.int .i64 x.1), D.u (.int .i64 x.2.1), D.u (.bool x.2.2)]).set c x)[c]? = some x := fun x => List.getElem?_set_self (by simp; omega)
     have hcl : t1.length = lets.length := hlen1
     rcases res with er | v
     ·have her := k3 er rfl
      simp only [zcT, zfF, if_neg her] at hc3 hTT
      rw [hc3] at hpan
      repeat' (first
  | (refine zah ?_; simp [hne, hne2, hmr, Ne.symm hmr, hx, hy, hz, hs, her, zaw, hst, List.set_set])
  | (refine zak ?_; simp [hne, hne2, hmr, Ne.symm hmr, hx, hy, hz, hs, her, zaw, hst, List.set_set])
  | (refine ⟨by omega, ?_⟩)
  | (refine zai ?_; simp [hne, hne2, hmr, Ne.symm hmr, hx, hy, hz, hs, her, zaw, hst, List.set_set])
  | (refine zag ?_; simp [hne, hne2, hmr, Ne.symm hmr, hx, hy, hz, hs, her, zaw, hst, List.set_set])
  | (refine zas ?_; simp [hne, hne2, hmr, Ne.symm hmr, hx, hy, hz, hs, her, zaw, hst, List.set_set])
  | (refine zaq ?_; simp only [zal])
  | (refine ⟨?_, by omega⟩)
  | (refine CallP.okL (hTT _ (by first | omega | (simp; done) | (simp; omega) | fail)) (by first | (simp [hne, hne2, hmr, Ne.symm hmr, hx, hy, hz, hs, her, zaw, hst, List.set_set, zaa, getK, zab, zac, zaj, zat, del]; done) | fail) (by rfl) (by first | assumption | (simp; done) | fail) (by rfl) (by simp) ?_; (try simp [hne, hne2, hmr, Ne.symm hmr, hx, hy, hz, hs, her, zaw, hst, List.set_set, zbe, del]))
  | fail)
      (refine hpan _ _ ⟨{ n := _, env := [], obs := [(m, mOb lets r g), (r, tOb (t1.set c (0, er, true)))], next := nx }, (Wk.cut rfl (by simp [hn]) (by simp [wkO, zaa, getK, zab, zac, Ob.under, D.under, zad, zaf, hm, hr, hne, hne2, hmr, Ne.symm hmr, zan, zdH, zaw, List.map_set] <;> (try omega)) (by simp [wkU, zap, zaa, getK, D.under, hm, hr, hne, hne2, hmr, Ne.symm hmr, zan, zdH, zaw, List.map_set] <;> (try omega)) (by simp [wkE, zap, zaa, getK, hm, hr, hne, hne2, hmr, Ne.symm hmr, zan, zdH, zaw, List.map_set] <;> (try omega))), (by simp [hn] <;> (try omega)), ?_⟩; try simp)
      all_goals first | rfl | simp [zfF, zco, her, chF]
     ·simp only [zcT, zfF, if_true] at hc3 hTT
      rw [hc3]
      repeat' (first
  | (refine zah ?_; simp [hne, hne2, hmr, Ne.symm hmr, hx, hy, hz, hs, zaw, hst, List.set_set])
  | (refine zak ?_; simp [hne, hne2, hmr, Ne.symm hmr, hx, hy, hz, hs, zaw, hst, List.set_set])
  | (refine ⟨by omega, ?_⟩)
  | (refine zai ?_; simp [hne, hne2, hmr, Ne.symm hmr, hx, hy, hz, hs, zaw, hst, List.set_set])
  | (refine zag ?_; simp [hne, hne2, hmr, Ne.symm hmr, hx, hy, hz, hs, zaw, hst, List.set_set])
  | (refine zas ?_; simp [hne, hne2, hmr, Ne.symm hmr, hx, hy, hz, hs, zaw, hst, List.set_set])
  | (refine zar ?_; simp only [zal])
  | (refine zaq ?_; simp only [zal])
  | (refine ⟨?_, by omega⟩)
  | (refine CallP.okL (hTT _ (by first | omega | (simp; done) | (simp; omega) | fail)) (by first | (simp [hne, hne2, hmr, Ne.symm hmr, hx, hy, hz, hs, zaw, hst, List.set_set, zaa, getK, zab, zac, zaj, zat, del]; done) | fail) (by rfl) (by first | assumption | (simp; done) | fail) (by rfl) (by simp) ?_; (try simp [hne, hne2, hmr, Ne.symm hmr, hx, hy, hz, hs, zaw, hst, List.set_set, zbe, del]))
  | fail)
      (refine EndW.here ?_; (first | (refine EndOK.fin (.inr rfl) ?_) | (refine EndOK.fin (.inl rfl) ?_)); simp [zay, zae, Tryd.results74, hm, hr, hne, hne2, hmr, Ne.symm hmr, zan, zdH, zaw, List.map_set]; refine FinOK.cut [(m, mOb lets r g), (r, tOb (t1.set c (v, 0, true)))] (nx) (by simp [zaa, getK, zab, zac, Ob.under, D.under, zad, zaf, hm, hr, hne, hne2, hmr, Ne.symm hmr, zan, zdH, zaw, List.map_set] <;> omega) (by simp [D.under]) (by simp [hn]) ?_; try simp)
      all_goals first | rfl | simp [zfF, zco]
    ·have hc3 := congrFun hc2 t
     rw [zng hgz hx hs hy] at hc3
     rw [hc3] at hpan ⊢
     by_cases he : e0 = 0
     ·repeat' (first
  | (refine zah ?_; simp [hne, hne2, hmr, Ne.symm hmr, hx, hy, hs, he, zaw])
  | (refine zak ?_; simp [hne, hne2, hmr, Ne.symm hmr, hx, hy, hs, he, zaw])
  | (refine ⟨by omega, ?_⟩)
  | (refine zai ?_; simp [hne, hne2, hmr, Ne.symm hmr, hx, hy, hs, he, zaw])
  | (refine zag ?_; simp [hne, hne2, hmr, Ne.symm hmr, hx, hy, hs, he, zaw])
  | (refine zar ?_; simp only [zal])
  | (refine zaq ?_; simp only [zal])
  | (refine ⟨?_, by omega⟩)
  | fail)
      (refine EndW.here ?_; (first | (refine EndOK.fin (.inr rfl) ?_) | (refine EndOK.fin (.inl rfl) ?_)); simp [zay, zae, Tryd.results74, hm, hr, hne, hne2, hmr, Ne.symm hmr, zan, zaw]; refine FinOK.cut [(m, mOb lets r g), (r, tOb t)] (nx) (by simp [zaa, getK, zab, zac, Ob.under, D.under, zad, zaf, hm, hr, hne, hne2, hmr, Ne.symm hmr, zan, zaw] <;> omega) (by simp [D.under]) (by simp [hn]) ?_; try simp)
      all_goals first | rfl | simp [zfF, zco, he]
     ·repeat' (first
  | (refine zah ?_; simp [hne, hne2, hmr, Ne.symm hmr, hx, hy, hs, he, zaw])
  | (refine zak ?_; simp [hne, hne2, hmr, Ne.symm hmr, hx, hy, hs, he, zaw])
  | (refine ⟨by omega, ?_⟩)
  | (refine zai ?_; simp [hne, hne2, hmr, Ne.symm hmr, hx, hy, hs, he, zaw])
  | (refine zag ?_; simp [hne, hne2, hmr, Ne.symm hmr, hx, hy, hs, he, zaw])
  | (refine zas ?_; simp [hne, hne2, hmr, Ne.symm hmr, hx, hy, hs, he, zaw])
  | (refine zaq ?_; simp only [zal])
  | (refine ⟨?_, by omega⟩)
  | fail)
      (refine hpan _ _ ⟨{ n := _, env := [], obs := [(m, mOb lets r g), (r, tOb t)], next := nx }, (Wk.cut rfl (by simp [hn]) (by simp [wkO, zaa, getK, zab, zac, Ob.under, D.under, zad, zaf, hm, hr, hne, hne2, hmr, Ne.symm hmr, zan, zaw] <;> (try omega)) (by simp [wkU, zap, zaa, getK, D.under, hm, hr, hne, hne2, hmr, Ne.symm hmr, zan, zaw] <;> (try omega)) (by simp [wkE, zap, zaa, getK, hm, hr, hne, hne2, hmr, Ne.symm hmr, zan, zaw] <;> (try omega))), (by simp [hn] <;> (try omega)), ?_⟩; try simp)
      all_goals first | rfl | simp [zfF, zco, he, chF]
   ·rw [ziI hgz hx hs] at hc2
    repeat' (first
  | (refine zah ?_; simp [hne, hne2, hmr, Ne.symm hmr, hx, hs, zaw])
  | (refine zak ?_; simp [hne, hne2, hmr, Ne.symm hmr, hx, hs, zaw])
  | (refine ⟨by omega, ?_⟩)
  | (refine zai ?_; simp [hne, hne2, hmr, Ne.symm hmr, hx, hs, zaw])
  | (refine zag ?_; simp [hne, hne2, hmr, Ne.symm hmr, hx, hs, zaw])
  | (refine zas ?_; simp [hne, hne2, hmr, Ne.symm hmr, hx, hs, zaw])
  | (refine zaq ?_; simp only [zal])
  | (refine zba ?_; simp [zal])
  | fail)
    refine LoopW.next ⟨c, by omega, hc2⟩ (by simp) ?_
    exact (Wk.cut rfl (by simp [hn, St.lp]) (by simp [wkO, St.lp, zaa, getK, Ob.under, D.under, zad, zaf, hm, hr, hne, hne2, hmr, Ne.symm hmr, zan, zaw]) (by simp [wkU, St.lp, zap, zaa, getK, D.under, hm, hr, hne, hne2, hmr, Ne.symm hmr, zan, zaw]) (by simp [wkE, St.lp, zap, zaa, getK, hm, hr, hne, hne2, hmr, Ne.symm hmr, zan, zaw] <;> (try (intros; simp_all; done)) <;> (try (intros; omega)) <;> (try grind)))
 ·rw [hga] at hg
  simp only [Option.map_some] at hg
  rw [ziJ (by exact hga) n]
  simp only [TM.ret, zco]
  (refine RetX.of_bodyW Tryd.func74 rfl (by simp) fun Γ hn hpan => ?_); simp only [entry, List.zipIdx_cons, List.zipIdx_nil, List.map_cons, List.map_nil, Nat.zero_add, Tryd.ntmps74]
  repeat' (first
  | (refine zah ?_; simp [hne, hne2, hmr, Ne.symm hmr, hg])
  | (refine zak ?_; simp [hne, hne2, hmr, Ne.symm hmr, hg])
  | (refine zai ?_; simp [hne, hne2, hmr, Ne.symm hmr, hg])
  | (refine zag ?_; simp [hne, hne2, hmr, Ne.symm hmr, hg])
  | (refine zar ?_; simp only [zal])
  | fail)
  (refine EndW.here ?_; (first | (refine EndOK.fin (.inr rfl) ?_) | (refine EndOK.fin (.inl rfl) ?_)); simp [zay, zae, Tryd.results74, hm, hr, hne, hne2, hmr, Ne.symm hmr, zan]; refine FinOK.cut [(m, mOb lets r g), (r, tOb t)] (nx) (by simp [zaa, getK, zab, zac, Ob.under, D.under, zad, zaf, hm, hr, hne, hne2, hmr, Ne.symm hmr, zan] <;> omega) (by simp [D.under]) (by simp [hn]) ?_; try simp)
theorem zm6 (i j nx : Nat) (hi : i < nx) (hj : j < nx) (hij : i ≠ j) (v e : Int) :
  RetDf Tryd.prog 45 [.ptr i 0, .ptr j 0] [(i, .box [.u (.int .i64 v)]), (j, .box [.u (.int .i64 e)])] nx .returning
   (fun u o n => settle u = .returning ∧ n = nx ∧ o = [(i, .box [.u (.int .i64 v)]), (j, .box [.u (.int .i64 e)])]) := by
 have hne := nef hi
 have hne2 := nef hj
 refine RetDf.of_body Tryd.func45 rfl (by simp) (by simp) rfl fun Γ hn => ?_
 simp [entry, zjq, Tryd.ntmps45]
 repeat' (first
  | (refine zah ?_; simp [hne, hne2, hij, Ne.symm hij])
  | (refine zak ?_; simp [hne, hne2, hij, Ne.symm hij])
  | (refine zai ?_; simp [hne, hne2, hij, Ne.symm hij])
  | (refine zag ?_; simp [hne, hne2, hij, Ne.symm hij])
  | (refine zaq ?_; simp only [zal])
  | fail)
 (refine ⟨by simp, { n := _, env := [], obs := [(i, .box [.u (.int .i64 v)]), (j, .box [.u (.int .i64 e)])], next := nx }, (Wk.cut rfl (by simp [hn]) (by simp [wkO, zaa, getK, zab, zac, Ob.under, D.under, zad, zaf, hi, hj, hne, hne2, hij, Ne.symm hij]) (by simp [wkU, zap, zaa, getK, D.under, hi, hj, hne, hne2, hij, Ne.symm hij]) (by simp [wkE, zap, zaa, getK, hi, hj, hne, hne2, hij, Ne.symm hij])), by simp [hn], ?_⟩; try simp)
 all_goals rfl
theorem zm7 (i j nx : Nat) (hi : i < nx) (hj : j < nx) (hij : i ≠ j) (v e err : Int) :
  RetDf Tryd.prog 45 [.ptr i 0, .ptr j 0] [(i, .box [.u (.int .i64 v)]), (j, .box [.u (.int .i64 e)])] nx (.panicking (chF err))
   (fun u o n => settle u = .returning ∧ n = nx ∧ o = [(i, .box [.u (.int .i64 0)]), (j, .box [.u (.int .i64 err)])]) := by
 have hne := nef hi
 have hne2 := nef hj
 refine RetDf.of_body Tryd.func45 rfl (by simp) (by simp) rfl fun Γ hn => ?_
 simp [entry, zjq, chF, Tryd.ntmps45]
 repeat' (first
  | (refine zah ?_; simp [hne, hne2, hij, Ne.symm hij])
  | (refine zbo rfl ?_; simp [hne, hne2, hij, Ne.symm hij])
  | (refine zd7 rfl ?_; simp [hne, hne2, hij, Ne.symm hij])
  | (refine zak ?_; simp [hne, hne2, hij, Ne.symm hij])
  | (refine zai ?_; simp [hne, hne2, hij, Ne.symm hij])
  | (refine zag ?_; simp [hne, hne2, hij, Ne.symm hij])
  | (refine zb1 (hC _ (zbg [i, j] nx (by simp <;> omega) (by simp <;> omega) (by apply Exists.intro; apply And.intro; (focus (repeat' (first | exact KF.nil | exact KL.nil | apply KF.cons | apply KL.cons 0 rfl | apply KL.cons 1 rfl | apply KL.cons 2 rfl | apply KL.cons 3 rfl | apply KL.cons 4 rfl | apply KL.cons 5 rfl | apply KL.cons 6 rfl | apply KL.cons 7 rfl | apply KL.cons 8 rfl | apply KL.cons 9 rfl))); kernel_rfl))) (hk _ ?_); clear hC hk C k; simp only [zal])
  | (refine zbm rfl (by kernel_rfl) (by first | (simp [hn]; done) | (simp [hn]; omega) | fail) fun C k hC hk => ?_; simp [hne, hne2, hij, Ne.symm hij])
  | (refine zaq ?_; simp only [zal])
  | fail)
 (refine ⟨by simp, { n := _, env := [], obs := [(i, .box [.u (.int .i64 0)]), (j, .box [.u (.int .i64 err)])], next := nx }, (Wk.cut rfl (by simp [hn]) (by simp [wkO, zaa, getK, zab, zac, Ob.under, D.under, zad, zaf, hi, hj, hne, hne2, hij, Ne.symm hij]) (by simp [wkU, zap, zaa, getK, D.under, hi, hj, hne, hne2, hij, Ne.symm hij]) (by simp [wkE, zap, zaa, getK, hi, hj, hne, hne2, hij, Ne.symm hij])), by simp [hn], ?_⟩; try simp)
 all_goals rfl
theorem zlA {lets : List Let} {r : Nat} {g : GM} {m n : Nat} {e : Exp} (hV : zdt lets r g m n e) (hmr : m ≠ r) : zpC lets r g m n e := by
 intro t nx hm hr ht
 have hne := nef hm
 have hne2 := nef hr
 have hv := fun nx' (h : nx ≤ nx') => hV t nx' (by omega) (by omega) ht
 unfold za3 at hv ⊢
 rcases hvl : zbp lets (gF g) n e t with ⟨er | v, t1⟩
 ·simp only [hvl, zco, zcT] at hv ⊢
  (refine RetX.zdz Tryd.func27 rfl (by simp) fun Γ hn hdfr hpan hesc => ?_); simp only [entry, List.zipIdx_cons, List.zipIdx_nil, List.map_cons, List.map_nil, Nat.zero_add, Tryd.ntmps27]
  rw [zdm]
  repeat' (first
  | (refine zah ?_; simp [hne, hne2, hmr, Ne.symm hmr, Nat.add_assoc, del])
  | (refine zak ?_; simp [hne, hne2, hmr, Ne.symm hmr, Nat.add_assoc, del])
  | (refine zai ?_; simp [hne, hne2, hmr, Ne.symm hmr, Nat.add_assoc, del])
  | fail)
  refine zfv hesc hdfr rfl (by simp) ?_
  have hn0 := hn
  have hpan0 := hpan
  intro Γ' hn hpan
  simp
  repeat' (first
  | (refine zah ?_; simp [hne, hne2, hmr, Ne.symm hmr, Nat.add_assoc, del])
  | (refine zai ?_; simp [hne, hne2, hmr, Ne.symm hmr, Nat.add_assoc, del])
  | (refine CallP.zh5 (hv _ (by first | omega | (simp; done) | (simp; omega) | fail)) (by first | (simp [hne, hne2, hmr, Ne.symm hmr, Nat.add_assoc, del, zaa, getK, zab, zac, zaj, zat, del]; done) | fail) (by rfl) (by first | assumption | (simp; done) | fail) (by rfl) (by simp) ?_; refine ⟨_, Wk.refl _, ?_⟩; (try simp [hne, hne2, hmr, Ne.symm hmr, Nat.add_assoc, del, zbe, del]))
  | fail)
  refine hpan _ _ ?_
  refine LeaveD.of [(nx + 1, .box [.u (.int .i64 0)]), (nx + 2, .box [.u (.int .i64 0)])] (by simp [hne, hne2, zaa, getK, zab, zac]) (zm7 (nx + 1) (nx + 2) _ (by simp) (by simp) (by simp) 0 0 _) ?_
  simp only [show Γ.base.n0 = nx from hn0]
  simp [zbe, del, hne, hne2, hmr, Ne.symm hmr]
  (refine EndW.here ?_; (first | (refine EndOK.fin (.inr rfl) ?_) | (refine EndOK.fin (.inl rfl) ?_)); simp [zay, zae, Tryd.results27, hm, hr, hne, hne2, hmr, Ne.symm hmr, zan, zaw, Ctx.base, hn0]; refine FinOK.cut [(m, mOb lets r g), (r, tOb t1)] (nx) (by simp [zaa, getK, zab, zac, Ob.under, D.under, zad, zaf, hm, hr, hne, hne2, hmr, Ne.symm hmr, zan, zaw, Ctx.base, hn0] <;> omega) (by simp [D.under]) (by simp [hn]) ?_; try simp)
 ·simp only [hvl, zco, zcT] at hv ⊢
  (refine RetX.zdz Tryd.func27 rfl (by simp) fun Γ hn hdfr hpan hesc => ?_); simp only [entry, List.zipIdx_cons, List.zipIdx_nil, List.map_cons, List.map_nil, Nat.zero_add, Tryd.ntmps27]
  rw [zdm]
  repeat' (first
  | (refine zah ?_; simp [hne, hne2, hmr, Ne.symm hmr, Nat.add_assoc, del])
  | (refine zak ?_; simp [hne, hne2, hmr, Ne.symm hmr, Nat.add_assoc, del])
  | (refine zai ?_; simp [hne, hne2, hmr, Ne.symm hmr, Nat.add_assoc, del])
  | fail)
  refine zfv hesc hdfr rfl (by simp) ?_
  have hn0 := hn
  have hpan0 := hpan
  intro Γ' hn hpan
  simp
  repeat' (first
  | (refine zah ?_; simp [hne, hne2, hmr, Ne.symm hmr, Nat.add_assoc, del])
  | (refine zak ?_; simp [hne, hne2, hmr, Ne.symm hmr, Nat.add_assoc, del])
  | (refine zai ?_; simp [hne, hne2, hmr, Ne.symm hmr, Nat.add_assoc, del])
  | (refine zar ?_; simp only [zal])
  | (refine CallP.okL (hv _ (by first | omega | (simp; done) | (simp; omega) | fail)) (by first | (simp [hne, hne2, hmr, Ne.symm hmr, Nat.add_assoc, del, zaa, getK, zab, zac, zaj, zat, del]; done) | fail) (by rfl) (by first | assumption | (simp; done) | fail) (by rfl) (by simp) ?_; (try simp [hne, hne2, hmr, Ne.symm hmr, Nat.add_assoc, del, zbe, del]))
  | fail)
  refine ⟨rfl, ?_⟩
  refine LeaveD.of [(nx + 1, .box [.u (.int .i64 v)]), (nx + 2, .box [.u (.int .i64 0)])] (by simp [hne, hne2, zaa, getK, zab, zac]) (zm6 (nx + 1) (nx + 2) _ (by simp) (by simp) (by simp) v 0) ?_
  simp only [show Γ.base.n0 = nx from hn0]
  simp [zbe, del, hne, hne2, hmr, Ne.symm hmr]
  (refine EndW.here ?_; (first | (refine EndOK.fin (.inr rfl) ?_) | (refine EndOK.fin (.inl rfl) ?_)); simp [zay, zae, Tryd.results27, hm, hr, hne, hne2, hmr, Ne.symm hmr, zan, zaw, Ctx.base, hn0]; refine FinOK.cut [(m, mOb lets r g), (r, tOb t1)] (nx) (by simp [zaa, getK, zab, zac, Ob.under, D.under, zad, zaf, hm, hr, hne, hne2, hmr, Ne.symm hmr, zan, zaw, Ctx.base, hn0] <;> omega) (by simp [D.under]) (by simp [hn]) ?_; try simp)
end Go.Proofs.YtfcopibncpkdoaaDoor
