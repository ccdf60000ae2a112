/- The calculus of values: what a function puts off, and what recovers. -/
import Derived.Test.YtdkadmchdocjbaaVLW
set_option linter.all false
set_option maxRecDepth 100000
set_option maxHeartbeats 8000000
set_option linter.all false
namespace Go.VL
open Go
/-- Code at which a walk stops. -/
@[irreducible] def Hold (c : Code) : Code := c
theorem hold_eq (c : Code) : Hold c = c := by unfold Hold; rfl
theorem hold_defer {id : Nat} {o1 : Oper} {dst : Option Tmp} {cl : Call} {type : TypeId} {pos : String} {after : Array Edge} {guard : Option (Nat × Bool)} {rest : Code} :
    Code.seq (.region id #[o1, { dst, op := .defer cl, type, pos, after, guard }] false) rest = Hold (.seq (.region id #[o1, { dst, op := .defer cl, type, pos, after, guard }] false) rest) := (hold_eq _).symm

/-- What a deferred function does to the objects, and to the frame below. -/
def RetDf (P : Program) (g : FuncId) (caps : List D) (obs : List (Nat × Ob)) (nx : Nat) (u : FrameMode) (post : FrameMode → List (Nat × Ob) → Nat → Prop) : Prop :=
  ∀ (k : Kr) (own : Nat → Prop) (w : World) (vs : Array Value), Sat k own obs w → (∀ i, nx ≤ i → k.hdr i = none) → (∀ b, w.heap.size ≤ b → own b) → RepL k caps vs →
    CallsD P g vs u w fun e u' w' => ∃ v obs' nx' k', e = .returned v ∧ In (.of own k nx w) k' w' ∧ Sat k' own obs' w' ∧ (∀ i, nx' ≤ i → k'.hdr i = none) ∧ nx ≤ nx' ∧ post u' obs' nx'
theorem RetDf.mono {P g caps obs nx u} {p q : FrameMode → List (Nat × Ob) → Nat → Prop} (h : RetDf P g caps obs nx u p) (hq : ∀ u o n, p u o n → q u o n) : RetDf P g caps obs nx u q :=
  fun k own w vs h1 h2 h3 h4 => (h k own w vs h1 h2 h3 h4).mono fun _ _ _ ⟨v, o, n, k', e, a, b, c, d, hp⟩ => ⟨v, o, n, k', e, a, b, c, d, hq _ _ _ hp⟩
theorem RetDf.congr {P g caps obs obs' nx u post} (h : RetDf P g caps obs nx u post) (e : ∀ i, getK obs' i = getK obs i) : RetDf P g caps obs' nx u post :=
  fun k own w vs hsat hhdr hfresh hrep => h k own w vs (Sat.congr hsat fun i => (e i).symm) hhdr hfresh hrep
theorem RetDf.frame {P g caps obs nx u post} (F : List (Nat × Ob)) (hF : ∀ i ob, getK F i = some ob → getK obs i = none) (h : RetDf P g caps obs nx u post) :
    RetDf P g caps (F ++ obs) nx u (fun u o n => ∃ o1, o = F ++ o1 ∧ post u o1 n) := by
  intro k own w vs hsat hhdr hfresh hrep
  refine (h k _ w vs (frame_sat0 hF hsat) hhdr (frame_fresh hsat hfresh) hrep).mono ?_
  rintro e u' w' ⟨v, o1, n', k', he, hin, hs1, hh1, hle, hp⟩
  exact ⟨v, F ++ o1, n', k', he, frame_in hfresh hin, frame_sat hsat hin hs1, hh1, hle, o1, rfl, hp⟩

/-- Where a function leaves that has put off g: the deferred call makes its end good. -/
def LeaveD (P : Program) (Γb : Ctx) (fn : Func) (post : Out → List (Nat × Ob) → Nat → Prop) (g : FuncId) (caps : List D) (u : FrameMode) (s : St) : Prop :=
  RetDf P g caps s.obs s.next u fun u' o n => settle u' = .returning ∧ EndW P Γb fn Γb.n0 (fun d o n => post (.val d) o n) .ret { s with obs := o, next := n }
def EndD (P : Program) (Γb : Ctx) (fn : Func) (post : Out → List (Nat × Ob) → Nat → Prop) (g : FuncId) (caps : List D) (e : Exit) (s : St) : Prop := e = .ret ∧ LeaveD P Γb fn post g caps .returning s
theorem leaveD_run {P Γ Γ' fn post g caps u s K K1 a w w1} (hmode : u ≠ .run) (h : LeaveD P Γ.base fn post g caps u s) (hin1 : In Γ K1 w1) (hin : In Γ' K w) (hs : Sim K Γ'.own s a w) (ho : Γ'.own.own = Γ.own.own) (hk : Γ'.k0 = K1) (hn : ∀ i, Γ'.n0 ≤ i → K1.hdr i = none) (hw : Γ'.w0 = w1)
    (hc : callable P g = true) (vs : Array Value) (hrep : RepL K1 caps vs) :
    Leaves P fn a.tmps (RX Γ.base post) [{ target := .fn (.func g) vs, args := #[] }] u w := by
  have hle1 : K1.le K := by rw [← hk]; exact hin.le
  have hin0 : In Γ K w := hin1.step hle1 (fun b o v e => by have := hin.memNew b o v e; rw [hk, ho] at this; exact this) (by rw [hin.os, hw]) (by rw [hin.tape, hw]) (by rw [hin.output, hw]) (by have := hin.size; rw [hw] at this; exact this)
    (fun b hb => by have := hin.block b (by rw [ho]; exact hb); rw [hw] at this; exact this)
  refine leaves_cons (f := g) (args := vs) hmode ?_ ?_
  · unfold callable at hc
    split at hc
    · rename_i fn' hfn
      simp at hc
      obtain ⟨hb, hname⟩ := hc
      have hb' : fn'.body.isNone = false := by cases hbb : fn'.body <;> simp_all
      simp [invoke, callFunc, hfn, hb', hname]
      intro h0
      rw [h0] at hb
      simp at hb
    · cases hc
  · refine (h K Γ'.own.own w vs hs.sat hs.hdr (fun b hb => by rw [ho]; exact hin0.own_of_ge hb) ⟨hrep.1, fun j d hj => (hrep.2 j d hj).mono hle1⟩).mono ?_
    rintro e u' w' ⟨v, o, n, k', rfl, hin2, hsat, hhdr, hnx, hset, hend⟩
    rw [ho] at hin2 hsat
    have hin3 : In Γ k' w' := hin0.step hin2.le (fun b o v e => hin2.memNew b o v e) hin2.os hin2.tape hin2.output hin2.size hin2.block
    have hsim : Sim k' Γ.base.own ({ s with obs := o, next := n } : St) { a with defers := [] } w' := ⟨hsat, rfl, hs.size, fun x d hx => ⟨(hs.env x d hx).1, (hs.env x d hx).2.mono hin2.le⟩, hhdr⟩
    obtain ⟨v', h1, h2⟩ := endW_results (Γ := Γ.base) (post := post) hend (hin3.conv rfl rfl rfl rfl) hsim
    show Leaves P fn a.tmps (RX Γ.base post) [] (settle u') w'
    rw [hset]
    exact ⟨v', h1, h2⟩
/-- A function value is made and put off: what follows is walked in a context of its own. -/
theorem V_defer {P Γ fn post s Q kt id g t type pos after type2 pos2 after2 rest} {ts : Array TypeId} {caps : List Operand}
    (hesc : ∀ e a w', bodyPostD P fn (RX Γ.base post) e a w' → Γ.esc e a w') (hd : Γ.own.dfr = []) (hc : callable P g = true) (ht : t < s.n)
    (h : ∀ Γ' : Ctx, Γ'.n0 = s.next → (∀ ch s2, LeaveD P Γ.base fn post g (caps.map (opd s)) (.panicking ch) s2 → Γ'.pan ch s2) →
      V P Γ' rest (s.put (some t) (.fnc (.func g) (caps.map (opd s)))) (RunK P Γ' (EndD P Γ.base fn post g (caps.map (opd s))) .done)) :
    V P Γ (Hold (.seq (.region id #[{ dst := some t, op := .makeFunc (.func g) #[] caps.toArray, type := type, pos := pos, after := after, guard := none },
      { dst := none, op := .defer { callee := .value (.tmp t), args := #[], argTypes := ts }, type := type2, pos := pos2, after := after2, guard := none }] false) rest)) s (RunK P Γ Q kt) := by
  rw [hold_eq]
  intro K a w hin hs
  refine wp_seq (wp_region_lit ?_)
  have hrep : RepL K (caps.map (opd s)) (caps.map a.eval).toArray := ⟨by simp, fun j d hj => by have := listRep hs caps j d hj; simpa using this⟩
  have hfv : Rep K (.fnc (.func g) (caps.map (opd s))) (.func (.func g) #[] (caps.map a.eval).toArray) := .fnc _ _ _ (by simp) (listRep hs caps)
  have hts : t < a.tmps.size := by rw [hs.size]; exact ht
  refine wpList_plain rfl fun K1 hK1 => ?_
  have hrun1 : (execOp a.eval { dst := some t, op := .makeFunc (.func g) #[] caps.toArray, type := type, pos := pos, after := after, guard := none }).run P w = .ok (.value (.func (.func g) #[] (caps.map a.eval).toArray)) w := by
    simp [execOp, Instr.makeFunc]
  unfold Oper.wp
  rw [hrun1]
  refine hK1 _ _ (wpList_plain rfl fun K2 hK2 => ?_)
  generalize ha1 : (a.put (some t) (.func (.func g) #[] (caps.map a.eval).toArray)) = a1
  have hev : a1.eval (.tmp t) = .func (.func g) #[] (caps.map a.eval).toArray := by
    subst ha1
    simp [Act.eval, Act.put, hts]
  have hrun2 : (execOp a1.eval { dst := none, op := .defer { callee := .value (.tmp t), args := #[], argTypes := ts }, type := type2, pos := pos2, after := after2, guard := none }).run P w = .ok (.defer { target := .fn (.func g) (caps.map a.eval).toArray, args := #[] }) w := by
    simp [execOp, resolve, hev, Deferred.ofValue]
  unfold Oper.wp
  rw [hrun2]
  refine hK2 _ _ ?_
  let Γ' : Ctx := ⟨⟨Γ.own.own, [{ target := .fn (.func g) (caps.map a.eval).toArray, args := #[] }]⟩, K, s.next, w, fun ch s2 => LeaveD P Γ.base fn post g (caps.map (opd s)) (.panicking ch) s2, fun _ _ _ => False⟩
  have hin' : In Γ' K w := ⟨.refl _, hs.hdr, fun b o v e => .inl e, fun b hb => hin.own_of_ge hb, rfl, rfl, rfl, Nat.le_refl _, fun _ _ => rfl⟩
  have hs1 : Sim K Γ.own (s.put (some t) (.fnc (.func g) (caps.map (opd s)))) a1 w := by
    subst ha1
    exact hs.put (by simpa [putOK] using ht) hfv
  have hs' : Sim K Γ'.own (s.put (some t) (.fnc (.func g) (caps.map (opd s)))) (({ a1 with defers := { target := .fn (.func g) (caps.map a.eval).toArray, args := #[] } :: a1.defers } : Act).put none undef) w :=
    ⟨hs1.sat, by have := hs1.defers; rw [hd] at this; show _ :: a1.defers = _; rw [this], hs1.size, hs1.env, hs1.hdr⟩
  refine wp_mono (h Γ' rfl (fun ch s2 h => h) K _ w hin' hs') ?_
  rintro e a' w' (⟨K', s', h1, h2, h3⟩ | h3)
  · have hdf : a'.defers = [{ target := .fn (.func g) (caps.map a.eval).toArray, args := #[] }] := h2.defers
    have go : ∀ u, u ≠ .run → LeaveD P Γ.base fn post g (caps.map (opd s)) u s' → Leaves P fn a'.tmps (RX Γ.base post) a'.defers u w' := fun u hu hl => by
      rw [hdf]
      exact leaveD_run hu hl hin h1 h2 rfl rfl hs.hdr rfl hc _ hrep
    cases e with
    | panic ch => exact .inr ⟨trivial, hesc _ _ _ (go (.panicking ch) (by simp) h3)⟩
    | ret => exact .inr ⟨trivial, hesc _ _ _ (go .returning (by simp) h3.2)⟩
    | normal => exact absurd h3.1 (by simp)
    | exit i => exact absurd h3.1 (by simp)
    | goto i => exact absurd h3.1 (by simp)
    | outgrown => exact absurd h3.1 (by simp)
  · exact h3.2.elim

-- a function that recovers
def HS (P : Program) (Γ : Ctx) : List Oper → St → (St → Prop) → Prop
  | [], s, k => k s
  | o :: l, s, k => o.guard = none ∧ hstep P Γ o.dst o.op s fun s' => HS P Γ l s' k
theorem hs_ops {P Γ cs} {Q : Exit → Act → List Frame → World → Prop} {k : St → Prop} (ops : Array Oper) : ∀ (l : List Oper) (i : Nat) (s : St) (K : Kr) (a : Act) (w : World), (∀ j, ops[i + j]? = l[j]?) → HS P Γ l s k → In Γ K w → Sim K Γ.own s a w →
    (∀ K' a' w' s', In Γ K' w' → Sim K' Γ.own s' a' w' → k s' → Q .normal a' cs w') → (∀ ch K' a' w' s', In Γ K' w' → Sim K' Γ.own s' a' w' → Γ.pan ch s' → Q (.panic ch) a' cs w') →
    wpOpsS P ops Q (List.range' i l.length) a cs w
  | [], i, s, K, a, w, _, h, hin, hs, hQ, _ => by simpa [wpOpsS] using hQ K a w s hin hs h
  | o :: l, i, s, K, a, w, ho, h, hin, hs, hQ, hP => by
    have h0 : ops[i]? = some o := by simpa using ho 0
    obtain ⟨hg, hst⟩ := h
    rw [List.length_cons, List.range'_succ]
    unfold wpOpsS
    rw [h0]
    simp only [Region.wanted, hg, if_true]
    have hw := hstep_effG hst K a w hin hs (fun a' w' => wpOpsS P ops Q (List.range' (i + 1) l.length) a' cs w') (fun e a' w' => Q e a' cs w')
      (fun K' a' w' s' h1 h2 h3 => hs_ops ops l (i + 1) s' K' a' w' (fun j => by have := ho (j + 1); simpa [Nat.add_assoc, Nat.add_comm 1 j] using this) h3 h1 h2 hQ hP) hP
    unfold Oper.wp at hw
    split
    · rename_i w' hr
      rw [hr] at hw
      exact hw.elim
    · exact hw
/-- What recover hands out, and how the frame below goes on. -/
def recU : FrameMode → Value × FrameMode
  | .panicking ({ v, recovered := false, goexit := false } :: older) => (v, .panicking ({ v, recovered := true } :: older))
  | u => (.nilIface, u)
def EndR (Γ : Ctx) (post : FrameMode → List (Nat × Ob) → Nat → Prop) (u' : FrameMode) (e : Exit) (s : St) : Prop := (e = .normal ∨ e = .ret) ∧ ∃ s', Wk Γ s s' ∧ Γ.n0 ≤ s'.next ∧ post u' s'.obs s'.next
theorem RetDf.of_body {P g fn caps obs nx u post id x type pos after l rest} (hf : P.funcs[g]? = some fn)
    (hb : fn.body = some (.seq (.region id ({ dst := some x, op := .call { callee := .builtin .recover, args := #[], argTypes := #[] }, type := type, pos := pos, after := after, guard := none } :: l : List Oper).toArray false) rest))
    (hn : caps.length ≤ fn.ntmps) (hx : x < fn.ntmps) (hres : fn.results = #[])
    (h : ∀ Γ : Ctx, Γ.n0 = nx → HS P Γ l ((entry caps fn.ntmps obs nx).put (some x) (.u (.oth (recU u).1))) fun s' => V P Γ rest s' (RunK P Γ (EndR Γ post (recU u).2) .done)) : RetDf P g caps obs nx u post := by
  intro k own w vs hsat hhdr hfresh hrep
  have hsz : vs.size = caps.length := hrep.1
  let Γ : Ctx := .of own k nx w
  have hin : In Γ k w := ⟨.refl _, hhdr, fun b o v e => .inl e, hfresh, rfl, rfl, rfl, Nat.le_refl _, fun _ _ => rfl⟩
  have hs : Sim k Γ.own (entry caps fn.ntmps obs nx) { tmps := vs ++ Array.replicate (fn.ntmps - vs.size) undef, defers := [] } w := by
    refine ⟨hsat, rfl, ?_, fun y d hy => ?_, hhdr⟩
    · simp [entry, hsz]; omega
    · simp only [entry, getK_zipIdx, Nat.zero_le, if_true, Nat.sub_zero] at hy
      have hlt := (List.getElem?_eq_some_iff.1 hy).1
      refine ⟨by simp [entry]; omega, ?_⟩
      have := hrep.2 y d hy
      have e : (vs ++ Array.replicate (fn.ntmps - vs.size) undef).getD y undef = vs.getD y undef := by
        simp [Array.getElem?_append, show y < vs.size by omega]
      rw [e]
      exact this
  refine callsD_of_wpS hf hb fun c0 cs hm => wpS_seq (wpS_region ?_)
  have hsize : ({ dst := some x, op := .call { callee := .builtin .recover, args := #[], argTypes := #[] }, type := type, pos := pos, after := after, guard := none } :: l : List Oper).toArray.size = l.length + 1 := by simp
  rw [hsize, List.range_eq_range', List.range'_succ]
  generalize hops : ({ dst := some x, op := .call { callee := .builtin .recover, args := #[], argTypes := #[] }, type := type, pos := pos, after := after, guard := none } :: l : List Oper).toArray = ops
  have h0 : ops[0]? = some { dst := some x, op := .call { callee := .builtin .recover, args := #[], argTypes := #[] }, type := type, pos := pos, after := after, guard := none } := by rw [← hops]; simp
  unfold wpOpsS
  rw [h0]
  have hrun : ∀ ρ : Operand → Value, (execOp ρ { dst := some x, op := .call { callee := .builtin .recover, args := #[], argTypes := #[] }, type := type, pos := pos, after := after, guard := none }).run P w = .ok .recover w := fun ρ => by
    simp [execOp, resolve, invoke, builtin]
  simp only [Region.wanted, if_true, hrun]
  have hrec : recoverD (c0 :: cs) = some ((recU u).1, { c0 with mode := (recU u).2 } :: cs) ∨ (recoverD (c0 :: cs) = none ∧ (recU u).1 = .nilIface ∧ { c0 with mode := (recU u).2 } = c0) := by
    subst hm
    have same : ∀ m, c0.mode = m → ({ c0 with mode := m } : Frame) = c0 := fun m h => by rw [← h]
    cases hmo : c0.mode with
    | run => exact .inr ⟨by simp [recoverD, hmo], rfl, same _ hmo⟩
    | returning => exact .inr ⟨by simp [recoverD, hmo], rfl, same _ hmo⟩
    | panicking ch =>
      cases ch with
      | nil => exact .inr ⟨by simp [recoverD, hmo], rfl, same _ hmo⟩
      | cons e older =>
        obtain ⟨v, r, g⟩ := e
        cases r <;> cases g
        · exact .inl (by simp [recoverD, hmo, recU])
        · exact .inr ⟨by simp [recoverD, hmo], rfl, same _ hmo⟩
        · exact .inr ⟨by simp [recoverD, hmo], rfl, same _ hmo⟩
        · exact .inr ⟨by simp [recoverD, hmo], rfl, same _ hmo⟩
  have main : wpOpsS P ops (Exit.thenS (rest.wpS P (bodyPostS P fn c0 cs fun e u' w' => ∃ v obs' nx' k', e = .returned v ∧ In (.of own k nx w) k' w' ∧ Sat k' own obs' w' ∧ (∀ i, nx' ≤ i → k'.hdr i = none) ∧ nx ≤ nx' ∧ post u' obs' nx'))
      (bodyPostS P fn c0 cs fun e u' w' => ∃ v obs' nx' k', e = .returned v ∧ In (.of own k nx w) k' w' ∧ Sat k' own obs' w' ∧ (∀ i, nx' ≤ i → k'.hdr i = none) ∧ nx ≤ nx' ∧ post u' obs' nx')) (List.range' (0 + 1) l.length)
      (Act.put { tmps := vs ++ Array.replicate (fn.ntmps - vs.size) undef, defers := [] } (some x) (recU u).1) ({ c0 with mode := (recU u).2 } :: cs) w := by
    refine hs_ops ops l (0 + 1) _ k _ w (fun j => by rw [← hops]; simp [Nat.add_comm 1 j]) (h Γ rfl) hin (hs.put (by simpa [putOK, entry] using hx) (.u _ _ (.oth _))) (fun K' a' w' s' h1 h2 h3 => ?_) (fun ch K' a' w' s' _ _ h3 => h3.elim)
    refine wpS_of_wp (wp_mono (h3 K' a' w' h1 h2) ?_)
    rintro e a2 w2 (⟨K2, s2, g1, g2, g3⟩ | g3)
    · have hd2 : a2.defers = [] := g2.defers
      have fin : EndR Γ post (recU u).2 e s2 → a2.defers = [] ∧ ∃ u', ({ c0 with mode := (recU u).2 } :: cs : List Frame) = { c0 with mode := u' } :: cs ∧ ∃ v, (results fn a2.tmps).run P w2 = .ok v w2 ∧
          ∃ v' obs' nx' k', Ending.returned v = .returned v' ∧ In (.of own k nx w) k' w2 ∧ Sat k' own obs' w2 ∧ (∀ i, nx' ≤ i → k'.hdr i = none) ∧ nx ≤ nx' ∧ post u' obs' nx' := fun ⟨_, s3, hw, hnx, hp⟩ => by
        obtain ⟨K3, q1, q2⟩ := hw K2 a2 w2 g1 g2
        exact ⟨hd2, _, rfl, .tuple #[], by simp [results, hres], _, s3.obs, s3.next, K3, rfl, q1, q2.sat, q2.hdr, hnx, hp⟩
      cases e with
      | normal => exact fin g3
      | ret => exact fin g3
      | panic ch => exact g3.elim
      | exit i => rcases g3.1 with h | h <;> cases h
      | goto i => rcases g3.1 with h | h <;> cases h
      | outgrown => rcases g3.1 with h | h <;> cases h
    · exact g3.2.elim
  rcases hrec with hr | ⟨hr, h1, h2⟩
  · rw [hr]
    exact main
  · rw [hr]
    rw [h1, h2] at main
    exact main
end Go.VL
