import Derived.Test.YtkdhmbhbbciedaaGreatDoorT4
import Derived.Lib.ItoaLen
import Derived.Lib.ItoaNum
import Derived.Lib.AtoiAllCases
import Derived.Lib.Bytealg
set_option linter.all false
set_option maxRecDepth 100000
set_option maxHeartbeats 8000000
namespace Go.Proofs.YtkdhmbhbbciedaaGreatDoor
open Go Go.VL
abbrev Ins := Vm.Ins
abbrev Code := List Ins
def zcg (c : Code) (i : Ins) : Code := if c.length <= 2000 then c ++ [i] else c
def zdC (c : Code) (j : Nat) : Code := match c[j]? with | some x => c.set j { x with a := c.length } | none => c
def zdy (c : Code) : Code := zcg (zcg c ⟨11, 0, []⟩) ⟨11, 0, []⟩
def zbW (A B D : Code -> Code) (c : Code) : Code :=
 zdC (D (zdC (zcg (B (zcg (A c) ⟨13, 0, []⟩)) ⟨12, 0, []⟩) ((zcg (A c) ⟨13, 0, []⟩).length - 1))) ((zcg (B (zcg (A c) ⟨13, 0, []⟩)) ⟨12, 0, []⟩).length - 1)
def zbl (sh : Exp -> Bool) (op : Int) (args : List Exp) : Int :=
 if op = 2 then 2 else if op = 3 then 3 else if op = 5 then 5 else if op = 6 then 7 else if op = 7 then 8 else if op = 8 then 9 else if op = 9 then 10 else if op = 12 then 11
 else if (args.take 2).any sh = true then 6 else 4
mutual
def zf9 (nm : List UInt8 -> Code -> Code) (sh : Exp -> Bool) : Exp -> Code -> Code
 | .mk op n _ s args => fun c =>
  if 2000 < c.length then c
  else if op = 0 then zcg c ⟨0, n, []⟩
  else if op = 1 then nm s c
  else if op = 10 then zbW (zfY nm sh args 0) (fun c => zdy (zfY nm sh args 1 c)) (fun c => zcg c ⟨0, 0, []⟩) c
  else if op = 11 then zbW (zfY nm sh args 0) (fun c => zcg c ⟨0, 1, []⟩) (fun c => zdy (zfY nm sh args 1 c)) c
  else if op = 13 then zbW (zfY nm sh args 0) (zfY nm sh args 1) (zfY nm sh args 2) c
  else zcg (zgq nm sh args c) ⟨zbl sh op args, 0, []⟩
def zfY (nm : List UInt8 -> Code -> Code) (sh : Exp -> Bool) : List Exp -> Nat -> Code -> Code
 | [], _ => fun c => c
 | e :: _, 0 => zf9 nm sh e
 | _ :: r, i + 1 => zfY nm sh r i
def zgq (nm : List UInt8 -> Code -> Code) (sh : Exp -> Bool) : List Exp -> Code -> Code
 | [] => fun c => c
 | e :: r => fun c => zgq nm sh r (zf9 nm sh e c)
end
theorem zgF (nm sh) (e : Exp) (c : Code) : zf9 nm sh e c = if 2000 < c.length then c
  else if e.op = 0 then zcg c ⟨0, e.n, []⟩
  else if e.op = 1 then nm e.s c
  else if e.op = 10 then zbW (zfY nm sh e.args 0) (fun c => zdy (zfY nm sh e.args 1 c)) (fun c => zcg c ⟨0, 0, []⟩) c
  else if e.op = 11 then zbW (zfY nm sh e.args 0) (fun c => zcg c ⟨0, 1, []⟩) (fun c => zdy (zfY nm sh e.args 1 c)) c
  else if e.op = 13 then zbW (zfY nm sh e.args 0) (zfY nm sh e.args 1) (zfY nm sh e.args 2) c
  else zcg (zgq nm sh e.args c) ⟨zbl sh e.op e.args, 0, []⟩ := by
 cases e with | mk op n u s args => rw [zf9]; rfl
def nmC (lets : List Let) (sh : Nat -> Exp -> Bool) : Nat -> List UInt8 -> Code -> Code
 | 0, s => fun c => zcg c ⟨1, 0, s⟩
 | n + 1, s => match lets[n]? with
  | none => fun c => zcg c ⟨1, 0, s⟩
  | some l => if l.name = s then zf9 (nmC lets sh n) (sh n) l.body else nmC lets sh n s
def Pre (F : Code -> Code) : Prop := ∀ c : Code, c.length <= (F c).length /\ ∀ i, i < c.length -> (F c)[i]? = c[i]?
theorem Pre.id : Pre fun c => c := fun c => ⟨Nat.le_refl _, fun _ _ => rfl⟩
theorem zcK (x : Ins) (c : Code) : c.length <= (zcg c x).length /\ ∀ i, i < c.length -> (zcg c x)[i]? = c[i]? := by
 unfold zcg;split
 ·exact ⟨by simp, fun i hi => by rw [List.getElem?_append_left hi]⟩
 ·exact ⟨Nat.le_refl _, fun _ _ => rfl⟩
theorem Pre.put (x : Ins) : Pre fun c => zcg c x := fun c => zcK x c
theorem Pre.comp {F G : Code -> Code} (hF : Pre F) (hG : Pre G) : Pre fun c => G (F c) := fun c => by
 obtain ⟨h1, h2⟩ := hF c;obtain ⟨h3, h4⟩ := hG (F c);exact ⟨Nat.le_trans h1 h3, fun i hi => (h4 i (by omega)).trans (h2 i hi)⟩
theorem zbG (c : Code) (j : Nat) : (zdC c j).length = c.length := by
 unfold zdC;split <;> simp
theorem zcT (c : Code) (j i : Nat) (h : i ≠ j) : (zdC c j)[i]? = c[i]? := by
 unfold zdC;split
 ·rw [List.getElem?_set]; simp [Ne.symm h]
 ·rfl
theorem zhj {c : Code} {j : Nat} {x : Ins} (h : c[j]? = some x) : (zdC c j)[j]? = some { x with a := c.length } := by
 unfold zdC;rw [h];have := (List.getElem?_eq_some_iff.1 h).1;simp [this]
theorem zfr (c : Code) (x : Ins) : (zcg c x).length = if c.length <= 2000 then c.length + 1 else c.length := by
 unfold zcg; split <;> simp
theorem zep (c : Code) (x : Ins) : 0 < (zcg c x).length := by rw [zfr]; split <;> omega
theorem Pre.choice {A B D : Code -> Code} (hA : Pre A) (hB : Pre B) (hD : Pre D) (c : Code) (hc2 : c.length <= 2000) : c.length <= (zbW A B D c).length /\ ∀ i, i < c.length -> (zbW A B D c)[i]? = c[i]? := by
 unfold zbW;obtain ⟨a1, a2⟩ := hA c;obtain ⟨p1, p2⟩ := zcK ⟨13, 0, []⟩ (A c);have k1 := zfr (A c) ⟨13, 0, []⟩;generalize zcg (A c) ⟨13, 0, []⟩ = c2 at *;obtain ⟨b1, b2⟩ := hB c2;obtain ⟨q1, q2⟩ := zcK ⟨12, 0, []⟩ (B c2);have k2 := zfr (B c2) ⟨12, 0, []⟩;generalize zcg (B c2) ⟨12, 0, []⟩ = c4 at *;obtain ⟨d1, d2⟩ := hD (zdC c4 (c2.length - 1));rw [zbG] at d1 d2;rw [zbG];have k3 : c.length <= c2.length - 1 := by split at k1 <;> omega
 have k4 : c.length <= c4.length - 1 := by split at k2 <;> split at k1 <;> omega
 refine ⟨by omega, fun i hi => ?_⟩;rw [zcT _ _ _ (by omega), d2 i (by omega), zcT _ _ _ (by omega), q2 i (by omega), b2 i (by omega), p2 i (by omega), a2 i hi]
theorem Pre.truth : Pre zdy := (Pre.put _).comp (Pre.put _)
mutual
theorem zhl {nm : List UInt8 -> Code -> Code} {sh : Exp -> Bool} (hn : ∀ s, Pre (nm s)) : ∀ e : Exp, Pre (zf9 nm sh e)
 | .mk op n u s args => fun c => by
  have h := fun i => zm2 (sh := sh) hn args i;have hA := zm5 (sh := sh) hn args;rw [zf9];simp only;split
  ·exact Pre.id c
  rename_i hc2;have hc3 : c.length <= 2000 := by omega
  split
  ·exact Pre.put _ c
  split
  ·exact hn s c
  split
  ·exact Pre.choice (h 0) ((h 1).comp Pre.truth) (Pre.put _) c hc3
  split
  ·exact Pre.choice (h 0) (Pre.put _) ((h 1).comp Pre.truth) c hc3
  split
  ·exact Pre.choice (h 0) (h 1) (h 2) c hc3
  ·exact (hA.comp (Pre.put _)) c
theorem zm2 {nm : List UInt8 -> Code -> Code} {sh : Exp -> Bool} (hn : ∀ s, Pre (nm s)) : ∀ (l : List Exp) (i : Nat), Pre (zfY nm sh l i)
 | [], i => by rw [zfY]; exact Pre.id
 | e :: l, 0 => by rw [zfY]; exact zhl hn e
 | e :: l, i + 1 => by rw [zfY]; exact zm2 hn l i
theorem zm5 {nm : List UInt8 -> Code -> Code} {sh : Exp -> Bool} (hn : ∀ s, Pre (nm s)) : ∀ (l : List Exp), Pre (zgq nm sh l)
 | [] => by rw [zgq]; exact Pre.id
 | e :: l => by rw [zgq]; exact (zhl hn e).comp (zm5 hn l)
end
theorem zlX {lets sh} : ∀ (n : Nat) (s : List UInt8), Pre (nmC lets sh n s)
 | 0, s => by rw [nmC]; exact Pre.put _
 | n + 1, s => by
  rw [nmC];split
  ·exact Pre.put _
  ·split
   ·exact zhl (zlX n) _
   ·exact zlX n s
open Vm in
def Steps (C : Code) (vs : List Vm.Var) (q : Nat) (m m' : Mach) : Prop := ∀ (fuel : Int) (K : Nat) (n : Int), zsu C vs fuel (q + K) n m = zsu C vs fuel K (n + q) m'
open Vm in
def Ends (C : Code) (vs : List Vm.Var) (q : Nat) (m : Mach) (v e : Int) : Prop := ∀ (fuel : Int) (K : Nat) (n : Int), zsu C vs fuel (q + K) n m = (v, n + q, e)
section
open Vm
variable {C : Code} {vs : List Vm.Var} {m m' m'' : Mach} {q q' : Nat} {v e : Int}
theorem Steps.zero : Steps C vs 0 m m := fun fuel K n => by simp
theorem Steps.trans (h : Steps C vs q m m') (g : Steps C vs q' m' m'') : Steps C vs (q + q') m m'' := fun fuel K n => by
 rw [show q + q' + K = q + (q' + K) by omega, h, g]
 congr 1
 omega
theorem Steps.ends (h : Steps C vs q m m') (g : Ends C vs q' m' v e) : Ends C vs (q + q') m v e := fun fuel K n => by
 rw [show q + q' + K = q + (q' + K) by omega, h, g];simp;omega
theorem Steps.one (h : zns C vs m = m') (hm : m'.en = false) : Steps C vs 1 m m' := fun fuel K n => by
 rw [show 1 + K = K + 1 by omega, zsu];simp [h, hm]
theorem Ends.one (h : zns C vs m = m') (hm : m'.en = true) : Ends C vs 1 m m'.va m'.er := fun fuel K n => by
 rw [show 1 + K = K + 1 by omega, zsu];simp [h, hm]
end
abbrev at_ (p : Nat) (S : List Int) (va er : Int) : Vm.Mach := ⟨p, S, false, va, er⟩
def okS (S : List Int) : Prop := ∀ x ∈ S, Vm.okv x = true
theorem okS.snoc {S : List Int} {x : Int} (h : okS S) (hx : Vm.okv x = true) : okS (S ++ [x]) := fun y hy => by
 rcases List.mem_append.1 hy with hy | hy
 ·exact h y hy
 ·simp at hy; subst hy; exact hx
section
open Vm
theorem zjh {C : Code} {vs : List Vm.Var} {p : Nat} {S : List Int} {va er : Int} {i : Ins} (hi : C[p]? = some i) (hop : 0 <= i.op /\ i.op < 15) (hl : zkT i.op <= S.length) (hS : okS S) : zns C vs (at_ p S va er) = zgt vs (at_ p S va er) i := by
 rw [zqV (c := i) (by simp) (by simpa using hi), if_neg];rintro (h | h | h | h)
 ·omega
 ·omega
 ·simp only at h; omega
 ·obtain ⟨x, hx, h⟩ := List.any_eq_true.1 h;rw [hS x hx] at h;cases h
theorem zkQ {x : Int} (h : inC x) : okv x = true := by unfold inC at h; simp [okv, h]
variable {C : Code} {vs : List Vm.Var} {p : Nat} {S : List Int} {va er : Int}
theorem zqX {s : List UInt8} (hi : C[p]? = some ⟨1, 0, s⟩) (hS : okS S) : match vs.find? fun v => decide (v.name = s) with
  | none => Ends C vs 1 (at_ p S va er) 0 13
  | some v => if okv v.n = true then Steps C vs 1 (at_ p S va er) (at_ (p + 1) (S ++ [v.n]) va er) else Ends C vs 1 (at_ p S va er) 0 3 := by
 have h := zjh (va := va) (er := er) (vs := vs) hi (by simp) (by simp [zkT]) hS;cases hf : vs.find? fun v => decide (v.name = s) with
 | none =>
  have h2 : zgt vs (at_ p S va er) ⟨1, 0, s⟩ = (at_ p S va er).fin 0 13 := by simp [zgt, hf]
  rw [h2] at h;have := Ends.one h (by simp [Mach.fin]);simpa [Mach.fin] using this
 | some v =>
  have h2 : zgt vs (at_ p S va er) ⟨1, 0, s⟩ = (at_ p S va er).push v.n := by simp [zgt, hf]
  rw [h2] at h;simp only;split
  ·rename_i ha;have z := Steps.one h (by simp [Mach.push, ha]);have e : (at_ p S va er).push v.n = at_ (p + 1) (S ++ [v.n]) va er := by simp [Mach.push, ha]
   rw [e] at z;exact z
  ·rename_i ha;have := Ends.one h (by simp [Mach.push, ha, Mach.fin]);simpa [Mach.push, ha, Mach.fin] using this
theorem zqY {a : Nat} (hi : C[p]? = some ⟨12, a, []⟩) (hS : okS S) : Steps C vs 1 (at_ p S va er) (at_ a S va er) := by
 have h := zjh (va := va) (er := er) (vs := vs) hi (by simp) (by simp [zkT]) hS;have h2 : zgt vs (at_ p S va er) ⟨12, a, []⟩ = at_ a S va er := by simp [zgt]
 rw [h2] at h;exact Steps.one h rfl
theorem zvE {x : Int} : (at_ p (S ++ [x]) va er).top 0 = x := by simp [Mach.top]
theorem zup {x : Int} : (at_ p (S ++ [x]) va er).drop 1 = at_ p S va er := by simp [Mach.drop]
theorem zo3 {a : Nat} {x : Int} (hi : C[p]? = some ⟨13, a, []⟩) (hS : okS S) (hx : inC x) : Steps C vs 1 (at_ p (S ++ [x]) va er) (at_ (if x = 0 then a else p + 1) S va er) := by
 have h := zjh (va := va) (er := er) (vs := vs) hi (by simp) (by simp [zkT]; omega) (hS.snoc (zkQ hx));have h2 : zgt vs (at_ p (S ++ [x]) va er) ⟨13, a, []⟩ = at_ (if x = 0 then a else p + 1) S va er := by
  simp only [zgt, zvE, zup];simp;split <;> simp
 rw [h2] at h;exact Steps.one h rfl
theorem zsW {x : Int} (hi : C[p]? = some ⟨11, 0, []⟩) (hS : okS S) (hx : inC x) : Steps C vs 1 (at_ p (S ++ [x]) va er) (at_ (p + 1) (S ++ [zdI (decide (x = 0))]) va er) := by
 have h := zjh (va := va) (er := er) (vs := vs) hi (by simp) (by simp [zkT]; omega) (hS.snoc (zkQ hx));have h3 : okv (zdI (decide (x = 0))) = true := zkQ (zkc _);have h2 : zgt vs (at_ p (S ++ [x]) va er) ⟨11, 0, []⟩ = at_ (p + 1) (S ++ [zdI (decide (x = 0))]) va er := by
  have h4 : Pm.truth (decide (x = 0)) = zdI (decide (x = 0)) := by unfold Pm.truth zdI; rfl
  simp only [zgt, zvE, zup, h4];simp [Mach.push, h3]
 rw [h2] at h;exact Steps.one h rfl
end
def Res (C : Code) (vs : List Vm.Var) (p p' : Nat) (S : List Int) (r : Except Int Int) : Prop := ∀ va er, match r with
 | .ok v => inC v /\ ∃ q, q <= p' - p /\ Steps C vs q (at_ p S va er) (at_ p' (S ++ [v]) va er)
 | .error e => ∃ q, q <= p' - p /\ Ends C vs q (at_ p S va er) 0 e
def Does (vs : List Vm.Var) (F : Code -> Code) (r : Except Int Int) : Prop := ∀ (c C : Code) (S : List Int), (F c).length <= 2000 -> (∀ i, c.length <= i -> i < (F c).length -> C[i]? = (F c)[i]?) -> okS S -> Res C vs c.length (F c).length S r
theorem zeZ {c : Code} {x : Ins} (h : (zcg c x).length <= 2000) : c.length <= 1999 /\ (zcg c x).length = c.length + 1 /\ (zcg c x)[c.length]? = some x /\ ∀ i, i < c.length -> (zcg c x)[i]? = c[i]? := by
 have h1 := zfr c x;have h2 : c.length <= 1999 := by split at h1 <;> omega
 refine ⟨h2, by rw [h1, if_pos (by omega)], ?_, (zcK x c).2⟩;unfold zcg;rw [if_pos (by omega)];simp
abbrev zqn (r : Except Int Int) (f : Int -> Except Int Int) : Except Int Int := match r with | .error e => .error e | .ok a => f a
theorem Does.name {vs} (s : List UInt8) (hvs : ∀ v ∈ vs, inC v.n) : Does vs (fun c => zcg c ⟨1, 0, s⟩) (match vs.find? fun v => decide (v.name = s) with | none => .error 13 | some v => .ok v.n) := fun c C S hl hC hS => by
 simp only at hl hC ⊢;intro va er;obtain ⟨h1, h2, h3, _⟩ := zeZ hl;have hi : C[c.length]? = some ⟨1, 0, s⟩ := by rw [hC _ (Nat.le_refl _) (by omega)]; exact h3
 have := zqX (vs := vs) (va := va) (er := er) hi hS;cases hf : vs.find? fun v => decide (v.name = s) with
 | none =>
  rw [hf] at this;exact ⟨1, by omega, this⟩
 | some v =>
  rw [hf] at this;have hin := hvs v (List.mem_of_find?_eq_some hf);simp only at this;rw [if_pos (zkQ hin)] at this;exact ⟨hin, 1, by omega, by rw [h2]; exact this⟩
theorem Does.err {vs F r e} (h : r = .error e) (g : Does vs F r) {c C S} (hl : (F c).length <= 2000) (hC : ∀ i, c.length <= i -> i < (F c).length -> C[i]? = (F c)[i]?) (hS : okS S) (va er : Int) : ∃ q, q <= (F c).length - c.length /\ Ends C vs q (at_ c.length S va er) 0 e := by
 subst h; exact g c C S hl hC hS va er
theorem Does.ok {vs F r v} (h : r = .ok v) (g : Does vs F r) {c C S} (hl : (F c).length <= 2000) (hC : ∀ i, c.length <= i -> i < (F c).length -> C[i]? = (F c)[i]?) (hS : okS S) (va er : Int) : inC v /\ ∃ q, q <= (F c).length - c.length /\ Steps C vs q (at_ c.length S va er) (at_ (F c).length (S ++ [v]) va er) := by
 subst h; exact g c C S hl hC hS va er
theorem Does.cast {vs F r r'} (h : Does vs F r) (e : r = r') : Does vs F r' := e ▸ h
theorem Does.not {vs F ra} (hF : Does vs F ra) (pF : Pre F) : Does vs (fun c => zcg (F c) ⟨11, 0, []⟩) (zqn ra fun a => .ok (zdI (decide (a = 0)))) := fun c C S hl hC hS va er => by
 simp only at hl hC;obtain ⟨h1, h2, h3, h4⟩ := zeZ hl;obtain ⟨p1, _⟩ := pF c;have hCF : ∀ i, c.length <= i -> i < (F c).length -> C[i]? = (F c)[i]? := fun i hi hi2 => by rw [hC i hi (by omega), h4 i hi2]
 have hi : C[(F c).length]? = some ⟨11, 0, []⟩ := by rw [hC _ p1 (by omega)]; exact h3
 cases ra with
 | error e =>
  obtain ⟨q, hq, hE⟩ := hF.err rfl (by omega) hCF hS va er;exact ⟨q, by simp only; omega, hE⟩
 | ok a =>
  obtain ⟨hin, q, hq, hE⟩ := hF.ok rfl (by omega) hCF hS va er;exact ⟨zkc _, q + 1, by simp only; omega, by simp only; rw [h2]; exact hE.trans (zsW hi hS hin)⟩
theorem Does.truth {vs F ra} (hF : Does vs F ra) (pF : Pre F) : Does vs (fun c => zdy (F c)) (zqn ra fun a => .ok (zdI (decide (a ≠ 0)))) := by
 have := (hF.not pF).not (pF.comp (Pre.put _));cases ra with
 | error e => exact this
 | ok a =>
  have e : zdI (decide (zdI (decide (a = 0)) = 0)) = zdI (decide (a ≠ 0)) := by
   unfold zdI;by_cases h : a = 0 <;> simp [h]
  exact this.cast (congrArg Except.ok e)
theorem Does.choice {vs A B D ra rb rd} (hA : Does vs A ra) (hB : Does vs B rb) (hD : Does vs D rd) (pA : Pre A) (pB : Pre B) (pD : Pre D) :
  Does vs (zbW A B D) (zqn ra fun a => if a = 0 then rd else rb) := fun c C S hl hC hS va er => by
 unfold zbW at hl hC ⊢;obtain ⟨a1, _⟩ := pA c;obtain ⟨p1, p2⟩ := zcK ⟨13, 0, []⟩ (A c);have kA := @zeZ (A c) ⟨13, 0, []⟩;generalize hc2 : zcg (A c) ⟨13, 0, []⟩ = c2 at *;obtain ⟨b1, b2⟩ := pB c2;obtain ⟨q1, q2⟩ := zcK ⟨12, 0, []⟩ (B c2);have kB := @zeZ (B c2) ⟨12, 0, []⟩;generalize hc4 : zcg (B c2) ⟨12, 0, []⟩ = c4 at *;obtain ⟨d1, d2⟩ := pD (zdC c4 (c2.length - 1));rw [zbG] at d1 d2;have hD' := hD (zdC c4 (c2.length - 1)) C;rw [zbG] at hl hD' ⊢;generalize hc6 : D (zdC c4 (c2.length - 1)) = c6 at *;obtain ⟨x1, x2, x3, x4⟩ := kB (by omega);obtain ⟨y1, y2, y3, y4⟩ := kA (by omega);rw [zbG] at hC;have g5 : ∀ i, i < c4.length -> i ≠ c2.length - 1 -> i ≠ c4.length - 1 -> c.length <= i -> C[i]? = c4[i]? := fun i h1 h2 h3 h4 => by
  rw [hC i h4 (by omega), zcT _ _ _ h3, d2 i h1, zcT _ _ _ h2]
 have gA : ∀ i, c.length <= i -> i < (A c).length -> C[i]? = (A c)[i]? := fun i h1 h2 => by
  rw [g5 i (by omega) (by omega) (by omega) h1, x4 i (by omega), b2 i (by omega), y4 i h2]
 have gF : C[(A c).length]? = some ⟨13, (c4.length : Nat), []⟩ := by
  have e : (A c).length = c2.length - 1 := by omega
  rw [hC _ a1 (by omega), zcT _ _ _ (by omega), d2 _ (by omega), e];exact zhj (x := ⟨13, 0, []⟩) (by rw [<- e, x4 _ (by omega), b2 _ (by omega), y3])
 have gB : ∀ i, c2.length <= i -> i < (B c2).length -> C[i]? = (B c2)[i]? := fun i h1 h2 => by
  rw [g5 i (by omega) (by omega) (by omega) (by omega), x4 i h2]
 have gJ : C[(B c2).length]? = some ⟨12, (c6.length : Nat), []⟩ := by
  have e : (B c2).length = c4.length - 1 := by omega
  rw [hC _ (by omega) (by omega), e];exact zhj (x := ⟨12, 0, []⟩) (by rw [<- e, d2 _ (by omega), zcT _ _ _ (by omega), x3])
 have gD : ∀ i, c4.length <= i -> i < c6.length -> C[i]? = c6[i]? := fun i h1 h2 => by
  rw [hC i (by omega) h2, zcT _ _ _ (by omega)]
 cases ra with
 | error e =>
  obtain ⟨q, hq, hE⟩ := hA.err rfl (by omega) gA hS va er;exact ⟨q, by omega, hE⟩
 | ok a =>
  obtain ⟨hin, q, hq, hE⟩ := hA.ok rfl (by omega) gA hS va er;have hf := hE.trans (zo3 gF hS hin);by_cases ha : a = 0
  ·rw [if_pos ha] at hf;have hb : zqn (.ok a) (fun a => if a = 0 then rd else rb) = rd := if_pos ha;rw [hb];have := hD' S (by omega) gD hS va er;cases rd with
   | error e =>
    obtain ⟨q', hq', hE'⟩ := this;exact ⟨_, by omega, hf.ends hE'⟩
   | ok v =>
    obtain ⟨hin', q', hq', hE'⟩ := this;exact ⟨hin', _, by omega, hf.trans hE'⟩
  ·rw [if_neg ha] at hf;have hb : zqn (.ok a) (fun a => if a = 0 then rd else rb) = rb := if_neg ha;rw [hb];rw [<- y2] at hf;have := hB c2 C S (by omega) gB hS va er;cases rb with
   | error e =>
    obtain ⟨q', hq', hE'⟩ := this;exact ⟨_, by omega, hf.ends hE'⟩
   | ok v =>
    obtain ⟨hin', q', hq', hE'⟩ := this;exact ⟨hin', _, by omega, (hf.trans hE').trans (zqY gJ (hS.snoc (zkQ hin')))⟩
end Go.Proofs.YtkdhmbhbbciedaaGreatDoor
namespace Go.Proofs.YtkdhmbhbbciedaaGreatDoor
open Go Go.VL Go.ChangeShapes Go.WideShapes Go.ChangeAt Go.RowKit
theorem zul {r : List U} (h : HasRow Tryz.prog 44 r) : ∃ c : Ins, r = [.int .i64 c.op, .int .i64 c.a, .str c.s] /\ True := by
 obtain ⟨rs, hr, h⟩ := h.of_struct zw3
 match rs, h with
 | [a, b, c], h =>
  obtain ⟨h1, h2, h3, _⟩ := h;obtain ⟨x, rfl, _⟩ := h1.of_int io3;obtain ⟨y, rfl, _⟩ := h2.of_int io3;obtain ⟨z, rfl, _⟩ := h3.of_str (by simp);exact ⟨⟨x, y, z⟩, hr, trivial⟩
theorem zs9 {u : U} (h : ArgU Tryz.prog 26 u) : ∃ l : Code, u = Vm.inss l := by
 obtain ⟨rows, h1, _, h2⟩ := (h.one (by simp) (by simp)).of_slice zxs;obtain ⟨l, rfl, _⟩ := rows_list (fun c : Ins => [.int .i64 c.op, .int .i64 c.a, .str c.s]) (fun _ => True) fun r hr => zul (h2 r hr);exact ⟨l, by simp at h1; exact h1⟩
end Go.Proofs.YtkdhmbhbbciedaaGreatDoor
namespace Go.Proofs.YtkdhmbhbbciedaaGreatDoor
open Go Go.VL
def zpA : Nat -> List UInt8 -> Nat -> Except (Nat × Int) (List Tok)
 | 0, _, _ => .ok []
 | f + 1, s, p =>
  match (s.drop (p + zdj zcR (s.drop p))) with
  | [] => .ok [⟨0, [], 0, ((p + zdj zcR (s.drop p) : Nat) : Int)⟩]
  | c :: r => match zih (c :: r) with
   | .error e => .error (p + zdj zcR (s.drop p), e)
   | .ok t => match zpA f s (p + zdj zcR (s.drop p) + t.text.length) with
    | .error x => .error x
    | .ok l => .ok ({ t with pos := ((p + zdj zcR (s.drop p) : Nat) : Int) } :: l)
def zpy (s : List UInt8) : Except (Nat × Int) (List Tok) := if 2000 < s.length then .error (0, 6) else zpA (s.length + 1) s 0
def ziN : Except (Nat × Int) (List Tok) -> D
 | .ok l => .tup [.u (.sl (l.map fun t => [.int .i64 t.kind, .str t.text, .int .i64 t.n, .int .i64 t.pos])), .u (.int .i64 0), .u (.int .i64 0)]
 | .error (p, e) => .tup [.u (.sl []), .u (.int .i64 p), .u (.int .i64 e)]
def znI (acc : List Tok) : Except (Nat × Int) (List Tok) -> Except (Nat × Int) (List Tok)
 | .ok l => .ok (acc ++ l)
 | .error x => .error x
theorem zpa (x) : znI [] x = x := by cases x <;> simp [znI]
theorem zkj {p : UInt8 -> Bool} {c : UInt8} {r : List UInt8} (h : p c = true) : 0 < zdj p (c :: r) := by
 unfold zdj; rw [List.takeWhile_cons, if_pos h]; simp
theorem zgB {s : List UInt8} {t : Tok} (h : zih s = .ok t) : 0 < t.text.length /\ t.text.length <= s.length := by
 unfold zih at h;split at h
 ·cases h
 ·rename_i c r;by_cases c1 : zcn c = true
  ·rw [if_pos c1] at h;split at h
   ·cases h;have h1 := zkj (p := zdO) (c := c) (r := r) (by simp [zdO, c1]);have h2 := zem zdO (c :: r);simp only [List.length_take];omega
   ·cases h
  ·rw [if_neg c1] at h;by_cases c2 : zav c = true
   ·rw [if_pos c2] at h;split at h
    ·cases h;have h1 := zkj (p := zav) (c := c) (r := r) c2;have h2 := zem zav (c :: r);simp only [List.length_take];omega
    ·cases h
   ·rw [if_neg c2] at h;split at h
    ·rename_i x hx;cases h;have h1 := List.find?_some hx;have h2 := List.mem_of_find?_eq_some hx;refine ⟨?_, (List.isPrefixOf_iff_prefix.1 h1).length_le⟩;simp only [signsL, List.mem_cons, List.not_mem_nil, or_false] at h2;rcases h2 with h | h | h | h | h | h | h | h | h | h | h <;> subst h <;> simp
    ·cases h
def zke (l : List Tok) : List (List D) := l.map fun t => [.u (.int .i64 t.kind), .u (.str t.text), .u (.int .i64 t.n), .u (.int .i64 t.pos)]
theorem zd3 (l : List Tok) : (zke l).length = l.length := by simp [zke]
theorem zkd (l : List Tok) : rowsD (l.map fun t => [U.int .i64 t.kind, .str t.text, .int .i64 t.n, .int .i64 t.pos]) = zke l := by simp [rowsD, zke, Function.comp_def]
theorem zmF (l : List Tok) : zb5 (zke l) = some (l.map fun t => [U.int .i64 t.kind, .str t.text, .int .i64 t.n, .int .i64 t.pos]) := by rw [<- zkd]; simp
theorem zhG (l) : zan (zke l) = True := by rw [<- zkd]; simp
theorem zgs (n : Nat) (l) : (∀ x ∈ zke l, ∀ y ∈ x, D.under n y = true) ↔ True := by
 refine ⟨fun _ => trivial, fun _ x hx y hy => ?_⟩;obtain ⟨b, _, rfl⟩ := List.mem_map.1 hx;simp at hy;rcases hy with rfl | rfl | rfl | rfl <;> simp [D.under]
end Go.Proofs.YtkdhmbhbbciedaaGreatDoor
namespace Go.Proofs.YtkdhmbhbbciedaaGreatDoor
open Go Go.VL
abbrev zoW (l : List Tok) : U := .sl (l.map fun t => [.int .i64 t.kind, .str t.text, .int .i64 t.n, .int .i64 t.pos])
abbrev pOb (l : List Tok) (p : Nat) : Ob := .box [.u (zoW l), .u (.int .i64 p)]
abbrev zsv (l : List Tok) (p : Nat) : U := .row [zoW l, .int .i64 p] 0
structure TokOK (l : List Tok) : Prop where
 fin : ∀ (i : Nat) (t : Tok), l[i]? = some t -> t.kind ≠ 0 -> i + 1 < l.length
 len : l.length <= 1000000
def isB (l : List Tok) (p : Nat) (w : List UInt8) : Bool := match l[p]? with | some t => decide (t.kind ≠ 0) && decide (t.text = w) | none => false
theorem zcN {l : List Tok} {p : Nat} {w : List UInt8} (hl : TokOK l) (h : isB l p w = true) : p + 1 < l.length := by
 unfold isB at h;split at h
 ·rename_i t ht;simp only [Bool.and_eq_true, decide_eq_true_eq] at h;exact hl.fin p t ht h.1
 ·cases h
end Go.Proofs.YtkdhmbhbbciedaaGreatDoor
namespace Go.Proofs.YtkdhmbhbbciedaaGreatDoor
open Go Go.VL Go.Shelf Go.RowKit
theorem zqQ {k : Kr} {d e : D} {vs : Array Value} (h : RepL k [d, e] vs) : ∃ v u, vs = #[v, u] /\ Rep k d v /\ Rep k e u := by
 obtain ⟨h1, h2⟩ := h;have hs : vs.size = 2 := by simpa using h1
 refine ⟨vs.getD 0 undef, vs.getD 1 undef, ?_, h2 0 d rfl, h2 1 e rfl⟩;apply Array.ext_getElem?;intro i
 match i with
 | 0 => simp [show 0 < vs.size by omega]
 | 1 => simp [show 1 < vs.size by omega]
 | i + 2 => rw [Array.getElem?_eq_none (by omega), Array.getElem?_eq_none (by simp)]
theorem zqU {k : Kr} {own obs} {w : World} (h : Sat k own obs w) : Lib.TabIs Tryz.prog w "internal/strconv.uint64pow10" .u64 Lib.pow10Tab := by
 have he : globs.head! = (globs.head!.1, Lib.pow10Tab.map fun z => Value.int .u64 z) := rfl;have hm : globs.head! ∈ globs := by unfold globs; exact List.mem_cons_self
 obtain ⟨h1, h2⟩ := k.glob.tab _ hm;rw [he] at h1 h2;simp only [List.length_map, Lib.pow10Tab_length] at h1 h2;obtain ⟨cs, t, fr, h3, h4⟩ := zrf (h.mem _ _ _ h2);have h5 : Tryz.prog.globalNamed "internal/strconv.uint64pow10" = some globs.head!.1 := by kernel_rfl
 unfold Lib.TabIs World.var?;rw [h5, Option.bind_some, h3];simp only [Option.some.injEq];apply Array.ext_getElem?;intro j;by_cases hj : j < 20
 ·have h6 := h.cell (h1 j hj);have h7 : cs[j]? = some ((Lib.pow10Tab.map fun z => Value.int .u64 z).getD j undef) := by simpa [World.cell?, h3] using h6
  rw [h7];simp [List.getD, Lib.pow10Tab_length, hj]
 ·rw [Array.getElem?_eq_none (by omega), Array.getElem?_eq_none (by simp [Lib.pow10Tab_length]; omega)]
theorem zrt (n : Int) (h0 : -9223372036854775808 <= n) (h1 : n <= 9223372036854775807) : Fun Tryz.prog 84 [.u (.int .i64 n)] (· = .u (.str (Lib.itoa n))) :=
 Fun.zqB fun k own w vs hsat hrep => by
  obtain ⟨v, rfl, hv⟩ := zhL hrep;have hv := zbw hv;subst hv;refine ⟨_, .str _, (Tryz.strconv_Itoa n h0 h1 w (zqU hsat)).mono ?_⟩;rintro e w' ⟨h1, q, os, rfl⟩;refine ⟨h1, rfl, rfl, rfl, ?_, fun x hx => ?_⟩
  ·show w.heap.size <= (w.heap ++ os).size;simp
  ·show (w.heap ++ os)[x]? = w.heap[x]?;rw [Array.getElem?_append_left hx]
end Go.Proofs.YtkdhmbhbbciedaaGreatDoor
namespace Go.Proofs.YtkdhmbhbbciedaaGreatDoor
open Go Go.VL
theorem zfi {nm sh} : ∀ {l : List Exp} {i : Nat} {e : Exp}, l[i]? = some e -> zfY nm sh l i = zf9 nm sh e
 | [], _, _, h => by simp at h
 | a :: r, 0, e, h => by simp at h; subst h; rw [zfY]
 | a :: r, i + 1, e, h => by rw [zfY]; exact zfi (by simpa using h)
end Go.Proofs.YtkdhmbhbbciedaaGreatDoor
namespace Go.Proofs.YtkdhmbhbbciedaaGreatDoor
open Go Go.VL
def zfH (lets : List Let) : Nat -> List UInt8 -> Option Nat
 | 0, _ => none
 | n + 1, s => match lets[n]? with
  | none => none
  | some l => if l.name = s then some n else zfH lets n s
theorem zgD {lets : List Let} {s : List UInt8} : ∀ {n i : Nat}, zfH lets n s = some i -> i < n /\ ∃ l, lets[i]? = some l /\ l.name = s
 | 0, i, h => by simp [zfH] at h
 | n + 1, i, h => by
  rw [zfH] at h;split at h
  ·cases h
  ·rename_i l hl;split at h
   ·rename_i hn;cases h;exact ⟨by omega, l, hl, hn⟩
   ·obtain ⟨h1, h2⟩ := zgD h;exact ⟨by omega, h2⟩
def zaE (l : List Bool) : U := .sl (l.map fun b => [.bool b])
def nmS (lets : List Let) (shs : List Bool) (n : Nat) (s : List UInt8) : Bool := match zfH lets n s with | some i => shs.getD i false | none => false
def ixO : Option Nat -> Int | some i => i | none => -1
end Go.Proofs.YtkdhmbhbbciedaaGreatDoor
namespace Go.Proofs.YtkdhmbhbbciedaaGreatDoor
open Go Go.VL
def zdw (lets : List Let) : Nat -> List Bool
 | 0 => []
 | n + 1 => match lets[n]? with
  | none => zdw lets n
  | some l => zdw lets n ++ [zbY (sF (mOf [] (lets.take n))) l.body]
theorem zfp {lets : List Let} : ∀ {n : Nat}, n <= lets.length -> (zdw lets n).length = n
 | 0, _ => rfl
 | n + 1, h => by
  have hn : n < lets.length := by omega
  rw [zdw, List.getElem?_eq_getElem hn];simp [zfp (lets := lets) (n := n) (by omega)]
theorem zoY {lets : List Let} {i : Nat} {l : Let} (hl : lets[i]? = some l) : ∀ {n : Nat}, i < n -> n <= lets.length -> (zdw lets n)[i]? = some (zbY (sF (mOf [] (lets.take i))) l.body)
 | 0, h, _ => by omega
 | n + 1, h, hn => by
  have hn2 : n < lets.length := by omega
  have hlen := zfp (lets := lets) (n := n) (by omega);rw [zdw, List.getElem?_eq_getElem hn2];simp only;rcases Nat.lt_or_ge i n with h2 | h2
  ·rw [List.getElem?_append_left (by omega)];exact zoY hl h2 (by omega)
  ·obtain rfl : i = n := by omega
   rw [List.getElem?_append_right (by omega), hlen];rw [List.getElem?_eq_getElem hn2] at hl;cases hl;simp
theorem zmL {lets : List Let} {m : Nat} (hm : m <= lets.length) : ∀ {n : Nat}, n <= m -> ∀ s, nmS lets (zdw lets m) n s = sF (mOf [] (lets.take n)) s
 | 0, _, s => by simp [nmS, zfH, mOf, sF, asc]
 | n + 1, hn, s => by
  have hnl : n < lets.length := by omega
  have hl : lets[n]? = some lets[n] := List.getElem?_eq_getElem hnl;have ih := zmL hm (n := n) (by omega) s;rw [zrd hl];unfold nmS at ih ⊢;rw [zfH, hl];simp only;unfold sF;rw [zmn];by_cases hs : lets[n].name = s
  ·rw [if_pos hs, if_pos hs.symm];have := zoY hl (n := m) (by omega) hm;simp [List.getD_eq_getElem?_getD, this];rfl
  ·rw [if_neg hs, if_neg (fun e => hs e.symm)];exact ih
theorem zhx {lets : List Let} (hr : ∀ l ∈ lets, zaL 12 l.body = true) (hl : lets.length <= 20) {n m : Nat} (hn : n <= m) (hm : m <= lets.length) {e : Exp} (he : zaL 12 e = true) : zf3 (lets.take n) e = zbY (nmS lets (zdw lets m) n) e := by
 have h1 : zcm (lets.take n) e = true := by
  simp only [zcm, Bool.and_eq_true, decide_eq_true_eq, Bool.not_eq_true', List.any_eq_false, Bool.not_eq_true];refine ⟨⟨by simp; omega, he⟩, fun l h => ?_⟩;rw [hr l (List.mem_of_mem_take h)];simp
 rw [zf3, h1, Bool.true_and, show nmS lets (zdw lets m) n = sF (mOf [] (lets.take n)) from funext fun s => zmL hm hn s]
theorem zkr : ∀ (d : Nat) (e : Exp), zaL d e = true -> zaL (d + 1) e = true
 | 0, e, h => by simp [zaL] at h
 | d + 1, e, h => by
  have ih := fun x => zkr d x;rw [zaL] at h ⊢;by_cases h0 : e.op = 0
  ·simpa [h0] using h
  ·by_cases h1 : e.op = 1
   ·simpa [h0, h1] using h
   ·simp only [h0, h1, if_false, Bool.and_eq_true, decide_eq_true_eq] at h ⊢;refine ⟨h.1, ?_⟩;have h2 := h.2;split at h2
    ·cases h2
    ·rename_i hz;rw [if_neg hz];simp only [Bool.and_eq_true, decide_eq_true_eq, Bool.not_eq_true', List.any_eq_false] at h2 ⊢;exact ⟨h2.1, fun x hx => by simpa using ih x (by simpa using h2.2 x hx)⟩
theorem zks {d d' : Nat} (h : d <= d') {e : Exp} (he : zaL d e = true) : zaL d' e = true := by
 induction h with
 | refl => exact he
 | step _ ih => exact zkr _ _ ih
theorem znL {lets : List Let} (hr : ∀ l ∈ lets, zaL 12 l.body = true) (hl : lets.length <= 20) {n m d : Nat} (hn : n <= m) (hm : m <= lets.length) {e : Exp} (he : zaL (d + 1) e = true) (hd : d <= 11) (h0 : ¬ e.op = 0) (h1 : ¬ e.op = 1) :
  zbl (zbY (nmS lets (zdw lets m) n)) e.op e.args = zbl (zf3 (lets.take n)) e.op e.args := by
 have ha := (zdf he).2.2.2 h0 h1;have : (e.args.take 2).any (zbY (nmS lets (zdw lets m) n)) = (e.args.take 2).any (zf3 (lets.take n)) := by
  rw [Bool.eq_iff_iff, List.any_eq_true, List.any_eq_true];constructor
  ·rintro ⟨x, hx, h⟩;exact ⟨x, hx, by rw [zhx hr hl hn hm (zks (by omega) (ha x (List.mem_of_mem_take hx)))]; exact h⟩
  ·rintro ⟨x, hx, h⟩;exact ⟨x, hx, by rw [<- zhx hr hl hn hm (zks (by omega) (ha x (List.mem_of_mem_take hx)))]; exact h⟩
 unfold zbl;rw [this]
abbrev shF (lets : List Let) (n : Nat) : Exp -> Bool := zf3 (lets.take n)
def zg9 (lets : List Let) (e : Exp) : Code := zf9 (nmC lets (shF lets) lets.length) (shF lets lets.length) e []
def zel (lets : List Let) (e : Exp) : Code × Int := if zcm lets e = true then (if 2000 <= (zg9 lets e).length then ([], 6) else (zg9 lets e ++ [⟨14, 0, []⟩], 0)) else ([], 1)
end Go.Proofs.YtkdhmbhbbciedaaGreatDoor
namespace Go.Proofs.YtkdhmbhbbciedaaGreatDoor
open Go Go.VL
def zcM (op : Int) : Int := if op = 0 \/ op = 1 \/ op = 12 then 0 else if op = 11 \/ op = 13 \/ op = 14 then 1 else 2
def zbF (op : Int) : Int := if op = 12 \/ op = 13 \/ op = 14 then 0 else 1
def zdn (x : Ins) (i n : Nat) : Bool :=
 if x.op = 0 then decide (x.s = []) && decide (-1099511627776 <= x.a) && decide (x.a <= 1099511627776)
 else if x.op = 1 then decide (x.a = 0) && zfa x.s
 else if x.op = 12 \/ x.op = 13 then decide (x.s = []) && decide ((i : Int) < x.a) && decide (x.a < n)
 else decide (x.s = []) && decide (x.a = 0) && decide (0 <= x.op) && decide (x.op < 15)
def zdS (x : Ins) (i : Nat) : List Nat := if x.op = 14 then [] else if x.op = 12 then [x.a.toNat] else if x.op = 13 then [i + 1, x.a.toNat] else [i + 1]
def zny (hi : List Int) (k : Nat) (h : Int) : Option (List Int) := if 0 <= hi.getD k (-1) /\ hi.getD k (-1) ≠ h then none else some (hi.set k h)
def zd4 (h : Int) : List Nat -> List Int -> Option (List Int)
 | [], hi => some hi
 | k :: ks, hi => (zny hi k h).bind (zd4 h ks)
def zsX (l : Code) (i : Nat) (hi : List Int) : Option (List Int) := match l[i]? with
 | none => none
 | some x => if hi.getD i (-1) < 0 then some hi
  else if hi.getD i (-1) < zcM x.op \/ (x.op = 14 /\ hi.getD i (-1) ≠ 1) then none
  else zd4 (hi.getD i (-1) - zcM x.op + zbF x.op) (zdS x i) hi
def rgo (l : Code) : Nat -> Option (List Int)
 | 0 => some (0 :: List.replicate l.length (-1))
 | i + 1 => (rgo l i).bind (zsX l i)
def zga (l : Code) : Bool := (List.range l.length).all fun i => match l[i]? with | some x => zdn x i l.length | none => true
def zbO (l : Code) : Bool := decide (0 < l.length) && decide (l.length <= 2000) && zga l && match rgo l l.length with | some h => decide (h.getD l.length (-1) < 0) | none => false
theorem zeU {l : Code} (h : zga l = true) {i : Nat} {x : Ins} (hx : l[i]? = some x) : zdn x i l.length = true := by
 have := List.all_eq_true.1 h i (List.mem_range.2 (List.getElem?_eq_some_iff.1 hx).1);rw [hx] at this;exact this
structure Hts (C : Code) (H : Nat -> Int) : Prop where
 zero : H 0 = 0
 ok : ∀ i x, C[i]? = some x -> 0 <= H i /\ zcM x.op <= H i /\ (x.op = 14 -> H i = 1) /\ ∀ k ∈ zdS x i, i < k /\ k < C.length /\ H k = H i - zcM x.op + zbF x.op
 reach : ∀ k, 0 < k -> k < C.length -> ∃ i x, i < k /\ C[i]? = some x /\ k ∈ zdS x i
structure Seg (C : Code) (p q : Nat) (H : Nat -> Int) : Prop where
 lt : p < q
 ok : ∀ i, p <= i -> i < q -> ∃ x, C[i]? = some x /\ x.op ≠ 14 /\ zdn x i (q + 1) = true /\ 0 <= H i /\ zcM x.op <= H i /\ ∀ k ∈ zdS x i, i < k /\ k <= q /\ H k = H i - zcM x.op + zbF x.op
 reach : ∀ k, p < k -> k <= q -> ∃ i x, p <= i /\ i < k /\ C[i]? = some x /\ k ∈ zdS x i
theorem zmb {x : Ins} {i n m : Nat} (h : zdn x i n = true) (hm : n <= m) : zdn x i m = true := by
 unfold zdn at h ⊢;by_cases c0 : x.op = 0
 ·rw [if_pos c0] at h ⊢; exact h
 rw [if_neg c0] at h ⊢;by_cases c1 : x.op = 1
 ·rw [if_pos c1] at h ⊢; exact h
 rw [if_neg c1] at h ⊢;by_cases c2 : x.op = 12 \/ x.op = 13
 ·rw [if_pos c2] at h ⊢;simp only [Bool.and_eq_true, decide_eq_true_eq] at h ⊢;exact ⟨h.1, by omega⟩
 ·rw [if_neg c2] at h ⊢; exact h
theorem Seg.one {C : Code} {p : Nat} {x : Ins} {h : Int} (hx : C[p]? = some x) (h14 : x.op ≠ 14) (h12 : x.op ≠ 12) (h13 : x.op ≠ 13) (hf : zdn x p (p + 2) = true) (h0 : 0 <= h) (hn : zcM x.op <= h) :
  Seg C p (p + 1) fun i => if i = p then h else h - zcM x.op + zbF x.op := by
 have hne : zdS x p = [p + 1] := by simp [zdS, h14, h12, h13]
 refine ⟨by omega, fun i h1 h2 => ?_, fun k h1 h2 => ?_⟩
 ·obtain rfl : i = p := by omega
  refine ⟨x, hx, h14, hf, by simp [h0], by simp [hn], fun k hk => ?_⟩;rw [hne] at hk;simp at hk;subst hk;simp
 ·obtain rfl : k = p + 1 := by omega
  exact ⟨p, x, Nat.le_refl _, by omega, hx, by simp [hne]⟩
theorem Seg.glue {C : Code} {p m q : Nat} {H G : Nat -> Int} (h : Seg C p m H) (g : Seg C m q G) (e : H m = G m) : Seg C p q fun i => if i < m then H i else G i := by
 refine ⟨Nat.lt_trans h.lt g.lt, fun i h1 h2 => ?_, fun k h1 h2 => ?_⟩
 ·by_cases hm : i < m
  ·obtain ⟨x, a1, a2, a3, a4, a5, a6⟩ := h.ok i h1 hm;have := g.lt;refine ⟨x, a1, a2, zmb a3 (by omega), by simp [hm, a4], by simp [hm, a5], fun k hk => ?_⟩;obtain ⟨k1, k2, k3⟩ := a6 k hk;refine ⟨k1, by omega, ?_⟩;simp only [hm, if_true];by_cases hkm : k < m
   ·rw [if_pos hkm]; exact k3
   ·obtain rfl : k = m := by omega
    rw [if_neg hkm, <- e]; exact k3
  ·obtain ⟨x, a1, a2, a3, a4, a5, a6⟩ := g.ok i (by omega) h2;refine ⟨x, a1, a2, a3, by simp [hm, a4], by simp [hm, a5], fun k hk => ?_⟩;obtain ⟨k1, k2, k3⟩ := a6 k hk;refine ⟨k1, k2, ?_⟩;simp only [hm, if_false];rw [if_neg (by omega)]; exact k3
 ·by_cases hm : k <= m
  ·exact h.reach k h1 hm
  ·obtain ⟨i, x, a1, a2, a3, a4⟩ := g.reach k (by omega) h2;exact ⟨i, x, by have := h.lt; omega, a2, a3, a4⟩
def Hgt (F : Code -> Code) : Prop := ∀ (c C : Code) (h : Int), (F c).length <= 2000 -> (∀ i, c.length <= i -> i < (F c).length -> C[i]? = (F c)[i]?) -> 0 <= h -> ∃ H, Seg C c.length (F c).length H /\ H c.length = h /\ H (F c).length = h + 1
theorem Hgt.put {x : Ins} (h14 : x.op ≠ 14) (h12 : x.op ≠ 12) (h13 : x.op ≠ 13) (hf : ∀ i, zdn x i (i + 2) = true) (hn : zcM x.op = 0) (hl : zbF x.op = 1) : Hgt fun c => zcg c x := fun c C h hl' hC h0 => by
 simp only at hl' hC ⊢;obtain ⟨h1, h2, h3, _⟩ := zeZ hl';have hi : C[c.length]? = some x := by rw [hC _ (Nat.le_refl _) (by omega)]; exact h3
 rw [h2];exact ⟨_, Seg.one (h := h) hi h14 h12 h13 (hf _) h0 (by omega), by simp, by simp [hn, hl]⟩
theorem Hgt.then {F : Code -> Code} {x : Ins} (hF : Hgt F) (pF : Pre F) (h14 : x.op ≠ 14) (h12 : x.op ≠ 12) (h13 : x.op ≠ 13) (hf : ∀ i, zdn x i (i + 2) = true) (hn : zcM x.op = 1) (hl : zbF x.op = 1) : Hgt fun c => zcg (F c) x := fun c C h hl' hC h0 => by
 simp only at hl' hC ⊢;obtain ⟨h1, h2, h3, h4⟩ := zeZ hl';obtain ⟨p1, _⟩ := pF c;obtain ⟨H, g1, g2, g3⟩ := hF c C h (by omega) (fun i hi hi2 => by rw [hC i hi (by omega), h4 i hi2]) h0;have hi : C[(F c).length]? = some x := by rw [hC _ p1 (by omega)]; exact h3
 rw [h2];refine ⟨_, g1.glue (Seg.one (h := h + 1) hi h14 h12 h13 (hf _) (by omega) (by omega)) (by simp [g3]), ?_, ?_⟩
 ·simp only [g1.lt, if_true]; exact g2
 ·rw [if_neg (by omega), if_neg (by omega), hn, hl]; omega
theorem Hgt.two {F G : Code -> Code} {x : Ins} (hF : Hgt F) (hG : Hgt G) (pF : Pre F) (pG : Pre G) (h14 : x.op ≠ 14) (h12 : x.op ≠ 12) (h13 : x.op ≠ 13) (hf : ∀ i, zdn x i (i + 2) = true) (hn : zcM x.op = 2) (hl : zbF x.op = 1) :
  Hgt fun c => zcg (G (F c)) x := fun c C h hl' hC h0 => by
 simp only at hl' hC ⊢;obtain ⟨h1, h2, h3, h4⟩ := zeZ hl';obtain ⟨p1, _⟩ := pF c;obtain ⟨q1, q2⟩ := pG (F c);obtain ⟨H, g1, g2, g3⟩ := hF c C h (by omega) (fun i hi hi2 => by rw [hC i hi (by omega), h4 i (by omega), q2 i hi2]) h0;obtain ⟨K, k1, k2, k3⟩ := hG (F c) C (h + 1) (by omega) (fun i hi hi2 => by rw [hC i (by omega) (by omega), h4 i hi2]) (by omega);have hi : C[(G (F c)).length]? = some x := by rw [hC _ (by omega) (by omega)]; exact h3
 rw [h2];have gk := g1.glue k1 (by omega);refine ⟨_, gk.glue (Seg.one (h := h + 1 + 1) hi h14 h12 h13 (hf _) (by omega) (by omega)) ?_, ?_, ?_⟩
 ·have := k1.lt;simp only [if_true];rw [if_neg (by omega)]; exact k3
 ·have := g1.lt; have := k1.lt;rw [if_pos (by omega), if_pos (by omega)]; exact g2
 ·rw [if_neg (by omega), if_neg (by omega), hn, hl]; omega
theorem Hgt.choice {A B D : Code -> Code} (hA : Hgt A) (hB : Hgt B) (hD : Hgt D) (pA : Pre A) (pB : Pre B) (pD : Pre D) : Hgt (zbW A B D) := fun c C h hl hC h0 => by
 unfold zbW at hl hC ⊢;obtain ⟨a1, _⟩ := pA c;obtain ⟨p1, p2⟩ := zcK ⟨13, 0, []⟩ (A c);have kA := @zeZ (A c) ⟨13, 0, []⟩;generalize hc2 : zcg (A c) ⟨13, 0, []⟩ = c2 at *;obtain ⟨b1, b2⟩ := pB c2;obtain ⟨q1, q2⟩ := zcK ⟨12, 0, []⟩ (B c2);have kB := @zeZ (B c2) ⟨12, 0, []⟩;generalize hc4 : zcg (B c2) ⟨12, 0, []⟩ = c4 at *;obtain ⟨d1, d2⟩ := pD (zdC c4 (c2.length - 1));rw [zbG] at d1 d2;have hD' := hD (zdC c4 (c2.length - 1)) C;rw [zbG] at hl hD' ⊢;generalize hc6 : D (zdC c4 (c2.length - 1)) = c6 at *;obtain ⟨x1, x2, x3, x4⟩ := kB (by omega);obtain ⟨y1, y2, y3, y4⟩ := kA (by omega);rw [zbG] at hC;have g5 : ∀ i, i < c4.length -> i ≠ c2.length - 1 -> i ≠ c4.length - 1 -> c.length <= i -> C[i]? = c4[i]? := fun i h1 h2 h3 h4 => by
  rw [hC i h4 (by omega), zcT _ _ _ h3, d2 i h1, zcT _ _ _ h2]
 have gA : ∀ i, c.length <= i -> i < (A c).length -> C[i]? = (A c)[i]? := fun i h1 h2 => by
  rw [g5 i (by omega) (by omega) (by omega) h1, x4 i (by omega), b2 i (by omega), y4 i h2]
 have gF : C[(A c).length]? = some ⟨13, (c4.length : Nat), []⟩ := by
  have e : (A c).length = c2.length - 1 := by omega
  rw [hC _ a1 (by omega), zcT _ _ _ (by omega), d2 _ (by omega), e];exact zhj (x := ⟨13, 0, []⟩) (by rw [<- e, x4 _ (by omega), b2 _ (by omega), y3])
 have gB : ∀ i, c2.length <= i -> i < (B c2).length -> C[i]? = (B c2)[i]? := fun i h1 h2 => by
  rw [g5 i (by omega) (by omega) (by omega) (by omega), x4 i h2]
 have gJ : C[(B c2).length]? = some ⟨12, (c6.length : Nat), []⟩ := by
  have e : (B c2).length = c4.length - 1 := by omega
  rw [hC _ (by omega) (by omega), e];exact zhj (x := ⟨12, 0, []⟩) (by rw [<- e, d2 _ (by omega), zcT _ _ _ (by omega), x3])
 have gD : ∀ i, c4.length <= i -> i < c6.length -> C[i]? = c6[i]? := fun i h1 h2 => by
  rw [hC i (by omega) h2, zcT _ _ _ (by omega)]
 obtain ⟨HA, s1, s2, s3⟩ := hA c C h (by omega) gA h0;obtain ⟨HB, t1, t2, t3⟩ := hB c2 C h (by omega) gB h0;obtain ⟨HD, u1, u2, u3⟩ := hD' h (by omega) gD h0;have l1 := s1.lt; have l2 := t1.lt; have l3 := u1.lt;generalize (A c).length = la at *;generalize (B c2).length = lb at *;have n13 : zdS ⟨13, (c4.length : Nat), []⟩ la = [la + 1, c4.length] := by simp [zdS]
 have n12 : zdS ⟨12, (c6.length : Nat), []⟩ lb = [c6.length] := by simp [zdS]
 refine ⟨fun i => if i <= la then HA i else if i <= lb then HB i else HD i, ⟨by omega, fun i h1 h2 => ?_, fun k h1 h2 => ?_⟩, by simp only [a1, if_true]; exact s2, by
  simp only;rw [if_neg (by omega), if_neg (by omega)]; exact u3⟩
 ·by_cases i1 : i < la
  ·obtain ⟨x, w1, w2, w3, w4, w5, w6⟩ := s1.ok i h1 i1;refine ⟨x, w1, w2, zmb w3 (by omega), by rw [if_pos (by omega)]; exact w4, by rw [if_pos (by omega)]; exact w5, fun k hk => ?_⟩;obtain ⟨k1, k2, k3⟩ := w6 k hk;exact ⟨k1, by omega, by rw [if_pos k2, if_pos (by omega)]; exact k3⟩
  by_cases i2 : i = la
  ·subst i2;refine ⟨_, gF, by simp, by simp [zdn]; omega, by simp [s3]; omega, by simp [s3, zcM]; omega, fun k hk => ?_⟩;rw [n13] at hk;simp only [List.mem_cons, List.not_mem_nil, or_false] at hk;simp only [Nat.le_refl, if_true, s3];rcases hk with rfl | rfl
   ·refine ⟨by omega, by omega, ?_⟩;rw [if_neg (by omega), if_pos (by omega), <- y2, t2]; simp [zcM, zbF]
   ·refine ⟨by omega, by omega, ?_⟩;rw [if_neg (by omega), if_neg (by omega), u2]; simp [zcM, zbF]
  by_cases i3 : i < lb
  ·obtain ⟨x, w1, w2, w3, w4, w5, w6⟩ := t1.ok i (by omega) i3;refine ⟨x, w1, w2, zmb w3 (by omega), by rw [if_neg (by omega), if_pos (by omega)]; exact w4, by rw [if_neg (by omega), if_pos (by omega)]; exact w5, fun k hk => ?_⟩;obtain ⟨k1, k2, k3⟩ := w6 k hk;exact ⟨k1, by omega, by rw [if_neg (by omega), if_pos k2, if_neg (by omega), if_pos (by omega)]; exact k3⟩
  by_cases i4 : i = lb
  ·subst i4;refine ⟨_, gJ, by simp, by simp [zdn]; omega, by rw [if_neg (by omega), if_pos (Nat.le_refl _), t3]; omega, by rw [if_neg (by omega), if_pos (Nat.le_refl _), t3]; simp [zcM]; omega, fun k hk => ?_⟩;rw [n12] at hk;simp only [List.mem_cons, List.not_mem_nil, or_false] at hk;subst hk;refine ⟨by omega, by omega, ?_⟩;rw [if_neg (by omega), if_neg (by omega), if_neg (by omega), if_pos (Nat.le_refl _), t3, u3]; simp [zcM, zbF]
  ·obtain ⟨x, w1, w2, w3, w4, w5, w6⟩ := u1.ok i (by omega) h2;refine ⟨x, w1, w2, w3, by rw [if_neg (by omega), if_neg (by omega)]; exact w4, by rw [if_neg (by omega), if_neg (by omega)]; exact w5, fun k hk => ?_⟩;obtain ⟨k1, k2, k3⟩ := w6 k hk;exact ⟨k1, k2, by rw [if_neg (by omega), if_neg (by omega), if_neg (by omega), if_neg (by omega)]; exact k3⟩
 ·by_cases k1 : k <= la
  ·exact s1.reach k h1 k1
  by_cases k2 : k = la + 1
  ·exact ⟨la, _, a1, by omega, gF, by rw [n13]; simp [k2]⟩
  by_cases k3 : k <= lb
  ·obtain ⟨i, x, r1, r2, r3, r4⟩ := t1.reach k (by omega) k3;exact ⟨i, x, by omega, r2, r3, r4⟩
  by_cases k4 : k = c4.length
  ·exact ⟨la, _, a1, by omega, gF, by rw [n13]; simp [k4]⟩
  ·obtain ⟨i, x, r1, r2, r3, r4⟩ := u1.reach k (by omega) h2;exact ⟨i, x, by omega, r2, r3, r4⟩
theorem Hgt.name {s : List UInt8} (h : zfa s = true) : Hgt fun c => zcg c ⟨1, 0, s⟩ :=
 Hgt.put (by simp) (by simp) (by simp) (fun i => by simp [zdn, h]) (by simp [zcM]) (by simp [zbF])
theorem Hgt.not {F : Code -> Code} (hF : Hgt F) (pF : Pre F) : Hgt fun c => zcg (F c) ⟨11, 0, []⟩ :=
 hF.then pF (by simp) (by simp) (by simp) (fun i => by simp [zdn]) (by simp [zcM]) (by simp [zbF])
theorem Hgt.truth {F : Code -> Code} (hF : Hgt F) (pF : Pre F) : Hgt fun c => zdy (F c) := (hF.not pF).not (pF.comp (Pre.put _))
end Go.Proofs.YtkdhmbhbbciedaaGreatDoor
namespace Go.Proofs.YtkdhmbhbbciedaaGreatDoor
open Go Go.VL
theorem zjl {l : Code} {i : Nat} (h : rgo l i = none) : ∀ k, rgo l (i + k) = none
 | 0 => h
 | k + 1 => by rw [<- Nat.add_assoc, rgo, zjl h k]; rfl
def hi1 (n i : Nat) : List Int := 0 :: (List.replicate i (-1) ++ List.replicate (n - i) 0)
theorem zmZ (n : Nat) : hi1 n 0 = List.replicate (n + 1) 0 := by simp [hi1, List.replicate_succ]
theorem zeS {n i : Nat} (h : i < n) : (hi1 n i).set (i + 1) (-1) = hi1 n (i + 1) := by
 unfold hi1;rw [List.set_cons_succ, List.set_append_right _ _ (by simp), List.length_replicate, Nat.sub_self];have : n - i = (n - (i + 1)) + 1 := by omega
 rw [this, List.replicate_succ, List.set_cons_zero]
 congr 1
 rw [List.replicate_succ', List.append_assoc];rfl
theorem zeT {n i : Nat} (h : i <= n) : (hi1 n i).length = n + 1 := by simp [hi1]; omega
theorem zpS (n : Nat) : hi1 n n = 0 :: List.replicate n (-1) := by simp [hi1]
structure HiAt (l : Code) where
 i : Nat
 hi : List Int
 hle : i <= l.length
 go : rgo l i = some hi
 len : hi.length = l.length + 1
 lo : ∀ z ∈ hi, -1 <= z /\ z <= i
theorem ziW {l : Code} (h : ∀ j x, l[j]? = some x -> zdn x j l.length = true) : zga l = true := by
 refine List.all_eq_true.2 fun i _ => ?_;cases hx : l[i]? with
 | none => rfl
 | some x => exact h i x hx
theorem zs2 {l : Code} (hf : zga l = true) {i : Nat} {x : Ins} (hx : l[i]? = some x) : ∀ k ∈ zdS x i, i < k /\ k <= l.length := by
 have h := zeU hf hx;have hi := (List.getElem?_eq_some_iff.1 hx).1;intro k hk;unfold zdS at hk;unfold zdn at h;by_cases h14 : x.op = 14
 ·simp [h14] at hk
 by_cases h12 : x.op = 12
 ·simp [h12] at hk h;omega
 by_cases h13 : x.op = 13
 ·simp [h13] at hk h;omega
 ·simp [h12, h13, h14] at hk;omega
structure NxAt (ks : List Nat) (h : Int) (hi : List Int) (i : Nat) where
 j : Nat
 hj : List Int
 hle : j <= ks.length
 go : zd4 h ks hi = zd4 h (ks.drop j) hj
 len : hj.length = hi.length
 at_i : hj[i]? = hi[i]?
 lo : ∀ z ∈ hj, -1 <= z /\ z <= i + 1
theorem zmN (op : Int) : 0 <= zcM op /\ zcM op <= 2 := by
 unfold zcM;split
 ·omega
 ·split <;> omega
theorem ziO (op : Int) : 0 <= zbF op /\ zbF op <= 1 := by unfold zbF; split <;> omega
theorem zmJ {l : Code} {i : Nat} {hi : List Int} {y : Ins} {v : Int} (go : rgo l i = some hi) (hy : l[i]? = some y) (hv : hi[i]? = some v) : rgo l (i + 1) = if v < 0 then some hi
  else if v < zcM y.op \/ (y.op = 14 /\ v ≠ 1) then none else zd4 (v - zcM y.op + zbF y.op) (zdS y i) hi := by
 have : hi.getD i (-1) = v := by simp [List.getD, hv]
 rw [rgo, go];show zsX l i hi = _;unfold zsX;rw [hy, this]
theorem ziC {l : Code} {i : Nat} (h : rgo l (i + 1) = none) (hi : i < l.length) : zbO l = false := by
 have := zjl h (l.length - (i + 1));rw [show i + 1 + (l.length - (i + 1)) = l.length by omega] at this;unfold zbO;rw [this];simp
theorem znx {h : Int} {ks : List Nat} {hi : List Int} {j k : Nat} (hk : ks[j]? = some k) : zd4 h (ks.drop j) hi = (zny hi k h).bind (zd4 h (ks.drop (j + 1))) := by
 obtain ⟨h1, h2⟩ := List.getElem?_eq_some_iff.1 hk;rw [List.drop_eq_getElem_cons h1, h2, zd4]
end Go.Proofs.YtkdhmbhbbciedaaGreatDoor
namespace Go.Proofs.YtkdhmbhbbciedaaGreatDoor
open Go Go.VL
def wordsL : List (List UInt8) := [[110, 117, 109], [110, 97, 109, 101], [97, 100, 100], [115, 117, 98], [109, 117, 108], [100, 105, 118], [115, 99, 97, 108, 101], [109, 105, 110], [109, 97, 120], [108, 101, 115, 115], [101, 113], [110, 111, 116], [106, 117, 109, 112], [102, 97, 108, 115, 101], [101, 110, 100]]
def zdd (op : Int) : List UInt8 := wordsL.getD op.toNat []
def ze1 (x : Ins) : List UInt8 := zdd x.op ++ (if x.op = 0 \/ x.op = 12 \/ x.op = 13 then 32 :: Lib.itoa x.a else if x.op = 1 then 32 :: x.s else []) ++ [10]
def zcJ (l : Code) : List UInt8 := (l.map ze1).flatten
end Go.Proofs.YtkdhmbhbbciedaaGreatDoor
namespace Go.Proofs.YtkdhmbhbbciedaaGreatDoor
open Go Go.VL
end Go.Proofs.YtkdhmbhbbciedaaGreatDoor
namespace Go.Proofs.YtkdhmbhbbciedaaGreatDoor
open Go Go.VL
theorem zqW (h : Int) (a b : Nat) (hi : List Int) : zd4 h [a, b] hi = zd4 h [b, a] hi := by
 by_cases e : a = b
 ·rw [e]
 ·simp only [zd4, zny];have g1 : ∀ v : Int, (hi.set a v).getD b (-1) = hi.getD b (-1) := fun v => by
   simp [List.getD, List.getElem?_set_ne e]
  have g2 : ∀ v : Int, (hi.set b v).getD a (-1) = hi.getD a (-1) := fun v => by
   simp [List.getD, List.getElem?_set_ne (Ne.symm e)]
  by_cases h1 : 0 <= hi.getD a (-1) /\ hi.getD a (-1) ≠ h
  ·rw [if_pos h1];by_cases h2 : 0 <= hi.getD b (-1) /\ hi.getD b (-1) ≠ h
   ·rw [if_pos h2]; rfl
   ·rw [if_neg h2];simp [zd4, zny, List.getElem?_set_ne (Ne.symm e)];simpa using h1
  ·rw [if_neg h1];by_cases h2 : 0 <= hi.getD b (-1) /\ hi.getD b (-1) ≠ h
   ·rw [if_pos h2];simp [zd4, zny, List.getElem?_set_ne e];simpa using h2
   ·rw [if_neg h2];simp [zd4, zny, List.getElem?_set_ne e, List.getElem?_set_ne (Ne.symm e), List.set_comm _ _ e];rw [if_neg (by simpa using h2), if_neg (by simpa using h1)]
def zc1 (l : Code) : List Int × Bool := if 0 < l.length /\ l.length <= 2000 /\ zga l = true then (match rgo l l.length with | some h => (h.take l.length, decide (h.getD l.length (-1) < 0)) | none => ([], false)) else ([], false)
theorem zjG (l : Code) : (zc1 l).2 = zbO l := by
 unfold zc1 zbO;by_cases h1 : 0 < l.length
 ·by_cases h2 : l.length <= 2000
  ·by_cases h3 : zga l = true
   ·rw [if_pos ⟨h1, h2, h3⟩, h3, decide_eq_true h1, decide_eq_true h2];cases rgo l l.length <;> simp
   ·simp [h3]
  ·simp [h2]
 ·simp [h1]
theorem zdT {l : Code} {i : Nat} (h : rgo l (i + 1) = none) (hi : i < l.length) : zc1 l = ([], false) := by
 have h2 := zjl h (l.length - (i + 1));rw [show i + 1 + (l.length - (i + 1)) = l.length by omega] at h2;unfold zc1;rw [h2];simp
end Go.Proofs.YtkdhmbhbbciedaaGreatDoor
namespace Go.Proofs.YtkdhmbhbbciedaaGreatDoor
open Go Go.VL
theorem zn6 (l : List Int) : zb5 (zeA l) = some (l.map fun z => [U.int .i64 z]) := by
 induction l with
 | nil => rfl
 | cons a l ih => simp only [zeA] at ih; simp [zeA, zb5, zed, ih]
theorem zpN (l : List Int) (n : Nat) : (zeA l).take n = zeA (l.take n) := by simp [zeA, List.map_take]
theorem zlN {hi : List Int} {k : Nat} {w h : Int} (hw : hi[k]? = some w) : zny hi k h = if 0 <= w /\ w ≠ h then none else some (hi.set k h) := by
 unfold zny;simp [List.getD, hw]
end Go.Proofs.YtkdhmbhbbciedaaGreatDoor
namespace Go.Proofs.YtkdhmbhbbciedaaGreatDoor
open Go Go.VL
theorem zoI {x : Ins} (h0 : 0 <= x.op) (h1 : x.op < 15) : wordsL[x.op.toNat]? = some (zdd x.op) := by
 rw [zdd, List.getD, List.getElem?_eq_getElem (by have : wordsL.length = 15 := rfl; omega)]; rfl
end Go.Proofs.YtkdhmbhbbciedaaGreatDoor
namespace Go.Proofs.YtkdhmbhbbciedaaGreatDoor
open Go Go.VL
abbrev zb9 (c : Code) : List (List D) := c.map fun i => [.u (.int .i64 i.op), .u (.int .i64 i.a), .u (.str i.s)]
abbrev cOb (lets : List Let) (shs : List Bool) (q : Nat) (c : Code) : Ob := .box [.u (zaz lets), .u (zaE shs), .vec q c.length]
abbrev kOb (c : Code) : Ob := .vec 44 3 (zb9 c)
theorem zcU (c : Code) : zj5 3 (zb9 c) := by intro r hr; obtain ⟨i, _, rfl⟩ := List.mem_map.1 hr; rfl
theorem zaP (c : Code) : zan (zb9 c) := by
 induction c with
 | nil => simp [zb9, zan]
 | cons a l ih => simp only [zb9] at ih; simp [zb9, zan, zaN, ih]
theorem zrv (c : Code) (j : Nat) (x : Ins) : (zb9 c).set j [.u (.int .i64 x.op), .u (.int .i64 x.a), .u (.str x.s)] = zb9 (c.set j x) := by simp [zb9]
theorem zta {c : Code} {j : Nat} {x : Ins} (h : c[j]? = some x) : (zb9 c)[j]? = some [.u (.int .i64 x.op), .u (.int .i64 x.a), .u (.str x.s)] := by simp [zb9, h]
theorem zdQ (c : Code) : (zb9 c).length = c.length := by simp [zb9]
end Go.Proofs.YtkdhmbhbbciedaaGreatDoor
namespace Go.Proofs.YtkdhmbhbbciedaaGreatDoor
open Go Go.VL
def Cap (F : Code -> Code) : Prop := ∀ c : Code, c.length <= 2001 -> (F c).length <= 2001
theorem Cap.put (x : Ins) : Cap fun c => zcg c x := fun c h => by
 show (zcg c x).length <= 2001;rw [zfr]; split <;> omega
theorem Cap.comp {F G : Code -> Code} (hF : Cap F) (hG : Cap G) : Cap fun c => G (F c) := fun c h => hG _ (hF c h)
theorem Cap.truth : Cap zdy := (Cap.put _).comp (Cap.put _)
theorem Cap.choice {A B D : Code -> Code} (hA : Cap A) (hB : Cap B) (hD : Cap D) : Cap (zbW A B D) := fun c h => by
 unfold zbW;rw [zbG];refine hD _ ?_;rw [zbG];exact Cap.put _ _ (hB _ (Cap.put _ _ (hA c h)))
mutual
theorem zf8 {nm : List UInt8 -> Code -> Code} {sh : Exp -> Bool} (hn : ∀ s, Cap (nm s)) : ∀ e : Exp, Cap (zf9 nm sh e)
 | .mk op n u s args => fun c hc2 => by
  have h := fun i => zm3 (sh := sh) hn args i;have hA := zjK (sh := sh) hn args;rw [zf9];simp only;split
  ·exact hc2
  split
  ·exact Cap.put _ c hc2
  split
  ·exact hn s c hc2
  split
  ·exact Cap.choice (h 0) ((h 1).comp Cap.truth) (Cap.put _) c hc2
  split
  ·exact Cap.choice (h 0) (Cap.put _) ((h 1).comp Cap.truth) c hc2
  split
  ·exact Cap.choice (h 0) (h 1) (h 2) c hc2
  ·exact (hA.comp (Cap.put _)) c hc2
theorem zm3 {nm : List UInt8 -> Code -> Code} {sh : Exp -> Bool} (hn : ∀ s, Cap (nm s)) : ∀ (l : List Exp) (i : Nat), Cap (zfY nm sh l i)
 | [], i => by rw [zfY]; exact fun _ h => h
 | e :: l, 0 => by rw [zfY]; exact zf8 hn e
 | e :: l, i + 1 => by rw [zfY]; exact zm3 hn l i
theorem zjK {nm : List UInt8 -> Code -> Code} {sh : Exp -> Bool} (hn : ∀ s, Cap (nm s)) : ∀ (l : List Exp), Cap (zgq nm sh l)
 | [] => by rw [zgq]; exact fun _ h => h
 | e :: l => by rw [zgq]; exact (zf8 hn e).comp (zjK hn l)
end
theorem zhN {lets sh} : ∀ (n : Nat) (s : List UInt8), Cap (nmC lets sh n s)
 | 0, s => by rw [nmC]; exact Cap.put _
 | n + 1, s => by
  rw [nmC];split
  ·exact Cap.put _
  ·split
   ·exact zf8 (zhN n) _
   ·exact zhN n s
def ExpX (lets : List Let) (shs : List Bool) (m n : Nat) (e : Exp) (F : Code -> Code) : Prop := ∀ (c : Code) (q nx : Nat), m < nx -> q < nx -> m ≠ q -> c.length <= 2001 -> RetX Tryz.prog 36 [.ptr m 0, .u (.int .i64 n), zce e] [(m, cOb lets shs q c), (q, kOb c)] nx
  fun r o n' => r = .val (.tup []) /\ o = [(m, cOb lets shs nx (F c)), (nx, kOb (F c))] /\ n' = nx + 1
def zuY (lets : List Let) (shs : List Bool) (m n : Nat) (e : Exp) (F : Code -> Code) : Prop := ∀ (c : Code) (q nx : Nat), m < nx -> q < nx -> m ≠ q -> c.length <= 2001 -> RetX Tryz.prog 67 [.ptr m 0, .u (.int .i64 n), zce e] [(m, cOb lets shs q c), (q, kOb c)] nx
  fun r o n' => r = .val (.tup []) /\ o = [(m, cOb lets shs nx (F c)), (nx, kOb (F c))] /\ n' = nx + 1
end Go.Proofs.YtkdhmbhbbciedaaGreatDoor
namespace Go.Proofs.YtkdhmbhbbciedaaGreatDoor
open Go Go.VL
theorem zbL (c : Code) : zb5 (zb9 c) = some (c.map fun i => [.int .i64 i.op, .int .i64 i.a, .str i.s]) := by
 have : zb9 c = (c.map fun i => [U.int .i64 i.op, .int .i64 i.a, .str i.s]).map (·.map D.u) := by simp [zb9]
 rw [this, zgl]
theorem zfg (c : Code) : (zb9 c).take c.length = zb9 c := by rw [<- zdQ, List.take_length]
theorem zmM {lets : List Let} {sh : Nat -> Exp -> Bool} (s : List UInt8) : ∀ {n : Nat}, n <= lets.length -> nmC lets sh n s = match zfH lets n s with | none => fun c => zcg c ⟨1, 0, s⟩ | some i => match lets[i]? with | some l => zf9 (nmC lets sh i) (sh i) l.body | none => fun c => c
 | 0, _ => by rw [nmC]; rfl
 | n + 1, h => by
  have hl : lets[n]? = some lets[n] := List.getElem?_eq_getElem (by omega);rw [nmC, zfH, hl];simp only;by_cases hs : lets[n].name = s
  ·rw [if_pos hs, if_pos hs];simp only [hl]
  ·rw [if_neg hs, if_neg hs];exact zmM s (by omega)
end Go.Proofs.YtkdhmbhbbciedaaGreatDoor
namespace Go.Proofs.YtkdhmbhbbciedaaGreatDoor
open Go Go.VL
def mvI (n : Nat) (x : Ins) : Ins := if x.op = 12 \/ x.op = 13 then { x with a := x.a + n } else x
def mvC (n : Nat) (l : Code) : Code := l.map (mvI n)
theorem zuh (n : Nat) (x : Ins) : (mvI n x).op = x.op := by unfold mvI; split <;> rfl
theorem zs3 (a b : Nat) (x : Ins) : mvI a (mvI b x) = mvI (a + b) x := by
 unfold mvI;by_cases h : x.op = 12 \/ x.op = 13
 ·simp only [h, if_true]
  congr 1
  omega
 ·simp only [h, if_false]
theorem zlY (a b : Nat) (l : Code) : mvC a (mvC b l) = mvC (a + b) l := by simp [mvC, zs3]
theorem zcq (a : Nat) (l : Code) : (mvC a l).length = l.length := by simp [mvC]
theorem zlZ (a : Nat) (l m : Code) : mvC a (l ++ m) = mvC a l ++ mvC a m := by simp [mvC]
theorem zrb (l : Code) : mvC 0 l = l := by
 unfold mvC
 conv => rhs; rw [<- List.map_id l]
 refine List.map_congr_left fun x _ => ?_;unfold mvI;split
 ·simp
 ·rfl
theorem zpp {n : Nat} {x : Ins} (h : x.op ≠ 12) (h' : x.op ≠ 13) : mvC n [x] = [x] := by simp [mvC, mvI, h, h']
def Rel (F : Code -> Code) (L : Code) : Prop := ∀ c : Code, (c.length + L.length <= 2000 -> F c = c ++ mvC c.length L) /\ ((F c).length <= 2000 -> c.length + L.length <= 2000)
theorem Rel.id : Rel (fun c => c) [] := fun c => ⟨fun _ => by simp [mvC], fun h => by simpa using h⟩
theorem Rel.put {x : Ins} (h : x.op ≠ 12) (h' : x.op ≠ 13) : Rel (fun c => zcg c x) [x] := fun c => ⟨fun hl => by
 simp only [List.length_cons, List.length_nil] at hl;simp only [zcg];rw [if_pos (by omega), zpp h h'], fun hl => by
 have := zeZ hl;simp only [List.length_cons, List.length_nil]; omega⟩
theorem Rel.comp {F G : Code -> Code} {L M : Code} (hF : Rel F L) (hG : Rel G M) : Rel (fun c => G (F c)) (L ++ mvC L.length M) := fun c => by
 obtain ⟨f1, f2⟩ := hF c;obtain ⟨g1, g2⟩ := hG (F c);simp only [List.length_append, zcq];refine ⟨fun hl => ?_, fun hl => ?_⟩
 ·have e := f1 (by omega);have el : (F c).length = c.length + L.length := by rw [e]; simp [zcq]
  rw [g1 (by omega), el, e, zlZ, zlY, List.append_assoc]
 ·have h1 := g2 hl;have h2 := f2 (by omega);have el : (F c).length = c.length + L.length := by rw [f1 h2]; simp [zcq]
  omega
theorem Rel.cast {F : Code -> Code} {L M : Code} (h : Rel F L) (e : L = M) : Rel F M := e ▸ h
def zbo (a b d : Code) : Code := a ++ ⟨13, (a.length + b.length + 2 : Nat), []⟩ :: (mvC (a.length + 1) b ++ ⟨12, (a.length + b.length + d.length + 2 : Nat), []⟩ :: mvC (a.length + b.length + 2) d)
theorem zc9 (a b d : Code) : (zbo a b d).length = a.length + b.length + d.length + 2 := by simp [zbo, zcq]; omega
theorem zkZ {x y : Code} {i : Ins} : zdC (x ++ i :: y) x.length = x ++ { i with a := ((x ++ i :: y : Code).length : Int) } :: y := by
 unfold zdC;rw [List.getElem?_append_right (Nat.le_refl _), Nat.sub_self];simp only [List.getElem?_cons_zero];rw [List.set_append_right _ _ (Nat.le_refl _), Nat.sub_self];rfl
theorem zmK {c : Code} {x : Ins} (h : c.length <= 2000) : zcg c x = c ++ [x] := if_pos h
theorem Rel.choice {A B D : Code -> Code} {a b d : Code} (hA : Rel A a) (hB : Rel B b) (hD : Rel D d) : Rel (zbW A B D) (zbo a b d) := fun c => by
 obtain ⟨a1, a2⟩ := hA c;rw [zc9];refine ⟨fun hl => ?_, fun hl => ?_⟩
 ·have ea := a1 (by omega);have la : (A c).length = c.length + a.length := by rw [ea]; simp [zcq]
  have e2 : zcg (A c) ⟨13, 0, []⟩ = A c ++ [⟨13, 0, []⟩] := zmK (by omega);have l2 : (zcg (A c) ⟨13, 0, []⟩).length = c.length + a.length + 1 := by rw [e2]; simp; omega
  have e3 := (hB (zcg (A c) ⟨13, 0, []⟩)).1 (by omega);have l3 : (B (zcg (A c) ⟨13, 0, []⟩)).length = c.length + a.length + 1 + b.length := by rw [e3]; simp [zcq]; omega
  have e4 : zcg (B (zcg (A c) ⟨13, 0, []⟩)) ⟨12, 0, []⟩ = B (zcg (A c) ⟨13, 0, []⟩) ++ [⟨12, 0, []⟩] := zmK (by omega);have l4 : (zcg (B (zcg (A c) ⟨13, 0, []⟩)) ⟨12, 0, []⟩).length = c.length + a.length + b.length + 2 := by rw [e4]; simp; omega
  unfold zbW;rw [l2, l4];have e5 : zdC (zcg (B (zcg (A c) ⟨13, 0, []⟩)) ⟨12, 0, []⟩) (c.length + a.length + 1 - 1) = A c ++ ⟨13, (c.length + a.length + b.length + 2 : Nat), []⟩ :: (mvC (c.length + a.length + 1) b ++ [⟨12, 0, []⟩]) := by
   have : zcg (B (zcg (A c) ⟨13, 0, []⟩)) ⟨12, 0, []⟩ = A c ++ ⟨13, 0, []⟩ :: (mvC (c.length + a.length + 1) b ++ [⟨12, 0, []⟩]) := by
    rw [e4, e3, l2, e2]; simp
   rw [show c.length + a.length + 1 - 1 = (A c).length by omega];rw [this, zkZ]
   congr 3
   simp [zcq, la]; omega
  rw [e5];generalize hc5 : (A c ++ ⟨13, ((c.length + a.length + b.length + 2 : Nat) : Int), []⟩ :: (mvC (c.length + a.length + 1) b ++ [⟨12, 0, []⟩]) : Code) = c5;have l5 : c5.length = c.length + a.length + b.length + 2 := by rw [<- hc5]; simp [zcq, la]; omega
  have e6 := (hD c5).1 (by omega);rw [e6, l5];have e7 : c5 ++ mvC (c.length + a.length + b.length + 2) d = (A c ++ ⟨13, ((c.length + a.length + b.length + 2 : Nat) : Int), []⟩ :: mvC (c.length + a.length + 1) b) ++ ⟨12, 0, []⟩ :: mvC (c.length + a.length + b.length + 2) d := by
   rw [<- hc5]; simp
  have l7 : (A c ++ ⟨13, ((c.length + a.length + b.length + 2 : Nat) : Int), []⟩ :: mvC (c.length + a.length + 1) b : Code).length = c.length + a.length + b.length + 2 - 1 := by simp [zcq, la]; omega
  have e8 := zkZ (x := (A c ++ ⟨13, ((c.length + a.length + b.length + 2 : Nat) : Int), []⟩ :: mvC (c.length + a.length + 1) b : Code)) (i := ⟨12, 0, []⟩) (y := mvC (c.length + a.length + b.length + 2) d);rw [l7] at e8;have c1 : ∀ (n : Nat) (i : Ins) (l : Code), mvC n (i :: l) = mvI n i :: mvC n l := fun _ _ _ => rfl;have i13 : mvI c.length ⟨13, ((a.length + b.length + 2 : Nat) : Int), []⟩ = ⟨13, ((c.length + a.length + b.length + 2 : Nat) : Int), []⟩ := by simp [mvI]; omega
  have i12 : mvI c.length ⟨12, ((a.length + b.length + d.length + 2 : Nat) : Int), []⟩ = ⟨12, ((c.length + a.length + b.length + d.length + 2 : Nat) : Int), []⟩ := by simp [mvI]; omega
  have lt : (((A c ++ ⟨13, ((c.length + a.length + b.length + 2 : Nat) : Int), []⟩ :: mvC (c.length + a.length + 1) b : Code) ++ ⟨12, 0, []⟩ :: mvC (c.length + a.length + b.length + 2) d : Code).length : Int) = ((c.length + a.length + b.length + d.length + 2 : Nat) : Int) := by
   simp [zcq, la]; omega
  rw [lt] at e8;rw [e7, e8, ea];unfold zbo;rw [zlZ, c1, zlZ, c1, zlY, zlY, i13, i12, show c.length + (a.length + 1) = c.length + a.length + 1 by omega, show c.length + (a.length + b.length + 2) = c.length + a.length + b.length + 2 by omega];simp
 ·unfold zbW at hl;rw [zbG] at hl;have h1 := (hD _).2 hl;rw [zbG] at h1;have p4 := @zeZ (B (zcg (A c) ⟨13, 0, []⟩)) ⟨12, 0, []⟩ (by omega);have h3 := (hB _).2 (by omega : (B (zcg (A c) ⟨13, 0, []⟩)).length <= 2000);have l3 : (B (zcg (A c) ⟨13, 0, []⟩)).length = (zcg (A c) ⟨13, 0, []⟩).length + b.length := by rw [(hB _).1 h3]; simp [zcq]
  have p2 := @zeZ (A c) ⟨13, 0, []⟩ (by omega);have h2 := a2 (by omega);have la : (A c).length = c.length + a.length := by rw [a1 h2]; simp [zcq]
  omega
def zdk (l : Code) : Code := l ++ [⟨11, 0, []⟩, ⟨11, 0, []⟩]
theorem Rel.truth {F : Code -> Code} {L : Code} (h : Rel F L) : Rel (fun c => zdy (F c)) (zdk L) :=
 ((h.comp (Rel.put (x := ⟨11, 0, []⟩) (by simp) (by simp))).comp (Rel.put (x := ⟨11, 0, []⟩) (by simp) (by simp))).cast (by simp [zdk, mvC, mvI])
mutual
def zhm (nm : List UInt8 -> Code) (sh : Exp -> Bool) : Exp -> Code
 | .mk op n _ s args =>
  if op = 0 then [⟨0, n, []⟩]
  else if op = 1 then nm s
  else if op = 10 then zbo (zdU nm sh args 0) (zdk (zdU nm sh args 1)) [⟨0, 0, []⟩]
  else if op = 11 then zbo (zdU nm sh args 0) [⟨0, 1, []⟩] (zdk (zdU nm sh args 1))
  else if op = 13 then zbo (zdU nm sh args 0) (zdU nm sh args 1) (zdU nm sh args 2)
  else zh2 nm sh args ++ [⟨zbl sh op args, 0, []⟩]
def zdU (nm : List UInt8 -> Code) (sh : Exp -> Bool) : List Exp -> Nat -> Code
 | [], _ => []
 | e :: _, 0 => zhm nm sh e
 | _ :: r, i + 1 => zdU nm sh r i
def zh2 (nm : List UInt8 -> Code) (sh : Exp -> Bool) : List Exp -> Code
 | [] => []
 | e :: r => zhm nm sh e ++ mvC (zhm nm sh e).length (zh2 nm sh r)
end
theorem ziE {sh : Exp -> Bool} {op : Int} {args : List Exp} : zbl sh op args ≠ 12 /\ zbl sh op args ≠ 13 := by
 unfold zbl
 repeat' split
 all_goals omega
mutual
theorem zjJ {nm : List UInt8 -> Code -> Code} {nl : List UInt8 -> Code} {sh : Exp -> Bool} (h : ∀ s, Rel (nm s) (nl s)) : ∀ e : Exp, Rel (zf9 nm sh e) (zhm nl sh e)
 | .mk op n u s args => by
  have hN := zm1 (sh := sh) h args;have hA := zm4 (sh := sh) h args
  suffices hs : ∀ (F : Code -> Code), (∀ c : Code, c.length <= 2000 -> zf9 nm sh (.mk op n u s args) c = F c) -> Rel F (zhm nl sh (.mk op n u s args)) -> Rel (zf9 nm sh (.mk op n u s args)) (zhm nl sh (.mk op n u s args)) by
   rw [zhm] at hs ⊢;by_cases h0 : op = 0
   ·rw [if_pos h0] at hs ⊢;exact hs _ (fun c hc => by simp only [zf9, if_neg (show ¬ 2000 < c.length by omega), if_pos h0]) (Rel.put (by simp) (by simp))
   rw [if_neg h0] at hs ⊢;by_cases h1 : op = 1
   ·rw [if_pos h1] at hs ⊢;exact hs _ (fun c hc => by simp only [zf9, if_neg (show ¬ 2000 < c.length by omega), if_neg h0, if_pos h1]) (h s)
   rw [if_neg h1] at hs ⊢;by_cases h2 : op = 10
   ·rw [if_pos h2] at hs ⊢;exact hs _ (fun c hc => by simp only [zf9, if_neg (show ¬ 2000 < c.length by omega), if_neg h0, if_neg h1, if_pos h2]) (Rel.choice (hN 0) (hN 1).truth (Rel.put (x := ⟨0, 0, []⟩) (by simp) (by simp)))
   rw [if_neg h2] at hs ⊢;by_cases h3 : op = 11
   ·rw [if_pos h3] at hs ⊢;exact hs _ (fun c hc => by simp only [zf9, if_neg (show ¬ 2000 < c.length by omega), if_neg h0, if_neg h1, if_neg h2, if_pos h3]) (Rel.choice (hN 0) (Rel.put (x := ⟨0, 1, []⟩) (by simp) (by simp)) (hN 1).truth)
   rw [if_neg h3] at hs ⊢;by_cases h4 : op = 13
   ·rw [if_pos h4] at hs ⊢;exact hs _ (fun c hc => by simp only [zf9, if_neg (show ¬ 2000 < c.length by omega), if_neg h0, if_neg h1, if_neg h2, if_neg h3, if_pos h4]) (Rel.choice (hN 0) (hN 1) (hN 2))
   rw [if_neg h4] at hs ⊢;refine hs (fun c => zcg (zgq nm sh args c) ⟨zbl sh op args, 0, []⟩) (fun c hc => by simp only [zf9, if_neg (show ¬ 2000 < c.length by omega), if_neg h0, if_neg h1, if_neg h2, if_neg h3, if_neg h4]) ?_;obtain ⟨o1, o2⟩ := ziE (sh := sh) (op := op) (args := args);exact (hA.comp (Rel.put (x := ⟨zbl sh op args, 0, []⟩) o1 o2)).cast (by rw [zpp (by exact o1) (by exact o2)])
  intro F hF hR c;have hpre := (hR c);by_cases hc : c.length <= 2000
  ·rw [hF c hc]; exact hR c
  ·refine ⟨fun hl => by omega, fun hl => ?_⟩;simp only [zf9, if_pos (show 2000 < c.length by omega)] at hl;omega
theorem zm1 {nm : List UInt8 -> Code -> Code} {nl : List UInt8 -> Code} {sh : Exp -> Bool} (h : ∀ s, Rel (nm s) (nl s)) : ∀ (l : List Exp) (i : Nat), Rel (zfY nm sh l i) (zdU nl sh l i)
 | [], i => by rw [zfY, zdU]; exact Rel.id
 | e :: r, 0 => by rw [zfY, zdU]; exact zjJ h e
 | e :: r, i + 1 => by rw [zfY, zdU]; exact zm1 h r i
theorem zm4 {nm : List UInt8 -> Code -> Code} {nl : List UInt8 -> Code} {sh : Exp -> Bool} (h : ∀ s, Rel (nm s) (nl s)) : ∀ (l : List Exp), Rel (zgq nm sh l) (zh2 nl sh l)
 | [] => by rw [zgq, zh2]; exact Rel.id
 | e :: r => by rw [zgq, zh2]; exact (zjJ h e).comp (zm4 h r)
end
def nmL (lets : List Let) (sh : Nat -> Exp -> Bool) : Nat -> List UInt8 -> Code
 | 0, s => [⟨1, 0, s⟩]
 | n + 1, s => match lets[n]? with
  | none => [⟨1, 0, s⟩]
  | some l => if l.name = s then zhm (nmL lets sh n) (sh n) l.body else nmL lets sh n s
theorem zpl {lets : List Let} {sh : Nat -> Exp -> Bool} : ∀ (n : Nat) (s : List UInt8), Rel (nmC lets sh n s) (nmL lets sh n s)
 | 0, s => by rw [nmC, nmL]; exact Rel.put (x := ⟨1, 0, s⟩) (by simp) (by simp)
 | n + 1, s => by
  rw [nmC, nmL];cases hl : lets[n]? with
  | none => exact Rel.put (x := ⟨1, 0, s⟩) (by simp) (by simp)
  | some l =>
   by_cases hn : l.name = s
   ·simp only [if_pos hn];exact zjJ (fun t => zpl (lets := lets) (sh := sh) n t) _
   ·simp only [if_neg hn];exact zpl n s
def zh8 (lets : List Let) (sh : Nat -> Exp -> Bool) (e : Exp) : Code := zhm (nmL lets sh lets.length) (sh lets.length) e
theorem zrJ (lets : List Let) (e : Exp) : ((zg9 lets e).length < 2000 ↔ (zh8 lets (shF lets) e).length < 2000) /\ ((zg9 lets e).length < 2000 -> zg9 lets e = zh8 lets (shF lets) e) := by
 have h := zjJ (sh := shF lets lets.length) (fun s => zpl (lets := lets) (sh := shF lets) lets.length s) e [];have h1 : (zh8 lets (shF lets) e).length <= 2000 -> zg9 lets e = zh8 lets (shF lets) e := fun hl => by
  have := h.1 (by simpa [zh8] using hl);rw [List.nil_append, List.length_nil, zrb] at this;exact this
 have h2 : (zg9 lets e).length <= 2000 -> (zh8 lets (shF lets) e).length <= 2000 := fun hl => by simpa [zh8] using h.2 hl
 exact ⟨⟨fun hl => by rw [<- h1 (h2 (by omega))]; exact hl, fun hl => by rw [h1 (by omega)]; exact hl⟩, fun hl => h1 (h2 (by omega))⟩
end Go.Proofs.YtkdhmbhbbciedaaGreatDoor
namespace Go.Proofs.YtkdhmbhbbciedaaGreatDoor
open Go Go.VL
mutual
def zig (nm : List UInt8 -> Code) (sh : Exp -> Bool) : Exp -> Code
 | .mk op n _ s args =>
  if op = 0 then [⟨0, n, []⟩]
  else if op = 1 then nm s
  else if 4000 < (zeb nm sh args 0).length \/ op = 12 then zeb nm sh args 0 ++ [⟨11, 0, []⟩]
  else if 4000 < (zeb nm sh args 1).length then zeb nm sh args 1
  else if op = 10 then zbo (zeb nm sh args 0) (zdk (zeb nm sh args 1)) [⟨0, 0, []⟩]
  else if op = 11 then zbo (zeb nm sh args 0) [⟨0, 1, []⟩] (zdk (zeb nm sh args 1))
  else if op = 13 then zbo (zeb nm sh args 0) (zeb nm sh args 1) (zeb nm sh args 2)
  else zeb nm sh args 0 ++ mvC (zeb nm sh args 0).length (zeb nm sh args 1) ++ [⟨zbl sh op args, 0, []⟩]
def zeb (nm : List UInt8 -> Code) (sh : Exp -> Bool) : List Exp -> Nat -> Code
 | [], _ => []
 | e :: _, 0 => zig nm sh e
 | _ :: r, i + 1 => zeb nm sh r i
end
theorem zjQ (nm sh) (e : Exp) : zig nm sh e = if e.op = 0 then [⟨0, e.n, []⟩]
  else if e.op = 1 then nm e.s
  else if 4000 < (zeb nm sh e.args 0).length \/ e.op = 12 then zeb nm sh e.args 0 ++ [⟨11, 0, []⟩]
  else if 4000 < (zeb nm sh e.args 1).length then zeb nm sh e.args 1
  else if e.op = 10 then zbo (zeb nm sh e.args 0) (zdk (zeb nm sh e.args 1)) [⟨0, 0, []⟩]
  else if e.op = 11 then zbo (zeb nm sh e.args 0) [⟨0, 1, []⟩] (zdk (zeb nm sh e.args 1))
  else if e.op = 13 then zbo (zeb nm sh e.args 0) (zeb nm sh e.args 1) (zeb nm sh e.args 2)
  else zeb nm sh e.args 0 ++ mvC (zeb nm sh e.args 0).length (zeb nm sh e.args 1) ++ [⟨zbl sh e.op e.args, 0, []⟩] := by
 cases e with | mk op n u s args => rw [zig]; rfl
theorem ztd (nm sh) (e : Exp) : zhm nm sh e = if e.op = 0 then [⟨0, e.n, []⟩]
  else if e.op = 1 then nm e.s
  else if e.op = 10 then zbo (zdU nm sh e.args 0) (zdk (zdU nm sh e.args 1)) [⟨0, 0, []⟩]
  else if e.op = 11 then zbo (zdU nm sh e.args 0) [⟨0, 1, []⟩] (zdk (zdU nm sh e.args 1))
  else if e.op = 13 then zbo (zdU nm sh e.args 0) (zdU nm sh e.args 1) (zdU nm sh e.args 2)
  else zh2 nm sh e.args ++ [⟨zbl sh e.op e.args, 0, []⟩] := by
 cases e with | mk op n u s args => rw [zhm]; rfl
def nmX (lets : List Let) (sh : Nat -> Exp -> Bool) : Nat -> List UInt8 -> Code
 | 0, s => [⟨1, 0, s⟩]
 | n + 1, s => match lets[n]? with
  | none => [⟨1, 0, s⟩]
  | some l => if l.name = s then zig (nmX lets sh n) (sh n) l.body else nmX lets sh n s
def Cut (a b : Code) : Prop := a = b \/ 4000 < a.length /\ 4000 < b.length
theorem zr8 {e : Exp} (h : e.args.length = 1) : ∃ a, e.args = [a] := by
 match hq : e.args, h with | [a], _ => exact ⟨a, rfl⟩
theorem zoA {e : Exp} (h : e.args.length = 3) : ∃ a b c, e.args = [a, b, c] := by
 match hq : e.args, h with | [a, b, c], _ => exact ⟨a, b, c, rfl⟩
theorem zdN (l : Code) : (zdk l).length = l.length + 2 := by simp [zdk]
theorem Cut.choice {a b c c' : Code} (h : Cut c c') : Cut (zbo a b c) (zbo a b c') := by
 rcases h with rfl | ⟨h1, h2⟩
 ·exact .inl rfl
 ·refine .inr ⟨?_, ?_⟩ <;> rw [zc9] <;> omega
theorem zmg {nm nl : List UInt8 -> Code} {sh : Exp -> Bool} (h : ∀ s, Cut (nm s) (nl s)) : ∀ (d : Nat) (e : Exp), zaL d e = true -> Cut (zig nm sh e) (zhm nl sh e)
 | 0, e, he => by simp [zaL] at he
 | d + 1, e, he => by
  obtain ⟨h1, h2, h3, h4⟩ := zdf he;rw [zjQ, ztd];by_cases h0 : e.op = 0
  ·rw [if_pos h0, if_pos h0]; exact .inl rfl
  rw [if_neg h0, if_neg h0];by_cases hn : e.op = 1
  ·rw [if_pos hn, if_pos hn]; exact h _
  rw [if_neg hn, if_neg hn];have ih := fun x hx => zmg (sh := sh) h d x (h4 h0 hn x hx);by_cases h12 : e.op = 12
  ·obtain ⟨a, ha⟩ := zr8 (e := e) (by rw [h12] at h1; simp [zaO] at h1; omega);rw [if_pos (.inr h12), h12, ha, if_neg (by decide), if_neg (by decide), if_neg (by decide)];have := ih a (by simp [ha]);simp only [zeb, zh2, mvC, List.map_nil, List.append_nil];rcases this with e1 | ⟨e1, e2⟩
   ·rw [e1]; exact .inl (by simp [zbl])
   ·exact .inr (by simp; omega)
  obtain ⟨a, b, r, hab⟩ : ∃ a b r, e.args = a :: b :: r := by
   unfold zaO at h1;rw [if_neg (by omega), if_neg h12] at h1
   match hq : e.args with
   | a :: b :: r => exact ⟨a, b, r, rfl⟩
   | [a] => rw [hq] at h1; simp at h1; split at h1 <;> (try split at h1) <;> omega
   | [] => rw [hq] at h1; simp at h1; split at h1 <;> (try split at h1) <;> omega
  have iha := ih a (by simp [hab]);have ihb := ih b (by simp [hab]);have ca : zeb nm sh e.args 0 = zig nm sh a := by rw [hab, zeb]
  have cb : zeb nm sh e.args 1 = zig nm sh b := by rw [hab, zeb, zeb]
  have ga : zdU nl sh e.args 0 = zhm nl sh a := by rw [hab, zdU]
  have gb : zdU nl sh e.args 1 = zhm nl sh b := by rw [hab, zdU, zdU]
  rw [ca, cb, ga, gb];have hlong : ∀ k, k < (zhm nl sh a).length \/ k < (zhm nl sh b).length -> k < (if e.op = 10 then zbo (zhm nl sh a) (zdk (zhm nl sh b)) [⟨0, 0, []⟩] else if e.op = 11 then zbo (zhm nl sh a) [⟨0, 1, []⟩] (zdk (zhm nl sh b))
   else if e.op = 13 then zbo (zhm nl sh a) (zhm nl sh b) (zdU nl sh e.args 2) else zh2 nl sh e.args ++ [⟨zbl sh e.op e.args, 0, []⟩]).length := by
   intro k hk
   repeat' split
   ·rw [zc9, zdN]; omega
   ·rw [zc9, zdN]; omega
   ·rw [zc9]; omega
   ·rw [hab, zh2, zh2]; simp [zcq]; omega
  by_cases hla : 4000 < (zig nm sh a).length
  ·rw [if_pos (.inl hla)];refine .inr ⟨by simp; omega, hlong _ ?_⟩;rcases iha with e1 | e1
   ·rw [<- e1]; exact .inl hla
   ·exact .inl e1.2
  rw [if_neg (by omega)];have ea : zig nm sh a = zhm nl sh a := by
   rcases iha with e1 | e1
   ·exact e1
   ·exact absurd e1.1 hla
  by_cases hlb : 4000 < (zig nm sh b).length
  ·rw [if_pos hlb];refine .inr ⟨hlb, hlong _ ?_⟩;rcases ihb with e1 | e1
   ·rw [<- e1]; exact .inr hlb
   ·exact .inr e1.2
  rw [if_neg hlb];have eb : zig nm sh b = zhm nl sh b := by
   rcases ihb with e1 | e1
   ·exact e1
   ·exact absurd e1.1 hlb
  rw [ea, eb];by_cases h10 : e.op = 10
  ·rw [if_pos h10, if_pos h10]; exact .inl rfl
  rw [if_neg h10, if_neg h10];by_cases h11 : e.op = 11
  ·rw [if_pos h11, if_pos h11]; exact .inl rfl
  rw [if_neg h11, if_neg h11];by_cases h13 : e.op = 13
  ·rw [if_pos h13, if_pos h13];obtain ⟨a', b', c, hc⟩ := zoA (e := e) (by rw [h13] at h1; simp [zaO] at h1; omega);have ihc := ih c (by simp [hc]);rw [hc] at hab;cases hab;rw [hc];simp only [zeb, zdU];exact ihc.choice
  rw [if_neg h13, if_neg h13];have hr : r = [] := by
   have : (e.args.length : Int) = 2 := by rw [h1]; unfold zaO; rw [if_neg (by omega), if_neg h12, if_neg h13, if_neg (by omega)]
   rw [hab] at this;simp at this;cases r with
   | nil => rfl
   | cons x r => simp at this; omega
  subst hr;rw [hab];exact .inl (by simp [zh2, mvC])
theorem zjP {lets : List Let} {sh : Nat -> Exp -> Bool} (hr : ∀ l ∈ lets, zaL 12 l.body = true) : ∀ (n : Nat) (s : List UInt8), Cut (nmX lets sh n s) (nmL lets sh n s)
 | 0, s => .inl rfl
 | n + 1, s => by
  rw [nmX, nmL];cases hl : lets[n]? with
  | none => exact .inl rfl
  | some l =>
   by_cases hn : l.name = s
   ·simp only [if_pos hn];exact zmg (fun t => zjP hr n t) 12 _ (hr l (List.mem_of_getElem? hl))
   ·simp only [if_neg hn];exact zjP hr n s
theorem zrF {lets : List Let} {sh : Nat -> Exp -> Bool} (hr : ∀ l ∈ lets, zaL 12 l.body = true) {e : Exp} (he : zaL 12 e = true) : Cut (zig (nmX lets sh lets.length) (sh lets.length) e) (zh8 lets sh e) :=
 zmg (fun s => zjP hr lets.length s) 12 e he
def JB (B : Nat) (l : Code) : Prop := ∀ x ∈ l, x.op = 12 \/ x.op = 13 -> 0 <= x.a /\ x.a <= B
theorem JB.le {B C : Nat} {l : Code} (h : JB B l) (hc : B <= C) : JB C l := fun x hx ho => by have := h x hx ho; omega
theorem JB.app {B : Nat} {a b : Code} (ha : JB B a) (hb : JB B b) : JB B (a ++ b) := fun x hx ho => by
 rcases List.mem_append.1 hx with h | h
 ·exact ha x h ho
 ·exact hb x h ho
theorem JB.one {B : Nat} {x : Ins} (h : x.op = 12 \/ x.op = 13 -> 0 <= x.a /\ x.a <= B) : JB B [x] := fun y hy ho => by
 simp at hy; subst hy; exact h ho
theorem JB.mv {B n : Nat} {l : Code} (h : JB B l) : JB (B + n) (mvC n l) := fun x hx ho => by
 obtain ⟨y, hy, rfl⟩ := List.mem_map.1 hx;rw [zuh] at ho;have := h y hy ho;unfold mvI;rw [if_pos ho];simp only;omega
theorem JB.truth {B : Nat} {l : Code} (h : JB B l) : JB B (zdk l) := h.app fun x hx ho => by
 simp at hx; rcases hx with rfl | rfl <;> simp at ho
theorem JB.choice {B : Nat} {a b c : Code} (ha : JB B a) (hb : JB B b) (hc : JB B c) (la : a.length <= 4002) (lb : b.length <= 4002) (lc : c.length <= B + 2) : JB (B + 9000) (zbo a b c) := by
 unfold zbo;refine (ha.le (by omega)).app ?_;rw [show ∀ (x : Ins) (l : Code), x :: l = [x] ++ l from fun _ _ => rfl];refine (JB.one fun _ => by simp only; omega).app ?_;refine (hb.mv.le (by omega)).app ?_;rw [show ∀ (x : Ins) (l : Code), x :: l = [x] ++ l from fun _ _ => rfl];exact (JB.one fun _ => by simp only; omega).app (hc.mv.le (by omega))
theorem zhb {nm : List UInt8 -> Code} {sh : Exp -> Bool} {B : Nat} (h : ∀ s, (nm s).length <= B /\ JB B (nm s)) (hB : 1 <= B) : ∀ (d : Nat) (e : Exp), zaL d e = true -> (zig nm sh e).length <= B + d * 9000 /\ JB (B + d * 9000) (zig nm sh e)
 | 0, e, he => by simp [zaL] at he
 | d + 1, e, he => by
  obtain ⟨h1, h2, h3, h4⟩ := zdf he;have hN : ∀ i, e.op ≠ 0 -> e.op ≠ 1 -> (zeb nm sh e.args i).length <= B + d * 9000 /\ JB (B + d * 9000) (zeb nm sh e.args i) := fun i g0 g1 => by
   have ih := fun x hx => zhb (sh := sh) h hB d x (h4 g0 g1 x hx);generalize e.args = l at ih
   induction l generalizing i with
   | nil => exact ⟨by simp [zeb], fun x hx => by simp [zeb] at hx⟩
   | cons x r ihr =>
    cases i with
    | zero => rw [zeb]; exact ih x (by simp)
    | succ i => rw [zeb]; exact ihr i fun y hy => ih y (by simp [hy])
  rw [zjQ];by_cases h0 : e.op = 0
  ·rw [if_pos h0]; exact ⟨by simp; omega, JB.one fun h => by simp at h⟩
  rw [if_neg h0];by_cases hn : e.op = 1
  ·rw [if_pos hn]; have := h e.s; exact ⟨by omega, this.2.le (by omega)⟩
  rw [if_neg hn];obtain ⟨l0, j0⟩ := hN 0 h0 hn;obtain ⟨l1, j1⟩ := hN 1 h0 hn;obtain ⟨l2, j2⟩ := hN 2 h0 hn;have e9 : B + (d + 1) * 9000 = B + d * 9000 + 9000 := by omega
  rw [e9];by_cases ha : 4000 < (zeb nm sh e.args 0).length \/ e.op = 12
  ·rw [if_pos ha]; exact ⟨by simp; omega, (j0.le (by omega)).app (JB.one fun h => by simp at h)⟩
  rw [if_neg ha];by_cases hb : 4000 < (zeb nm sh e.args 1).length
  ·rw [if_pos hb]; exact ⟨by omega, j1.le (by omega)⟩
  rw [if_neg hb];have t1 := zdN (zeb nm sh e.args 1)
  repeat' split
  ·exact ⟨by rw [zc9, zdN]; simp; omega, j0.choice j1.truth (JB.one fun h => by simp at h) (by omega) (by omega) (by simp)⟩
  ·exact ⟨by rw [zc9, zdN]; simp; omega, j0.choice (JB.one fun h => by simp at h) j1.truth (by omega) (by simp) (by omega)⟩
  ·exact ⟨by rw [zc9]; omega, j0.choice j1 j2 (by omega) (by omega) (by omega)⟩
  ·refine ⟨by simp [zcq]; omega, ((j0.le (by omega)).app (j1.mv.le (by omega))).app (JB.one fun h => ?_)⟩;obtain ⟨o1, o2⟩ := ziE (sh := sh) (op := e.op) (args := e.args);rcases h with h | h
   ·exact absurd h o1
   ·exact absurd h o2
theorem zjw {lets : List Let} {sh : Nat -> Exp -> Bool} (hr : ∀ l ∈ lets, zaL 12 l.body = true) : ∀ (n : Nat) (s : List UInt8), (nmX lets sh n s).length <= 1 + n * 108000 /\ JB (1 + n * 108000) (nmX lets sh n s)
 | 0, s => ⟨by simp [nmX], JB.one fun h => by simp at h⟩
 | n + 1, s => by
  rw [nmX];cases hl : lets[n]? with
  | none => exact ⟨by simp, JB.one fun h => by simp at h⟩
  | some l =>
   by_cases hn : l.name = s
   ·simp only [if_pos hn];have := zhb (sh := sh n) (fun t => zjw hr (sh := sh) n t) (by omega) 12 _ (hr l (List.mem_of_getElem? hl));exact ⟨by omega, this.2.le (by omega)⟩
   ·simp only [if_neg hn];have := zjw hr (sh := sh) n s;exact ⟨by omega, this.2.le (by omega)⟩
end Go.Proofs.YtkdhmbhbbciedaaGreatDoor
namespace Go.Proofs.YtkdhmbhbbciedaaGreatDoor
open Go Go.VL
abbrev zdJ : TypeId := 44
theorem zeQ (a b : Code) : zb9 (a ++ b) = zb9 a ++ zb9 b := by simp [zb9]
theorem zrc {n : Nat} {l : Code} {i : Nat} {x : Ins} (h : l[i]? = some x) : zb9 (mvC n (l.take (i + 1))) = zb9 (mvC n (l.take i)) ++ [[.u (.int .i64 (mvI n x).op), .u (.int .i64 (mvI n x).a), .u (.str (mvI n x).s)]] := by
 obtain ⟨hi, rfl⟩ := List.getElem?_eq_some_iff.1 h;rw [List.take_succ_eq_append_getElem hi];simp only [mvC, zb9, List.map_append, List.map_cons, List.map_nil]
abbrev OwnC (L : Code) (nx : Nat) : Out -> List (Nat × Ob) -> Nat -> Prop := fun r o n => r = .val (.vec nx L.length) /\ o = [(nx, kOb L)] /\ n = nx + 1
end Go.Proofs.YtkdhmbhbbciedaaGreatDoor
namespace Go.Proofs.YtkdhmbhbbciedaaGreatDoor
open Go Go.VL
theorem rowsD_ins (c : Code) : rowsD (c.map fun i => [.int .i64 i.op, .int .i64 i.a, .str i.s]) = zb9 c := by simp [rowsD, zb9]
theorem zeF {P : Program} {Γ : Ctx} {s s' : St} {k : St -> Prop} {dst : Option Tmp} {fop : Operand} {args : List Operand} (_ : (args.map (opd s)).any zs8 = true) (e : frzN 1 s = s') (h : CallP P Γ fop args dst s' k) : CallP P Γ fop args dst s k := znk (e ▸ Wk.frzN 1 _) h
end Go.Proofs.YtkdhmbhbbciedaaGreatDoor
namespace Go.Proofs.YtkdhmbhbbciedaaGreatDoor
open Go Go.VL
abbrev zmR (l : Let) : List U := [.str l.name, .int .i64 l.body.op, .int .i64 l.body.n, .int .i64 l.body.unit, .str l.body.s, .sl (l.body.args.map Exp.row)]
abbrev xC (lets : List Let) (n : Nat) (e : Exp) : Code := zig (nmX lets (shF lets) n) (shF lets n) e
def XOK (lets : List Let) (n : Nat) (e : Exp) : Prop := ∀ nx, RetX Tryz.prog 40 [.u (.sl ((lets.map zmR).take n)), .u (.agg e.row)] [] nx (OwnC (xC lets n e) nx)
theorem OwnC.n {f ds L} (h : ∀ nx, RetX Tryz.prog f ds [] nx (OwnC L nx)) (nx : Nat) : RetX Tryz.prog f ds [] nx fun q o n => q = .val (mkD (.vec L.length) nx) /\ (∀ y, getK o y = getK [(nx, kOb L)] y) /\ n = nx + 1 :=
 (h nx).mono fun r o n ⟨h1, h2, h3⟩ => ⟨h1, fun y => by rw [h2], h3⟩
theorem zuG {P : Program} {Γ : Ctx} {s s' : St} {Q : Exit -> St -> Prop} {id l} (_ : s.env.any (fun p => zs8 p.2) = true) (e : frzN 1 s = s') (h : V P Γ (.region id l true) s' Q) : V P Γ (.region id l true) s Q := zlG _ (e ▸ Wk.frzN 1 _) h
end Go.Proofs.YtkdhmbhbbciedaaGreatDoor
namespace Go.Proofs.YtkdhmbhbbciedaaGreatDoor
open Go Go.VL
theorem zdx (lets : List Let) (n : Nat) (l : List Exp) (i : Nat) (x : Exp) (h : l[i]? = some x) : zeb (nmX lets (shF lets) n) (shF lets n) l i = xC lets n x := by
 induction l generalizing i with
 | nil => simp at h
 | cons y r ih =>
  cases i with
  | zero => simp at h; subst h; rw [zeb]
  | succ i => rw [zeb]; exact ih i (by simpa using h)
end Go.Proofs.YtkdhmbhbbciedaaGreatDoor
namespace Go.Proofs.YtkdhmbhbbciedaaGreatDoor
open Go Go.VL
theorem OwnC.cast {f ds L L'} (h : ∀ nx, RetX Tryz.prog f ds [] nx (OwnC L nx)) (e : L = L') : ∀ nx, RetX Tryz.prog f ds [] nx (OwnC L' nx) := e ▸ h
theorem zsx (n : Nat) : mvC n [(⟨11, 0, []⟩ : Ins), ⟨11, 0, []⟩] = [⟨11, 0, []⟩, ⟨11, 0, []⟩] := by simp [mvC, mvI]
theorem zh3 (σ : D -> Option U) (h : ∀ x, σ (.u x) = none) (c : Code) : List.map ((fun r => List.map (frzS σ) r) ∘ fun (i : Ins) => [D.u (.int .i64 i.op), D.u (.int .i64 i.a), D.u (.str i.s)]) c = zb9 c := by simp [zb9, frzS, h, Function.comp_def]
end Go.Proofs.YtkdhmbhbbciedaaGreatDoor
namespace Go.Proofs.YtkdhmbhbbciedaaGreatDoor
open Go Go.VL
abbrev zrl (l : Let) : List U := [.str l.name, .int .i64 l.body.op, .int .i64 l.body.n, .int .i64 l.body.unit, .str l.body.s, .sl (l.body.args.map Exp.row)]
end Go.Proofs.YtkdhmbhbbciedaaGreatDoor
namespace Go.Proofs.YtkdhmbhbbciedaaGreatDoor
open Go Go.VL
def zsB (l : Code) : Bool := decide (l.length <= 100) && l.all fun x => decide (x.s.length <= 40)
end Go.Proofs.YtkdhmbhbbciedaaGreatDoor
namespace Go.Proofs.YtkdhmbhbbciedaaGreatDoor
open Go Go.VL
attribute [local simp] HS zba zcP zb4 evPure opd uOf zat St.put St.at getK binD binI binS binB nilD aggD ze5 zfC lookD lookR zbZ rangeS Go.VL.nextD Go.VL.nextS zb1 zfI zfF ze0 zci mkV zbb zcX zaW za9 mapEff zdX zeK Key.kk shiftI arith unD convD zdg loadD cellsAt fieldAddrD fieldD indexAddrD indexSlD arrAddr indexD sliceD cutD lenD minmaxD nilCheckD buildD fillD zbu zcQ zek setAll zcI zed zbU ze3 zbR St.add zaq zbe rowsOf zcY zco zad zac zaa za5 zcH zaS entry za6 zbc valD zb7 zcG ze4 zcV zcW zbz zbv zag zaM za8 delAll effD St.effS zck zaJ zaw zcl zaK zay zbr zax zas zbs zch za7 zbq zaU zbp zai mkD zb3 zbg zbk zag zb6 D.ids Op.operands Call.operands zbj makeIfD makeFuncD typeAssertD zfB zc2 zc4 zfn zb0 IntKind.bits zb5 zam List.take_of_length_le List.range_succ zcA zbJ zcB zcu zbf zbA zbC zcv zbE za0 zbD zbB zgo zbI zcy zaQ zaB zcz zaR zaD zbH zaC zau zcE zcF zfZ zab frzN frz1 zaH zaG St.frz St.frzS frzS fv zbh zbx zbM zaI zar zal frz zbN za1 za2 zbt zbP zbQ zaV St.norm St.lp St.only zaA wkE wkO wkU Ob.under D.under zak zap zcC zbK zcD h4s zdt zao zaY List.zipIdx_cons List.zipIdx_nil List.map_cons List.map_nil Nat.zero_add
attribute [local irreducible] V G H HD HD2 HD4 zg5 RetX zaX Eff CallP CallV EndOK Fun Ret FinOK LoopI LoopW EndW HR vs2 RN Cnd H4
end Go.Proofs.YtkdhmbhbbciedaaGreatDoor
namespace Go.Proofs.YtkdhmbhbbciedaaGreatDoor
open Go Go.VL
section
variable {lets : List Let} {G : List UInt8 -> Option Int} {n : Nat} {e x y z : Exp} {t t1 t2 : Tab}
end
attribute [local simp] HS zba zcP zb4 evPure opd uOf zat St.put St.at getK binD binI binS binB nilD aggD ze5 zfC lookD lookR zbZ rangeS Go.VL.nextD Go.VL.nextS zb1 zfI zfF ze0 zci mkV zbb zcX zaW za9 mapEff zdX zeK Key.kk shiftI arith unD convD zdg loadD cellsAt fieldAddrD fieldD indexAddrD indexSlD arrAddr indexD sliceD cutD lenD minmaxD nilCheckD buildD fillD zbu zcQ zek setAll zcI zed zbU ze3 zbR St.add zaq zbe rowsOf zcY zco zad zac zaa za5 zcH zaS entry za6 zbc valD zb7 zcG ze4 zcV zcW zbz zbv zag zaM za8 delAll effD St.effS zck zaJ zaw zcl zaK zay zbr zax zas zbs zch za7 zbq zaU zbp zai mkD zb3 zbg zbk zag zb6 D.ids Op.operands Call.operands zbj makeIfD makeFuncD typeAssertD zfB zc2 zc4 zfn zb0 IntKind.bits zb5 zam List.take_of_length_le List.range_succ zcA zbJ zcB zcu zbf zbA zbC zcv zbE za0 zbD zbB zgo zbI zcy zaQ zaB zcz zaR zaD zbH zaC zau zcE zcF zfZ zab frzN frz1 zaH zaG St.frz St.frzS frzS fv zbh zbx zbM zaI zar zal frz zbN za1 za2 zbt zbP zbQ zaV St.norm St.lp St.only zaA wkE wkO wkU Ob.under D.under zak zap zcC zbK zcD h4s zdt zao zaY List.zipIdx_cons List.zipIdx_nil List.map_cons List.map_nil Nat.zero_add
attribute [local irreducible] V G H HD HD2 HD4 zg5 RetX zaX Eff CallP CallV EndOK Fun Ret FinOK LoopI LoopW EndW HR vs2 RN Cnd H4
end Go.Proofs.YtkdhmbhbbciedaaGreatDoor
namespace Go.Proofs.YtkdhmbhbbciedaaGreatDoor
open Go Go.VL
attribute [local simp] HS zba zcP zb4 evPure opd uOf zat St.put St.at getK binD binI binS binB nilD aggD ze5 zfC lookD lookR zbZ rangeS Go.VL.nextD Go.VL.nextS zb1 zfI zfF ze0 zci mkV zbb zcX zaW za9 mapEff zdX zeK Key.kk shiftI arith unD convD zdg loadD cellsAt fieldAddrD fieldD indexAddrD indexSlD arrAddr indexD sliceD cutD lenD minmaxD nilCheckD buildD fillD zbu zcQ zek setAll zcI zed zbU ze3 zbR St.add zaq zbe rowsOf zcY zco zad zac zaa za5 zcH zaS entry za6 zbc valD zb7 zcG ze4 zcV zcW zbz zbv zag zaM za8 delAll effD St.effS zck zaJ zaw zcl zaK zay zbr zax zas zbs zch za7 zbq zaU zbp zai mkD zb3 zbg zbk zag zb6 D.ids Op.operands Call.operands zbj makeIfD makeFuncD typeAssertD zfB zc2 zc4 zfn zb0 IntKind.bits zb5 zam List.take_of_length_le List.range_succ zcA zbJ zcB zcu zbf zbA zbC zcv zbE za0 zbD zbB zgo zbI zcy zaQ zaB zcz zaR zaD zbH zaC zau zcE zcF zfZ zab frzN frz1 zaH zaG St.frz St.frzS frzS fv zbh zbx zbM zaI zar zal frz zbN za1 za2 zbt zbP zbQ zaV St.norm St.lp St.only zaA wkE wkO wkU Ob.under D.under zak zap zcC zbK zcD h4s zdt zao zaY List.zipIdx_cons List.zipIdx_nil List.map_cons List.map_nil Nat.zero_add
attribute [local irreducible] V G H HD HD2 HD4 zg5 RetX zaX Eff CallP CallV EndOK Fun Ret FinOK LoopI LoopW EndW HR vs2 RN Cnd H4
theorem zdA (l : List Tok) (p : Nat) (t : Tok) (hp : l[p]? = some t) (hl : l.length <= 1000000) : Fun Tryz.prog 108 [.u (zsv l p)] (· = .u (.agg [.int .i64 t.kind, .str t.text, .int .i64 t.n, .int .i64 t.pos])) := by
 have hlt := (List.getElem?_eq_some_iff.1 hp).1;unfold zsv zoW;refine Fun.run Tryz.func108 Tryz.ntmps108 Tryz.results108 rfl (by simp) fun Γ hn => ?_
 repeat' (first
  | (refine zaf rfl ?_; simp [hp])
  | (refine ⟨hC _ (by kernel_rfl), hk _ (zeI 8 _ _ _ ?_)⟩; clear hC hk C k; simp [hp])
  | (refine zeH rfl (by kernel_rfl) (by first | (simp [hn]; done) | (simp [hn]; omega) | fail) fun C k hC hk => ?_; simp [hp])
  | fail)
 (refine Pst.of ?_; simp)
theorem zg0 (l : List Tok) (p : Nat) (w : List UInt8) (hp : p < l.length) (hl : l.length <= 1000000) : Fun Tryz.prog 143 [.u (zsv l p), .u (.str w)] (· = .u (.bool (isB l p w))) := by
 obtain ⟨t, ht⟩ : ∃ t, l[p]? = some t := ⟨_, List.getElem?_eq_getElem hp⟩;have hnx := zdA l p t ht hl;unfold isB;rw [ht];unfold zsv zoW at *;by_cases h1 : t.kind = 0
 ·refine Fun.run Tryz.func143 Tryz.ntmps143 Tryz.results143 rfl (by simp) fun Γ hn => ?_
  repeat' (first
  | (refine zaf rfl ?_; simp [h1])
  | (refine CallP.f2 rfl (hnx) (by first | simp [h1] <;> rfl | fail) ?_; simp [h1])
  | fail)
  all_goals
   (refine Pst.of ?_; simp)
  all_goals simp [h1]
 ·refine Fun.run Tryz.func143 Tryz.ntmps143 Tryz.results143 rfl (by simp) fun Γ hn => ?_
  repeat' (first
  | (refine zaf rfl ?_; simp [h1])
  | (refine CallP.f2 rfl (hnx) (by first | simp [h1] <;> rfl | fail) ?_; simp [h1])
  | fail)
  all_goals
   (refine Pst.of ?_; simp)
  all_goals simp [h1]
theorem zcr (l : List Tok) (p : Nat) (w : List UInt8) (i nx : Nat) (hi : i < nx) (hp : p < l.length) (hl : l.length <= 1000000) :
  RetX Tryz.prog 168 [.ptr i 0, .u (.str w)] [(i, pOb l p)] nx (fun r o n => r = .val (.u (.bool (isB l p w))) /\ o = [(i, pOb l (if isB l p w = true then p + 1 else p))] /\ n = nx) := by
 have h1 := zg0 l p w hp hl;unfold pOb zsv zoW at *;cases hb : isB l p w with
 | false =>
  rw [hb] at h1;refine RetX.runW Tryz.func168 Tryz.ntmps168 rfl (by simp) fun Γ hn hpan => ?_
  repeat' (first
  | (refine zaf rfl ?_; simp)
  | (refine CallP.f2 rfl (h1) (by first | simp <;> rfl | fail) ?_; simp)
  | fail)
  (refine EndW.h Tryz.results168 ?_; simp)
 | true =>
  rw [hb] at h1;refine RetX.runW Tryz.func168 Tryz.ntmps168 rfl (by simp) fun Γ hn hpan => ?_
  repeat' (first
  | (refine zaf rfl ?_; simp)
  | (refine And.intro (by omega) ?_)
  | (refine CallP.f2 rfl (h1) (by first | simp <;> rfl | fail) ?_; simp)
  | fail)
  (refine EndW.h Tryz.results168 ?_; simp)
def chP (pos e : Int) : List PanicEntry := [{ v := .iface 179 (.agg #[.int .i64 pos, .int .i64 e]), recovered := false }]
def isP (l : List Tok) (ob : Ob) : Prop := ∃ q : Nat, ob = pOb l q
theorem zhp (l : List Tok) (p : Nat) (e : Int) (i nx : Nat) (hi : i < nx) :
  RetX Tryz.prog 107 [.ptr i 0, .u (.bool true), .u (.int .i64 e)] [(i, pOb l p)] nx (fun r o n => r = .val (.tup []) /\ o = [(i, pOb l p)] /\ n = nx) := by
 refine RetX.runW Tryz.func107 Tryz.ntmps107 rfl (by simp) fun Γ hn hpan => ?_
 repeat' (first
  | (refine zaf rfl ?_; simp)
  | fail)
 (refine EndW.h Tryz.results107 ?_; simp)
theorem zgi (l : List Tok) (p : Nat) (t : Tok) (e : Int) (i nx : Nat) (hi : i < nx) (hp : l[p]? = some t) (hl : l.length <= 1000000) :
  RetX Tryz.prog 107 [.ptr i 0, .u (.bool false), .u (.int .i64 e)] [(i, pOb l p)] nx (fun r o n => r = .pan (chP t.pos e) /\ (∃ ob', isP l ob' /\ o = [(i, ob')]) /\ n = nx) := by
 have h1 := zdA l p t hp hl;refine RetX.runW Tryz.func107 Tryz.ntmps107 rfl (by simp) fun Γ hn hpan => ?_
 repeat' (first
  | (refine zaf rfl ?_; simp)
  | (refine CallP.f2 rfl (h1) (by first | simp <;> rfl | fail) ?_; simp)
  | fail)
 all_goals
  (refine hpan _ _ (PanG.k ([(i, pOb l p)]) (nx) (by simp [hn, hi] <;> omega) ?_); try simp)
  all_goals exact ⟨rfl, p, rfl⟩
inductive PR (α : Type) where
 | ok (a : α) (p : Nat)
 | stop (pos e : Int)
def zkI (l : List Tok) (p : Nat) : Int := match l[p]? with | some t => t.pos | none => 0
def zdM (l : List Tok) : Nat -> List (List UInt8) -> PR Unit
 | p, [] => .ok () p
 | p, w :: ws => if isB l p w = true then zdM l (p + 1) ws else .stop (zkI l p) 12
def PPost {α : Type} (l : List Tok) (i nx : Nat) (val : α -> D) : PR α -> Out -> List (Nat × Ob) -> Nat -> Prop
 | .ok a q, o, obs, n => o = .val (val a) /\ obs = [(i, pOb l q)] /\ n = nx
 | .stop pos e, o, obs, n => o = .pan (chP pos e) /\ (∃ ob', isP l ob' /\ obs = [(i, ob')]) /\ n = nx
theorem zmD (l : List Tok) (p : Nat) (ws : List (List UInt8)) (i nx : Nat) (hi : i < nx) (hp : p < l.length) (hl : TokOK l) (hw : ws.length <= 100) :
  RetX Tryz.prog 169 [.ptr i 0, .u (.sl (ws.map fun w => [.str w]))] [(i, pOb l p)] nx (PPost l i nx (fun _ => .tup []) (zdM l p ws)) := by
 refine RetX.runW Tryz.func169 Tryz.ntmps169 rfl (by simp) fun Γ hn hpan => ?_
 repeat' (first
  | (refine zaf rfl ?_; simp)
  | fail)
 refine zb8 (α := { x : Nat × Nat // x.1 <= ws.length /\ x.2 < l.length /\ zdM l p ws = zdM l x.2 (ws.drop x.1) }) [0, 6, 7] (fun x => [(8, .u (.int .i64 x.1.1))]) (fun x => [(i, pOb l x.1.2)]) nx (fun x => ws.length - x.1.1) ⟨(0, p), by simp, hp, by simp⟩ ?_ ?_
 ·exact (Wk.zda (by simp [hn, hi] <;> grind))
 rintro ⟨⟨k, q⟩, h1, h2, h3⟩;simp only at h1 h2 h3;simp;rcases hx : ws[k]? with _ | w
 ·have hge : ws.length <= k := by simpa using hx
  obtain rfl : k = ws.length := by omega
  rw [List.drop_length, zdM] at h3
  repeat' (first
  | (refine zaf rfl ?_; simp [hx])
  | fail)
  rw [h3]
  (refine EndW.h Tryz.results169 ?_; simp)
  simp [PPost]
 ·have hlt : k < ws.length := (List.getElem?_eq_some_iff.1 hx).1;have hd : ws.drop k = w :: ws.drop (k + 1) := by
   obtain ⟨h5, h6⟩ := List.getElem?_eq_some_iff.1 hx;rw [<- h6, List.getElem_cons_drop]
  rw [hd, zdM] at h3;have hh := zcr l q w i nx hi h2 hl.len;by_cases hb : isB l q w = true
  ·rw [if_pos hb] at h3;rw [hb, if_pos rfl] at hh;have hq := zcN hl hb;have hck := zhp l (q + 1) 12 i nx hi
   repeat' (first
  | (refine Cnd.of (fun hc => ?_) (fun hc => ?_) <;> (try (exfalso; omega)) <;> (try simp [hx]))
  | (refine zaf rfl ?_; simp [hx])
  | (refine And.intro (by omega) ?_)
  | (refine CallP.ok1 (hh) (by first | (simp [hx, zaa, getK, zab, zac]; done) | fail) (by rfl) (by first | assumption | (simp; done) | fail) (by rfl) (by simp) ?_; (try simp [hx]))
  | (refine CallP.ok1 (hck) (by first | (simp [hx, zaa, getK, zab, zac]; done) | fail) (by rfl) (by first | assumption | (simp; done) | fail) (by rfl) (by simp) ?_; (try simp [hx]))
  | fail)
   refine LoopW.next ⟨(k + 1, q + 1), by omega, hq, h3⟩ (by simp; omega) ?_
   exact (Wk.zda (by simp [hn, hi, zab, zac, zaa, getK] <;> grind))
  ·have hb2 : isB l q w = false := by simpa using hb
   rw [if_neg hb] at h3;rw [hb2, if_neg (by simp)] at hh;obtain ⟨t, ht⟩ : ∃ t, l[q]? = some t := ⟨_, List.getElem?_eq_getElem h2⟩;have hck := zgi l q t 12 i nx hi ht hl.len
   repeat' (first
  | (refine Cnd.of (fun hc => ?_) (fun hc => ?_) <;> (try (exfalso; omega)) <;> (try simp [hx]))
  | (refine zaf rfl ?_; simp [hx])
  | (refine CallP.ok1 (hh) (by first | (simp [hx, zaa, getK, zab, zac]; done) | fail) (by rfl) (by first | assumption | (simp; done) | fail) (by rfl) (by simp) ?_; (try simp [hx]))
  | (refine CallP.zht (hck) (by first | (simp [hx, zaa, getK, zab, zac]; done) | fail) (by rfl) (by first | assumption | (simp; done) | fail) (by rfl) (by simp) ?_; rintro ob' ⟨q', rfl⟩; refine ⟨_, Wk.refl _, ?_⟩)
  | fail)
   rw [h3] at hpan
   (refine hpan _ _ (PanG.k ([(i, pOb l q')]) (nx) (by simp [hn, hi, zab, zac, zaa, getK] <;> omega) ?_); try simp)
   all_goals exact ⟨by simp [zkI, ht], ⟨_, ⟨q', rfl⟩, rfl⟩, rfl⟩
theorem zon (op : Int) : Fun Tryz.prog 57 [.u (.int .i64 op)] (· = .tup [.u (.int .i64 (zcM op)), .u (.int .i64 (zbF op - zcM op))]) := by
 refine Fun.run Tryz.func57 Tryz.ntmps57 Tryz.results57 rfl (by simp) fun Γ hn => ?_
 repeat' (first
  | (refine Cnd.of (fun hc => ?_) (fun hc => ?_) <;> (try (exfalso; omega)) <;> (try simp))
  | (refine zaf rfl ?_; simp)
  | fail)
 all_goals
  (refine Pst.of ?_; simp)
 all_goals (unfold zcM zbF; simp_all)
theorem zlP (l : Code) (i : Nat) (x : Ins) (hx : l[i]? = some x) (hl : l.length <= 1000000) : Fun Tryz.prog 56 [.u (Vm.inss l), .u (.int .i64 i)] (· = .u (.bool (zdn x i l.length))) := by
 have hi := (List.getElem?_eq_some_iff.1 hx).1;have hnam := zko x.s;unfold zdn;generalize zfa x.s = nm at hnam ⊢;obtain ⟨op, a, s⟩ := x;simp only [Vm.inss] at hnam ⊢;refine Fun.run Tryz.func56 Tryz.ntmps56 Tryz.results56 rfl (by simp) fun Γ hn => ?_
 repeat' (first
  | (refine Cnd.of (fun hc => ?_) (fun hc => ?_) <;> (try (exfalso; omega)) <;> (try simp [hx, Vm.Ins.row]))
  | (refine zaf rfl ?_; simp [hx, Vm.Ins.row])
  | (refine CallP.f2 rfl (hnam) (by first | simp [hx, Vm.Ins.row] <;> rfl | fail) ?_; simp [hx, Vm.Ins.row])
  | fail)
 all_goals
  (refine Pst.of ?_; simp)
 all_goals grind
theorem zl9 (l : Code) (hll : l.length <= 1000000) : Fun Tryz.prog 23 [.u (Vm.inss l)] (· = .tup [.u (.sl ((zc1 l).1.map fun z => [.int .i64 z])), .u (.bool (zc1 l).2)]) := by
 have hl1 : ((l.length : Int) + 1).toNat = l.length + 1 := by omega
 have e1 := zn6;have e2 := zpN;simp only [Vm.inss];by_cases h0 : l.length = 0
 ·have h0' : l = [] := by simpa using h0
  subst h0';have hp : zc1 [] = ([], false) := by simp [zc1]
  rw [hp];refine Fun.runW Tryz.func23 Tryz.ntmps23 rfl (by simp) fun Γ hn => ?_
  repeat' (first
  | (refine zaf rfl ?_; simp)
  | fail)
  refine EndW.norm (EndW.here ?_)
  (refine EndOK.val (.inr rfl) ?_; simp [Tryz.results23])
 have h0' : ¬ l = [] := by simpa using h0
 have h0'' : ¬ (l.length : Int) < 1 := by omega
 by_cases h2 : 2000 < l.length
 ·have h2' : (2000 : Int) < l.length := by omega
  have hp : zc1 l = ([], false) := by unfold zc1; rw [if_neg (by omega)]
  rw [hp];refine Fun.runW Tryz.func23 Tryz.ntmps23 rfl (by simp) fun Γ hn => ?_
  repeat' (first
  | (refine zaf rfl ?_; simp [h0', h0'', h2, h2'])
  | fail)
  refine EndW.norm (EndW.here ?_)
  (refine EndOK.val (.inr rfl) ?_; simp [Tryz.results23])
 have h2' : ¬ (2000 : Int) < l.length := by omega
 refine Fun.runW Tryz.func23 Tryz.ntmps23 rfl (by simp) fun Γ hn => ?_
 repeat' (first
  | (refine zaf rfl ?_; simp [h0', h0'', h2, h2', hl1])
  | (refine And.intro (by omega) ?_)
  | fail)
 refine zb8 (α := { i : Nat // i <= l.length /\ ∀ j x, j < i -> l[j]? = some x -> zdn x j l.length = true }) [0, 4] (fun i => [(5, .u (.int .i64 i.1))]) (fun i => [(0, .vec 3 1 (zeA (hi1 l.length i.1)))]) 1 (fun i => l.length - i.1) ⟨0, by omega, by omega⟩ ?_ ?_
 ·exact (Wk.zda (by simp [hn, zmZ, zmW, zbV] <;> grind))
 rintro ⟨i, hi, hf⟩;simp;have ht : ((i : Int) + 1).toNat = i + 1 := by omega
 rcases hx : l[i]? with _ | x
 case some =>
  have hlt : i < l.length := (List.getElem?_eq_some_iff.1 hx).1;have h4 := zlP l i x hx (by omega);simp only [Vm.inss] at h4;by_cases hfx : zdn x i l.length = true
  ·rw [hfx] at h4
   repeat' (first
  | (refine zaf rfl ?_; simp [hlt, ht, zdD, zah, zbn, zeT hi, zeS hlt])
  | (refine And.intro (by omega) ?_)
  | (refine CallP.f2 rfl (h4) (by first | simp [hlt, ht, zdD, zah, zbn, zeT hi, zeS hlt] <;> rfl | fail) ?_; simp [hlt, ht, zdD, zah, zbn, zeT hi, zeS hlt])
  | fail)
   refine LoopW.next ⟨i + 1, by omega, fun j y hj hy => ?_⟩ (by simp; omega) ?_
   ·rcases Nat.lt_succ_iff_lt_or_eq.1 hj with h1 | h1
    ·exact hf j y h1 hy
    ·subst h1; rw [hx] at hy; cases hy; exact hfx
   exact (Wk.zda (by simp [hn, zbV] <;> grind))
  ·rw [Bool.not_eq_true] at hfx;rw [hfx] at h4;have hp : zc1 l = ([], false) := by
    unfold zc1;rw [if_neg];rintro ⟨_, _, h⟩;rw [zeU h hx] at hfx;cases hfx
   rw [hp]
   repeat' (first
  | (refine zaf rfl ?_; simp [hlt, ht, zdD, zah, zbn, zeT hi, zeS hlt])
  | (refine And.intro (by omega) ?_)
  | (refine CallP.f2 rfl (h4) (by first | simp [hlt, ht, zdD, zah, zbn, zeT hi, zeS hlt] <;> rfl | fail) ?_; simp [hlt, ht, zdD, zah, zbn, zeT hi, zeS hlt])
  | fail)
   refine EndW.norm (EndW.here ?_)
   (refine EndOK.val (.inr rfl) ?_; simp [Tryz.results23])
 have hge : l.length <= i := by simpa using hx
 obtain rfl : i = l.length := by omega
 have hfm : zga l = true := ziW fun j x hj => hf j x (List.getElem?_eq_some_iff.1 hj).1 hj
 repeat' (first
  | (refine zaf rfl ?_; simp [hx])
  | fail)
 refine zb8 (α := HiAt l) [0, 4] (fun s => [(6, .u (.int .i64 s.i))]) (fun s => [(0, .vec 3 1 (zeA s.hi))]) 1 (fun s => l.length - s.i) ⟨0, _, by omega, rfl, by simp, fun z hz => by
  rcases List.mem_cons.1 hz with rfl | hz
  ·omega
  ·rw [List.eq_of_mem_replicate hz]; omega⟩ ?_ ?_
 ·exact (Wk.zda (by simp [hn, zpS, zbV] <;> grind))
 rintro ⟨i, hi, hle, go, len, lo⟩;simp;rcases hy : l[i]? with _ | y
 case none =>
  have hge : l.length <= i := by simpa using hy
  obtain rfl : i = l.length := by omega
  obtain ⟨w, hw⟩ : ∃ w, hi[l.length]? = some w := ⟨_, List.getElem?_eq_getElem (by omega)⟩;have hR : zc1 l = (hi.take l.length, decide (w < 0)) := by
   have : hi.getD l.length (-1) = w := by simp [List.getD, hw]
   unfold zc1;rw [if_pos ⟨by omega, by omega, hfm⟩, go];simp only [this]
  rw [hR];have hb1 : l.length <= hi.length := by omega
  have hb2 : (l.length : Int) <= hi.length := by omega
  repeat' (first
  | (refine zaf rfl ?_; simp [hy, zaj, zah, hw, hb1, hb2, e2])
  | (refine And.intro (by omega) ?_)
  | (refine ⟨hC _ (by kernel_rfl), hk _ (zeI 8 _ _ _ ?_)⟩; clear hC hk C k; simp [hy, zaj, zah, hw, hb1, hb2, e2])
  | (refine zeH rfl (by kernel_rfl) (by first | (simp [hn]; done) | (simp [hn]; omega) | fail) fun C k hC hk => ?_; simp [hy, zaj, zah, hw, hb1, hb2, e2])
  | (refine And.intro ?_ (by omega))
  | fail)
  (refine EndW.frzN 1 ?_; simp [del, e1, e2, zah, hb1])
  refine EndW.here ?_
  (refine EndOK.val (.inr rfl) ?_; simp [Tryz.results23])
 have hlt : i < l.length := (List.getElem?_eq_some_iff.1 hy).1;have h5 := zon y.op;obtain ⟨v, hv⟩ : ∃ v, hi[i]? = some v := ⟨_, List.getElem?_eq_getElem (by omega)⟩;have hvb := lo v (List.mem_of_getElem? hv);have hst := zmJ go hy hv;obtain ⟨n1, n2⟩ := zmN y.op;obtain ⟨m1, m2⟩ := ziO y.op;by_cases hv0 : v < 0
 ·rw [if_pos hv0] at hst
  repeat' (first
  | (refine Cnd.of (fun hc => ?_) (fun hc => ?_) <;> (try (exfalso; omega)) <;> (try simp [hy, zaj, zah, hv, hv0]))
  | (refine zaf rfl ?_; simp [hy, zaj, zah, hv, hv0])
  | (refine And.intro (by omega) ?_)
  | (refine And.intro ?_ (by omega))
  | (refine CallP.f2 rfl (h5) (by first | simp [hy, zaj, zah, hv, hv0] <;> rfl | fail) ?_; simp [hy, zaj, zah, hv, hv0])
  | fail)
  refine LoopW.next ⟨i + 1, hi, by omega, hst, len, fun z hz => by have := lo z hz; omega⟩ (by simp; omega) ?_
  exact (Wk.zda (by simp [hn, zbV] <;> grind))
 rw [if_neg hv0] at hst;by_cases hbad : v < zcM y.op \/ (y.op = 14 /\ v ≠ 1)
 ·rw [if_pos hbad] at hst;rw [zdT hst hlt];rcases hbad with hb1 | ⟨hb1, hb2⟩
  ·repeat' (first
  | (refine Cnd.of (fun hc => ?_) (fun hc => ?_) <;> (try (exfalso; omega)) <;> (try simp [hy, zaj, zah, hv, hv0, hb1]))
  | (refine zaf rfl ?_; simp [hy, zaj, zah, hv, hv0, hb1])
  | (refine And.intro (by omega) ?_)
  | (refine And.intro ?_ (by omega))
  | (refine CallP.f2 rfl (h5) (by first | simp [hy, zaj, zah, hv, hv0, hb1] <;> rfl | fail) ?_; simp [hy, zaj, zah, hv, hv0, hb1])
  | fail)
   refine EndW.norm (EndW.here ?_)
   (refine EndOK.val (.inr rfl) ?_; simp [Tryz.results23])
  ·repeat' (first
  | (refine Cnd.of (fun hc => ?_) (fun hc => ?_) <;> (try (exfalso; omega)) <;> (try simp [hy, zaj, zah, hv, hv0, hb2, ((propext (iff_true_intro hb1)) : (y.op = 14) = True)]))
  | (refine zaf rfl ?_; simp [hy, zaj, zah, hv, hv0, hb2, ((propext (iff_true_intro hb1)) : (y.op = 14) = True)])
  | (refine And.intro (by omega) ?_)
  | (refine And.intro ?_ (by omega))
  | (refine CallP.f2 rfl (h5) (by first | simp [hy, zaj, zah, hv, hv0, hb2, ((propext (iff_true_intro hb1)) : (y.op = 14) = True)] <;> rfl | fail) ?_; simp [hy, zaj, zah, hv, hv0, hb2, ((propext (iff_true_intro hb1)) : (y.op = 14) = True)])
  | fail)
   all_goals
    refine EndW.norm (EndW.here ?_)
    (refine EndOK.val (.inr rfl) ?_; simp [Tryz.results23])
 rw [if_neg hbad] at hst;have hb1 : ¬ v < zcM y.op := fun h => hbad (.inl h);have hvi : v <= i := hvb.2;have hsum : v - zcM y.op + zbF y.op = v + (zbF y.op - zcM y.op) := by omega
 rw [hsum] at hst;generalize hch : zbF y.op - zcM y.op = ch at *;have hchb : -2 <= ch /\ ch <= 1 := by omega
 by_cases h14 : y.op = 14
 ·have hv1 : v = 1 := Classical.byContradiction fun h => hbad (.inr ⟨h14, h⟩);have hn14 : zdS y i = [] := by simp [zdS, h14]
  rw [hn14] at hst;simp only [zd4] at hst;subst hv1;have hq : ((14 : Int) = 12) = False /\ ((14 : Int) = 13) = False := by decide
  have q12 : (y.op = 12) = False := eq_false (by omega);have q13 : (y.op = 13) = False := eq_false (by omega)
  repeat' (first
  | (refine Cnd.of (fun hc => ?_) (fun hc => ?_) <;> (try (exfalso; omega)) <;> (try simp [hy, zaj, zah, hv, hb1, q12, q13, ((propext (iff_true_intro h14)) : (y.op = 14) = True)]))
  | (refine zaf rfl ?_; simp [hy, zaj, zah, hv, hb1, q12, q13, ((propext (iff_true_intro h14)) : (y.op = 14) = True)])
  | (refine And.intro (by omega) ?_)
  | (refine And.intro ?_ (by omega))
  | (refine CallP.f2 rfl (h5) (by first | simp [hy, zaj, zah, hv, hb1, q12, q13, ((propext (iff_true_intro h14)) : (y.op = 14) = True)] <;> rfl | fail) ?_; simp [hy, zaj, zah, hv, hb1, q12, q13, ((propext (iff_true_intro h14)) : (y.op = 14) = True)])
  | fail)
  refine LoopW.next ⟨i + 1, hi, by omega, hst, len, fun z hz => by have := lo z hz; omega⟩ (by simp; omega) ?_
  exact (Wk.zda (by simp [hn, zbV] <;> grind))
 have q14 : (y.op = 14) = False := eq_false h14;have hfo := zeU hfm hy;have hti : ((i : Int) + 1).toNat = i + 1 := by omega
 by_cases hj : y.op = 12 \/ y.op = 13
 ·obtain ⟨a1, a2, a3⟩ : (i : Int) < y.a /\ y.a < l.length /\ ((y.a.toNat : Nat) : Int) = y.a := by
   unfold zdn at hfo;rw [if_neg (by omega), if_neg (by omega), if_pos hj] at hfo;simp at hfo;omega
  obtain ⟨w, hw⟩ : ∃ w, hi[y.a.toNat]? = some w := ⟨_, List.getElem?_eq_getElem (by omega)⟩;have hwb := lo w (List.mem_of_getElem? hw);have hsA := zlN (h := v + ch) hw;by_cases h12 : y.op = 12
  ·have hn : zdS y i = [y.a.toNat] := by simp [zdS, h12]
   rw [hn] at hst;simp only [zd4] at hst;rw [hsA] at hst;have q12 : (y.op = 12) = True := eq_true h12;have q13 : (y.op = 13) = False := eq_false (by omega);by_cases hbd : 0 <= w /\ w ≠ v + ch
   ·rw [if_pos hbd] at hst;rw [zdT hst hlt];obtain ⟨hbd1, hbd2⟩ := hbd
    repeat' (first
  | (refine Cnd.of (fun hc => ?_) (fun hc => ?_) <;> (try (exfalso; omega)) <;> (try simp [hy, zaj, zah, hv, hv0, hb1, q12, q13, q14, hw, hbd1, hbd2]))
  | (refine zaf rfl ?_; simp [hy, zaj, zah, hv, hv0, hb1, q12, q13, q14, hw, hbd1, hbd2])
  | (refine And.intro (by omega) ?_)
  | (refine And.intro ?_ (by omega))
  | (refine CallP.f2 rfl (h5) (by first | simp [hy, zaj, zah, hv, hv0, hb1, q12, q13, q14, hw, hbd1, hbd2] <;> rfl | fail) ?_; simp [hy, zaj, zah, hv, hv0, hb1, q12, q13, q14, hw, hbd1, hbd2])
  | fail)
    refine EndW.norm (EndW.here ?_)
    (refine EndOK.val (.inr rfl) ?_; simp [Tryz.results23])
   ·rw [if_neg hbd] at hst
    repeat' (first
  | (refine Cnd.of (fun hc => ?_) (fun hc => ?_) <;> (try (exfalso; omega)) <;> (try simp [hy, zaj, zah, hv, hv0, hb1, q12, q13, q14, hw, zbn]))
  | (refine zaf rfl ?_; simp [hy, zaj, zah, hv, hv0, hb1, q12, q13, q14, hw, zbn])
  | (refine And.intro (by omega) ?_)
  | (refine And.intro ?_ (by omega))
  | (refine CallP.f2 rfl (h5) (by first | simp [hy, zaj, zah, hv, hv0, hb1, q12, q13, q14, hw, zbn] <;> rfl | fail) ?_; simp [hy, zaj, zah, hv, hv0, hb1, q12, q13, q14, hw, zbn])
  | fail)
    all_goals
     first
     | (exfalso; omega)
     | skip
    all_goals
     refine LoopW.next ⟨i + 1, _, by omega, hst, by simp [len], fun z hz => ?_⟩ (by simp; omega) ?_
     ·rcases List.mem_or_eq_of_mem_set hz with hz | hz
      ·have := lo z hz; omega
      ·omega
     exact (Wk.zda (by simp [hn, zbV] <;> grind))
  ·have h13 : y.op = 13 := by omega
   have hn : zdS y i = [i + 1, y.a.toNat] := by simp [zdS, h13]
   rw [hn, zqW] at hst;have q12 : (y.op = 12) = False := eq_false (by omega);have q13 : (y.op = 13) = True := eq_true h13;rw [show zd4 (v + ch) [y.a.toNat, i + 1] hi = (zny hi y.a.toNat (v + ch)).bind (zd4 (v + ch) [i + 1]) from rfl, hsA] at hst;by_cases hbd : 0 <= w /\ w ≠ v + ch
   ·rw [if_pos hbd] at hst;rw [zdT hst hlt];obtain ⟨hbd1, hbd2⟩ := hbd
    repeat' (first
  | (refine Cnd.of (fun hc => ?_) (fun hc => ?_) <;> (try (exfalso; omega)) <;> (try simp [hy, zaj, zah, hv, hv0, hb1, q12, q13, q14, hw, hbd1, hbd2]))
  | (refine zaf rfl ?_; simp [hy, zaj, zah, hv, hv0, hb1, q12, q13, q14, hw, hbd1, hbd2])
  | (refine And.intro (by omega) ?_)
  | (refine And.intro ?_ (by omega))
  | (refine CallP.f2 rfl (h5) (by first | simp [hy, zaj, zah, hv, hv0, hb1, q12, q13, q14, hw, hbd1, hbd2] <;> rfl | fail) ?_; simp [hy, zaj, zah, hv, hv0, hb1, q12, q13, q14, hw, hbd1, hbd2])
  | fail)
    refine EndW.norm (EndW.here ?_)
    (refine EndOK.val (.inr rfl) ?_; simp [Tryz.results23])
   ·rw [if_neg hbd] at hst;generalize hhj : hi.set y.a.toNat (v + ch) = hj2 at hst;have hlen2 : hj2.length = l.length + 1 := by rw [<- hhj]; simp [len]
    have hlo2 : ∀ z ∈ hj2, -1 <= z /\ z <= i + 1 := fun z hz => by
     rw [<- hhj] at hz;rcases List.mem_or_eq_of_mem_set hz with hz | hz
     ·have := lo z hz; omega
     ·omega
    obtain ⟨w2, hw2⟩ : ∃ w2, hj2[i + 1]? = some w2 := ⟨_, List.getElem?_eq_getElem (by omega)⟩;have hwb2 := hlo2 w2 (List.mem_of_getElem? hw2);rw [show (Option.bind (some hj2) (zd4 (v + ch) [i + 1])) = (zny hj2 (i + 1) (v + ch)).bind (zd4 (v + ch) []) from rfl, zlN hw2] at hst;by_cases hbd2 : 0 <= w2 /\ w2 ≠ v + ch
    ·rw [if_pos hbd2] at hst;rw [zdT hst hlt];obtain ⟨hc1, hc2⟩ := hbd2
     repeat' (first
  | (refine Cnd.of (fun hc => ?_) (fun hc => ?_) <;> (try (exfalso; omega)) <;> (try simp [hy, zaj, zah, hv, hv0, hb1, q12, q13, q14, hw, zbn, hhj, hw2, hti, hc1, hc2]))
  | (refine zaf rfl ?_; simp [hy, zaj, zah, hv, hv0, hb1, q12, q13, q14, hw, zbn, hhj, hw2, hti, hc1, hc2])
  | (refine And.intro (by omega) ?_)
  | (refine And.intro ?_ (by omega))
  | (refine CallP.f2 rfl (h5) (by first | simp [hy, zaj, zah, hv, hv0, hb1, q12, q13, q14, hw, zbn, hhj, hw2, hti, hc1, hc2] <;> rfl | fail) ?_; simp [hy, zaj, zah, hv, hv0, hb1, q12, q13, q14, hw, zbn, hhj, hw2, hti, hc1, hc2])
  | fail)
     all_goals
      first
      | (exfalso; omega)
      | skip
     all_goals
      refine EndW.norm (EndW.here ?_)
      (refine EndOK.val (.inr rfl) ?_; simp [Tryz.results23])
    ·rw [if_neg hbd2] at hst
     repeat' (first
  | (refine Cnd.of (fun hc => ?_) (fun hc => ?_) <;> (try (exfalso; omega)) <;> (try simp [hy, zaj, zah, hv, hv0, hb1, q12, q13, q14, hw, zbn, hhj, hw2, hti]))
  | (refine zaf rfl ?_; simp [hy, zaj, zah, hv, hv0, hb1, q12, q13, q14, hw, zbn, hhj, hw2, hti])
  | (refine And.intro (by omega) ?_)
  | (refine And.intro ?_ (by omega))
  | (refine CallP.f2 rfl (h5) (by first | simp [hy, zaj, zah, hv, hv0, hb1, q12, q13, q14, hw, zbn, hhj, hw2, hti] <;> rfl | fail) ?_; simp [hy, zaj, zah, hv, hv0, hb1, q12, q13, q14, hw, zbn, hhj, hw2, hti])
  | fail)
     all_goals
      first
      | (exfalso; omega)
      | skip
     all_goals
      refine LoopW.next ⟨i + 1, _, by omega, hst, by simp [hlen2], fun z hz => ?_⟩ (by simp; omega) ?_
      ·rcases List.mem_or_eq_of_mem_set hz with hz | hz
       ·have := hlo2 z hz; omega
       ·omega
      exact (Wk.zda (by simp [hn, zbV] <;> grind))
 ·have hn : zdS y i = [i + 1] := by
   unfold zdS;rw [if_neg h14, if_neg (by omega), if_neg (by omega)]
  rw [hn] at hst;have q12 : (y.op = 12) = False := eq_false (by omega);have q13 : (y.op = 13) = False := eq_false (by omega);obtain ⟨w, hw⟩ : ∃ w, hi[i + 1]? = some w := ⟨_, List.getElem?_eq_getElem (by omega)⟩;have hwb := lo w (List.mem_of_getElem? hw);rw [show zd4 (v + ch) [i + 1] hi = (zny hi (i + 1) (v + ch)).bind (zd4 (v + ch) []) from rfl, zlN hw] at hst;by_cases hbd : 0 <= w /\ w ≠ v + ch
  ·rw [if_pos hbd] at hst;rw [zdT hst hlt];obtain ⟨hbd1, hbd2⟩ := hbd
   repeat' (first
  | (refine Cnd.of (fun hc => ?_) (fun hc => ?_) <;> (try (exfalso; omega)) <;> (try simp [hy, zaj, zah, hv, hv0, hb1, q12, q13, q14, hw, hti, hbd1, hbd2]))
  | (refine zaf rfl ?_; simp [hy, zaj, zah, hv, hv0, hb1, q12, q13, q14, hw, hti, hbd1, hbd2])
  | (refine And.intro (by omega) ?_)
  | (refine And.intro ?_ (by omega))
  | (refine CallP.f2 rfl (h5) (by first | simp [hy, zaj, zah, hv, hv0, hb1, q12, q13, q14, hw, hti, hbd1, hbd2] <;> rfl | fail) ?_; simp [hy, zaj, zah, hv, hv0, hb1, q12, q13, q14, hw, hti, hbd1, hbd2])
  | fail)
   refine EndW.norm (EndW.here ?_)
   (refine EndOK.val (.inr rfl) ?_; simp [Tryz.results23])
  ·rw [if_neg hbd] at hst
   repeat' (first
  | (refine Cnd.of (fun hc => ?_) (fun hc => ?_) <;> (try (exfalso; omega)) <;> (try simp [hy, zaj, zah, hv, hv0, hb1, q12, q13, q14, hw, hti, zbn]))
  | (refine zaf rfl ?_; simp [hy, zaj, zah, hv, hv0, hb1, q12, q13, q14, hw, hti, zbn])
  | (refine And.intro (by omega) ?_)
  | (refine And.intro ?_ (by omega))
  | (refine CallP.f2 rfl (h5) (by first | simp [hy, zaj, zah, hv, hv0, hb1, q12, q13, q14, hw, hti, zbn] <;> rfl | fail) ?_; simp [hy, zaj, zah, hv, hv0, hb1, q12, q13, q14, hw, hti, zbn])
  | fail)
   all_goals
    first
    | (exfalso; omega)
    | skip
   all_goals
    refine LoopW.next ⟨i + 1, _, by omega, hst, by simp [len], fun z hz => ?_⟩ (by simp; omega) ?_
    ·rcases List.mem_or_eq_of_mem_set hz with hz | hz
     ·have := lo z hz; omega
     ·omega
    exact (Wk.zda (by simp [hn, zbV] <;> grind))
theorem zhF (l : Code) (hll : l.length <= 1000000) : Fun Tryz.prog 18 [.u (Vm.inss l)] (· = .u (.bool (zbO l))) := by
 have h1 := zl9 l hll;rw [zjG] at h1;simp only [Vm.inss] at h1 ⊢;refine Fun.run Tryz.func18 Tryz.ntmps18 Tryz.results18 rfl (by simp) fun Γ hn => ?_
 repeat' (first
  | (refine zaf rfl ?_; simp)
  | (refine CallP.f2 rfl (h1) (by first | simp <;> rfl | fail) ?_; simp)
  | fail)
 (refine Pst.of ?_; simp)
theorem zf4 (lets : List Let) (shs : List Bool) (c : Code) (i : Ins) (m q nx : Nat) (hm : m < nx) (hq : q < nx) (hmq : m ≠ q) (hl : c.length <= 100000) : RetX Tryz.prog 38 [.ptr m 0, .u (.agg [.int .i64 i.op, .int .i64 i.a, .str i.s])] [(m, cOb lets shs q c), (q, kOb c)] nx
  fun r o n' => r = .val (.u (.int .i64 (((zcg c i).length : Int) - 1))) /\ o = [(m, cOb lets shs nx (zcg c i)), (nx, kOb (zcg c i))] /\ n' = nx + 1 := by
 have hne := nef hm;have hne2 := nef hq;have hlr := zcU c;have hm1 : m < nx + 1 := by omega
 unfold cOb kOb;generalize zaE shs = y;simp only [zaz];unfold zcg;by_cases hc2 : c.length <= 2000
 ·rw [if_pos hc2];refine RetX.runW Tryz.func38 Tryz.ntmps38 rfl (by simp) fun Γ hn hpan => ?_
  repeat' (first
  | (refine Cnd.of (fun hc => ?_) (fun hc => ?_) <;> (try (exfalso; omega)) <;> (try simp [hne, hne2, hmq, Ne.symm hmq, hc2, Nat.add_assoc, del]))
  | (refine zaf rfl ?_; simp [hne, hne2, hmq, Ne.symm hmq, hc2, Nat.add_assoc, del])
  | (refine And.intro (by omega) ?_)
  | (refine ⟨hC _ (zc0 [m, q] nx (by simp <;> omega) (by simp <;> omega) (by apply Exists.intro; apply And.intro; (focus (repeat' (first | exact KF.nil | exact KL.nil | apply KF.cons | apply KL.cons 0 rfl | apply KL.cons 1 rfl | apply KL.cons 2 rfl | apply KL.cons 3 rfl | apply KL.cons 4 rfl | apply KL.cons 5 rfl | apply KL.cons 6 rfl | apply KL.cons 7 rfl | apply KL.cons 8 rfl | apply KL.cons 9 rfl))); kernel_rfl)), hk _ (zeI 8 _ _ _ ?_)⟩; clear hC hk C k; simp [hne, hne2, hmq, Ne.symm hmq, hc2, Nat.add_assoc, del])
  | (refine zeH rfl (by kernel_rfl) (by first | (simp [hn]; done) | (simp [hn]; omega) | fail) fun C k hC hk => ?_; simp [hne, hne2, hmq, Ne.symm hmq, hc2, Nat.add_assoc, del])
  | fail)
  refine EndW.wk { n := _, env := [(4, .u (.int .i64 c.length))], obs := [(m, .box [.u (.sl (lets.map fun l => [.str l.name, .int .i64 l.body.op, .int .i64 l.body.n, .int .i64 l.body.unit, .str l.body.s, .sl (l.body.args.map Exp.row)])), .u y, .vec nx (c.length + 1)]), (nx, .vec 44 3 (zb9 c ++ [[.u (.int .i64 i.op), .u (.int .i64 i.a), .u (.str i.s)]]))], next := nx + 1 } (Wk.ren ((fun i => if i = nx then nx + 2 else i)) rfl (by first | (simp [hn]; done) | (intro i hi; rw [hn] at hi; constructor <;> (try simp) <;> (try (intro _)) <;> omega)) (by simp [zee, St.lp, zaA, zaa, getK, zac, zad, D.under, D.le, D.ren, hne, hne2, hmq, Ne.symm hmq, hm1, zaP] <;> (try (intros; simp_all; done)) <;> (try omega)) (by simp [wkR, St.lp, zaa, getK, zac, zad, obR, leU, zaN, zan, Ob.under, D.under, D.le, D.ren, hne, hne2, hmq, Ne.symm hmq, hm1, zaP] <;> (try (intros; simp_all; done)) <;> (try omega)) (by simp [hne, hne2, hmq, Ne.symm hmq, hm1, zaP])) ?_
  (refine EndW.h Tryz.results38 ?_; simp)
 ·rw [if_neg hc2];refine RetX.runW Tryz.func38 Tryz.ntmps38 rfl (by simp) fun Γ hn hpan => ?_
  repeat' (first
  | (refine Cnd.of (fun hc => ?_) (fun hc => ?_) <;> (try (exfalso; omega)) <;> (try simp [hne, hne2, hmq, Ne.symm hmq, hc2, Nat.add_assoc, del]))
  | (refine zaf rfl ?_; simp [hne, hne2, hmq, Ne.symm hmq, hc2, Nat.add_assoc, del])
  | (refine And.intro (by omega) ?_)
  | fail)
  refine EndW.wk { n := _, env := [(4, .u (.int .i64 ((c.length : Int) - 1)))], obs := [(m, .box [.u (.sl (lets.map fun l => [.str l.name, .int .i64 l.body.op, .int .i64 l.body.n, .int .i64 l.body.unit, .str l.body.s, .sl (l.body.args.map Exp.row)])), .u y, .vec nx c.length]), (nx, .vec 44 3 (zb9 c))], next := nx + 1 } (Wk.ren ((fun i => if i = nx then q else i)) rfl (by first | (simp [hn]; done) | (intro i hi; rw [hn] at hi; constructor <;> (try simp) <;> (try (intro _)) <;> omega)) (by simp [zee, St.lp, zaA, zaa, getK, zac, zad, D.under, D.le, D.ren, hne, hne2, hmq, Ne.symm hmq, hm1, zaP] <;> (try (intros; simp_all; done)) <;> (try omega)) (by simp [wkR, St.lp, zaa, getK, zac, zad, obR, leU, zaN, zan, Ob.under, D.under, D.le, D.ren, hne, hne2, hmq, Ne.symm hmq, hm1, zaP] <;> (try (intros; simp_all; done)) <;> (try omega)) (by simp [hne, hne2, hmq, Ne.symm hmq, hm1, zaP])) ?_
  (refine EndW.h Tryz.results38 ?_; simp)
theorem ziQ (lets : List Let) (shs : List Bool) (c : Code) (j : Nat) (m q nx : Nat) (hm : m < nx) (hq : q < nx) (hmq : m ≠ q) (hl : c.length <= 100000) (hj : j < c.length) : RetX Tryz.prog 111 [.ptr m 0, .u (.int .i64 j)] [(m, cOb lets shs q c), (q, kOb c)] nx
  fun r o n' => r = .val (.tup []) /\ o = [(m, cOb lets shs nx (zdC c j)), (nx, kOb (zdC c j))] /\ n' = nx + 1 := by
 have hne := nef hm;have hne2 := nef hq;have hm1 : m < nx + 1 := by omega
 have hx : c[j]? = some c[j] := List.getElem?_eq_getElem hj;have hxr := zta hx;have hlen := zbG c j;have hset := zrv c j { c[j] with a := c.length };have hland : zdC c j = c.set j { c[j] with a := c.length } := by unfold zdC; rw [hx]
 have hp := zaP (zdC c j);rw [hland] at hlen hp ⊢;generalize c.set j { c[j] with a := c.length } = c2 at *;generalize c[j] = x at *;have hij := zdQ c;have hj2 : j < (zb9 c).length := by omega
 unfold cOb kOb;rw [hlen];generalize zaE shs = y;generalize hR : zb9 c = R at *;generalize zb9 c2 = R2 at *;have hxe : R[j] = [.u (.int .i64 x.op), .u (.int .i64 x.a), .u (.str x.s)] := by
  rw [List.getElem?_eq_getElem hj2] at hxr;exact Option.some.inj hxr
 simp only at hset;clear hland hx hR hxr;simp only [zaz];refine RetX.runW Tryz.func111 Tryz.ntmps111 rfl (by simp) fun Γ hn hpan => ?_
 repeat' (first
  | (refine ⟨hC _ (zc0 [m, q] nx (by simp <;> omega) (by simp <;> omega) (by apply Exists.intro; apply And.intro; (focus (repeat' (first | exact KF.nil | exact KL.nil | apply KF.cons | apply KL.cons 0 rfl | apply KL.cons 1 rfl | apply KL.cons 2 rfl | apply KL.cons 3 rfl | apply KL.cons 4 rfl | apply KL.cons 5 rfl | apply KL.cons 6 rfl | apply KL.cons 7 rfl | apply KL.cons 8 rfl | apply KL.cons 9 rfl))); kernel_rfl)), hk _ (zeI 8 _ _ _ ?_)⟩; clear hC hk C k; simp [hne, hne2, hmq, Ne.symm hmq, Nat.add_assoc, del, hij, hj, hxe, hset])
  | (refine zeH rfl (by kernel_rfl) (by first | (simp [hn]; done) | (simp [hn]; omega) | fail) fun C k hC hk => ?_; simp [hne, hne2, hmq, Ne.symm hmq, Nat.add_assoc, del, hij, hj, hxe, hset])
  | fail)
 refine EndW.wk { n := _, env := [], obs := [(m, .box [.u (.sl (lets.map fun l => [.str l.name, .int .i64 l.body.op, .int .i64 l.body.n, .int .i64 l.body.unit, .str l.body.s, .sl (l.body.args.map Exp.row)])), .u y, .vec nx c.length]), (nx, .vec 44 3 R2)], next := nx + 1 } (Wk.ren ((fun i => if i = nx then q else i)) rfl (by first | (simp [hn]; done) | (intro i hi; rw [hn] at hi; constructor <;> (try simp) <;> (try (intro _)) <;> omega)) (by simp [zee, St.lp, zaA, zaa, getK, zac, zad, D.under, D.le, D.ren, hne, hne2, hmq, Ne.symm hmq, hm1, hp] <;> (try (intros; simp_all; done)) <;> (try omega)) (by simp [wkR, St.lp, zaa, getK, zac, zad, obR, leU, zaN, zan, Ob.under, D.under, D.le, D.ren, hne, hne2, hmq, Ne.symm hmq, hm1, hp] <;> (try (intros; simp_all; done)) <;> (try omega)) (by simp [hne, hne2, hmq, Ne.symm hmq, hm1, hp])) ?_
 (refine EndW.h Tryz.results111 ?_; simp)
theorem zoU (lets : List Let) (shs : List Bool) (c : Code) (m q nx : Nat) (hm : m < nx) (hq : q < nx) (hmq : m ≠ q) (hl : c.length <= 100000) : RetX Tryz.prog 110 [.ptr m 0] [(m, cOb lets shs q c), (q, kOb c)] nx
  fun r o n' => r = .val (.tup []) /\ o = [(m, cOb lets shs nx (zdy c)), (nx, kOb (zdy c))] /\ n' = nx + 1 := by
 have hne := nef hm;have hne2 := nef hq;have hm1 : m < nx + 1 := by omega
 have hp := zaP (zdy c);have hlc := zfr c ⟨11, 0, []⟩;have h1 := zf4 lets shs c ⟨11, 0, []⟩ m q nx hm hq hmq hl;have h2 := zf4 lets shs (zcg c ⟨11, 0, []⟩) ⟨11, 0, []⟩ m nx (nx + 1) (by omega) (by omega) (by omega) (by split at hlc <;> omega);unfold zdy at hp ⊢;simp only [zaz] at h1 h2 ⊢;generalize zcg c ⟨11, 0, []⟩ = c1 at *;generalize zcg c1 ⟨11, 0, []⟩ = c2 at *;refine RetX.runW Tryz.func110 Tryz.ntmps110 rfl (by simp) fun Γ hn hpan => ?_
 repeat' (first
  | (refine zaf rfl ?_; simp [hne, hne2, hmq, Ne.symm hmq, Nat.add_assoc, del])
  | (refine CallP.okL (h1) (by first | (simp [hne, hne2, hmq, Ne.symm hmq, Nat.add_assoc, del, zaa, getK, zab, zac, zad, zai, del]; done) | fail) (by rfl) (by first | assumption | (simp; done) | fail) (by rfl) (by simp) ?_; (try simp [hne, hne2, hmq, Ne.symm hmq, Nat.add_assoc, del, zcx, del]))
  | (refine CallP.okL (h2) (by first | (simp [hne, hne2, hmq, Ne.symm hmq, Nat.add_assoc, del, zaa, getK, zab, zac, zad, zai, del]; done) | fail) (by rfl) (by first | assumption | (simp; done) | fail) (by rfl) (by simp) ?_; (try simp [hne, hne2, hmq, Ne.symm hmq, Nat.add_assoc, del, zcx, del]))
  | fail)
 refine EndW.wk { n := _, env := [], obs := [(m, cOb lets shs nx c2), (nx, kOb c2)], next := nx + 1 } (Wk.ren ((fun i => if i = nx then nx + 1 else i)) rfl (by first | (simp [hn]; done) | (intro i hi; rw [hn] at hi; constructor <;> (try simp) <;> (try (intro _)) <;> omega)) (by simp [zee, St.lp, zaA, zaa, getK, zac, zad, D.under, D.le, D.ren, hne, hne2, hmq, Ne.symm hmq, hm1, hp, cOb, kOb] <;> (try (intros; simp_all; done)) <;> (try omega)) (by simp [wkR, St.lp, zaa, getK, zac, zad, obR, leU, zaN, zan, Ob.under, D.under, D.le, D.ren, hne, hne2, hmq, Ne.symm hmq, hm1, hp, cOb, kOb] <;> (try (intros; simp_all; done)) <;> (try omega)) (by simp [hne, hne2, hmq, Ne.symm hmq, hm1, hp, cOb, kOb])) ?_
 (refine EndW.h Tryz.results110 ?_; simp)
theorem zom {lets shs m n e a b FA FB} (ho : e.op = 10) (hab : e.args = [a, b]) (hA : ExpX lets shs m n a FA) (cA : Cap FA) (pA : Pre FA) (hB : ExpX lets shs m n b FB) (cB : Cap FB) (pB : Pre FB) : zuY lets shs m n e (zbW FA (fun c => zdy (FB c)) (fun c => zcg c ⟨0, 0, []⟩)) := by
 intro c q nx hm hq hmq hl;have hne := nef hm;have hne2 := nef hq;have hm1 : m < nx + 1 := by omega
 have hp := zaP ((zbW FA (fun c => zdy (FB c)) (fun c => zcg c ⟨0, 0, []⟩)) c);unfold zbW at hp ⊢
 try simp only at hp ⊢
 have l1 := cA c hl;have w1 := (pA c).1;have a1 := hA c q (nx + 1) (by omega) (by omega) (by omega) hl;generalize FA c = k1 at *;have l2 := Cap.put ⟨13, 0, []⟩ k1 l1;have w2 := (zcK ⟨13, 0, []⟩ k1).1;have g2 := zep k1 ⟨13, 0, []⟩;simp only at l2;have a2 := zf4 lets shs k1 ⟨13, 0, []⟩ m (nx + 1) (nx + 2) (by omega) (by omega) (by omega) (by omega);generalize zcg k1 ⟨13, 0, []⟩ = k2 at *;have l3 := cB k2 l2;have w3 := (pB k2).1;have a3 := hB k2 (nx + 2) (nx + 3) (by omega) (by omega) (by omega) l2;generalize FB k2 = k3 at *;have l4 := Cap.truth k3 l3;have w4 := (Pre.truth k3).1;have a4 := zoU lets shs k3 m (nx + 3) (nx + 4) (by omega) (by omega) (by omega) (by omega);generalize zdy k3 = k4 at *;have l5 := Cap.put ⟨12, 0, []⟩ k4 l4;have w5 := (zcK ⟨12, 0, []⟩ k4).1;have g5 := zep k4 ⟨12, 0, []⟩;simp only at l5;have a5 := zf4 lets shs k4 ⟨12, 0, []⟩ m (nx + 4) (nx + 5) (by omega) (by omega) (by omega) (by omega);generalize zcg k4 ⟨12, 0, []⟩ = k5 at *;have l6 := zbG k5 (k2.length - 1);have a6 := ziQ lets shs k5 (k2.length - 1) m (nx + 5) (nx + 6) (by omega) (by omega) (by omega) (by omega) (by omega);rw [show ((k2.length - 1 : Nat) : Int) = (k2.length : Int) - 1 by omega] at a6;generalize zdC k5 (k2.length - 1) = k6 at *;have l6 : k6.length <= 2001 := by omega
 have l7 := Cap.put ⟨0, 0, []⟩ k6 l6;have w7 := (zcK ⟨0, 0, []⟩ k6).1;have g7 := zep k6 ⟨0, 0, []⟩;simp only at l7;have a7 := zf4 lets shs k6 ⟨0, 0, []⟩ m (nx + 6) (nx + 7) (by omega) (by omega) (by omega) (by omega);generalize zcg k6 ⟨0, 0, []⟩ = k7 at *;have l8 := zbG k7 (k5.length - 1);have a8 := ziQ lets shs k7 (k5.length - 1) m (nx + 7) (nx + 8) (by omega) (by omega) (by omega) (by omega) (by omega);rw [show ((k5.length - 1 : Nat) : Int) = (k5.length : Int) - 1 by omega] at a8;generalize zdC k7 (k5.length - 1) = k8 at *;have l8 : k8.length <= 2001 := by omega
 simp only [zce, zaz] at a1 a2 a3 a4 a5 a6 a7 a8 ⊢;have hpp := hp;refine RetX.runW Tryz.func67 Tryz.ntmps67 rfl (by simp) fun Γ hn hpan => ?_
 repeat' (first
  | (refine zaf rfl ?_; simp [hne, hne2, hmq, Ne.symm hmq, Nat.add_assoc, del, ho, hab, a.row_eq, b.row_eq])
  | (refine CallP.okL (a1) (by first | (simp [hne, hne2, hmq, Ne.symm hmq, Nat.add_assoc, del, ho, hab, a.row_eq, b.row_eq, zaa, getK, zab, zac, zad, zai, del]; done) | fail) (by rfl) (by first | assumption | (simp; done) | fail) (by rfl) (by simp) ?_; (try simp [hne, hne2, hmq, Ne.symm hmq, Nat.add_assoc, del, ho, hab, a.row_eq, b.row_eq, zcx, del]))
  | (refine CallP.okL (a2) (by first | (simp [hne, hne2, hmq, Ne.symm hmq, Nat.add_assoc, del, ho, hab, a.row_eq, b.row_eq, zaa, getK, zab, zac, zad, zai, del]; done) | fail) (by rfl) (by first | assumption | (simp; done) | fail) (by rfl) (by simp) ?_; (try simp [hne, hne2, hmq, Ne.symm hmq, Nat.add_assoc, del, ho, hab, a.row_eq, b.row_eq, zcx, del]))
  | (refine CallP.okL (a3) (by first | (simp [hne, hne2, hmq, Ne.symm hmq, Nat.add_assoc, del, ho, hab, a.row_eq, b.row_eq, zaa, getK, zab, zac, zad, zai, del]; done) | fail) (by rfl) (by first | assumption | (simp; done) | fail) (by rfl) (by simp) ?_; (try simp [hne, hne2, hmq, Ne.symm hmq, Nat.add_assoc, del, ho, hab, a.row_eq, b.row_eq, zcx, del]))
  | (refine CallP.okL (a4) (by first | (simp [hne, hne2, hmq, Ne.symm hmq, Nat.add_assoc, del, ho, hab, a.row_eq, b.row_eq, zaa, getK, zab, zac, zad, zai, del]; done) | fail) (by rfl) (by first | assumption | (simp; done) | fail) (by rfl) (by simp) ?_; (try simp [hne, hne2, hmq, Ne.symm hmq, Nat.add_assoc, del, ho, hab, a.row_eq, b.row_eq, zcx, del]))
  | (refine CallP.okL (a5) (by first | (simp [hne, hne2, hmq, Ne.symm hmq, Nat.add_assoc, del, ho, hab, a.row_eq, b.row_eq, zaa, getK, zab, zac, zad, zai, del]; done) | fail) (by rfl) (by first | assumption | (simp; done) | fail) (by rfl) (by simp) ?_; (try simp [hne, hne2, hmq, Ne.symm hmq, Nat.add_assoc, del, ho, hab, a.row_eq, b.row_eq, zcx, del]))
  | (refine CallP.okL (a6) (by first | (simp [hne, hne2, hmq, Ne.symm hmq, Nat.add_assoc, del, ho, hab, a.row_eq, b.row_eq, zaa, getK, zab, zac, zad, zai, del]; done) | fail) (by rfl) (by first | assumption | (simp; done) | fail) (by rfl) (by simp) ?_; (try simp [hne, hne2, hmq, Ne.symm hmq, Nat.add_assoc, del, ho, hab, a.row_eq, b.row_eq, zcx, del]))
  | (refine CallP.okL (a7) (by first | (simp [hne, hne2, hmq, Ne.symm hmq, Nat.add_assoc, del, ho, hab, a.row_eq, b.row_eq, zaa, getK, zab, zac, zad, zai, del]; done) | fail) (by rfl) (by first | assumption | (simp; done) | fail) (by rfl) (by simp) ?_; (try simp [hne, hne2, hmq, Ne.symm hmq, Nat.add_assoc, del, ho, hab, a.row_eq, b.row_eq, zcx, del]))
  | (refine CallP.okL (a8) (by first | (simp [hne, hne2, hmq, Ne.symm hmq, Nat.add_assoc, del, ho, hab, a.row_eq, b.row_eq, zaa, getK, zab, zac, zad, zai, del]; done) | fail) (by rfl) (by first | assumption | (simp; done) | fail) (by rfl) (by simp) ?_; (try simp [hne, hne2, hmq, Ne.symm hmq, Nat.add_assoc, del, ho, hab, a.row_eq, b.row_eq, zcx, del]))
  | fail)
 refine EndW.wk { n := _, env := [], obs := [(m, cOb lets shs nx k8), (nx, kOb k8)], next := nx + 1 } (Wk.ren ((fun i => if i = nx then nx + 8 else i)) rfl (by first | (simp [hn]; done) | (intro i hi; rw [hn] at hi; constructor <;> (try simp) <;> (try (intro _)) <;> omega)) (by simp [zee, St.lp, zaA, zaa, getK, zac, zad, D.under, D.le, D.ren, hne, hne2, hmq, Ne.symm hmq, hm1, hp, cOb, kOb, zaz] <;> (try (intros; simp_all; done)) <;> (try omega)) (by simp [wkR, St.lp, zaa, getK, zac, zad, obR, leU, zaN, zan, Ob.under, D.under, D.le, D.ren, hne, hne2, hmq, Ne.symm hmq, hm1, hp, cOb, kOb, zaz] <;> (try (intros; simp_all; done)) <;> (try omega)) (by simp [hne, hne2, hmq, Ne.symm hmq, hm1, hp, cOb, kOb, zaz])) ?_
 (refine EndW.h Tryz.results67 ?_; simp)
theorem zp6 {lets shs m n e a b FA FB} (ho : e.op = 11) (hab : e.args = [a, b]) (hA : ExpX lets shs m n a FA) (cA : Cap FA) (pA : Pre FA) (hB : ExpX lets shs m n b FB) (cB : Cap FB) (pB : Pre FB) : zuY lets shs m n e (zbW FA (fun c => zcg c ⟨0, 1, []⟩) (fun c => zdy (FB c))) := by
 intro c q nx hm hq hmq hl;have hne := nef hm;have hne2 := nef hq;have hm1 : m < nx + 1 := by omega
 have hp := zaP ((zbW FA (fun c => zcg c ⟨0, 1, []⟩) (fun c => zdy (FB c))) c);unfold zbW at hp ⊢
 try simp only at hp ⊢
 have l1 := cA c hl;have w1 := (pA c).1;have a1 := hA c q (nx + 1) (by omega) (by omega) (by omega) hl;generalize FA c = k1 at *;have l2 := Cap.put ⟨13, 0, []⟩ k1 l1;have w2 := (zcK ⟨13, 0, []⟩ k1).1;have g2 := zep k1 ⟨13, 0, []⟩;simp only at l2;have a2 := zf4 lets shs k1 ⟨13, 0, []⟩ m (nx + 1) (nx + 2) (by omega) (by omega) (by omega) (by omega);generalize zcg k1 ⟨13, 0, []⟩ = k2 at *;have l3 := Cap.put ⟨0, 1, []⟩ k2 l2;have w3 := (zcK ⟨0, 1, []⟩ k2).1;have g3 := zep k2 ⟨0, 1, []⟩;simp only at l3;have a3 := zf4 lets shs k2 ⟨0, 1, []⟩ m (nx + 2) (nx + 3) (by omega) (by omega) (by omega) (by omega);generalize zcg k2 ⟨0, 1, []⟩ = k3 at *;have l4 := Cap.put ⟨12, 0, []⟩ k3 l3;have w4 := (zcK ⟨12, 0, []⟩ k3).1;have g4 := zep k3 ⟨12, 0, []⟩;simp only at l4;have a4 := zf4 lets shs k3 ⟨12, 0, []⟩ m (nx + 3) (nx + 4) (by omega) (by omega) (by omega) (by omega);generalize zcg k3 ⟨12, 0, []⟩ = k4 at *;have l5 := zbG k4 (k2.length - 1);have a5 := ziQ lets shs k4 (k2.length - 1) m (nx + 4) (nx + 5) (by omega) (by omega) (by omega) (by omega) (by omega);rw [show ((k2.length - 1 : Nat) : Int) = (k2.length : Int) - 1 by omega] at a5;generalize zdC k4 (k2.length - 1) = k5 at *;have l5 : k5.length <= 2001 := by omega
 have l6 := cB k5 l5;have w6 := (pB k5).1;have a6 := hB k5 (nx + 5) (nx + 6) (by omega) (by omega) (by omega) l5;generalize FB k5 = k6 at *;have l7 := Cap.truth k6 l6;have w7 := (Pre.truth k6).1;have a7 := zoU lets shs k6 m (nx + 6) (nx + 7) (by omega) (by omega) (by omega) (by omega);generalize zdy k6 = k7 at *;have l8 := zbG k7 (k4.length - 1);have a8 := ziQ lets shs k7 (k4.length - 1) m (nx + 7) (nx + 8) (by omega) (by omega) (by omega) (by omega) (by omega);rw [show ((k4.length - 1 : Nat) : Int) = (k4.length : Int) - 1 by omega] at a8;generalize zdC k7 (k4.length - 1) = k8 at *;have l8 : k8.length <= 2001 := by omega
 simp only [zce, zaz] at a1 a2 a3 a4 a5 a6 a7 a8 ⊢;have hpp := hp;refine RetX.runW Tryz.func67 Tryz.ntmps67 rfl (by simp) fun Γ hn hpan => ?_
 repeat' (first
  | (refine zaf rfl ?_; simp [hne, hne2, hmq, Ne.symm hmq, Nat.add_assoc, del, ho, hab, a.row_eq, b.row_eq])
  | (refine CallP.okL (a1) (by first | (simp [hne, hne2, hmq, Ne.symm hmq, Nat.add_assoc, del, ho, hab, a.row_eq, b.row_eq, zaa, getK, zab, zac, zad, zai, del]; done) | fail) (by rfl) (by first | assumption | (simp; done) | fail) (by rfl) (by simp) ?_; (try simp [hne, hne2, hmq, Ne.symm hmq, Nat.add_assoc, del, ho, hab, a.row_eq, b.row_eq, zcx, del]))
  | (refine CallP.okL (a2) (by first | (simp [hne, hne2, hmq, Ne.symm hmq, Nat.add_assoc, del, ho, hab, a.row_eq, b.row_eq, zaa, getK, zab, zac, zad, zai, del]; done) | fail) (by rfl) (by first | assumption | (simp; done) | fail) (by rfl) (by simp) ?_; (try simp [hne, hne2, hmq, Ne.symm hmq, Nat.add_assoc, del, ho, hab, a.row_eq, b.row_eq, zcx, del]))
  | (refine CallP.okL (a3) (by first | (simp [hne, hne2, hmq, Ne.symm hmq, Nat.add_assoc, del, ho, hab, a.row_eq, b.row_eq, zaa, getK, zab, zac, zad, zai, del]; done) | fail) (by rfl) (by first | assumption | (simp; done) | fail) (by rfl) (by simp) ?_; (try simp [hne, hne2, hmq, Ne.symm hmq, Nat.add_assoc, del, ho, hab, a.row_eq, b.row_eq, zcx, del]))
  | (refine CallP.okL (a4) (by first | (simp [hne, hne2, hmq, Ne.symm hmq, Nat.add_assoc, del, ho, hab, a.row_eq, b.row_eq, zaa, getK, zab, zac, zad, zai, del]; done) | fail) (by rfl) (by first | assumption | (simp; done) | fail) (by rfl) (by simp) ?_; (try simp [hne, hne2, hmq, Ne.symm hmq, Nat.add_assoc, del, ho, hab, a.row_eq, b.row_eq, zcx, del]))
  | (refine CallP.okL (a5) (by first | (simp [hne, hne2, hmq, Ne.symm hmq, Nat.add_assoc, del, ho, hab, a.row_eq, b.row_eq, zaa, getK, zab, zac, zad, zai, del]; done) | fail) (by rfl) (by first | assumption | (simp; done) | fail) (by rfl) (by simp) ?_; (try simp [hne, hne2, hmq, Ne.symm hmq, Nat.add_assoc, del, ho, hab, a.row_eq, b.row_eq, zcx, del]))
  | (refine CallP.okL (a6) (by first | (simp [hne, hne2, hmq, Ne.symm hmq, Nat.add_assoc, del, ho, hab, a.row_eq, b.row_eq, zaa, getK, zab, zac, zad, zai, del]; done) | fail) (by rfl) (by first | assumption | (simp; done) | fail) (by rfl) (by simp) ?_; (try simp [hne, hne2, hmq, Ne.symm hmq, Nat.add_assoc, del, ho, hab, a.row_eq, b.row_eq, zcx, del]))
  | (refine CallP.okL (a7) (by first | (simp [hne, hne2, hmq, Ne.symm hmq, Nat.add_assoc, del, ho, hab, a.row_eq, b.row_eq, zaa, getK, zab, zac, zad, zai, del]; done) | fail) (by rfl) (by first | assumption | (simp; done) | fail) (by rfl) (by simp) ?_; (try simp [hne, hne2, hmq, Ne.symm hmq, Nat.add_assoc, del, ho, hab, a.row_eq, b.row_eq, zcx, del]))
  | (refine CallP.okL (a8) (by first | (simp [hne, hne2, hmq, Ne.symm hmq, Nat.add_assoc, del, ho, hab, a.row_eq, b.row_eq, zaa, getK, zab, zac, zad, zai, del]; done) | fail) (by rfl) (by first | assumption | (simp; done) | fail) (by rfl) (by simp) ?_; (try simp [hne, hne2, hmq, Ne.symm hmq, Nat.add_assoc, del, ho, hab, a.row_eq, b.row_eq, zcx, del]))
  | fail)
 refine EndW.wk { n := _, env := [], obs := [(m, cOb lets shs nx k8), (nx, kOb k8)], next := nx + 1 } (Wk.ren ((fun i => if i = nx then nx + 8 else i)) rfl (by first | (simp [hn]; done) | (intro i hi; rw [hn] at hi; constructor <;> (try simp) <;> (try (intro _)) <;> omega)) (by simp [zee, St.lp, zaA, zaa, getK, zac, zad, D.under, D.le, D.ren, hne, hne2, hmq, Ne.symm hmq, hm1, hp, cOb, kOb, zaz] <;> (try (intros; simp_all; done)) <;> (try omega)) (by simp [wkR, St.lp, zaa, getK, zac, zad, obR, leU, zaN, zan, Ob.under, D.under, D.le, D.ren, hne, hne2, hmq, Ne.symm hmq, hm1, hp, cOb, kOb, zaz] <;> (try (intros; simp_all; done)) <;> (try omega)) (by simp [hne, hne2, hmq, Ne.symm hmq, hm1, hp, cOb, kOb, zaz])) ?_
 (refine EndW.h Tryz.results67 ?_; simp)
theorem zp7 {lets shs m n e a b d FA FB FD} (ho : e.op = 13) (hab : e.args = [a, b, d]) (hA : ExpX lets shs m n a FA) (cA : Cap FA) (pA : Pre FA) (hB : ExpX lets shs m n b FB) (cB : Cap FB) (pB : Pre FB) (hD : ExpX lets shs m n d FD) (cD : Cap FD) (pD : Pre FD) : zuY lets shs m n e (zbW FA FB FD) := by
 intro c q nx hm hq hmq hl;have hne := nef hm;have hne2 := nef hq;have hm1 : m < nx + 1 := by omega
 have hp := zaP ((zbW FA FB FD) c);unfold zbW at hp ⊢
 try simp only at hp ⊢
 have l1 := cA c hl;have w1 := (pA c).1;have a1 := hA c q (nx + 1) (by omega) (by omega) (by omega) hl;generalize FA c = k1 at *;have l2 := Cap.put ⟨13, 0, []⟩ k1 l1;have w2 := (zcK ⟨13, 0, []⟩ k1).1;have g2 := zep k1 ⟨13, 0, []⟩;simp only at l2;have a2 := zf4 lets shs k1 ⟨13, 0, []⟩ m (nx + 1) (nx + 2) (by omega) (by omega) (by omega) (by omega);generalize zcg k1 ⟨13, 0, []⟩ = k2 at *;have l3 := cB k2 l2;have w3 := (pB k2).1;have a3 := hB k2 (nx + 2) (nx + 3) (by omega) (by omega) (by omega) l2;generalize FB k2 = k3 at *;have l4 := Cap.put ⟨12, 0, []⟩ k3 l3;have w4 := (zcK ⟨12, 0, []⟩ k3).1;have g4 := zep k3 ⟨12, 0, []⟩;simp only at l4;have a4 := zf4 lets shs k3 ⟨12, 0, []⟩ m (nx + 3) (nx + 4) (by omega) (by omega) (by omega) (by omega);generalize zcg k3 ⟨12, 0, []⟩ = k4 at *;have l5 := zbG k4 (k2.length - 1);have a5 := ziQ lets shs k4 (k2.length - 1) m (nx + 4) (nx + 5) (by omega) (by omega) (by omega) (by omega) (by omega);rw [show ((k2.length - 1 : Nat) : Int) = (k2.length : Int) - 1 by omega] at a5;generalize zdC k4 (k2.length - 1) = k5 at *;have l5 : k5.length <= 2001 := by omega
 have l6 := cD k5 l5;have w6 := (pD k5).1;have a6 := hD k5 (nx + 5) (nx + 6) (by omega) (by omega) (by omega) l5;generalize FD k5 = k6 at *;have l7 := zbG k6 (k4.length - 1);have a7 := ziQ lets shs k6 (k4.length - 1) m (nx + 6) (nx + 7) (by omega) (by omega) (by omega) (by omega) (by omega);rw [show ((k4.length - 1 : Nat) : Int) = (k4.length : Int) - 1 by omega] at a7;generalize zdC k6 (k4.length - 1) = k7 at *;have l7 : k7.length <= 2001 := by omega
 simp only [zce, zaz] at a1 a2 a3 a4 a5 a6 a7 ⊢;have hpp := hp;refine RetX.runW Tryz.func67 Tryz.ntmps67 rfl (by simp) fun Γ hn hpan => ?_
 repeat' (first
  | (refine zaf rfl ?_; simp [hne, hne2, hmq, Ne.symm hmq, Nat.add_assoc, del, ho, hab, a.row_eq, b.row_eq, d.row_eq])
  | (refine CallP.okL (a1) (by first | (simp [hne, hne2, hmq, Ne.symm hmq, Nat.add_assoc, del, ho, hab, a.row_eq, b.row_eq, d.row_eq, zaa, getK, zab, zac, zad, zai, del]; done) | fail) (by rfl) (by first | assumption | (simp; done) | fail) (by rfl) (by simp) ?_; (try simp [hne, hne2, hmq, Ne.symm hmq, Nat.add_assoc, del, ho, hab, a.row_eq, b.row_eq, d.row_eq, zcx, del]))
  | (refine CallP.okL (a2) (by first | (simp [hne, hne2, hmq, Ne.symm hmq, Nat.add_assoc, del, ho, hab, a.row_eq, b.row_eq, d.row_eq, zaa, getK, zab, zac, zad, zai, del]; done) | fail) (by rfl) (by first | assumption | (simp; done) | fail) (by rfl) (by simp) ?_; (try simp [hne, hne2, hmq, Ne.symm hmq, Nat.add_assoc, del, ho, hab, a.row_eq, b.row_eq, d.row_eq, zcx, del]))
  | (refine CallP.okL (a3) (by first | (simp [hne, hne2, hmq, Ne.symm hmq, Nat.add_assoc, del, ho, hab, a.row_eq, b.row_eq, d.row_eq, zaa, getK, zab, zac, zad, zai, del]; done) | fail) (by rfl) (by first | assumption | (simp; done) | fail) (by rfl) (by simp) ?_; (try simp [hne, hne2, hmq, Ne.symm hmq, Nat.add_assoc, del, ho, hab, a.row_eq, b.row_eq, d.row_eq, zcx, del]))
  | (refine CallP.okL (a4) (by first | (simp [hne, hne2, hmq, Ne.symm hmq, Nat.add_assoc, del, ho, hab, a.row_eq, b.row_eq, d.row_eq, zaa, getK, zab, zac, zad, zai, del]; done) | fail) (by rfl) (by first | assumption | (simp; done) | fail) (by rfl) (by simp) ?_; (try simp [hne, hne2, hmq, Ne.symm hmq, Nat.add_assoc, del, ho, hab, a.row_eq, b.row_eq, d.row_eq, zcx, del]))
  | (refine CallP.okL (a5) (by first | (simp [hne, hne2, hmq, Ne.symm hmq, Nat.add_assoc, del, ho, hab, a.row_eq, b.row_eq, d.row_eq, zaa, getK, zab, zac, zad, zai, del]; done) | fail) (by rfl) (by first | assumption | (simp; done) | fail) (by rfl) (by simp) ?_; (try simp [hne, hne2, hmq, Ne.symm hmq, Nat.add_assoc, del, ho, hab, a.row_eq, b.row_eq, d.row_eq, zcx, del]))
  | (refine CallP.okL (a6) (by first | (simp [hne, hne2, hmq, Ne.symm hmq, Nat.add_assoc, del, ho, hab, a.row_eq, b.row_eq, d.row_eq, zaa, getK, zab, zac, zad, zai, del]; done) | fail) (by rfl) (by first | assumption | (simp; done) | fail) (by rfl) (by simp) ?_; (try simp [hne, hne2, hmq, Ne.symm hmq, Nat.add_assoc, del, ho, hab, a.row_eq, b.row_eq, d.row_eq, zcx, del]))
  | (refine CallP.okL (a7) (by first | (simp [hne, hne2, hmq, Ne.symm hmq, Nat.add_assoc, del, ho, hab, a.row_eq, b.row_eq, d.row_eq, zaa, getK, zab, zac, zad, zai, del]; done) | fail) (by rfl) (by first | assumption | (simp; done) | fail) (by rfl) (by simp) ?_; (try simp [hne, hne2, hmq, Ne.symm hmq, Nat.add_assoc, del, ho, hab, a.row_eq, b.row_eq, d.row_eq, zcx, del]))
  | fail)
 refine EndW.wk { n := _, env := [], obs := [(m, cOb lets shs nx k7), (nx, kOb k7)], next := nx + 1 } (Wk.ren ((fun i => if i = nx then nx + 7 else i)) rfl (by first | (simp [hn]; done) | (intro i hi; rw [hn] at hi; constructor <;> (try simp) <;> (try (intro _)) <;> omega)) (by simp [zee, St.lp, zaA, zaa, getK, zac, zad, D.under, D.le, D.ren, hne, hne2, hmq, Ne.symm hmq, hm1, hp, cOb, kOb, zaz] <;> (try (intros; simp_all; done)) <;> (try omega)) (by simp [wkR, St.lp, zaa, getK, zac, zad, obR, leU, zaN, zan, Ob.under, D.under, D.le, D.ren, hne, hne2, hmq, Ne.symm hmq, hm1, hp, cOb, kOb, zaz] <;> (try (intros; simp_all; done)) <;> (try omega)) (by simp [hne, hne2, hmq, Ne.symm hmq, hm1, hp, cOb, kOb, zaz])) ?_
 (refine EndW.h Tryz.results67 ?_; simp)
theorem zpq (l : Code) (n : Nat) (hll : l.length <= 10000000) (hn : n <= 10000000) (hj : JB 10000000 l) : Fun Tryz.prog 112 [.u (Vm.inss l), .u (.int .i64 n)] (· = .u (Vm.inss (mvC n l))) := by
 have hnn : n <= 10000000 := hn;clear hn;simp only [Vm.inss];refine Fun.runW Tryz.func112 Tryz.ntmps112 rfl (by simp) fun Γ hn => ?_
 repeat' (first
  | (refine zaf rfl ?_; simp)
  | fail)
 refine zlG _ (Wk.own 5 44 3 (by decide) rfl) ?_;simp [St.own];refine zb8 (α := { i : Nat // i <= l.length }) [0, 1] (fun i => [(5, .vec 0 i.1), (6, .u (.int .i64 i.1))]) (fun i => [(0, .vec 44 3 (zb9 (mvC n (l.take i.1))))]) 1 (fun i => l.length - i.1) ⟨0, by omega⟩ ?_ ?_
 ·exact (Wk.zda (by simp [hn, mvC, zb9] <;> grind))
 rintro ⟨i, hi⟩;simp;rcases hx : l[i]? with _ | x
 ·have hge : l.length <= i := by simpa using hx
  obtain rfl : i = l.length := by omega
  simp only [List.take_length];have e0 := zcq n l;have e1 := zbL (mvC n l);have e2 := zfg (mvC n l);have e3 := zdQ (mvC n l);rw [e0] at e2 e3;generalize mvC n l = M at *;generalize zb9 M = R at *
  repeat' (first
  | (refine zaf rfl ?_; simp [hx])
  | fail)
  (refine EndW.frzN 1 ?_; simp [del, e0, e1, e2, e3])
  refine EndW.norm (EndW.here ?_)
  (refine EndOK.val (.inr rfl) ?_; simp [Tryz.results112, e0, e1, e2, e3])
 ·have hlt : i < l.length := (List.getElem?_eq_some_iff.1 hx).1;have e0 := zcq n (l.take i);rw [List.length_take, Nat.min_eq_left (by omega)] at e0;have e1 := zrc (n := n) hx;have e3 := zdQ (mvC n (l.take i));have e4 := zcU (mvC n (l.take i));have e5 := zaP (mvC n (l.take (i + 1)));rw [e0] at e3;rw [e1] at e5;generalize zb9 (mvC n (l.take i)) = R at *;have hjx := hj x (List.mem_of_getElem? hx);unfold mvI at e1 e5;by_cases h12 : x.op = 12
  ·have hb := hjx (.inl h12);rw [if_pos (.inl h12)] at e1 e5;simp only [h12] at e1 e5
   repeat' (first
  | (refine Cnd.of (fun hc => ?_) (fun hc => ?_) <;> (try (exfalso; omega)) <;> (try simp [hx, e3, e4, h12]))
  | (refine zaf rfl ?_; simp [hx, e3, e4, h12])
  | (refine And.intro (by omega) ?_)
  | fail)
   refine LoopW.next ⟨i + 1, by omega⟩ (by simp; omega) ?_
   exact (Wk.ren ((fun i => if i = 0 then 3 else i)) rfl (by first | (simp [hn]; done) | (intro i hi; rw [hn] at hi; constructor <;> (try simp) <;> (try (intro _)) <;> omega)) (by simp [zee, St.lp, zaA, zaa, getK, zac, zad, D.under, D.le, D.ren, e1, e5, h12] <;> (try (intros; simp_all; done)) <;> (try omega)) (by simp [wkR, St.lp, zaa, getK, zac, zad, obR, leU, zaN, zan, Ob.under, D.under, D.le, D.ren, e1, e5, h12] <;> (try (intros; simp_all; done)) <;> (try omega)) (by simp [e1, e5, h12]))
  by_cases h13 : x.op = 13
  ·have hb := hjx (.inr h13);rw [if_pos (.inr h13)] at e1 e5;simp only [h13] at e1 e5
   repeat' (first
  | (refine Cnd.of (fun hc => ?_) (fun hc => ?_) <;> (try (exfalso; omega)) <;> (try simp [hx, e3, e4, h13]))
  | (refine zaf rfl ?_; simp [hx, e3, e4, h13])
  | (refine And.intro (by omega) ?_)
  | fail)
   refine LoopW.next ⟨i + 1, by omega⟩ (by simp; omega) ?_
   exact (Wk.ren ((fun i => if i = 0 then 3 else i)) rfl (by first | (simp [hn]; done) | (intro i hi; rw [hn] at hi; constructor <;> (try simp) <;> (try (intro _)) <;> omega)) (by simp [zee, St.lp, zaA, zaa, getK, zac, zad, D.under, D.le, D.ren, e1, e5, h13] <;> (try (intros; simp_all; done)) <;> (try omega)) (by simp [wkR, St.lp, zaa, getK, zac, zad, obR, leU, zaN, zan, Ob.under, D.under, D.le, D.ren, e1, e5, h13] <;> (try (intros; simp_all; done)) <;> (try omega)) (by simp [e1, e5, h13]))
  rw [if_neg (by omega)] at e1 e5
  repeat' (first
  | (refine Cnd.of (fun hc => ?_) (fun hc => ?_) <;> (try (exfalso; omega)) <;> (try simp [hx, e3, e4, h12, h13]))
  | (refine zaf rfl ?_; simp [hx, e3, e4, h12, h13])
  | (refine And.intro (by omega) ?_)
  | fail)
  refine LoopW.next ⟨i + 1, by omega⟩ (by simp; omega) ?_
  exact (Wk.ren ((fun i => if i = 0 then 3 else i)) rfl (by first | (simp [hn]; done) | (intro i hi; rw [hn] at hi; constructor <;> (try simp) <;> (try (intro _)) <;> omega)) (by simp [zee, St.lp, zaA, zaa, getK, zac, zad, D.under, D.le, D.ren, e1, e5] <;> (try (intros; simp_all; done)) <;> (try omega)) (by simp [wkR, St.lp, zaa, getK, zac, zad, obR, leU, zaN, zan, Ob.under, D.under, D.le, D.ren, e1, e5] <;> (try (intros; simp_all; done)) <;> (try omega)) (by simp [e1, e5]))
theorem zoT : Fun Tryz.prog 72 [] (· = .u (Vm.inss [⟨11, 0, []⟩, ⟨11, 0, []⟩])) := by
 simp only [Vm.inss, List.map_cons, List.map_nil];refine Fun.runW Tryz.func72 Tryz.ntmps72 rfl (by simp) fun Γ hn => ?_
 repeat' (first
  | (refine zaf rfl ?_; simp)
  | fail)
 (refine EndW.frzN 1 ?_; simp [del])
 refine EndW.norm (EndW.here ?_)
 (refine EndOK.val (.inr rfl) ?_; simp [Tryz.results72])
theorem zq4 (op : Int) (h : 2 <= op /\ op <= 9 \/ op = 12) (h4 : op ≠ 4) (sh : Exp -> Bool) (l : List Exp) : Fun Tryz.prog 74 [.u (.int .i64 op)] (· = .u (.int .i64 (zbl sh op l))) := by
 have hp : zbl sh op l = if op = 2 then 2 else if op = 3 then 3 else if op = 5 then 5 else if op = 6 then 7 else if op = 7 then 8 else if op = 8 then 9 else if op = 9 then 10 else 11 := by
  unfold zbl
  repeat' split
  all_goals first | rfl | (exfalso; omega)
 rw [hp];refine Fun.run Tryz.func74 Tryz.ntmps74 Tryz.results74 rfl (by simp) fun Γ hn => ?_
 repeat' (first
  | (refine Cnd.of (fun hc => ?_) (fun hc => ?_) <;> (try (exfalso; omega)) <;> (try simp))
  | (refine zaf rfl ?_; simp)
  | fail)
 all_goals
  (refine Pst.of ?_; simp)
 all_goals simp_all
theorem zfo (a b : Code) (nx : Nat) (ha : a.length <= 10000000) (hb : b.length <= 10000000) (hj : JB 10000000 b) : RetX Tryz.prog 71 [.u (Vm.inss a), .u (Vm.inss b)] [] nx (OwnC (a ++ mvC a.length b) nx) := by
 have hm := zpq b a.length hb ha hj;have hp := zaP (a ++ mvC a.length b);have e0 := zcq a.length b;have e4 := zcU a;rw [zeQ] at hp;unfold OwnC kOb;rw [zeQ, List.length_append];generalize mvC a.length b = m at *;simp only [Vm.inss] at hm ⊢;refine RetX.runW Tryz.func71 Tryz.ntmps71 rfl (by simp) fun Γ hn hpan => ?_
 repeat' (first
  | (refine zaf rfl ?_; simp [e0, Nat.add_assoc])
  | (refine And.intro (by omega) ?_)
  | (refine CallP.f2 rfl (hm) (by first | simp [e0, Nat.add_assoc] <;> rfl | fail) ?_; simp [e0, Nat.add_assoc])
  | fail)
 refine EndW.wk { n := _, env := [(4, .vec nx (a.length + m.length))], obs := [(nx, .vec zdJ 3 (zb9 a ++ zb9 m))], next := nx + 1 } (Wk.ren ((fun i => if i = nx then nx + 2 else i)) rfl (by first | (simp [hn]; done) | (intro i hi; rw [hn] at hi; constructor <;> (try simp) <;> (try (intro _)) <;> omega)) (by simp [zee, St.lp, zaA, zaa, getK, zac, zad, D.under, D.le, D.ren, hp, rowsD_ins, e0] <;> (try (intros; simp_all; done)) <;> (try omega)) (by simp [wkR, St.lp, zaa, getK, zac, zad, obR, leU, zaN, zan, Ob.under, D.under, D.le, D.ren, hp, rowsD_ins, e0] <;> (try (intros; simp_all; done)) <;> (try omega)) (by simp [hp, rowsD_ins, e0])) ?_
 (refine EndW.h Tryz.results71 ?_; simp)
 exact e0
theorem zgJ (a b c : Code) (nx : Nat) (ha : a.length <= 4100) (hb : b.length <= 4100) (hc : c.length <= 9000000) (hjb : JB 9000000 b) (hjc : JB 9000000 c) : RetX Tryz.prog 70 [.u (Vm.inss a), .u (Vm.inss b), .u (Vm.inss c)] [] nx (OwnC (zbo a b c) nx) := by
 obtain ⟨c13, h13⟩ : ∃ x : Ins, x = ⟨13, (a.length : Int) + b.length + 2, []⟩ := ⟨_, rfl⟩;obtain ⟨c12, h12⟩ : ∃ x : Ins, x = ⟨12, (a.length : Int) + b.length + c.length + 2, []⟩ := ⟨_, rfl⟩;have h1 := fun nx' => zfo (a ++ [c13]) b nx' (by simp; omega) (by omega) (hjb.le (by omega));have h2 := fun nx' => zfo (a ++ [c13] ++ mvC (a.length + 1) b ++ [c12]) c nx' (by simp [zcq]; omega) (by omega) (hjc.le (by omega));have hL : zbo a b c = a ++ [c13] ++ mvC (a.length + 1) b ++ [c12] ++ mvC (a.length + 1 + b.length + 1) c := by
  simp only [zbo, List.append_assoc, List.cons_append, List.nil_append];rw [show a.length + b.length + 2 = a.length + 1 + b.length + 1 by omega];rw [h13, h12];simp;omega
 rw [hL];have e1 : (a ++ [c13]).length = a.length + 1 := by simp
 have e2 : (a ++ [c13] ++ mvC (a.length + 1) b ++ [c12]).length = a.length + 1 + b.length + 1 := by simp [zcq]; omega
 rw [e1] at h1;rw [e2] at h2;have f1 := zeQ a [c13];have f2 := zeQ (a ++ [c13] ++ mvC (a.length + 1) b) [c12];have f3 := zcq (a.length + 1) b;have f4 := zcU a;generalize hM : a ++ [c13] ++ mvC (a.length + 1) b = M at *;have hMl : M.length = a.length + 1 + b.length := by rw [<- hM]; simp [f3]; omega
 have f5 := zcU M;have f6 := zbL (a ++ [c13]);have f7 := zbL (M ++ [c12]);generalize hF : M ++ [c12] ++ mvC (a.length + 1 + b.length + 1) c = F at *;have hpF := zaP F;simp only [Vm.inss] at h1 h2 ⊢;simp only [List.map_append, List.map_cons, List.map_nil, h13, h12] at h1 h2;unfold OwnC kOb at h1 h2;have f8 := zam;have f9 := zbL M;refine RetX.runW Tryz.func70 Tryz.ntmps70 rfl (by simp) fun Γ hn hpan => ?_
 repeat' (first
  | (refine zeF rfl (by first | simp [f8, f9, frzN, frz1, zaH, zaG, St.frz, St.frzS, frzS, fv, zbh, zbx, zbM, zaI, zar, zal, del, frz, zbN] <;> rfl | fail) ?_)
  | (refine zaf rfl ?_; simp [Nat.add_assoc, f8, f9])
  | (refine And.intro (by omega) ?_)
  | (refine CallP.okL (h1 _) (by first | (simp [Nat.add_assoc, f8, f9, zaa, getK, zab, zac, zad, zai, del]; done) | fail) (by rfl) (by first | assumption | (simp; done) | fail) (by rfl) (by simp) ?_; (try simp [Nat.add_assoc, f8, f9, zcx, del]))
  | (refine CallP.okL (h2 _) (by first | (simp [Nat.add_assoc, f8, f9, zaa, getK, zab, zac, zad, zai, del]; done) | fail) (by rfl) (by first | assumption | (simp; done) | fail) (by rfl) (by simp) ?_; (try simp [Nat.add_assoc, f8, f9, zcx, del]))
  | fail)
 refine EndW.wk { n := _, env := [(6, .vec nx F.length)], obs := [(nx, .vec zdJ 3 (zb9 F))], next := nx + 1 } (Wk.ren ((fun i => if i = nx then nx + 7 else i)) rfl (by first | (simp [hn]; done) | (intro i hi; rw [hn] at hi; constructor <;> (try simp) <;> (try (intro _)) <;> omega)) (by simp [zee, St.lp, zaA, zaa, getK, zac, zad, D.under, D.le, D.ren, hpF] <;> (try (intros; simp_all; done)) <;> (try omega)) (by simp [wkR, St.lp, zaa, getK, zac, zad, obR, leU, zaN, zan, Ob.under, D.under, D.le, D.ren, hpF] <;> (try (intros; simp_all; done)) <;> (try omega)) (by simp [hpF])) ?_
 (refine EndW.h Tryz.results70 ?_; simp)
 exact ⟨rfl, rfl, rfl⟩
theorem zqF (lets : List Let) (n : Nat) (e : Exp) (h0 : e.op = 0) : XOK lets n e := by
 intro nx;have hx : xC lets n e = [⟨0, e.n, []⟩] := by rw [xC, zjQ, if_pos h0]
 rw [hx, Exp.row_eq];unfold OwnC kOb;simp only [zb9, List.map_cons, List.map_nil];refine RetX.runW Tryz.func40 Tryz.ntmps40 rfl (by simp) fun Γ hn hpan => ?_
 repeat' (first
  | (refine zaf rfl ?_; simp [h0, Nat.add_assoc])
  | fail)
 refine EndW.wk { n := _, env := [(4, .vec nx 1)], obs := [(nx, .vec zdJ 3 [[.u (.int .i64 0), .u (.int .i64 e.n), .u (.str [])]])], next := nx + 1 } (Wk.ren ((fun i => if i = nx then nx + 1 else i)) rfl (by first | (simp [hn]; done) | (intro i hi; rw [hn] at hi; constructor <;> (try simp) <;> (try (intro _)) <;> omega)) (by simp [zee, St.lp, zaA, zaa, getK, zac, zad, D.under, D.le, D.ren] <;> (try (intros; simp_all; done)) <;> (try omega)) (by simp [wkR, St.lp, zaa, getK, zac, zad, obR, leU, zaN, zan, Ob.under, D.under, D.le, D.ren] <;> (try (intros; simp_all; done)) <;> (try omega)) (by simp)) ?_
 (refine EndW.h Tryz.results40 ?_; simp)
theorem zoF (lets : List Let) (n : Nat) (e : Exp) (h1 : e.op = 1) (hn' : n <= lets.length) (hn2 : n <= 1000) (hB : ∀ i l, i < n -> lets[i]? = some l -> XOK lets i l.body) : XOK lets n e := by
 intro nx;have hx0 : xC lets n e = nmX lets (shF lets) n e.s := by rw [xC, zjQ, if_neg (by omega), if_pos h1]
 rw [hx0, Exp.row_eq];generalize hL : nmX lets (shF lets) n e.s = L;have hp := zaP L;have hlen : ((lets.map zmR).take n).length = n := by simp; omega
 have hrow : ∀ i l, i < n -> lets[i]? = some l -> ((lets.map zmR).take n)[i]? = some (zmR l) := fun i l hi hl => by
  rw [List.getElem?_take_of_lt hi, List.getElem?_map, hl]; rfl
 have htake : ∀ i, i <= n -> ((lets.map zmR).take n).take i = (lets.map zmR).take i := fun i hi => by
  rw [List.take_take, Nat.min_eq_left hi]
 have hB' : ∀ i l, i < n -> lets[i]? = some l -> ∀ nx, RetX Tryz.prog 40 [.u (.sl (((lets.map zmR).take n).take i)), .u (.agg l.body.row)] [] nx (OwnC (xC lets i l.body) nx) := fun i l hi hl => by
  rw [htake i (by omega)]; exact hB i l hi hl
 have hT6 : zj5 6 ((lets.map zmR).take n) := fun r hr => by
  obtain ⟨l, _, rfl⟩ := List.mem_map.1 (List.mem_of_mem_take hr); rfl
 generalize (lets.map zmR).take n = T at *;clear htake hB hx0;unfold OwnC kOb;refine RetX.runW Tryz.func40 Tryz.ntmps40 rfl (by simp) fun Γ hn hpan => ?_
 repeat' (first
  | (refine zaf rfl ?_; simp [h1, hlen])
  | (refine And.intro (by omega) ?_)
  | fail)
 refine zb8 (α := { i : Nat // i <= n /\ nmX lets (shF lets) i e.s = L }) [0, 3] (fun i => [(5, .u (.int .i64 ((i.1 : Int) - 1)))]) (fun i => [(nx, .box [.u (.int .i64 e.op), .u (.int .i64 e.n), .u (.int .i64 e.unit), .u (.str e.s), .u (.sl (e.args.map Exp.row))])]) (nx + 1) (fun i => i.1) ⟨n, Nat.le_refl _, hL⟩ ?_ ?_
 ·exact (Wk.zda (by simp [hn] <;> grind))
 rintro ⟨i, hi, hk'⟩;simp;rcases i with _ | i
 ·have hL0 : L = [⟨1, 0, e.s⟩] := by rw [<- hk']; rfl
  subst hL0;simp only [zb9, List.map_cons, List.map_nil] at hp
  repeat' (first
  | (refine zaf rfl ?_; simp [Nat.add_assoc])
  | fail)
  refine EndW.wk { n := _, env := [(4, .vec nx 1)], obs := [(nx, .vec zdJ 3 [[.u (.int .i64 1), .u (.int .i64 0), .u (.str e.s)]])], next := nx + 1 } (Wk.ren ((fun i => if i = nx then nx + 1 else i)) rfl (by first | (simp [hn]; done) | (intro i hi; rw [hn] at hi; constructor <;> (try simp) <;> (try (intro _)) <;> omega)) (by simp [zee, St.lp, zaA, zaa, getK, zac, zad, D.under, D.le, D.ren] <;> (try (intros; simp_all; done)) <;> (try omega)) (by simp [wkR, St.lp, zaa, getK, zac, zad, obR, leU, zaN, zan, Ob.under, D.under, D.le, D.ren] <;> (try (intros; simp_all; done)) <;> (try omega)) (by simp)) ?_
  (refine EndW.h Tryz.results40 ?_; simp)
 ·have hlt : i < n := by omega
  obtain ⟨l, hx⟩ : ∃ l, lets[i]? = some l := ⟨_, List.getElem?_eq_getElem (by omega)⟩;have hx2 := hrow i l hlt hx;have hc := hB' i l hlt hx;have e1 : ((i + 1 : Nat) : Int) - 1 = i := by omega
  rw [nmX, hx] at hk';simp only at hk';by_cases hs : l.name = e.s
  ·rw [if_pos hs] at hk';rw [show xC lets i l.body = L from hk', Exp.row_eq] at hc;have hi2 : i <= n := by omega
   repeat' (first
  | (refine zlD [] ⟨[], some (.vec zdJ 3 (zb9 L)), .vec L.length⟩ (.vec zdJ 3 (zb9 L)) (fun nx' h' => OwnC.n hc nx') ⟨rfl, rfl⟩ (by rfl) (by first | assumption | (simp; done) | fail) (by rfl) (by first | (simp [e1, hx2, hs, hlen, hi2, hT6, Nat.add_assoc, zaa, getK, zab, zac, zad, zai, del]; done) | fail) (by first | (simp [e1, hx2, hs, hlen, hi2, hT6, Nat.add_assoc, D.under, Ob.under, zak]; done) | fail) (by simp) ?_; (try simp [e1, hx2, hs, hlen, hi2, hT6, Nat.add_assoc]))
  | (refine zaf rfl ?_; simp [e1, hx2, hs, hlen, hi2, hT6, Nat.add_assoc])
  | (refine ⟨hC _ (zc0 [] nx (by simp <;> omega) (by simp <;> omega) (by apply Exists.intro; apply And.intro; (focus (repeat' (first | exact KF.nil | exact KL.nil | apply KF.cons | apply KL.cons 0 rfl | apply KL.cons 1 rfl | apply KL.cons 2 rfl | apply KL.cons 3 rfl | apply KL.cons 4 rfl | apply KL.cons 5 rfl | apply KL.cons 6 rfl | apply KL.cons 7 rfl | apply KL.cons 8 rfl | apply KL.cons 9 rfl))); kernel_rfl)), hk _ (zeI 8 _ _ _ ?_)⟩; clear hC hk C k; simp [e1, hx2, hs, hlen, hi2, hT6, Nat.add_assoc])
  | (refine zeH rfl (by kernel_rfl) (by first | (simp [hn]; done) | (simp [hn]; omega) | fail) fun C k hC hk => ?_; simp [e1, hx2, hs, hlen, hi2, hT6, Nat.add_assoc])
  | (refine zd2 rfl ?_; simp [e1, hx2, hs, hlen, hi2, hT6, Nat.add_assoc])
  | fail)
   refine EndW.wk { n := _, env := [(4, .vec nx L.length)], obs := [(nx, .vec zdJ 3 (zb9 L))], next := nx + 1 } (Wk.ren ((fun i => if i = nx then nx + 1 else i)) rfl (by first | (simp [hn]; done) | (intro i hi; rw [hn] at hi; constructor <;> (try simp) <;> (try (intro _)) <;> omega)) (by simp [zee, St.lp, zaA, zaa, getK, zac, zad, D.under, D.le, D.ren, hp] <;> (try (intros; simp_all; done)) <;> (try omega)) (by simp [wkR, St.lp, zaa, getK, zac, zad, obR, leU, zaN, zan, Ob.under, D.under, D.le, D.ren, hp] <;> (try (intros; simp_all; done)) <;> (try omega)) (by simp [hp])) ?_
   (refine EndW.h Tryz.results40 ?_; simp)
  ·rw [if_neg hs] at hk'
   repeat' (first
  | (refine zaf rfl ?_; simp [e1, hx2, hs, hlen, Nat.add_assoc])
  | (refine And.intro (by omega) ?_)
  | (refine ⟨hC _ (zc0 [] nx (by simp <;> omega) (by simp <;> omega) (by apply Exists.intro; apply And.intro; (focus (repeat' (first | exact KF.nil | exact KL.nil | apply KF.cons | apply KL.cons 0 rfl | apply KL.cons 1 rfl | apply KL.cons 2 rfl | apply KL.cons 3 rfl | apply KL.cons 4 rfl | apply KL.cons 5 rfl | apply KL.cons 6 rfl | apply KL.cons 7 rfl | apply KL.cons 8 rfl | apply KL.cons 9 rfl))); kernel_rfl)), hk _ (zeI 8 _ _ _ ?_)⟩; clear hC hk C k; simp [e1, hx2, hs, hlen, Nat.add_assoc])
  | (refine zeH rfl (by kernel_rfl) (by first | (simp [hn]; done) | (simp [hn]; omega) | fail) fun C k hC hk => ?_; simp [e1, hx2, hs, hlen, Nat.add_assoc])
  | fail)
   refine LoopW.next ⟨i, by omega, hk'⟩ (by simp) ?_
   exact (Wk.zda (by simp [hn] <;> grind))
theorem zmz (lets : List Let) (n : Nat) (op n0 u : Int) (s : List UInt8) (a : Exp) (r : List Exp) (h0 : ¬ op = 0) (h1 : ¬ op = 1) (ha : XOK lets n a) (hla : (xC lets n a).length <= 9000000) (hc : 4000 < (xC lets n a).length \/ op = 12) : XOK lets n (.mk op n0 u s (a :: r)) := by
 intro nx;have hx0 : xC lets n (.mk op n0 u s (a :: r)) = xC lets n a ++ [⟨11, 0, []⟩] := by
  rw [xC, zig, if_neg h0, if_neg h1, zdx lets n (a :: r) 0 a rfl, if_pos hc]
 unfold XOK at ha;have hap := zeQ (xC lets n a) [⟨11, 0, []⟩];rw [hx0];generalize xC lets n a = L at *;have hp := zaP (L ++ [⟨11, 0, []⟩]);have hlr := zcU L;have hlen : (L ++ [(⟨11, 0, []⟩ : Ins)]).length = L.length + 1 := by simp
 unfold OwnC kOb at ha ⊢;rw [hlen];rw [hap] at hp ⊢;simp only [zb9, List.map_cons, List.map_nil] at hp hlr ha ⊢;rw [Exp.row_eq] at ha ⊢;simp only [Exp.op, Exp.n, Exp.unit, Exp.s, Exp.args];by_cases hl : 4000 < L.length
 ·have hl' : (4000 : Int) < L.length := by omega
  refine RetX.runW Tryz.func40 Tryz.ntmps40 rfl (by simp) fun Γ hn hpan => ?_
  repeat' (first
  | (refine zaf rfl ?_; simp [h0, h1, hl, hl', Nat.add_assoc, a.row_eq])
  | (refine And.intro (by omega) ?_)
  | (refine CallP.okL (ha _) (by first | (simp [h0, h1, hl, hl', Nat.add_assoc, a.row_eq, zaa, getK, zab, zac, zad, zai, del]; done) | fail) (by rfl) (by first | assumption | (simp; done) | fail) (by rfl) (by simp) ?_; (try simp [h0, h1, hl, hl', Nat.add_assoc, a.row_eq, zcx, del]))
  | fail)
  refine EndW.wk { n := _, env := [(4, .vec nx (L.length + 1))], obs := [(nx, .vec zdJ 3 (zb9 L ++ [[.u (.int .i64 11), .u (.int .i64 0), .u (.str [])]]))], next := nx + 1 } (Wk.ren ((fun i => if i = nx then nx + 3 else i)) rfl (by first | (simp [hn]; done) | (intro i hi; rw [hn] at hi; constructor <;> (try simp) <;> (try (intro _)) <;> omega)) (by simp [zee, St.lp, zaA, zaa, getK, zac, zad, D.under, D.le, D.ren, hp] <;> (try (intros; simp_all; done)) <;> (try omega)) (by simp [wkR, St.lp, zaa, getK, zac, zad, obR, leU, zaN, zan, Ob.under, D.under, D.le, D.ren, hp] <;> (try (intros; simp_all; done)) <;> (try omega)) (by simp [hp])) ?_
  (refine EndW.h Tryz.results40 ?_; simp)
 ·have hl' : ¬ (4000 : Int) < L.length := by omega
  have h12 : op = 12 := by omega
  refine RetX.runW Tryz.func40 Tryz.ntmps40 rfl (by simp) fun Γ hn hpan => ?_
  repeat' (first
  | (refine zaf rfl ?_; simp [h0, h1, hl, hl', h12, Nat.add_assoc, a.row_eq])
  | (refine And.intro (by omega) ?_)
  | (refine CallP.okL (ha _) (by first | (simp [h0, h1, hl, hl', h12, Nat.add_assoc, a.row_eq, zaa, getK, zab, zac, zad, zai, del]; done) | fail) (by rfl) (by first | assumption | (simp; done) | fail) (by rfl) (by simp) ?_; (try simp [h0, h1, hl, hl', h12, Nat.add_assoc, a.row_eq, zcx, del]))
  | fail)
  refine EndW.wk { n := _, env := [(4, .vec nx (L.length + 1))], obs := [(nx, .vec zdJ 3 (zb9 L ++ [[.u (.int .i64 11), .u (.int .i64 0), .u (.str [])]]))], next := nx + 1 } (Wk.ren ((fun i => if i = nx then nx + 3 else i)) rfl (by first | (simp [hn]; done) | (intro i hi; rw [hn] at hi; constructor <;> (try simp) <;> (try (intro _)) <;> omega)) (by simp [zee, St.lp, zaA, zaa, getK, zac, zad, D.under, D.le, D.ren, hp] <;> (try (intros; simp_all; done)) <;> (try omega)) (by simp [wkR, St.lp, zaa, getK, zac, zad, obR, leU, zaN, zan, Ob.under, D.under, D.le, D.ren, hp] <;> (try (intros; simp_all; done)) <;> (try omega)) (by simp [hp])) ?_
  (refine EndW.h Tryz.results40 ?_; simp)
theorem zoG (lets : List Let) (n : Nat) (op n0 u : Int) (s : List UInt8) (a b : Exp) (r : List Exp) (h0 : ¬ op = 0) (h1 : ¬ op = 1) (h12 : ¬ op = 12) (ha : XOK lets n a) (hb : XOK lets n b) (la : (xC lets n a).length <= 4000) (lb : 4000 < (xC lets n b).length) (lb2 : (xC lets n b).length <= 9000000) : XOK lets n (.mk op n0 u s (a :: b :: r)) := by
 intro nx;have hxa := zdx lets n (a :: b :: r) 0 a rfl;have hxb := zdx lets n (a :: b :: r) 1 b rfl;have hx0 : xC lets n (.mk op n0 u s (a :: b :: r)) = xC lets n b := by
  rw [xC, zig, if_neg h0, if_neg h1, hxa, if_neg (by omega), hxb, if_pos lb]
 unfold XOK at ha hb;rw [hx0];generalize xC lets n a = A at *;generalize xC lets n b = B at *;have hp := zaP B;have la' : ¬ (4000 : Int) < A.length := by omega
 have lb' : (4000 : Int) < B.length := by omega
 unfold OwnC kOb at ha hb ⊢;rw [Exp.row_eq] at ha hb ⊢;simp only [Exp.op, Exp.n, Exp.unit, Exp.s, Exp.args];refine RetX.runW Tryz.func40 Tryz.ntmps40 rfl (by simp) fun Γ hn hpan => ?_
 repeat' (first
  | (refine zaf rfl ?_; simp [h0, h1, h12, la, la', lb, lb', Nat.not_lt_of_le la, Nat.add_assoc, a.row_eq, b.row_eq])
  | (refine CallP.okL (ha _) (by first | (simp [h0, h1, h12, la, la', lb, lb', Nat.not_lt_of_le la, Nat.add_assoc, a.row_eq, b.row_eq, zaa, getK, zab, zac, zad, zai, del]; done) | fail) (by rfl) (by first | assumption | (simp; done) | fail) (by rfl) (by simp) ?_; (try simp [h0, h1, h12, la, la', lb, lb', Nat.not_lt_of_le la, Nat.add_assoc, a.row_eq, b.row_eq, zcx, del]))
  | (refine CallP.okL (hb _) (by first | (simp [h0, h1, h12, la, la', lb, lb', Nat.not_lt_of_le la, Nat.add_assoc, a.row_eq, b.row_eq, zaa, getK, zab, zac, zad, zai, del]; done) | fail) (by rfl) (by first | assumption | (simp; done) | fail) (by rfl) (by simp) ?_; (try simp [h0, h1, h12, la, la', lb, lb', Nat.not_lt_of_le la, Nat.add_assoc, a.row_eq, b.row_eq, zcx, del]))
  | fail)
 refine EndW.wk { n := _, env := [(4, .vec nx B.length)], obs := [(nx, .vec zdJ 3 (zb9 B))], next := nx + 1 } (Wk.ren ((fun i => if i = nx then nx + 2 else i)) rfl (by first | (simp [hn]; done) | (intro i hi; rw [hn] at hi; constructor <;> (try simp) <;> (try (intro _)) <;> omega)) (by simp [zee, St.lp, zaA, zaa, getK, zac, zad, D.under, D.le, D.ren, hp] <;> (try (intros; simp_all; done)) <;> (try omega)) (by simp [wkR, St.lp, zaa, getK, zac, zad, obR, leU, zaN, zan, Ob.under, D.under, D.le, D.ren, hp] <;> (try (intros; simp_all; done)) <;> (try omega)) (by simp [hp])) ?_
 (refine EndW.h Tryz.results40 ?_; simp)
theorem zqI (lets : List Let) (n : Nat) (op n0 u : Int) (s : List UInt8) (a b : Exp) (r : List Exp) (h0 : ¬ op = 0) (h1 : ¬ op = 1) (h12 : ¬ op = 12) (ha : XOK lets n a) (hb : XOK lets n b) (la : (xC lets n a).length <= 4000) (lb : (xC lets n b).length <= 4000) (ja : JB 9000000 (xC lets n a)) (jb : JB 9000000 (xC lets n b)) (hop : op = 10) : XOK lets n (.mk op n0 u s (a :: b :: r)) := by
 intro nx;have hxa := zdx lets n (a :: b :: r) 0 a rfl;have hxb := zdx lets n (a :: b :: r) 1 b rfl;have hx0 : xC lets n (.mk op n0 u s (a :: b :: r)) = zbo (xC lets n a) (zdk (xC lets n b)) [⟨0, 0, []⟩] := by
  rw [xC, zig, if_neg h0, if_neg h1, hxa, if_neg (by omega), hxb, if_neg (by omega), if_pos hop]
 unfold XOK at ha hb;rw [hx0];clear hx0 hxa hxb;generalize xC lets n a = A at *;generalize xC lets n b = B at *;have la' : ¬ (4000 : Int) < A.length := by omega
 have lb' : ¬ (4000 : Int) < B.length := by omega
 have la2 := Nat.not_lt_of_le la;have lb2 := Nat.not_lt_of_le lb;have f1 := zam;have f2 := zbL;have f3 := fun i us c => zh3 (zbh i us) (fun _ => rfl) c;have h2 := zoT;have hT := OwnC.cast (fun nx' => zfo B [⟨11, 0, []⟩, ⟨11, 0, []⟩] nx' (by omega) (by simp) (fun x hx ho => by simp at hx; rcases hx with rfl | rfl <;> simp at ho)) (show _ = zdk B by rw [zsx]; rfl);have tl := zdN B;have jt := jb.truth;generalize zdk B = Tb at *;have hCh := fun nx' => zgJ A Tb [⟨0, 0, []⟩] nx' (by omega) (by omega) (by simp) (jt.le (by omega)) (JB.one fun h => by simp at h);generalize zbo A Tb [⟨0, 0, []⟩] = F at *;have hp := zaP F;unfold OwnC kOb at *;rw [Exp.row_eq] at ha hb ⊢;simp only [Vm.inss, List.map_cons, List.map_nil] at *;simp only [Exp.op, Exp.n, Exp.unit, Exp.s, Exp.args];refine RetX.runW Tryz.func40 Tryz.ntmps40 rfl (by simp) fun Γ hn hpan => ?_
 repeat' (first
  | (refine zeF rfl (by first | simp [f1, f2, f3, frzN, frz1, zaH, zaG, St.frz, St.frzS, frzS, fv, zbh, zbx, zbM, zaI, zar, zal, del, frz, zbN] <;> rfl | fail) ?_)
  | (refine zaf rfl ?_; simp [h0, h1, h12, hop, la, la', la2, lb, lb', lb2, Nat.add_assoc, a.row_eq, b.row_eq])
  | (refine CallP.f2 rfl (h2) (by first | simp [h0, h1, h12, hop, la, la', la2, lb, lb', lb2, Nat.add_assoc, a.row_eq, b.row_eq] <;> rfl | fail) ?_; simp [h0, h1, h12, hop, la, la', la2, lb, lb', lb2, Nat.add_assoc, a.row_eq, b.row_eq])
  | (refine CallP.okL (ha _) (by first | (simp [h0, h1, h12, hop, la, la', la2, lb, lb', lb2, Nat.add_assoc, a.row_eq, b.row_eq, zaa, getK, zab, zac, zad, zai, del]; done) | fail) (by rfl) (by first | assumption | (simp; done) | fail) (by rfl) (by simp) ?_; (try simp [h0, h1, h12, hop, la, la', la2, lb, lb', lb2, Nat.add_assoc, a.row_eq, b.row_eq, zcx, del]))
  | (refine CallP.okL (hb _) (by first | (simp [h0, h1, h12, hop, la, la', la2, lb, lb', lb2, Nat.add_assoc, a.row_eq, b.row_eq, zaa, getK, zab, zac, zad, zai, del]; done) | fail) (by rfl) (by first | assumption | (simp; done) | fail) (by rfl) (by simp) ?_; (try simp [h0, h1, h12, hop, la, la', la2, lb, lb', lb2, Nat.add_assoc, a.row_eq, b.row_eq, zcx, del]))
  | (refine CallP.okL (hT _) (by first | (simp [h0, h1, h12, hop, la, la', la2, lb, lb', lb2, Nat.add_assoc, a.row_eq, b.row_eq, zaa, getK, zab, zac, zad, zai, del]; done) | fail) (by rfl) (by first | assumption | (simp; done) | fail) (by rfl) (by simp) ?_; (try simp [h0, h1, h12, hop, la, la', la2, lb, lb', lb2, Nat.add_assoc, a.row_eq, b.row_eq, zcx, del]))
  | (refine CallP.okL (hCh _) (by first | (simp [h0, h1, h12, hop, la, la', la2, lb, lb', lb2, Nat.add_assoc, a.row_eq, b.row_eq, zaa, getK, zab, zac, zad, zai, del]; done) | fail) (by rfl) (by first | assumption | (simp; done) | fail) (by rfl) (by simp) ?_; (try simp [h0, h1, h12, hop, la, la', la2, lb, lb', lb2, Nat.add_assoc, a.row_eq, b.row_eq, zcx, del]))
  | fail)
 refine EndW.wk { n := _, env := [(4, .vec nx F.length)], obs := [(nx, .vec zdJ 3 (zb9 F))], next := nx + 1 } (Wk.ren ((fun i => if i = nx then nx + 5 else i)) rfl (by first | (simp [hn]; done) | (intro i hi; rw [hn] at hi; constructor <;> (try simp) <;> (try (intro _)) <;> omega)) (by simp [zee, St.lp, zaA, zaa, getK, zac, zad, D.under, D.le, D.ren, hp] <;> (try (intros; simp_all; done)) <;> (try omega)) (by simp [wkR, St.lp, zaa, getK, zac, zad, obR, leU, zaN, zan, Ob.under, D.under, D.le, D.ren, hp] <;> (try (intros; simp_all; done)) <;> (try omega)) (by simp [hp])) ?_
 (refine EndW.h Tryz.results40 ?_; simp)
theorem zsR (lets : List Let) (n : Nat) (op n0 u : Int) (s : List UInt8) (a b : Exp) (r : List Exp) (h0 : ¬ op = 0) (h1 : ¬ op = 1) (h12 : ¬ op = 12) (ha : XOK lets n a) (hb : XOK lets n b) (la : (xC lets n a).length <= 4000) (lb : (xC lets n b).length <= 4000) (ja : JB 9000000 (xC lets n a)) (jb : JB 9000000 (xC lets n b)) (hop : op = 11) : XOK lets n (.mk op n0 u s (a :: b :: r)) := by
 intro nx;have hxa := zdx lets n (a :: b :: r) 0 a rfl;have hxb := zdx lets n (a :: b :: r) 1 b rfl;have hx0 : xC lets n (.mk op n0 u s (a :: b :: r)) = zbo (xC lets n a) [⟨0, 1, []⟩] (zdk (xC lets n b)) := by
  rw [xC, zig, if_neg h0, if_neg h1, hxa, if_neg (by omega), hxb, if_neg (by omega), if_neg (by omega), if_pos hop]
 unfold XOK at ha hb;rw [hx0];clear hx0 hxa hxb;generalize xC lets n a = A at *;generalize xC lets n b = B at *;have la' : ¬ (4000 : Int) < A.length := by omega
 have lb' : ¬ (4000 : Int) < B.length := by omega
 have la2 := Nat.not_lt_of_le la;have lb2 := Nat.not_lt_of_le lb;have f1 := zam;have f2 := zbL;have f3 := fun i us c => zh3 (zbh i us) (fun _ => rfl) c;have h2 := zoT;have hT := OwnC.cast (fun nx' => zfo B [⟨11, 0, []⟩, ⟨11, 0, []⟩] nx' (by omega) (by simp) (fun x hx ho => by simp at hx; rcases hx with rfl | rfl <;> simp at ho)) (show _ = zdk B by rw [zsx]; rfl);have tl := zdN B;have jt := jb.truth;generalize zdk B = Tb at *;have hCh := fun nx' => zgJ A [⟨0, 1, []⟩] Tb nx' (by omega) (by simp) (by omega) (JB.one fun h => by simp at h) (jt.le (by omega));generalize zbo A [⟨0, 1, []⟩] Tb = F at *;have hp := zaP F;unfold OwnC kOb at *;rw [Exp.row_eq] at ha hb ⊢;simp only [Vm.inss, List.map_cons, List.map_nil] at *;simp only [Exp.op, Exp.n, Exp.unit, Exp.s, Exp.args];refine RetX.runW Tryz.func40 Tryz.ntmps40 rfl (by simp) fun Γ hn hpan => ?_
 repeat' (first
  | (refine zeF rfl (by first | simp [f1, f2, f3, frzN, frz1, zaH, zaG, St.frz, St.frzS, frzS, fv, zbh, zbx, zbM, zaI, zar, zal, del, frz, zbN] <;> rfl | fail) ?_)
  | (refine zaf rfl ?_; simp [h0, h1, h12, hop, la, la', la2, lb, lb', lb2, Nat.add_assoc, a.row_eq, b.row_eq])
  | (refine CallP.f2 rfl (h2) (by first | simp [h0, h1, h12, hop, la, la', la2, lb, lb', lb2, Nat.add_assoc, a.row_eq, b.row_eq] <;> rfl | fail) ?_; simp [h0, h1, h12, hop, la, la', la2, lb, lb', lb2, Nat.add_assoc, a.row_eq, b.row_eq])
  | (refine CallP.okL (ha _) (by first | (simp [h0, h1, h12, hop, la, la', la2, lb, lb', lb2, Nat.add_assoc, a.row_eq, b.row_eq, zaa, getK, zab, zac, zad, zai, del]; done) | fail) (by rfl) (by first | assumption | (simp; done) | fail) (by rfl) (by simp) ?_; (try simp [h0, h1, h12, hop, la, la', la2, lb, lb', lb2, Nat.add_assoc, a.row_eq, b.row_eq, zcx, del]))
  | (refine CallP.okL (hb _) (by first | (simp [h0, h1, h12, hop, la, la', la2, lb, lb', lb2, Nat.add_assoc, a.row_eq, b.row_eq, zaa, getK, zab, zac, zad, zai, del]; done) | fail) (by rfl) (by first | assumption | (simp; done) | fail) (by rfl) (by simp) ?_; (try simp [h0, h1, h12, hop, la, la', la2, lb, lb', lb2, Nat.add_assoc, a.row_eq, b.row_eq, zcx, del]))
  | (refine CallP.okL (hT _) (by first | (simp [h0, h1, h12, hop, la, la', la2, lb, lb', lb2, Nat.add_assoc, a.row_eq, b.row_eq, zaa, getK, zab, zac, zad, zai, del]; done) | fail) (by rfl) (by first | assumption | (simp; done) | fail) (by rfl) (by simp) ?_; (try simp [h0, h1, h12, hop, la, la', la2, lb, lb', lb2, Nat.add_assoc, a.row_eq, b.row_eq, zcx, del]))
  | (refine CallP.okL (hCh _) (by first | (simp [h0, h1, h12, hop, la, la', la2, lb, lb', lb2, Nat.add_assoc, a.row_eq, b.row_eq, zaa, getK, zab, zac, zad, zai, del]; done) | fail) (by rfl) (by first | assumption | (simp; done) | fail) (by rfl) (by simp) ?_; (try simp [h0, h1, h12, hop, la, la', la2, lb, lb', lb2, Nat.add_assoc, a.row_eq, b.row_eq, zcx, del]))
  | fail)
 refine EndW.wk { n := _, env := [(4, .vec nx F.length)], obs := [(nx, .vec zdJ 3 (zb9 F))], next := nx + 1 } (Wk.ren ((fun i => if i = nx then nx + 5 else i)) rfl (by first | (simp [hn]; done) | (intro i hi; rw [hn] at hi; constructor <;> (try simp) <;> (try (intro _)) <;> omega)) (by simp [zee, St.lp, zaA, zaa, getK, zac, zad, D.under, D.le, D.ren, hp] <;> (try (intros; simp_all; done)) <;> (try omega)) (by simp [wkR, St.lp, zaa, getK, zac, zad, obR, leU, zaN, zan, Ob.under, D.under, D.le, D.ren, hp] <;> (try (intros; simp_all; done)) <;> (try omega)) (by simp [hp])) ?_
 (refine EndW.h Tryz.results40 ?_; simp)
theorem zqH (lets : List Let) (n : Nat) (op n0 u : Int) (s : List UInt8) (a b : Exp) (r : List Exp) (h0 : ¬ op = 0) (h1 : ¬ op = 1) (h12 : ¬ op = 12) (ha : XOK lets n a) (hb : XOK lets n b) (la : (xC lets n a).length <= 4000) (lb : (xC lets n b).length <= 4000) (ja : JB 9000000 (xC lets n a)) (jb : JB 9000000 (xC lets n b)) (hr : r = []) (hop : ¬ op = 10) (hop2 : ¬ op = 11) (hop3 : ¬ op = 13) (hop4 : ¬ op = 4) (hran : 2 <= op /\ op <= 9) : XOK lets n (.mk op n0 u s (a :: b :: r)) := by
 intro nx;have hxa := zdx lets n (a :: b :: r) 0 a rfl;have hxb := zdx lets n (a :: b :: r) 1 b rfl;subst hr;have hx0 : xC lets n (.mk op n0 u s [a, b]) = xC lets n a ++ mvC (xC lets n a).length (xC lets n b) ++ [⟨zbl (shF lets n) op [a, b], 0, []⟩] := by
  rw [xC, zig, if_neg h0, if_neg h1, hxa, if_neg (by omega), hxb, if_neg (by omega), if_neg hop, if_neg hop2, if_neg hop3]
 unfold XOK at ha hb;rw [hx0];clear hx0 hxa hxb;generalize xC lets n a = A at *;generalize xC lets n b = B at *;have la' : ¬ (4000 : Int) < A.length := by omega
 have lb' : ¬ (4000 : Int) < B.length := by omega
 have la2 := Nat.not_lt_of_le la;have lb2 := Nat.not_lt_of_le lb;have f1 := zam;have f2 := zbL;have f3 := fun i us c => zh3 (zbh i us) (fun _ => rfl) c;have hO := zq4 op (.inl hran) hop4 (shF lets n) [a, b];have hT := fun nx' => zfo A B nx' (by omega) (by omega) (jb.le (by omega));have hml := zcq A.length B;generalize hF : A ++ mvC A.length B = F at *;have hFl : F.length = A.length + B.length := by rw [<- hF]; simp [hml]
 generalize zbl (shF lets n) op [a, b] = q at *;have hap := zeQ F [⟨q, 0, []⟩];have hp := zaP (F ++ [⟨q, 0, []⟩]);have hlr := zcU F;have hlen : (F ++ [(⟨q, 0, []⟩ : Ins)]).length = F.length + 1 := by simp
 have hT2 := OwnC.n hT;unfold OwnC kOb at *;rw [hlen];rw [hap] at hp ⊢;rw [Exp.row_eq] at ha hb ⊢;simp only [Vm.inss, List.map_cons, List.map_nil] at *;simp only [Exp.op, Exp.n, Exp.unit, Exp.s, Exp.args];refine RetX.runW Tryz.func40 Tryz.ntmps40 rfl (by simp) fun Γ hn hpan => ?_
 repeat' (first
  | (refine zuG rfl (by first | simp [f1, f2, f3, frzN, frz1, zaH, zaG, St.frz, St.frzS, frzS, fv, zbh, zbx, zbM, zaI, zar, zal, del, frz, zbN] <;> rfl | fail) ?_)
  | (refine zlD [] ⟨[], some (.vec zdJ 3 (zb9 F)), .vec F.length⟩ (.vec zdJ 3 (zb9 F)) (fun nx' h' => hT2 nx') ⟨rfl, rfl⟩ (by rfl) (by first | assumption | (simp; done) | fail) (by rfl) (by first | (simp [h0, h1, h12, hop, hop2, hop3, hop4, la, la', la2, lb, lb', lb2, Nat.add_assoc, a.row_eq, b.row_eq, zaa, getK, zab, zac, zad, zai, del]; done) | fail) (by first | (simp [h0, h1, h12, hop, hop2, hop3, hop4, la, la', la2, lb, lb', lb2, Nat.add_assoc, a.row_eq, b.row_eq, D.under, Ob.under, zak]; done) | fail) (by simp) ?_; (try simp [h0, h1, h12, hop, hop2, hop3, hop4, la, la', la2, lb, lb', lb2, Nat.add_assoc, a.row_eq, b.row_eq]))
  | (refine zaf rfl ?_; simp [h0, h1, h12, hop, hop2, hop3, hop4, la, la', la2, lb, lb', lb2, Nat.add_assoc, a.row_eq, b.row_eq])
  | (refine And.intro (by omega) ?_)
  | (refine ⟨hC _ (zc0 [] nx (by simp <;> omega) (by simp <;> omega) (by apply Exists.intro; apply And.intro; (focus (repeat' (first | exact KF.nil | exact KL.nil | apply KF.cons | apply KL.cons 0 rfl | apply KL.cons 1 rfl | apply KL.cons 2 rfl | apply KL.cons 3 rfl | apply KL.cons 4 rfl | apply KL.cons 5 rfl | apply KL.cons 6 rfl | apply KL.cons 7 rfl | apply KL.cons 8 rfl | apply KL.cons 9 rfl))); kernel_rfl)), hk _ (zeI 8 _ _ _ ?_)⟩; clear hC hk C k; simp [h0, h1, h12, hop, hop2, hop3, hop4, la, la', la2, lb, lb', lb2, Nat.add_assoc, a.row_eq, b.row_eq])
  | (refine zeH rfl (by kernel_rfl) (by first | (simp [hn]; done) | (simp [hn]; omega) | fail) fun C k hC hk => ?_; simp [h0, h1, h12, hop, hop2, hop3, hop4, la, la', la2, lb, lb', lb2, Nat.add_assoc, a.row_eq, b.row_eq])
  | (refine zd2 rfl ?_; simp [h0, h1, h12, hop, hop2, hop3, hop4, la, la', la2, lb, lb', lb2, Nat.add_assoc, a.row_eq, b.row_eq])
  | (refine zgS rfl ?_; simp [h0, h1, h12, hop, hop2, hop3, hop4, la, la', la2, lb, lb', lb2, Nat.add_assoc, a.row_eq, b.row_eq])
  | (refine CallV.f2 rfl (hO) (by first | simp [h0, h1, h12, hop, hop2, hop3, hop4, la, la', la2, lb, lb', lb2, Nat.add_assoc, a.row_eq, b.row_eq] <;> rfl | fail) ?_; simp [h0, h1, h12, hop, hop2, hop3, hop4, la, la', la2, lb, lb', lb2, Nat.add_assoc, a.row_eq, b.row_eq])
  | (refine CallP.okL (ha _) (by first | (simp [h0, h1, h12, hop, hop2, hop3, hop4, la, la', la2, lb, lb', lb2, Nat.add_assoc, a.row_eq, b.row_eq, zaa, getK, zab, zac, zad, zai, del]; done) | fail) (by rfl) (by first | assumption | (simp; done) | fail) (by rfl) (by simp) ?_; (try simp [h0, h1, h12, hop, hop2, hop3, hop4, la, la', la2, lb, lb', lb2, Nat.add_assoc, a.row_eq, b.row_eq, zcx, del]))
  | (refine CallP.okL (hb _) (by first | (simp [h0, h1, h12, hop, hop2, hop3, hop4, la, la', la2, lb, lb', lb2, Nat.add_assoc, a.row_eq, b.row_eq, zaa, getK, zab, zac, zad, zai, del]; done) | fail) (by rfl) (by first | assumption | (simp; done) | fail) (by rfl) (by simp) ?_; (try simp [h0, h1, h12, hop, hop2, hop3, hop4, la, la', la2, lb, lb', lb2, Nat.add_assoc, a.row_eq, b.row_eq, zcx, del]))
  | fail)
 refine EndW.wk { n := _, env := [(4, .vec nx (F.length + 1))], obs := [(nx, .vec zdJ 3 (zb9 F ++ [[.u (.int .i64 q), .u (.int .i64 0), .u (.str [])]]))], next := nx + 1 } (Wk.ren ((fun i => if i = nx then nx + 5 else i)) rfl (by first | (simp [hn]; done) | (intro i hi; rw [hn] at hi; constructor <;> (try simp) <;> (try (intro _)) <;> omega)) (by simp [zee, St.lp, zaA, zaa, getK, zac, zad, D.under, D.le, D.ren, hp] <;> (try (intros; simp_all; done)) <;> (try omega)) (by simp [wkR, St.lp, zaa, getK, zac, zad, obR, leU, zaN, zan, Ob.under, D.under, D.le, D.ren, hp] <;> (try (intros; simp_all; done)) <;> (try omega)) (by simp [hp])) ?_
 (refine EndW.h Tryz.results40 ?_; simp)
theorem zqG (lets : List Let) (n : Nat) (op n0 u : Int) (s : List UInt8) (a b : Exp) (r : List Exp) (h0 : ¬ op = 0) (h1 : ¬ op = 1) (h12 : ¬ op = 12) (ha : XOK lets n a) (hb : XOK lets n b) (la : (xC lets n a).length <= 4000) (lb : (xC lets n b).length <= 4000) (ja : JB 9000000 (xC lets n a)) (jb : JB 9000000 (xC lets n b)) (hr : r = []) (hop : op = 4) (sa : Fun Tryz.prog 73 [.u (.sl ((lets.map zmR).take n)), .u (.agg a.row)] (· = .u (.bool (shF lets n a)))) (sb : Fun Tryz.prog 73 [.u (.sl ((lets.map zmR).take n)), .u (.agg b.row)] (· = .u (.bool (shF lets n b)))) : XOK lets n (.mk op n0 u s (a :: b :: r)) := by
 intro nx;have hxa := zdx lets n (a :: b :: r) 0 a rfl;have hxb := zdx lets n (a :: b :: r) 1 b rfl;subst hr;have hx0 : xC lets n (.mk op n0 u s [a, b]) = xC lets n a ++ mvC (xC lets n a).length (xC lets n b) ++ [⟨zbl (shF lets n) op [a, b], 0, []⟩] := by
  rw [xC, zig, if_neg h0, if_neg h1, hxa, if_neg (by omega), hxb, if_neg (by omega), if_neg (by omega), if_neg (by omega), if_neg (by omega)]
 have hq : zbl (shF lets n) op [a, b] = if shF lets n a = true \/ shF lets n b = true then 6 else 4 := by
  subst hop;simp [zbl]
 generalize zbl (shF lets n) op [a, b] = q at *;generalize shF lets n a = ba at *;generalize shF lets n b = bb at *;unfold XOK at ha hb;rw [hx0];clear hx0 hxa hxb;generalize xC lets n a = A at *;generalize xC lets n b = B at *;have la' : ¬ (4000 : Int) < A.length := by omega
 have lb' : ¬ (4000 : Int) < B.length := by omega
 have la2 := Nat.not_lt_of_le la;have lb2 := Nat.not_lt_of_le lb;have f1 := zam;have f2 := zbL;have f3 := fun i us c => zh3 (zbh i us) (fun _ => rfl) c;have hT := fun nx' => zfo A B nx' (by omega) (by omega) (jb.le (by omega));have hml := zcq A.length B;generalize hF : A ++ mvC A.length B = F at *;have hFl : F.length = A.length + B.length := by rw [<- hF]; simp [hml]
 have hap := zeQ F [⟨q, 0, []⟩];have hp := zaP (F ++ [⟨q, 0, []⟩]);have hlr := zcU F;have hlen : (F ++ [(⟨q, 0, []⟩ : Ins)]).length = F.length + 1 := by simp
 unfold OwnC kOb at *;rw [hlen];rw [hap] at hp ⊢;rw [Exp.row_eq] at ha hb sa sb ⊢;simp only [Vm.inss, List.map_cons, List.map_nil] at *;simp only [Exp.op, Exp.n, Exp.unit, Exp.s, Exp.args];have hq2 : q = 6 \/ q = 4 := by rw [hq]; split <;> simp
 refine RetX.runW Tryz.func40 Tryz.ntmps40 rfl (by simp) fun Γ hn hpan => ?_; simp only [entry, List.zipIdx_cons, List.zipIdx_nil, List.map_cons, List.map_nil, Nat.zero_add];cases ba <;> cases bb
 all_goals simp at hq; subst hq
 all_goals
  repeat' (first
  | (refine zeF rfl (by first | simp [f1, f2, f3, frzN, frz1, zaH, zaG, St.frz, St.frzS, frzS, fv, zbh, zbx, zbM, zaI, zar, zal, del, frz, zbN] <;> rfl | fail) ?_)
  | (refine zaf rfl ?_; simp [h0, h1, h12, hop, la, la', la2, lb, lb', lb2, Nat.add_assoc, a.row_eq, b.row_eq])
  | (refine And.intro (by omega) ?_)
  | ((first | refine CallP.f2 rfl (sa) (by first | simp [h0, h1, h12, hop, la, la', la2, lb, lb', lb2, Nat.add_assoc, a.row_eq, b.row_eq] <;> rfl | fail) ?_ | refine CallP.f2 rfl (sb) (by first | simp [h0, h1, h12, hop, la, la', la2, lb, lb', lb2, Nat.add_assoc, a.row_eq, b.row_eq] <;> rfl | fail) ?_ | fail); simp [h0, h1, h12, hop, la, la', la2, lb, lb', lb2, Nat.add_assoc, a.row_eq, b.row_eq])
  | (refine CallP.okL (ha _) (by first | (simp [h0, h1, h12, hop, la, la', la2, lb, lb', lb2, Nat.add_assoc, a.row_eq, b.row_eq, zaa, getK, zab, zac, zad, zai, del]; done) | fail) (by rfl) (by first | assumption | (simp; done) | fail) (by rfl) (by simp) ?_; (try simp [h0, h1, h12, hop, la, la', la2, lb, lb', lb2, Nat.add_assoc, a.row_eq, b.row_eq, zcx, del]))
  | (refine CallP.okL (hb _) (by first | (simp [h0, h1, h12, hop, la, la', la2, lb, lb', lb2, Nat.add_assoc, a.row_eq, b.row_eq, zaa, getK, zab, zac, zad, zai, del]; done) | fail) (by rfl) (by first | assumption | (simp; done) | fail) (by rfl) (by simp) ?_; (try simp [h0, h1, h12, hop, la, la', la2, lb, lb', lb2, Nat.add_assoc, a.row_eq, b.row_eq, zcx, del]))
  | (refine CallP.okL (hT _) (by first | (simp [h0, h1, h12, hop, la, la', la2, lb, lb', lb2, Nat.add_assoc, a.row_eq, b.row_eq, zaa, getK, zab, zac, zad, zai, del]; done) | fail) (by rfl) (by first | assumption | (simp; done) | fail) (by rfl) (by simp) ?_; (try simp [h0, h1, h12, hop, la, la', la2, lb, lb', lb2, Nat.add_assoc, a.row_eq, b.row_eq, zcx, del]))
  | fail)
 rotate_left
 all_goals try (refine EndW.wk { n := _, env := [(4, .vec nx (F.length + 1))], obs := [(nx, .vec zdJ 3 (zb9 F ++ [[.u (.int .i64 6), .u (.int .i64 0), .u (.str [])]]))], next := nx + 1 } (Wk.ren ((fun i => if i = nx then nx + 5 else i)) rfl (by first | (simp [hn]; done) | (intro i hi; rw [hn] at hi; constructor <;> (try simp) <;> (try (intro _)) <;> omega)) (by simp [zee, St.lp, zaA, zaa, getK, zac, zad, D.under, D.le, D.ren, hp] <;> (try (intros; simp_all; done)) <;> (try omega)) (by simp [wkR, St.lp, zaa, getK, zac, zad, obR, leU, zaN, zan, Ob.under, D.under, D.le, D.ren, hp] <;> (try (intros; simp_all; done)) <;> (try omega)) (by simp [hp])) ?_
                (refine EndW.h Tryz.results40 ?_; simp)
                done)
 refine EndW.wk { n := _, env := [(4, .vec nx (F.length + 1))], obs := [(nx, .vec zdJ 3 (zb9 F ++ [[.u (.int .i64 4), .u (.int .i64 0), .u (.str [])]]))], next := nx + 1 } (Wk.ren ((fun i => if i = nx then nx + 5 else i)) rfl (by first | (simp [hn]; done) | (intro i hi; rw [hn] at hi; constructor <;> (try simp) <;> (try (intro _)) <;> omega)) (by simp [zee, St.lp, zaA, zaa, getK, zac, zad, D.under, D.le, D.ren, hp] <;> (try (intros; simp_all; done)) <;> (try omega)) (by simp [wkR, St.lp, zaa, getK, zac, zad, obR, leU, zaN, zan, Ob.under, D.under, D.le, D.ren, hp] <;> (try (intros; simp_all; done)) <;> (try omega)) (by simp [hp])) ?_
 (refine EndW.h Tryz.results40 ?_; simp)
theorem zsS (lets : List Let) (n : Nat) (op n0 u : Int) (s : List UInt8) (a b c : Exp) (r : List Exp) (hop : op = 13) (ha : XOK lets n a) (hb : XOK lets n b) (hcc : XOK lets n c) (la : (xC lets n a).length <= 4000) (lb : (xC lets n b).length <= 4000) (lc : (xC lets n c).length <= 9000000) (ja : JB 9000000 (xC lets n a)) (jb : JB 9000000 (xC lets n b)) (jc : JB 9000000 (xC lets n c)) : XOK lets n (.mk op n0 u s (a :: b :: c :: r)) := by
 intro nx;have hxa := zdx lets n (a :: b :: c :: r) 0 a rfl;have hxb := zdx lets n (a :: b :: c :: r) 1 b rfl;have hxc := zdx lets n (a :: b :: c :: r) 2 c rfl;have hx0 : xC lets n (.mk op n0 u s (a :: b :: c :: r)) = zbo (xC lets n a) (xC lets n b) (xC lets n c) := by
  rw [xC, zig, if_neg (by omega), if_neg (by omega), hxa, if_neg (by omega), hxb, if_neg (by omega), if_neg (by omega), if_neg (by omega), if_pos hop, hxc]
 unfold XOK at ha hb hcc;rw [hx0];clear hx0 hxa hxb hxc;generalize xC lets n a = A at *;generalize xC lets n b = B at *;generalize xC lets n c = Cc at *;have la' : ¬ (4000 : Int) < A.length := by omega
 have lb' : ¬ (4000 : Int) < B.length := by omega
 have la2 := Nat.not_lt_of_le la;have lb2 := Nat.not_lt_of_le lb;have f1 := zam;have f2 := zbL;have f3 := fun i us c => zh3 (zbh i us) (fun _ => rfl) c;have hCh := fun nx' => zgJ A B Cc nx' (by omega) (by omega) (by omega) jb jc;generalize zbo A B Cc = F at *;have hp := zaP F;unfold OwnC kOb at *;rw [Exp.row_eq] at ha hb hcc ⊢;simp only [Vm.inss, List.map_cons, List.map_nil] at *;simp only [Exp.op, Exp.n, Exp.unit, Exp.s, Exp.args];refine RetX.runW Tryz.func40 Tryz.ntmps40 rfl (by simp) fun Γ hn hpan => ?_
 repeat' (first
  | (refine zeF rfl (by first | simp [f1, f2, f3, frzN, frz1, zaH, zaG, St.frz, St.frzS, frzS, fv, zbh, zbx, zbM, zaI, zar, zal, del, frz, zbN] <;> rfl | fail) ?_)
  | (refine zaf rfl ?_; simp [hop, la, la', la2, lb, lb', lb2, Nat.add_assoc, a.row_eq, b.row_eq, c.row_eq])
  | (refine CallP.okL (ha _) (by first | (simp [hop, la, la', la2, lb, lb', lb2, Nat.add_assoc, a.row_eq, b.row_eq, c.row_eq, zaa, getK, zab, zac, zad, zai, del]; done) | fail) (by rfl) (by first | assumption | (simp; done) | fail) (by rfl) (by simp) ?_; (try simp [hop, la, la', la2, lb, lb', lb2, Nat.add_assoc, a.row_eq, b.row_eq, c.row_eq, zcx, del]))
  | (refine CallP.okL (hb _) (by first | (simp [hop, la, la', la2, lb, lb', lb2, Nat.add_assoc, a.row_eq, b.row_eq, c.row_eq, zaa, getK, zab, zac, zad, zai, del]; done) | fail) (by rfl) (by first | assumption | (simp; done) | fail) (by rfl) (by simp) ?_; (try simp [hop, la, la', la2, lb, lb', lb2, Nat.add_assoc, a.row_eq, b.row_eq, c.row_eq, zcx, del]))
  | (refine CallP.okL (hcc _) (by first | (simp [hop, la, la', la2, lb, lb', lb2, Nat.add_assoc, a.row_eq, b.row_eq, c.row_eq, zaa, getK, zab, zac, zad, zai, del]; done) | fail) (by rfl) (by first | assumption | (simp; done) | fail) (by rfl) (by simp) ?_; (try simp [hop, la, la', la2, lb, lb', lb2, Nat.add_assoc, a.row_eq, b.row_eq, c.row_eq, zcx, del]))
  | (refine CallP.okL (hCh _) (by first | (simp [hop, la, la', la2, lb, lb', lb2, Nat.add_assoc, a.row_eq, b.row_eq, c.row_eq, zaa, getK, zab, zac, zad, zai, del]; done) | fail) (by rfl) (by first | assumption | (simp; done) | fail) (by rfl) (by simp) ?_; (try simp [hop, la, la', la2, lb, lb', lb2, Nat.add_assoc, a.row_eq, b.row_eq, c.row_eq, zcx, del]))
  | fail)
 refine EndW.wk { n := _, env := [(4, .vec nx F.length)], obs := [(nx, .vec zdJ 3 (zb9 F))], next := nx + 1 } (Wk.ren ((fun i => if i = nx then nx + 4 else i)) rfl (by first | (simp [hn]; done) | (intro i hi; rw [hn] at hi; constructor <;> (try simp) <;> (try (intro _)) <;> omega)) (by simp [zee, St.lp, zaA, zaa, getK, zac, zad, D.under, D.le, D.ren, hp] <;> (try (intros; simp_all; done)) <;> (try omega)) (by simp [wkR, St.lp, zaa, getK, zac, zad, obR, leU, zaN, zan, Ob.under, D.under, D.le, D.ren, hp] <;> (try (intros; simp_all; done)) <;> (try omega)) (by simp [hp])) ?_
 (refine EndW.h Tryz.results40 ?_; simp)
end Go.Proofs.YtkdhmbhbbciedaaGreatDoor
namespace Go.Proofs.YtkdhmbhbbciedaaGreatDoor
open Go Go.VL
def PR.bind {α β : Type} : PR α -> (α -> Nat -> PR β) -> PR β
 | .ok a p, f => f a p
 | .stop pos e, _ => .stop pos e
theorem PR.bind_ok {α β : Type} {a : α} {p : Nat} {f : α -> Nat -> PR β} : (PR.ok a p).bind f = f a p := rfl
theorem PR.za3 {α β : Type} {r : PR α} {f : α -> Nat -> PR β} {b : β} {q : Nat} (h : r.bind f = .ok b q) : ∃ a p, r = .ok a p /\ f a p = .ok b q := by
 cases r with
 | ok a p => exact ⟨a, p, rfl, h⟩
 | stop => cases h
theorem PPost.zeE {α : Type} {l i nx} {val : α -> D} {r : PR α} {a : α} {q : Nat} (h : r = .ok a q) {d : D} (hd : d = val a) {o : List (Nat × Ob)} (ho : o = [(i, pOb l q)]) : PPost l i nx val r (.val d) o nx := by
 subst h; subst hd; subst ho; exact ⟨rfl, rfl, rfl⟩
theorem PPost.zcd {α : Type} {l i nx} {val : α -> D} {r : PR α} {pos e : Int} {q : Nat} (h : r = .stop pos e) : PPost l i nx val r (.pan (chP pos e)) [(i, pOb l q)] nx := by
 subst h; exact ⟨rfl, ⟨_, ⟨q, rfl⟩, rfl⟩, rfl⟩
structure Opr where
 text : List UInt8
 op : Int
 form : Int
def oprs : List Opr := [⟨[111, 114], 11, 1⟩, ⟨[97, 110, 100], 10, 2⟩, ⟨[61, 61], 9, 4⟩, ⟨[60], 8, 4⟩, ⟨[43], 2, 5⟩, ⟨[45], 3, 5⟩, ⟨[42], 4, 6⟩, ⟨[47], 5, 6⟩]
def zuf (l : List Tok) (p : Nat) : Option Opr := oprs.find? fun o => isB l p o.text
def znp (l : List Tok) (p : Nat) : PR Int :=
 if isB l p [99, 111, 105, 110, 115] = true then .ok 3 (p + 1)
 else if isB l p [100, 97, 121, 115] = true then .ok 2 (p + 1)
 else if isB l p [112, 101, 114] = true then (zdM l (p + 1) [[109, 105, 108, 108, 101]]).bind fun _ q => .ok 4 q
 else .ok 1 p
mutual
def zfj (l : List Tok) : Nat -> Nat -> Int -> PR Exp
 | 0, _, _ => .stop 0 0
 | f + 1, p, form => (zcb l f p form).bind fun e q => zfG l f form e.1 e.2 q
def zfG (l : List Tok) : Nat -> Int -> Exp -> Int -> Nat -> PR Exp
 | 0, _, _, _, _ => .stop 0 0
 | f + 1, form, e, own, q => match zuf l q with
  | none => .ok e q
  | some x => if x.form < form \/ own < x.form \/ (own = 4 /\ x.form = 4) then .ok e q
   else (zfj l f (q + 1) (x.form + 1)).bind fun e2 r => zfG l f form (.mk x.op 0 0 [] [e, e2]) x.form r
def zcb (l : List Tok) : Nat -> Nat -> Int -> PR (Exp × Int)
 | 0, _, _ => .stop 0 0
 | f + 1, p, form =>
  if form = 0 /\ isB l p [105, 102] = true then
   (zfj l f (p + 1) 0).bind fun a q1 => (zdM l q1 [[116, 104, 101, 110]]).bind fun _ q2 => (zfj l f q2 0).bind fun b q3 =>
   (zdM l q3 [[101, 108, 115, 101]]).bind fun _ q4 => (zfj l f q4 0).bind fun c q5 => .ok (.mk 13 0 0 [] [a, b, c], 0) q5
  else if form <= 3 /\ isB l p [110, 111, 116] = true then (zfj l f (p + 1) 3).bind fun a q => .ok (.mk 12 0 0 [] [a], 3) q
  else (zbi l f p).bind fun e q => .ok (e, 7) q
def zbi (l : List Tok) : Nat -> Nat -> PR Exp
 | 0, _ => .stop 0 0
 | f + 1, p => match l[p]? with
  | none => .stop 0 0
  | some t =>
   if t.kind = 2 then (znp l (p + 1)).bind fun u q => .ok (.mk 0 t.n u [] []) q
   else if isB l p [116, 114, 117, 101] = true then .ok (.mk 0 1 0 [] []) (p + 1)
   else if isB l p [102, 97, 108, 115, 101] = true then .ok (.mk 0 0 0 [] []) (p + 1)
   else if isB l p [109, 105, 110] = true \/ isB l p [109, 97, 120] = true then
    (zdM l (p + 1) [[40]]).bind fun _ q1 => (zfj l f q1 0).bind fun a q2 => (zdM l q2 [[44]]).bind fun _ q3 => (zfj l f q3 0).bind fun b q4 =>
    (zdM l q4 [[41]]).bind fun _ q5 => .ok (.mk (if isB l p [109, 97, 120] = true then 7 else 6) 0 0 [] [a, b]) q5
   else if isB l p [40] = true then (zfj l f (p + 1) 0).bind fun e q1 => (zdM l q1 [[41]]).bind fun _ q2 => .ok e q2
   else if t.kind = 1 /\ zfa t.text = true then .ok (.mk 1 0 0 t.text []) (p + 1)
   else .stop t.pos 12
end
theorem zct {l : List Tok} (hl : TokOK l) : ∀ (ws : List (List UInt8)) {p q : Nat}, zdM l p ws = .ok () q -> p < l.length -> p <= q /\ q < l.length
 | [], p, q, h, hp => by rw [zdM] at h; cases h; exact ⟨Nat.le_refl _, hp⟩
 | w :: ws, p, q, h, hp => by
  rw [zdM] at h;split at h
  ·rename_i hb;have := zct hl ws h (zcN hl hb);exact ⟨by omega, this.2⟩
  ·cases h
theorem zqO {l : List Tok} (hl : TokOK l) {p q : Nat} {u : Int} (h : znp l p = .ok u q) (hp : p < l.length) : p <= q /\ q < l.length := by
 unfold znp at h;split at h
 ·rename_i hb; cases h; exact ⟨by omega, zcN hl hb⟩
 ·split at h
  ·rename_i hb; cases h; exact ⟨by omega, zcN hl hb⟩
  ·split at h
   ·rename_i hb;obtain ⟨a, r, h1, h2⟩ := PR.za3 h;cases h2;have := zct hl _ h1 (zcN hl hb);exact ⟨by omega, this.2⟩
   ·cases h; exact ⟨by omega, hp⟩
theorem zdB {l : List Tok} (hl : TokOK l) : ∀ (f : Nat),
  (∀ p form e q, zfj l f p form = .ok e q -> p < l.length -> p <= q /\ q < l.length) /\
  (∀ form e own p e' q, zfG l f form e own p = .ok e' q -> p < l.length -> p <= q /\ q < l.length) /\
  (∀ p form e q, zcb l f p form = .ok e q -> p < l.length -> p <= q /\ q < l.length) /\
  (∀ p e q, zbi l f p = .ok e q -> p < l.length -> p <= q /\ q < l.length)
 | 0 => ⟨fun _ _ _ _ h => by simp [zfj] at h, fun _ _ _ _ _ _ h => by simp [zfG] at h, fun _ _ _ _ h => by simp [zcb] at h, fun _ _ _ h => by simp [zbi] at h⟩
 | f + 1 => by
  obtain ⟨he, hlo, hpr, hpm⟩ := zdB hl f;refine ⟨fun p form e q h hp => ?_, fun form e own p e' q h hp => ?_, fun p form e q h hp => ?_, fun p e q h hp => ?_⟩
  ·rw [zfj] at h;obtain ⟨a, r, h1, h2⟩ := PR.za3 h;have g1 := hpr _ _ _ _ h1 hp;have g2 := hlo _ _ _ _ _ _ h2 g1.2;exact ⟨by omega, g2.2⟩
  ·rw [zfG] at h;split at h
   ·cases h; exact ⟨by omega, hp⟩
   ·rename_i x hx;have hb := List.find?_some hx;have hp2 := zcN hl hb;split at h
    ·cases h; exact ⟨by omega, hp⟩
    ·obtain ⟨a, r, h1, h2⟩ := PR.za3 h;have g1 := he _ _ _ _ h1 hp2;have g2 := hlo _ _ _ _ _ _ h2 g1.2;exact ⟨by omega, g2.2⟩
  ·rw [zcb] at h;split at h
   ·rename_i hb;have hp2 := zcN hl hb.2;obtain ⟨a, r, h1, h⟩ := PR.za3 h;have g1 := he _ _ _ _ h1 hp2;obtain ⟨_, r2, h2, h⟩ := PR.za3 h;have g2 := zct hl _ h2 g1.2;obtain ⟨a, r3, h3, h⟩ := PR.za3 h;have g3 := he _ _ _ _ h3 g2.2;obtain ⟨_, r4, h4, h⟩ := PR.za3 h;have g4 := zct hl _ h4 g3.2;obtain ⟨a, r5, h5, h⟩ := PR.za3 h;have g5 := he _ _ _ _ h5 g4.2;cases h;exact ⟨by omega, g5.2⟩
   ·split at h
    ·rename_i hb;have hp2 := zcN hl hb.2;obtain ⟨a, r, h1, h⟩ := PR.za3 h;have g1 := he _ _ _ _ h1 hp2;cases h;exact ⟨by omega, g1.2⟩
    ·obtain ⟨a, r, h1, h⟩ := PR.za3 h;have g1 := hpm _ _ _ h1 hp;cases h;exact g1
  ·rw [zbi] at h;split at h
   ·cases h
   ·rename_i t ht;split at h
    ·rename_i hk;have hp2 := hl.fin p t ht (by omega);obtain ⟨a, r, h1, h⟩ := PR.za3 h;have g1 := zqO hl h1 hp2;cases h;exact ⟨by omega, g1.2⟩
    split at h
    ·rename_i hb; cases h; exact ⟨by omega, zcN hl hb⟩
    split at h
    ·rename_i hb; cases h; exact ⟨by omega, zcN hl hb⟩
    split at h
    ·rename_i hb;have hp2 : p + 1 < l.length := hb.elim (zcN hl) (zcN hl);obtain ⟨_, r2, h2, h⟩ := PR.za3 h;have g2 := zct hl _ h2 hp2;obtain ⟨a, r3, h3, h⟩ := PR.za3 h;have g3 := he _ _ _ _ h3 g2.2;obtain ⟨_, r4, h4, h⟩ := PR.za3 h;have g4 := zct hl _ h4 g3.2;obtain ⟨a, r5, h5, h⟩ := PR.za3 h;have g5 := he _ _ _ _ h5 g4.2;obtain ⟨_, r6, h6, h⟩ := PR.za3 h;have g6 := zct hl _ h6 g5.2;cases h;exact ⟨by omega, g6.2⟩
    split at h
    ·rename_i hb;have hp2 := zcN hl hb;obtain ⟨a, r3, h3, h⟩ := PR.za3 h;have g3 := he _ _ _ _ h3 hp2;obtain ⟨_, r4, h4, h⟩ := PR.za3 h;have g4 := zct hl _ h4 g3.2;cases h;exact ⟨by omega, g4.2⟩
    split at h
    ·rename_i hk;cases h;exact ⟨by omega, hl.fin p t ht (by omega)⟩
    ·cases h
end Go.Proofs.YtkdhmbhbbciedaaGreatDoor
namespace Go.Proofs.YtkdhmbhbbciedaaGreatDoor
open Go Go.VL
abbrev W8 := List UInt8
def zn5 : W8 -> Int
 | [] => 0
 | c :: _ => if zcn c = true then 1 else if zav c = true then 2 else 3
theorem zrr {w : W8} (h : w ≠ []) : zn5 w ≠ 0 := by
 cases w with
 | nil => exact absurd rfl h
 | cons c w => rw [zn5]; split <;> (try split) <;> decide
def zu6 (w : W8) : Int := if zn5 w = 2 then (zgz w).getD 0 else 0
def Reads (l : List Tok) (p : Nat) (ws : List W8) : Prop := ∀ i w, ws[i]? = some w -> w ≠ [] /\ ∃ t, l[p + i]? = some t /\ t.text = w /\ t.kind = zn5 w /\ t.n = zu6 w
theorem Reads.left {l p} {a b : List W8} (h : Reads l p (a ++ b)) : Reads l p a := fun i w hi => h i w (by rw [List.getElem?_append_left (List.getElem?_eq_some_iff.1 hi).1]; exact hi)
theorem Reads.right {l p} {a b : List W8} (h : Reads l p (a ++ b)) : Reads l (p + a.length) b := fun i w hi => by
 have := h (a.length + i) w (by rw [List.getElem?_append_right (by omega), Nat.add_sub_cancel_left]; exact hi)
 rwa [<- Nat.add_assoc] at this
theorem Reads.head {l p} {w : W8} {b : List W8} (h : Reads l p (w :: b)) : w ≠ [] /\ ∃ t, l[p]? = some t /\ t.text = w /\ t.kind = zn5 w /\ t.n = zu6 w := h 0 w rfl
theorem Reads.tail {l p} {w : W8} {b : List W8} (h : Reads l p (w :: b)) : Reads l (p + 1) b := Reads.right (a := [w]) h
theorem Reads.isB {l p} {w : W8} {b : List W8} (h : Reads l p (w :: b)) (v : W8) : isB l p v = decide (w = v) := by
 obtain ⟨hw, t, ht, h1, h2, h3⟩ := h.head;have := zrr hw;simp [Go.Proofs.YtkdhmbhbbciedaaGreatDoor.isB, ht, h1, h2, this]
theorem Reads.want {l p} {w : W8} {b : List W8} (h : Reads l p (w :: b)) : zdM l p [w] = .ok () (p + 1) := by
 rw [zdM, if_pos (by rw [h.isB]; simp), zdM]
def Ev {α : Type} (g : Nat -> PR α) (r : PR α) : Prop := ∃ f0, ∀ f, f0 <= f -> g f = r
theorem Ev.succ {α : Type} {g : Nat -> PR α} {r : PR α} (h : Ev (fun f => g (f + 1)) r) : Ev g r := by
 obtain ⟨f0, h⟩ := h;refine ⟨f0 + 1, fun f hf => ?_⟩;obtain ⟨f, rfl⟩ : ∃ k, f = k + 1 := ⟨f - 1, by omega⟩;exact h f (by omega)
theorem Ev.const {α : Type} {r : PR α} : Ev (fun _ => r) r := ⟨0, fun _ _ => rfl⟩
theorem Ev.of {α : Type} {g : Nat -> PR α} {r : PR α} (h : ∀ f, g f = r) : Ev g r := ⟨0, fun f _ => h f⟩
theorem Ev.bind {α β : Type} {g : Nat -> PR α} {a : α} {q : Nat} {F : Nat -> α -> Nat -> PR β} {r : PR β} (h : Ev g (.ok a q)) (h2 : Ev (fun f => F f a q) r) : Ev (fun f => (g f).bind (F f)) r := by
 obtain ⟨f0, h⟩ := h;obtain ⟨f1, h2⟩ := h2;refine ⟨max f0 f1, fun f hf => ?_⟩;show (g f).bind (F f) = r;rw [h f (by omega), PR.bind_ok];exact h2 f (by omega)
end Go.Proofs.YtkdhmbhbbciedaaGreatDoor
namespace Go.Proofs.YtkdhmbhbbciedaaGreatDoor
open Go Go.VL
end Go.Proofs.YtkdhmbhbbciedaaGreatDoor
namespace Go.Proofs.YtkdhmbhbbciedaaGreatDoor
open Go Go.VL
theorem zfm : ∀ n, Lib.decDigits n ≠ [] := fun n => by
 rw [Lib.decDigits]; split <;> simp
theorem zcj (n : Nat) : ∀ c ∈ Lib.decDigits n, zav c = true := by
 induction n using Nat.strongRecOn with
 | _ n ih =>
  intro c hc;have hd : ∀ k, k < 10 -> zav (UInt8.ofNat (48 + k)) = true := by decide
  rw [Lib.decDigits] at hc;split at hc
  ·rename_i h;simp only [List.mem_singleton] at hc;subst hc;exact hd n h
  ·rename_i h;rw [List.mem_append, List.mem_singleton] at hc;rcases hc with hc | rfl
   ·exact ih _ (by omega) c hc
   ·exact hd _ (by omega)
theorem zgf (n : Nat) : zby (Lib.decDigits n) = n := by
 induction n using Nat.strongRecOn with
 | _ n ih =>
  have hd : ∀ k, k < 10 -> ((UInt8.ofNat (48 + k)).toNat : Int) - 48 = k := by decide
  rw [Lib.decDigits];split
  ·rename_i h;simpa [zby] using hd n h
  ·rename_i h;rw [zeq, ih _ (by omega), hd _ (by omega)];omega
theorem zgg (n : Nat) : ∀ k, n < 10 ^ (k + 1) -> (Lib.decDigits n).length <= k + 1 := by
 induction n using Nat.strongRecOn with
 | _ n ih =>
  intro k hk;rw [Lib.decDigits];split
  ·simp
  ·rename_i h;obtain ⟨k, rfl⟩ : ∃ j, k = j + 1 := ⟨k - 1, by cases k with | zero => simp at hk; omega | succ k => rfl⟩;have := ih (n / 10) (by omega) k (by rw [Nat.pow_succ] at hk; omega);simp;omega
end Go.Proofs.YtkdhmbhbbciedaaGreatDoor
namespace Go.Proofs.YtkdhmbhbbciedaaGreatDoor
open Go Go.VL
end Go.Proofs.YtkdhmbhbbciedaaGreatDoor
namespace Go.Proofs.YtkdhmbhbbciedaaGreatDoor
open Go Go.VL
end Go.Proofs.YtkdhmbhbbciedaaGreatDoor
namespace Go.Proofs.YtkdhmbhbbciedaaGreatDoor
open Go Go.VL
end Go.Proofs.YtkdhmbhbbciedaaGreatDoor
namespace Go.Proofs.YtkdhmbhbbciedaaGreatDoor
open Go Go.VL
def zvA (r : W8) : Prop := ∀ c t, r = c :: t -> zcR c = true
structure GoodW (w : W8) : Prop where
 next : ∀ r, zvA r -> zih (w ++ r) = .ok ⟨zn5 w, w, zu6 w, 0⟩
 ne : w ≠ []
 head : ∀ c t, w = c :: t -> zcR c = false
def Spaced : List (W8 × W8) -> Prop
 | [] => True
 | [x] => GoodW x.1 /\ ∀ c ∈ x.2, zcR c = true
 | x :: y :: l => GoodW x.1 /\ (∀ c ∈ x.2, zcR c = true) /\ x.2 ≠ [] /\ Spaced (y :: l)
theorem Spaced.good {x : W8 × W8} {l : List (W8 × W8)} (h : Spaced (x :: l)) : GoodW x.1 /\ (∀ c ∈ x.2, zcR c = true) /\ (l ≠ [] -> x.2 ≠ []) /\ Spaced l := by
 cases l with
 | nil => exact ⟨h.1, h.2, fun h => absurd rfl h, trivial⟩
 | cons y l => exact ⟨h.1, h.2.1, fun _ => h.2.2.1, h.2.2.2⟩
end Go.Proofs.YtkdhmbhbbciedaaGreatDoor
namespace Go.Proofs.YtkdhmbhbbciedaaGreatDoor
open Go Go.VL
theorem PR.zdi {α β : Type} {r : PR α} {F G : α -> Nat -> PR β} (h : ∀ a q, r = .ok a q -> F a q = G a q) : r.bind F = r.bind G := by
 cases r with
 | ok a q => exact h a q rfl
 | stop => rfl
theorem zm6 {l : List Tok} (hl : TokOK l) : ∀ (f : Nat),
  (∀ p form, p < l.length -> 4 * (l.length - p) + 3 <= f -> zfj l (f + 1) p form = zfj l f p form) /\
  (∀ p form e own, p < l.length -> 4 * (l.length - p) + 2 <= f -> zfG l (f + 1) form e own p = zfG l f form e own p) /\
  (∀ p form, p < l.length -> 4 * (l.length - p) + 2 <= f -> zcb l (f + 1) p form = zcb l f p form) /\
  (∀ p, p < l.length -> 4 * (l.length - p) + 1 <= f -> zbi l (f + 1) p = zbi l f p)
 | 0 => ⟨fun _ _ _ h => by omega, fun _ _ _ _ _ h => by omega, fun _ _ _ h => by omega, fun _ _ h => by omega⟩
 | f + 1 => by
  obtain ⟨he, hlo, hpr, hpm⟩ := zm6 hl f;obtain ⟨le, llo, lpr, lpm⟩ := zdB hl f;refine ⟨fun p form hp hf => ?_, fun p form e own hp hf => ?_, fun p form hp hf => ?_, fun p hp hf => ?_⟩
  ·simp only [zfj];rw [hpr p form hp (by omega)];refine PR.zdi fun a q hq => ?_;have g := lpr _ _ _ _ hq hp;exact hlo _ _ _ _ g.2 (by omega)
  ·rw [zfG, zfG];split
   ·rfl
   ·rename_i x hx;have hb := List.find?_some hx;have hp2 := zcN hl hb;split
    ·rfl
    ·rw [he (p + 1) _ hp2 (by omega)];refine PR.zdi fun a q hq => ?_;have g := le _ _ _ _ hq hp2;exact hlo _ _ _ _ g.2 (by omega)
  ·simp only [zcb];split
   ·rename_i hb;have hp2 := zcN hl hb.2;rw [he (p + 1) _ hp2 (by omega)];refine PR.zdi fun a q1 hq1 => ?_;have g1 := le _ _ _ _ hq1 hp2;refine PR.zdi fun _ q2 hq2 => ?_;have g2 := zct hl _ hq2 g1.2;rw [he q2 _ g2.2 (by omega)];refine PR.zdi fun b q3 hq3 => ?_;have g3 := le _ _ _ _ hq3 g2.2;refine PR.zdi fun _ q4 hq4 => ?_;have g4 := zct hl _ hq4 g3.2;rw [he q4 _ g4.2 (by omega)]
   ·split
    ·rename_i hb;rw [he (p + 1) _ (zcN hl hb.2) (by omega)]
    ·rw [hpm p hp (by omega)]
  ·simp only [zbi];split
   ·rfl
   ·split
    ·rfl
    ·split
     ·rfl
     ·split
      ·rfl
      ·split
       ·rename_i hb;have hp2 : p + 1 < l.length := hb.elim (zcN hl) (zcN hl);refine PR.zdi fun _ q1 hq1 => ?_;have g1 := zct hl _ hq1 hp2;rw [he q1 _ g1.2 (by omega)];refine PR.zdi fun a q2 hq2 => ?_;have g2 := le _ _ _ _ hq2 g1.2;refine PR.zdi fun _ q3 hq3 => ?_;have g3 := zct hl _ hq3 g2.2;rw [he q3 _ g3.2 (by omega)]
       ·split
        ·rename_i hb;rw [he (p + 1) _ (zcN hl hb) (by omega)]
        ·rfl
theorem zk8 {l : List Tok} (hl : TokOK l) {p f : Nat} {form : Int} (hp : p < l.length) (hf : 4 * (l.length - p) + 3 <= f) : ∀ g, zfj l (f + g) p form = zfj l f p form
 | 0 => rfl
 | g + 1 => by rw [<- Nat.add_assoc, (zm6 hl (f + g)).1 p form hp (by omega), zk8 hl hp hf g]
theorem Ev.fuel {l : List Tok} (hl : TokOK l) {p f : Nat} {form : Int} {r : PR Exp} (h : Ev (fun f => zfj l f p form) r) (hp : p < l.length) (hf : 4 * (l.length - p) + 3 <= f) : zfj l f p form = r := by
 obtain ⟨f0, h⟩ := h;rw [<- zk8 hl hp hf f0];exact h (f + f0) (by omega)
end Go.Proofs.YtkdhmbhbbciedaaGreatDoor
namespace Go.Proofs.YtkdhmbhbbciedaaGreatDoor
open Go Go.VL
def AllGood (ws : List W8) : Prop := ∀ w ∈ ws, GoodW w
theorem AllGood.nil : AllGood [] := fun _ h => by cases h
theorem AllGood.cons {w : W8} {ws : List W8} (h : GoodW w) (h2 : AllGood ws) : AllGood (w :: ws) := fun x hx => by
 rcases List.mem_cons.1 hx with rfl | hx
 ·exact h
 ·exact h2 x hx
theorem AllGood.app {a b : List W8} (h : AllGood a) (h2 : AllGood b) : AllGood (a ++ b) := fun x hx => by
 rcases List.mem_append.1 hx with hx | hx
 ·exact h x hx
 ·exact h2 x hx
end Go.Proofs.YtkdhmbhbbciedaaGreatDoor
namespace Go.Proofs.YtkdhmbhbbciedaaGreatDoor
open Go Go.VL
end Go.Proofs.YtkdhmbhbbciedaaGreatDoor
namespace Go.Proofs.YtkdhmbhbbciedaaGreatDoor
open Go Go.VL
theorem zgy {l : Code} (hr : zbO l = true) {i : Nat} {x : Ins} (hx : l[i]? = some x) : 0 <= x.op /\ x.op < 15 /\ -1099511627776 <= x.a /\ x.a <= 1099511627776 /\ x.s.length <= 1000 := by
 simp only [zbO, Bool.and_eq_true, decide_eq_true_eq] at hr;have h := zeU hr.1.2 hx;have hl := hr.1.1.2;unfold zdn at h;split at h
 ·simp at h; rw [h.1.1]; simp; omega
 split at h
 ·rename_i h1;simp at h;have h3 : x.s.length <= 20 := by
   have h := h.2;simp only [zfa, Bool.and_eq_true] at h;have h := h.1;generalize x.s = s at *;cases s with
   | nil => simp
   | cons c r =>
    simp only [zfE, Bool.and_eq_true, decide_eq_true_eq] at h;exact h.1.2
  have h4 := h.1;rw [h1, h4];omega
 split at h
 ·simp at h; rw [h.1.1]; simp; omega
 ·simp at h; rw [h.1.1.1]; simp; omega
theorem zjA (x : Ins) (h0 : 0 <= x.op /\ x.op < 15 /\ -1099511627776 <= x.a /\ x.a <= 1099511627776 /\ x.s.length <= 1000) : (ze1 x).length <= 2000 := by
 have hil := Lib.itoa_length_le x.a (by omega) (by omega);have hwl2 : ∀ w ∈ wordsL, w.length <= 5 := by decide
 have hu : wordsL[x.op.toNat]? = some (zdd x.op) := by
  rw [zdd, List.getD, List.getElem?_eq_getElem (by have : wordsL.length = 15 := rfl; omega)]; rfl
 have := hwl2 _ (List.mem_of_getElem? hu);unfold ze1;split
 ·simp; omega
 split
 ·simp; omega
 ·simp; omega
theorem zhT {l : Code} {i : Nat} {x : Ins} (h : l[i]? = some x) : zcJ (l.take (i + 1)) = zcJ (l.take i) ++ ze1 x := by
 obtain ⟨hi, rfl⟩ := List.getElem?_eq_some_iff.1 h;rw [List.take_succ_eq_append_getElem hi, zcJ, List.map_append, List.flatten_append];simp [zcJ]
theorem zhi {l : Code} (hr : zbO l = true) : ∀ i, i <= l.length -> (zcJ (l.take i)).length <= i * 2000
 | 0, _ => by simp [zcJ]
 | i + 1, h => by
  have hx : l[i]? = some l[i] := List.getElem?_eq_getElem (by omega);rw [zhT hx, List.length_append];have := zhi hr i (by omega);have := zjA _ (zgy hr hx);omega
def zl3 (T : List UInt8) (i : Nat) : List (Nat × Ob) := if i = 0 then [(0, .nw 88)] else [(0, .box [.ptr 0 0, .vec 1 T.length]), (1, .vec u8T 1 (zdK T))]
end Go.Proofs.YtkdhmbhbbciedaaGreatDoor
namespace Go.Proofs.YtkdhmbhbbciedaaGreatDoor
open Go Go.VL
def zfV (c : UInt8) : W8 -> Option (W8 × W8)
 | [] => none
 | x :: r => if x = c then some ([], r) else (zfV c r).map fun p => (x :: p.1, p.2)
theorem zgh {c : UInt8} : ∀ {s p q : W8}, zfV c s = some (p, q) -> s = p ++ c :: q /\ c ∉ p
 | [], p, q, h => by simp [zfV] at h
 | x :: r, p, q, h => by
  unfold zfV at h;split at h
  ·rename_i e;simp at h;obtain ⟨rfl, rfl⟩ := h;simp [e]
  ·rename_i e;cases hr : zfV c r with
   | none => rw [hr] at h; simp at h
   | some pq =>
    obtain ⟨p', q'⟩ := pq;rw [hr] at h;simp at h;obtain ⟨rfl, rfl⟩ := h;obtain ⟨h1, h2⟩ := zgh hr;exact ⟨by rw [h1]; rfl, by simp [h2, Ne.symm e]⟩
theorem znb {c : UInt8} : ∀ {s : W8}, zfV c s = none -> c ∉ s
 | [], _ => by simp
 | x :: r, h => by
  unfold zfV at h;split at h
  ·cases h
  ·rename_i e;cases hr : zfV c r with
   | none => simp [znb hr, Ne.symm e]
   | some pq => rw [hr] at h; simp at h
theorem zg3 {c : UInt8} : ∀ {p : W8} (q : W8), c ∉ p -> zfV c (p ++ c :: q) = some (p, q)
 | [], q, _ => by simp [zfV]
 | x :: p, q, h => by
  simp at h;rw [List.cons_append, zfV, if_neg (Ne.symm h.1), zg3 q h.2];rfl
theorem zjO {c : UInt8} : ∀ {s : W8}, c ∉ s -> zfV c s = none
 | [], _ => rfl
 | x :: r, h => by
  simp at h;rw [zfV, if_neg (Ne.symm h.1), zjO h.2];rfl
theorem zhX {c : UInt8} : ∀ (s : W8), Lib.indexByte s c = match zfV c s with | some p => (p.1.length : Int) | none => -1
 | [] => rfl
 | x :: r => by
  have ih := zhX (c := c) r;unfold zfV Lib.indexByte;by_cases e : x = c
  ·simp [e]
  ·rw [if_neg e, ih];have : (x == c) = false := by simpa using e
   rw [this];cases zfV c r with
   | none => simp
   | some p => simp
theorem ztk {c : UInt8} {s p q : W8} (h : zfV c s = some (p, q)) : q.length < s.length := by
 rw [(zgh h).1]; simp; omega
def zbS (c : UInt8) : W8 -> List W8
 | [] => [[]]
 | x :: r => if x = c then [] :: zbS c r else match zbS c r with | [] => [[x]] | p :: ps => (x :: p) :: ps
theorem zhJ {c : UInt8} : ∀ s : W8, zbS c s ≠ []
 | [] => by simp [zbS]
 | x :: r => by
  unfold zbS;split
  ·simp
  ·split <;> simp
theorem zd8 {c : UInt8} : ∀ s : W8, zbS c s = match zfV c s with | some p => p.1 :: zbS c p.2 | none => [s]
 | [] => rfl
 | x :: r => by
  have ih := zd8 (c := c) r;rw [zbS, zfV];by_cases e : x = c
  ·simp [e]
  ·rw [if_neg e, if_neg e, ih];cases zfV c r <;> simp
theorem ziG {c : UInt8} : ∀ s : W8, ∀ t ∈ zbS c s, t.length <= s.length
 | [], t, h => by simp [zbS] at h; simp [h]
 | x :: r, t, h => by
  have ih := ziG (c := c) r;unfold zbS at h;split at h
  ·rcases List.mem_cons.1 h with rfl | h
   ·simp
   ·have := ih t h; simp; omega
  ·split at h
   ·simp at h; subst h; simp
   ·rename_i p ps hp;rcases List.mem_cons.1 h with rfl | h
    ·have := ih p (by rw [hp]; simp); simp; omega
    ·have := ih t (by rw [hp]; simp [h]); simp; omega
theorem ziF {c : UInt8} : ∀ s : W8, (zbS c s).length <= s.length + 1
 | [] => by simp [zbS]
 | x :: r => by
  have ih := ziF (c := c) r;unfold zbS;split
  ·simp; omega
  ·split
   ·simp
   ·rename_i p ps hp;rw [hp] at ih;simp at ih ⊢;omega
def zfN (s : W8) : W8 := if s.getLast? = some 10 then s.dropLast else s
theorem zqT (t : W8) : zfN (t ++ [10]) = t := by simp [zfN]
theorem zqR (s : W8) : (zfN s).length <= s.length := by unfold zfN; split <;> simp
def zls (s : W8) : Int := match Lib.atoiAll s with | .ok v => v | .range => Lib.atoiSat s | _ => 0
def zl7 (t : W8) : Ins :=
 let w := match zfV 32 t with | some p => p.1 | none => t
 let r := match zfV 32 t with | some p => p.2 | none => []
 if zjE wordsL w 0 = 1 then ⟨1, 0, r⟩ else ⟨zjE wordsL w 0, zls r, []⟩
def zd0 (s : W8) : Code := (zbS 10 (zfN s)).map zl7
def ze7 (s : W8) : Code × Int := if zbO (zd0 s) = true /\ zcJ (zd0 s) = s then (zd0 s, 0) else ([], 2)
theorem zg2 : ∀ (s : W8) (acc : Nat), (∀ c ∈ s, zav c = true) -> ((acc + 1) * 10 ^ s.length <= 10 ^ 18) -> Lib.parseUint10 acc s = .ok (s.foldl (fun (n : Int) c => 10 * n + ((c.toNat : Int) - 48)) acc).toNat /\ 0 <= s.foldl (fun (n : Int) c => 10 * n + ((c.toNat : Int) - 48)) acc
 | [], acc, _, _ => by simp [Lib.parseUint10]
 | c :: r, acc, h, hb => by
  have hc := h c (by simp);simp only [zav, Bool.and_eq_true, decide_eq_true_eq] at hc;have hpow : 1 <= 10 ^ r.length := Nat.one_le_pow _ _ (by decide);have e1 : (acc + 1) * 10 ^ (c :: r).length = (10 * (acc + 1)) * 10 ^ r.length := by
   rw [List.length_cons, Nat.pow_succ, Nat.mul_comm (10 ^ r.length) 10, <- Nat.mul_assoc, Nat.mul_comm (acc + 1) 10]
  rw [e1] at hb;have hle : (acc * 10 + (c.toNat - 48) + 1) * 10 ^ r.length <= 10 * (acc + 1) * 10 ^ r.length := Nat.mul_le_mul_right _ (by omega);have h18 : 10 * (acc + 1) <= 10 ^ 18 := Nat.le_trans (Nat.le_mul_of_pos_right _ hpow) hb;have ih := zg2 r (acc * 10 + (c.toNat - 48)) (fun d hd => h d (by simp [hd])) (Nat.le_trans hle hb);have e2 : (10 * (acc : Int) + ((c.toNat : Int) - 48)) = ((acc * 10 + (c.toNat - 48) : Nat) : Int) := by omega
  rw [List.foldl_cons, e2];refine ⟨?_, ih.2⟩;rw [<- ih.1, Lib.parseUint10, if_pos hc, if_neg (by omega), if_neg (by omega)]
theorem zgW (n : Nat) (h : n < 10 ^ 17) : Lib.parseMag (Lib.decDigits n) = .ok n := by
 unfold Lib.parseMag;rw [if_neg (zfm n)];have hl := zgg n 16 (by omega);have hpow : 10 ^ (Lib.decDigits n).length <= 10 ^ 17 := Nat.pow_le_pow_right (by decide) (by omega);have h1 := zg2 (Lib.decDigits n) 0 (zcj n) (by omega);have h2 := zgf n;unfold zby at h2;simp only [Int.ofNat_zero, Int.natCast_zero] at h1;rw [h1.1, h2];simp
theorem zmf (n : Nat) {c : UInt8} {r : W8} (h : Lib.decDigits n = c :: r) : zav c = true := zcj n c (by rw [h]; simp)
theorem zi4 {a : Int} (h0 : -1099511627776 <= a) (h1 : a <= 1099511627776) : zls (Lib.itoa a) = a := by
 unfold Lib.itoa;split
 ·rename_i hn;have hm := zgW a.natAbs (by omega);have e : Lib.atoiAll (45 :: Lib.decDigits a.natAbs) = .ok a := by
   rw [Lib.atoiAll_minus, hm, Lib.signed];rw [if_neg (by omega)]
   congr 1
   omega
  rw [zls, e]
 ·rename_i hn;have hm := zgW a.toNat (by omega);have e : Lib.atoiAll (Lib.decDigits a.toNat) = .ok a := by
   cases hd : Lib.decDigits a.toNat with
   | nil => exact absurd hd (zfm _)
   | cons c r =>
    have hc := zmf _ hd;simp only [zav, Bool.and_eq_true, decide_eq_true_eq] at hc;rw [Lib.atoiAll_plain c r (by omega) (by omega), <- hd, hm, Lib.signless];rw [if_neg (by omega)]
    congr 1
    omega
  rw [zls, e]
def zdG (x : Ins) : W8 := if x.op = 0 \/ x.op = 12 \/ x.op = 13 then 32 :: Lib.itoa x.a else if x.op = 1 then 32 :: x.s else []
theorem zfu (x : Ins) : ze1 x = (zdd x.op ++ zdG x) ++ [10] := rfl
theorem zmA : ∀ n : Nat, n < 15 -> zjE wordsL (wordsL.getD n []) 0 = n /\ (32 : UInt8) ∉ wordsL.getD n [] /\ (10 : UInt8) ∉ wordsL.getD n [] := by decide
theorem zra {s : W8} (h : zfa s = true) : (10 : UInt8) ∉ s := fun hm => by
 simp only [zfa, Bool.and_eq_true] at h;have h := h.1;cases s with
 | nil => cases hm
 | cons c r =>
  simp only [zfE, Bool.and_eq_true, decide_eq_true_eq] at h;have := zkk h.2 10 hm;simp [zcn, zav] at this
theorem zpL (a : Int) : (10 : UInt8) ∉ Lib.itoa a := fun hm => by
 have hd : ∀ n, (10 : UInt8) ∉ Lib.decDigits n := fun n h => by
  have := zcj n 10 h;simp [zav] at this
 unfold Lib.itoa at hm;split at hm
 ·simp at hm; exact hd _ hm
 ·exact hd _ hm
theorem zk1 {x : Ins} {i n : Nat} (h : zdn x i n = true) (hn : n <= 1099511627776) : zl7 (zdd x.op ++ zdG x) = x /\ (10 : UInt8) ∉ zdd x.op ++ zdG x := by
 obtain ⟨op, a, s⟩ := x;have hw : ∀ o : Int, 0 <= o -> o < 15 -> zjE wordsL (zdd o) 0 = o /\ (32 : UInt8) ∉ zdd o /\ (10 : UInt8) ∉ zdd o := fun o h0 h1 => by
  have := zmA o.toNat (by omega);unfold zdd;refine ⟨?_, this.2⟩;rw [this.1];omega
 unfold zdn at h;simp only at h;split at h
 ·rename_i e;subst e;simp at h;obtain ⟨⟨rfl, h1⟩, h2⟩ := h;obtain ⟨w1, w2, w3⟩ := hw 0 (by omega) (by omega);have et : zdG ⟨0, a, []⟩ = 32 :: Lib.itoa a := by simp [zdG]
  refine ⟨?_, ?_⟩
  ·rw [et];unfold zl7;rw [zg3 _ w2];simp only;rw [w1, if_neg (by omega), zi4 h1 h2]
  ·rw [et]; simp [w3, zpL]
 split at h
 ·rename_i e;subst e;simp at h;obtain ⟨rfl, h2⟩ := h;obtain ⟨w1, w2, w3⟩ := hw 1 (by omega) (by omega);have et : zdG ⟨1, 0, s⟩ = 32 :: s := by simp [zdG]
  refine ⟨?_, ?_⟩
  ·rw [et];unfold zl7;rw [zg3 _ w2];simp only;rw [w1, if_pos rfl]
  ·rw [et]; simp [w3, zra h2]
 split at h
 ·rename_i e1 e2 e;simp at h;obtain ⟨⟨rfl, h1⟩, h2⟩ := h;obtain ⟨w1, w2, w3⟩ := hw op (by omega) (by omega);have et : zdG ⟨op, a, []⟩ = 32 :: Lib.itoa a := by simp only [zdG]; rw [if_pos (by omega)]
  refine ⟨?_, ?_⟩
  ·rw [et];unfold zl7;rw [zg3 _ w2];simp only;rw [w1, if_neg (by omega), zi4 (by omega) (by omega)]
  ·rw [et]; simp [w3, zpL]
 ·rename_i e1 e2 e3;simp at h;obtain ⟨⟨⟨rfl, rfl⟩, h1⟩, h2⟩ := h;obtain ⟨w1, w2, w3⟩ := hw op (by omega) (by omega);have et : zdG ⟨op, 0, []⟩ = [] := by simp only [zdG]; rw [if_neg (by omega), if_neg (by omega)]
  refine ⟨?_, ?_⟩
  ·rw [et, List.append_nil];unfold zl7;rw [zjO w2];simp only;rw [w1, if_neg (by omega)];rfl
  ·rw [et]; simpa using w3
theorem znN {c : UInt8} {p : W8} (q : W8) (h : c ∉ p) : zbS c (p ++ c :: q) = p :: zbS c q := by rw [zd8, zg3 q h]
theorem znM {c : UInt8} {p : W8} (h : c ∉ p) : zbS c p = [p] := by rw [zd8, zjO h]
theorem zhK : ∀ (l : Code), l ≠ [] -> (∀ x ∈ l, zl7 (zdd x.op ++ zdG x) = x /\ (10 : UInt8) ∉ zdd x.op ++ zdG x) -> ∃ t, zcJ l = t ++ [10] /\ (zbS 10 t).map zl7 = l
 | [], h, _ => absurd rfl h
 | [x], _, h => by
  obtain ⟨h1, h2⟩ := h x (by simp);exact ⟨zdd x.op ++ zdG x, by simp [zcJ, zfu], by rw [znM h2]; simp [h1]⟩
 | x :: y :: r, _, h => by
  obtain ⟨h1, h2⟩ := h x (by simp);obtain ⟨t, h3, h4⟩ := zhK (y :: r) (by simp) (fun z hz => h z (by simp [List.mem_cons.1 hz]));refine ⟨(zdd x.op ++ zdG x) ++ 10 :: t, ?_, ?_⟩
  ·have : zcJ (x :: y :: r) = ze1 x ++ zcJ (y :: r) := by simp [zcJ]
   rw [this, h3, zfu];simp
  ·rw [znN _ h2, List.map_cons, h1, h4]
theorem zeM {l : Code} (h : zbO l = true) : 0 < l.length /\ l.length <= 2000 /\ ∀ i x, l[i]? = some x -> zdn x i l.length = true := by
 simp only [zbO, Bool.and_eq_true, decide_eq_true_eq] at h;exact ⟨h.1.1.1, h.1.1.2, fun i x hx => zeU h.1.2 hx⟩
theorem znO {l : Code} (h : zbO l = true) : zd0 (zcJ l) = l := by
 obtain ⟨h1, h2, h3⟩ := zeM h;obtain ⟨t, h4, h5⟩ := zhK l (fun e => by rw [e] at h1; simp at h1) (fun x hx => by
  obtain ⟨i, hi⟩ := List.getElem?_of_mem hx;exact zk1 (h3 i x hi) (by omega))
 unfold zd0;rw [h4, zqT, h5]
theorem zkx {l : Code} (h : zbO l = true) : ze7 (zcJ l) = (l, 0) := by
 unfold ze7;rw [znO h, if_pos ⟨h, rfl⟩]
theorem znE (s : W8) : (∃ l, zbO l = true /\ zcJ l = s /\ ze7 s = (l, 0)) \/ ze7 s = ([], 2) := by
 unfold ze7;split
 ·rename_i hc; exact .inl ⟨_, hc.1, hc.2, rfl⟩
 ·exact .inr rfl
theorem zs4 {l : Code} (h : zbO l = true) : zcJ l ≠ [] := fun e => by
 obtain ⟨h1, _⟩ := zeM h;cases l with
 | nil => simp at h1
 | cons x r => simp [zcJ, ze1] at e
end Go.Proofs.YtkdhmbhbbciedaaGreatDoor
