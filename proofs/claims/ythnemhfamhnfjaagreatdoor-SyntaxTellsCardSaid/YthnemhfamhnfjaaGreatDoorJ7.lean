import Derived.Test.YthnemhfamhnfjaaGreatDoorJ6
set_option linter.all false
set_option maxRecDepth 100000
set_option maxHeartbeats 8000000
namespace Go.Proofs.YthnemhfamhnfjaaGreatDoor
open Go Go.VL
def zdj (l : List Tok) (S : RS) : Exp × RS := zdP l (10 * l.length + 9) S 0
def zps (l : List Tok) (S : RS) (least most : Int) : Int × RS :=
 if (zbw l S).kind = 2 then if (zbw l S).n < least \/ most < (zbw l S).n then (0, zbm l S 3) else ((zbw l S).n, S.adv) else (0, zbm l S 12)
def zb5 (l : List Tok) (S : RS) (behind : W8) : Exp × RS :=
 if (zdj l S).2.err ≠ 0 then zdj l S
 else if behind = [] /\ (zbw l (zdj l S).2).kind ≠ 0 \/ behind ≠ [] /\ isR l (zdj l S).2 behind = false then ((zdj l S).1, zbm l (zdj l S).2 12)
 else if 12 < (zdj l S).1.lev then ((zdj l S).1, zbm l (zdj l S).2 6)
 else if behind ≠ [] then ((zdj l S).1, (zdj l S).2.adv) else zdj l S
def zk1 (unit : Int) : List W8 := if unit = 1 then [[100, 97, 121, 115]] else if unit = 2 then [[112, 101, 114], [109, 105, 108, 108, 101]] else []
def zeM (l : List Tok) : RS -> List W8 -> RS
 | S, [] => S
 | S, w :: ws => zeM l (za6 l S w) ws
def zcW (l : List Tok) (S : RS) (word : W8) (must : Bool) (least most unit : Int) : Int × RS :=
 if isR l S word = true then ((zps l S.adv least most).1, zeM l (zps l S.adv least most).2 (zk1 unit ++ [[59]]))
 else (0, if must = true then zbm l S 12 else S)
def zbZ (l : List Tok) (S : RS) (word : W8) : Exp × RS := if isR l S word = true then zb5 l S.adv [59] else (nothingE, S)
def zls (l : List Tok) (acc : List Let) (S : RS) : RS :=
 let T := if (zbw l S).kind = 1 /\ zb3 (zbw l S).text = true then S else zbm l S 12
 if (acc.any fun x => decide (x.name = (zbw l S).text)) = true then zbm l T 5 else T
def zfD (l : List Tok) : Nat -> RS -> List Let -> List Let × RS
 | 0, S, acc => (acc, S)
 | f + 1, S, acc => if isR l S [108, 101, 116] = true then
   if acc.length = 20 then ([], zbm l S 6)
   else if (zls l acc S.adv).err ≠ 0 then ([], zls l acc S.adv)
   else zfD l f (zb5 l (za6 l (zls l acc S.adv).adv [61]) [59]).2 (acc ++ [⟨(zbw l S.adv).text, (zb5 l (za6 l (zls l acc S.adv).adv [61]) [59]).1⟩])
  else (acc, S)
def ziX (l : List Tok) (S0 : RS) : (Int × Bool) × RS :=
 let S := za6 l S0 [99, 105, 114, 99, 108, 101]
 if isR l S [115, 97, 118, 105, 110, 103] = true then ((2, false), za6 l S.adv [59])
 else if isR l S [98, 105, 100, 100, 105, 110, 103] = true then
  if isR l S.adv [115, 101, 97, 108, 101, 100] = true then ((1, true), za6 l S.adv.adv [59]) else ((1, false), za6 l S.adv [59])
 else ((0, false), za6 l (za6 l S [114, 111, 116, 97, 116, 105, 110, 103]) [59])
def zf0 (l : List Tok) (S : RS) : Int × RS :=
 if isR l S [111, 114, 100, 101, 114] = true then
  if isR l S.adv [100, 114, 97, 119] = true then (1, za6 l S.adv.adv [59])
  else if isR l S.adv [110, 101, 101, 100] = true then (2, za6 l S.adv.adv [59])
  else (0, za6 l (za6 l S.adv [106, 111, 105, 110]) [59])
 else (0, S)
def zrt (l : List Tok) (S : RS) : RS := if S.err = 0 /\ (zbw l S).kind ≠ 0 then zbm l S 12 else S
theorem zjI {l : List Tok} {S : RS} (h : S.err ≠ 0) : zdj l S = (zbB, S) := zcx h _ _
theorem zbc {l : List Tok} {S : RS} (h : S.err ≠ 0) (w : W8) : zb5 l S w = (zbB, S) := by rw [zb5, zjI h, if_pos h]
theorem zgn {l : List Tok} {S : RS} (h : S.err ≠ 0) : ∀ ws, zeM l S ws = S
 | [] => rfl
 | w :: ws => by rw [zeM, zaX h, zgn h]
theorem zbC {l : List Tok} {S : RS} (h : S.err ≠ 0) (w : W8) (m : Bool) (a b u : Int) : zcW l S w m a b u = (0, S) := by
 rw [zcW, zfG h, if_neg (by simp), zg8 h];split <;> rfl
theorem za7 {l : List Tok} {S : RS} (h : S.err ≠ 0) (w : W8) : zbZ l S w = (nothingE, S) := by rw [zbZ, zfG h, if_neg (by simp)]
theorem zbp {l : List Tok} {S : RS} (h : S.err ≠ 0) (n : Nat) (acc : List Let) : zfD l n S acc = (acc, S) := by
 cases n with
 | zero => rfl
 | succ n => rw [zfD, zfG h, if_neg (by simp)]
theorem zbD {l : List Tok} {S : RS} (h : S.err ≠ 0) : (ziX l S).2 = S := by simp [ziX, zaX h, zfG h]
theorem zbk {l : List Tok} {S : RS} (h : S.err ≠ 0) : zf0 l S = (0, S) := by rw [zf0, zfG h, if_neg (by simp)]
theorem zbS {l : List Tok} {S : RS} (h : S.err ≠ 0) : zrt l S = S := by rw [zrt, if_neg (fun h1 => h h1.1)]
theorem Agree.bind {α β : Type} {x : α × RS} {r : PR α} {F : α × RS -> β × RS} {G : α -> Nat -> PR β} (h : Agree x r)
  (h1 : ∀ a q, r = .ok a q -> Agree (F (a, ⟨q, 0, 0⟩)) (G a q)) (h2 : x.2.err ≠ 0 -> (F x).2 = x.2) : Agree (F x) (r.bind G) := by
 rcases h.ways with ⟨a, q, hr, hx⟩ | ⟨pos, e, hr, hx, h3⟩
 ·rw [hr, PR.zaB, hx]; exact h1 a q hr
 ·rw [hr, PR.zax];refine ⟨h3.1, ?_, ?_⟩
  ·rw [h2 hx]; exact h3.2.1
  ·rw [h2 hx]; exact h3.2.2
theorem AgreeS.bind {β : Type} {S : RS} {r : PR Unit} {F : RS -> β × RS} {G : Unit -> Nat -> PR β} (h : AgreeS S r)
  (h1 : ∀ q, r = .ok () q -> Agree (F ⟨q, 0, 0⟩) (G () q)) (h2 : S.err ≠ 0 -> (F S).2 = S) : Agree (F S) (r.bind G) := by
 rcases h.ways with ⟨q, hr, hx⟩ | ⟨pos, e, hr, hx, h3⟩
 ·rw [hr, PR.zaB, hx]; exact h1 q hr
 ·rw [hr, PR.zax];refine ⟨h3.1, ?_, ?_⟩
  ·rw [h2 hx]; exact h3.2.1
  ·rw [h2 hx]; exact h3.2.2
theorem zlL {l : List Tok} {q : Nat} {w : W8} (h : isB l q w = true) : za6 l ⟨q, 0, 0⟩ w = ⟨q + 1, 0, 0⟩ := by rw [za6, zeR, if_pos h]; rfl
theorem zjq {l : List Tok} {q : Nat} {w : W8} (h : ¬ isB l q w = true) : za6 l ⟨q, 0, 0⟩ w = zbm l ⟨q, 0, 0⟩ 12 := by rw [za6, zeR, if_neg h]
theorem zjE {l : List Tok} (hl : TokOK l) : ∀ (ws : List W8) {q : Nat}, q < l.length -> AgreeS (zeM l ⟨q, 0, 0⟩ ws) (zbd l q ws)
 | [], q, _ => by rw [zeM, zbd]; rfl
 | w :: ws, q, hq => by
  rw [zeM, zbd, za6, zeR];by_cases h : isB l q w = true
  ·rw [if_pos h, if_pos h];exact zjE hl ws (zaO hl h)
  ·rw [if_neg h, if_neg h, zgn (by simp [zbm])];exact zcQ l q 12 (by decide)
theorem zq5 {l : List Tok} {q : Nat} (hq : q < l.length) (a b : Int) : Agree (zps l ⟨q, 0, 0⟩ a b) (zpt l q a b) := by
 obtain ⟨t, ht⟩ : ∃ t, l[q]? = some t := ⟨_, List.getElem?_eq_getElem hq⟩;rw [zps, zpt, zbG ht, ht];have hp : zbL l q = t.pos := by rw [zbL, ht]
 simp only;by_cases h : t.kind = 2
 ·rw [if_pos h, if_pos h];by_cases h1 : a <= t.n /\ t.n <= b
  ·rw [if_pos h1, if_neg (by omega)]; rfl
  ·rw [if_neg h1, if_pos (by omega)];have := zcQ l q 3 (by decide);rw [hp] at this;exact this
 ·rw [if_neg h, if_neg h];have := zcQ l q 12 (by decide);rw [hp] at this;exact this
theorem ziD {l : List Tok} (hl : TokOK l) (hE : ∀ (i : Nat) (t : Tok), l[i]? = some t -> t.kind = 0 -> t.text = []) {q : Nat} (hq : q < l.length) : Agree (zdj l ⟨q, 0, 0⟩) (zfx l q 0) :=
 (zlc hl hE (10 * l.length + 9)).1 q 0 hq (by omega) (by omega) (by simp; omega)
theorem zhe {l : List Tok} (hl : TokOK l) (hE : ∀ (i : Nat) (t : Tok), l[i]? = some t -> t.kind = 0 -> t.text = []) {q : Nat} (hq : q < l.length) : Agree (zb5 l ⟨q, 0, 0⟩ [59]) (zdu l q) := by
 unfold zb5 zdu;rcases (ziD hl hE hq).ways with ⟨a, r, h1, x1⟩ | ⟨pos, e, h1, x1, x2⟩
 ·unfold zfx at h1;rw [x1, h1, PR.zaB, zeR];simp only [ne_eq, not_true, if_false, List.cons_ne_nil, false_and, not_false_eq_true, true_and, false_or, if_true];by_cases hb : isB l r [59] = true
  ·rw [if_pos hb, if_neg (by simp [hb])];by_cases hv : a.lev <= 12
   ·rw [if_pos hv, if_neg (by omega)]; rfl
   ·rw [if_neg hv, if_pos (by omega)]; exact zcQ l r 6 (by decide)
  ·rw [if_neg hb, if_pos (by simpa using hb)]; exact zcQ l r 12 (by decide)
 ·unfold zfx at h1;rw [h1, PR.zax, if_pos x1]; exact x2
theorem zew {l : List Tok} (hl : TokOK l) {q : Nat} (hq : q < l.length) (w : W8) (a b u : Int) : Agree (zcW l ⟨q, 0, 0⟩ w false a b u) (zdr l q w a b (zk1 u ++ [[59]])) := by
 rw [zcW, zdr, zeR];by_cases h : isB l q w = true
 ·rw [if_pos h, if_pos h];have hq1 := zaO hl h;refine Agree.bind (F := fun x => (x.1, zeM l x.2 (zk1 u ++ [[59]]))) (zq5 hq1 a b) (fun n r hr => ?_) (fun hb => zgn hb _);exact AgreeS.bind (F := fun S => (n, S)) (zjE hl _ (zlm hl hr).2) (fun q hq => rfl) (fun _ => rfl)
 ·rw [if_neg h, if_neg h]; rfl
theorem zlN {l : List Tok} (hl : TokOK l) {q : Nat} (hq : q < l.length) (w : W8) (a b u : Int) : Agree (zcW l ⟨q, 0, 0⟩ w true a b u) ((zgt l q w).bind fun _ q => zdr l q w a b (zk1 u ++ [[59]])) := by
 rw [zgt];by_cases h : isB l q w = true
 ·rw [if_pos h, PR.zaB];have := zew hl hq w a b u;rw [zcW, zeR, if_pos h] at this ⊢;exact this
 ·rw [if_neg h, PR.zax, zcW, zeR, if_neg h];exact zcQ l q 12 (by decide)
theorem zfn {l : List Tok} (hl : TokOK l) (hE : ∀ (i : Nat) (t : Tok), l[i]? = some t -> t.kind = 0 -> t.text = []) {q : Nat} (w : W8) : Agree (zbZ l ⟨q, 0, 0⟩ w) (zdt l q w) := by
 rw [zbZ, zdt, zeR];by_cases h : isB l q w = true
 ·rw [if_pos h, if_pos h]; exact zhe hl hE (zaO hl h)
 ·rw [if_neg h, if_neg h]; rfl
theorem zpF {l : List Tok} (hl : TokOK l) {q : Nat} : Agree (ziX l ⟨q, 0, 0⟩) (zhu l q) := by
 unfold ziX zhu;refine AgreeS.bind (F := fun S => if isR l S [115, 97, 118, 105, 110, 103] = true then ((2, false), za6 l S.adv [59])
  else if isR l S [98, 105, 100, 100, 105, 110, 103] = true then
   if isR l S.adv [115, 101, 97, 108, 101, 100] = true then ((1, true), za6 l S.adv.adv [59]) else ((1, false), za6 l S.adv [59])
  else ((0, false), za6 l (za6 l S [114, 111, 116, 97, 116, 105, 110, 103]) [59])) (zdp l q _) (fun q hq => ?_) (fun hb => by simp [zaX hb, zfG hb])
 simp only [zeR, RS.adv];have hw : ∀ (x : Int × Bool) (r : Nat), Agree (x, za6 l ⟨r, 0, 0⟩ [59]) ((zbd l r [[59]]).bind fun _ r => .ok x r) := fun x r =>
  AgreeS.bind (F := fun S => (x, S)) (zdp l r [59]) (fun q _ => rfl) (fun _ => rfl)
 have hex : ∀ (v w : W8), v ≠ w -> isB l q v = true -> isB l q w = false := fun v w hvw h => by
  unfold isB at h ⊢;cases hx : l[q]? with
  | none => rfl
  | some t => rw [hx] at h; simp only [Bool.and_eq_true, decide_eq_true_eq] at h; simp [h.2, hvw]
 by_cases h1 : isB l q [115, 97, 118, 105, 110, 103] = true
 ·have h3 : ¬ isB l q [114, 111, 116, 97, 116, 105, 110, 103] = true := by rw [hex _ _ (by decide) h1]; simp
  rw [if_pos h1, if_neg h3, if_pos h1]; exact hw _ _
 ·rw [if_neg h1];by_cases h2 : isB l q [98, 105, 100, 100, 105, 110, 103] = true
  ·have h3 : ¬ isB l q [114, 111, 116, 97, 116, 105, 110, 103] = true := by rw [hex _ _ (by decide) h2]; simp
   have hb : zbd l q [[98, 105, 100, 100, 105, 110, 103]] = .ok () (q + 1) := by rw [zbd, if_pos h2, zbd]
   rw [if_pos h2, if_neg h3, if_neg h1, hb, PR.zaB];by_cases h4 : isB l (q + 1) [115, 101, 97, 108, 101, 100] = true
   ·rw [if_pos h4, if_pos h4]; exact hw _ _
   ·rw [if_neg h4, if_neg h4]; exact hw _ _
  ·rw [if_neg h2];by_cases h3 : isB l q [114, 111, 116, 97, 116, 105, 110, 103] = true
   ·rw [if_pos h3, zlL h3]; exact hw _ _
   ·have hb : zbd l q [[98, 105, 100, 100, 105, 110, 103]] = .stop (zbL l q) 12 := by rw [zbd, if_neg h2]
    rw [if_neg h3, if_neg h1, hb, PR.zax, zjq h3, zaX (by simp [zbm])];exact zcQ l q 12 (by decide)
theorem zn3 {l : List Tok} (hl : TokOK l) {q : Nat} : Agree (zf0 l ⟨q, 0, 0⟩) (ze3 l q) := by
 rw [zf0, ze3, zeR];by_cases h : isB l q [111, 114, 100, 101, 114] = true
 ·rw [if_pos h, if_pos h];simp only [RS.adv, zeR];have hw : ∀ (x : Int) (r : Nat), Agree (x, za6 l ⟨r, 0, 0⟩ [59]) ((zbd l r [[59]]).bind fun _ r => .ok x r) := fun x r =>
   AgreeS.bind (F := fun S => (x, S)) (zdp l r [59]) (fun q _ => rfl) (fun _ => rfl)
  have hex : ∀ (v w : W8), v ≠ w -> isB l (q + 1) v = true -> isB l (q + 1) w = false := fun v w hvw h => by
   unfold isB at h ⊢;cases hx : l[q + 1]? with
   | none => rfl
   | some t => rw [hx] at h; simp only [Bool.and_eq_true, decide_eq_true_eq] at h; simp [h.2, hvw]
  by_cases h1 : isB l (q + 1) [100, 114, 97, 119] = true
  ·rw [if_pos h1];simp only [ordersW, List.findIdx?_cons, h1, hex _ [106, 111, 105, 110] (by decide) h1];exact hw 1 (q + 2)
  ·rw [if_neg h1];have h1' := Bool.eq_false_iff.2 h1;by_cases h2 : isB l (q + 1) [110, 101, 101, 100] = true
   ·rw [if_pos h2];simp only [ordersW, List.findIdx?_cons, h1', h2, hex _ [106, 111, 105, 110] (by decide) h2];exact hw 2 (q + 2)
   ·rw [if_neg h2];have h2' := Bool.eq_false_iff.2 h2;by_cases h3 : isB l (q + 1) [106, 111, 105, 110] = true
    ·simp only [ordersW, List.findIdx?_cons, h3];rw [zlL h3];exact hw 0 (q + 2)
    ·have h3' := Bool.eq_false_iff.2 h3;simp only [ordersW, List.findIdx?_cons, List.findIdx?_nil, h1', h2', h3'];rw [zjq h3, zaX (by simp [zbm])];exact zcQ l (q + 1) 12 (by decide)
 ·rw [if_neg h, if_neg h]; rfl
theorem zlP {l : List Tok} (hl : TokOK l) (hE : ∀ (i : Nat) (t : Tok), l[i]? = some t -> t.kind = 0 -> t.text = []) : ∀ (n q : Nat) (acc : List Let), q < l.length -> acc.length <= 20 -> 20 < acc.length + n -> Agree (zfD l n ⟨q, 0, 0⟩ acc) (zeQ l n q acc)
 | 0, q, acc, _, h1, h2 => by omega
 | n + 1, q, acc, hq, h1, h2 => by
  rw [zfD, zeQ, zeR];by_cases hb : isB l q [108, 101, 116] = true
  ·have hq1 := zaO hl hb;rw [if_pos hb, if_pos hb];by_cases hn : acc.length = 20
   ·have hn' : ¬ acc.length < 20 := by omega
    rw [if_pos hn, if_neg hn']; exact zcQ l q 6 (by decide)
   ·have hn' : acc.length < 20 := by omega
    rw [if_neg hn, if_pos hn'];obtain ⟨t, ht⟩ : ∃ t, l[q + 1]? = some t := ⟨_, List.getElem?_eq_getElem hq1⟩;have hp : zbL l (q + 1) = t.pos := by rw [zbL, ht]
    rw [show (⟨q, 0, 0⟩ : RS).adv = ⟨q + 1, 0, 0⟩ from rfl, ht];have hL : zls l acc ⟨q + 1, 0, 0⟩ = if (acc.any fun x => decide (x.name = t.text)) = true then zbm l (if t.kind = 1 /\ zb3 t.text = true then ⟨q + 1, 0, 0⟩ else zbm l ⟨q + 1, 0, 0⟩ 12) 5 else (if t.kind = 1 /\ zb3 t.text = true then ⟨q + 1, 0, 0⟩ else zbm l ⟨q + 1, 0, 0⟩ 12) := by
     unfold zls;rw [zbG ht]
    rw [zbG ht];simp only;by_cases h3 : t.kind = 1 /\ zb3 t.text = true
    ·rw [if_pos h3];by_cases h4 : (acc.any fun x => decide (x.name = t.text)) = true
     ·have hv : zls l acc ⟨q + 1, 0, 0⟩ = zbm l ⟨q + 1, 0, 0⟩ 5 := by rw [hL, if_pos h4, if_pos h3]
      rw [if_pos h4, hv, if_pos (by simp [zbm])];have := zcQ l (q + 1) 5 (by decide);rw [hp] at this;exact this
     ·have hv : zls l acc ⟨q + 1, 0, 0⟩ = ⟨q + 1, 0, 0⟩ := by rw [hL, if_neg h4, if_pos h3]
      rw [if_neg h4, hv, if_neg (by simp)];have hq2 := hl.fin (q + 1) t ht (by omega);refine AgreeS.bind (F := fun S => zfD l n (zb5 l S [59]).2 (acc ++ [⟨t.text, (zb5 l S [59]).1⟩])) (zdp l (q + 2) [61]) (fun r hr => ?_) (fun hb => by simp [zbc hb, zbp hb]);have g1 := zaJ hl _ hr hq2;refine Agree.bind (F := fun x => zfD l n x.2 (acc ++ [⟨t.text, x.1⟩])) (zhe hl hE g1.2) (fun e r2 hr2 => ?_) (fun hb => by simp [zbp hb]);exact zlP hl hE n r2 _ (zdL hl hr2 g1.2).2 (by simp; omega) (by simp; omega)
    ·have he : (zbm l ⟨q + 1, 0, 0⟩ 12).err ≠ 0 := by simp [zbm]
     have hv : zls l acc ⟨q + 1, 0, 0⟩ = zbm l ⟨q + 1, 0, 0⟩ 12 := by rw [hL, if_neg h3, zg8 he, ite_self]
     rw [if_neg h3, hv, if_pos he];have := zcQ l (q + 1) 12 (by decide);rw [hp] at this;exact this
  ·rw [if_neg hb, if_neg hb]; rfl
end Go.Proofs.YthnemhfamhnfjaaGreatDoor
namespace Go.Proofs.YthnemhfamhnfjaaGreatDoor
open Go Go.VL
def zbq {α β : Type} (x : α × RS) (F : α -> RS -> β × RS) : β × RS := F x.1 x.2
theorem Agree.next {α β : Type} {x : α × RS} {r : PR α} {F : α -> RS -> β × RS} {G : α -> Nat -> PR β} (h : Agree x r)
  (h1 : ∀ a q, r = .ok a q -> Agree (F a ⟨q, 0, 0⟩) (G a q)) (h2 : ∀ a S, S.err ≠ 0 -> (F a S).2 = S) : Agree (zbq x F) (r.bind G) :=
 Agree.bind (F := fun x => F x.1 x.2) h h1 (fun hb => h2 _ _ hb)
def zrx (l : List Tok) (S : RS) : By × RS :=
 zbq (ziX l S) fun k S => zbq (zcW l S [112, 101, 114, 105, 111, 100] true 1 1000 1) fun period S => zbq (zcW l S [108, 97, 115, 116] true 1 1000 0) fun last S => zbq (zcW l S [103, 114, 97, 99, 101] false 0 1000 1) fun grace S => zbq (zcW l S [119, 97, 105, 116] false 0 1000 1) fun wait S => zbq (zf0 l S) fun order S => zbq (zcW l S [98, 97, 99, 107, 115] false 0 60 0) fun backs S => zbq (zcW l S [118, 111, 105, 99, 101, 115] false 0 1000 2) fun voices S => zbq (zcW l S [106, 117, 114, 121] false 0 60 0) fun jury S => zbq (zcW l S [102, 117, 110, 100] false 0 1000 2) fun fund S => zbq (zfD l 21 S []) fun lets S => zbq (zb5 l (za6 l S [100, 117, 101]) [59]) fun due S => zbq (zbZ l S [102, 105, 110, 101]) fun fine S => zbq (zbZ l S [112, 97, 121]) fun pay S => zbq (zbZ l S [99, 111, 118, 101, 114]) fun cover S => zbq (zbZ l S [104, 111, 108, 100]) fun hold S => ((⟨k.1, period, grace, wait, last, order, k.2, backs, voices, jury, fund, lets, due, fine, pay, cover, hold⟩ : By), zrt l S)
theorem zq7 {l : List Tok} {q : Nat} (hq : q < l.length) : AgreeS (zrt l ⟨q, 0, 0⟩) (zo2 l q) := by
 obtain ⟨t, ht⟩ : ∃ t, l[q]? = some t := ⟨_, List.getElem?_eq_getElem hq⟩;have hp : zbL l q = t.pos := by rw [zbL, ht]
 rw [zrt, zo2, zbG ht, ht];simp only;by_cases h : t.kind = 0
 ·rw [if_pos h, if_neg (by simp [h])]; rfl
 ·rw [if_neg h, if_pos (by simp [h])];have := zcQ l q 12 (by decide);rw [hp] at this;exact this
set_option maxHeartbeats 8000000 in
theorem zsb {l : List Tok} (hl : TokOK l) (hE : ∀ (i : Nat) (t : Tok), l[i]? = some t -> t.kind = 0 -> t.text = []) (h0 : 0 < l.length) : Agree (zrx l ⟨0, 0, 0⟩) (zql l) := by
 unfold zrx zql;refine Agree.next (zpF hl) (fun k q1 h1 => ?_) (fun a S hb => by simp [zbq, zbD hb, zbC hb, zbk hb, zbp hb, zaX hb, zbc hb, za7 hb, zbS hb])
 have g1 := (zl6 hl h1 h0).2;rw [<- PR.zd1];refine Agree.next (zlN hl g1 _ _ _ _) (fun period q2 h2 => ?_) (fun a S hb => by simp [zbq, zbD hb, zbC hb, zbk hb, zbp hb, zaX hb, zbc hb, za7 hb, zbS hb])
 obtain ⟨_, m2, k2, k2'⟩ := PR.zaC h2;have m2' : m2 = q1 := by unfold zgt at k2; split at k2 <;> cases k2; rfl
 subst m2';have g2 := (zb0 hl k2' g1).2;rw [<- PR.zd1];refine Agree.next (zlN hl g2 _ _ _ _) (fun last q3 h3 => ?_) (fun a S hb => by simp [zbq, zbD hb, zbC hb, zbk hb, zbp hb, zaX hb, zbc hb, za7 hb, zbS hb])
 obtain ⟨_, m3, k3, k3'⟩ := PR.zaC h3;have m3' : m3 = q2 := by unfold zgt at k3; split at k3 <;> cases k3; rfl
 subst m3';have g3 := (zb0 hl k3' g2).2;refine Agree.next (zew hl g3 _ _ _ _) (fun grace q4 h4 => ?_) (fun a S hb => by simp [zbq, zbD hb, zbC hb, zbk hb, zbp hb, zaX hb, zbc hb, za7 hb, zbS hb])
 have g4 := (zb0 hl h4 g3).2;refine Agree.next (zew hl g4 _ _ _ _) (fun wait q5 h5 => ?_) (fun a S hb => by simp [zbq, zbD hb, zbC hb, zbk hb, zbp hb, zaX hb, zbc hb, za7 hb, zbS hb])
 have g5 := (zb0 hl h5 g4).2;refine Agree.next (zn3 hl) (fun order q6 h6 => ?_) (fun a S hb => by simp [zbq, zbD hb, zbC hb, zbk hb, zbp hb, zaX hb, zbc hb, za7 hb, zbS hb])
 have g6 := (zj5 hl h6 g5).2;refine Agree.next (zew hl g6 _ _ _ _) (fun backs q7 h7 => ?_) (fun a S hb => by simp [zbq, zbD hb, zbC hb, zbk hb, zbp hb, zaX hb, zbc hb, za7 hb, zbS hb])
 have g7 := (zb0 hl h7 g6).2;refine Agree.next (zew hl g7 _ _ _ _) (fun voices q8 h8 => ?_) (fun a S hb => by simp [zbq, zbD hb, zbC hb, zbk hb, zbp hb, zaX hb, zbc hb, za7 hb, zbS hb])
 have g8 := (zb0 hl h8 g7).2;refine Agree.next (zew hl g8 _ _ _ _) (fun jury q9 h9 => ?_) (fun a S hb => by simp [zbq, zbD hb, zbC hb, zbk hb, zbp hb, zaX hb, zbc hb, za7 hb, zbS hb])
 have g9 := (zb0 hl h9 g8).2;refine Agree.next (zew hl g9 _ _ _ _) (fun fund q10 h10 => ?_) (fun a S hb => by simp [zbq, zbD hb, zbC hb, zbk hb, zbp hb, zaX hb, zbc hb, za7 hb, zbS hb])
 have g10 := (zb0 hl h10 g9).2;refine Agree.next (zlP hl hE 21 _ [] g10 (by simp) (by simp)) (fun lets q11 h11 => ?_) (fun a S hb => by simp [zbq, zbD hb, zbC hb, zbk hb, zbp hb, zaX hb, zbc hb, za7 hb, zbS hb])
 have g11 := (zl1 hl _ _ _ _ _ h11 g10).2;refine AgreeS.bind (F := fun S => zbq (zb5 l S [59]) fun due S => zbq (zbZ l S [102, 105, 110, 101]) fun fine S => zbq (zbZ l S [112, 97, 121]) fun pay S => zbq (zbZ l S [99, 111, 118, 101, 114]) fun cover S => zbq (zbZ l S [104, 111, 108, 100]) fun hold S => ((⟨k.1, period, grace, wait, last, order, k.2, backs, voices, jury, fund, lets, due, fine, pay, cover, hold⟩ : By), zrt l S)) (zdp l q11 [100, 117, 101]) (fun r hr => ?_) (fun hb => by simp [zbq, zbc hb, za7 hb, zbS hb]);have gr := (zaJ hl _ hr g11).2;refine Agree.next (zhe hl hE gr) (fun due q12 h12 => ?_) (fun a S hb => by simp [zbq, zbD hb, zbC hb, zbk hb, zbp hb, zaX hb, zbc hb, za7 hb, zbS hb])
 have g12 := (zdL hl h12 gr).2;refine Agree.next (zfn hl hE _) (fun fine q13 h13 => ?_) (fun a S hb => by simp [zbq, zbD hb, zbC hb, zbk hb, zbp hb, zaX hb, zbc hb, za7 hb, zbS hb])
 have g13 := (zcI hl h13 g12).2;refine Agree.next (zfn hl hE _) (fun pay q14 h14 => ?_) (fun a S hb => by simp [zbq, zbD hb, zbC hb, zbk hb, zbp hb, zaX hb, zbc hb, za7 hb, zbS hb])
 have g14 := (zcI hl h14 g13).2;refine Agree.next (zfn hl hE _) (fun cover q15 h15 => ?_) (fun a S hb => by simp [zbq, zbD hb, zbC hb, zbk hb, zbp hb, zaX hb, zbc hb, za7 hb, zbS hb])
 have g15 := (zcI hl h15 g14).2;refine Agree.next (zfn hl hE _) (fun hold q16 h16 => ?_) (fun a S hb => by simp [zbq, zbD hb, zbC hb, zbk hb, zbp hb, zaX hb, zbc hb, za7 hb, zbS hb])
 have g16 := (zcI hl h16 g15).2;exact AgreeS.bind (F := fun S => ((⟨k.1, period, grace, wait, last, order, k.2, backs, voices, jury, fund, lets, due, fine, pay, cover, hold⟩ : By), S)) (zq7 g16) (fun q hq => rfl) (fun _ => rfl)
end Go.Proofs.YthnemhfamhnfjaaGreatDoor
namespace Go.Proofs.YthnemhfamhnfjaaGreatDoor
open Go Go.VL
theorem zkb {l : List Tok} (hl : TokOK l) {S : RS} (hv : VS l S) (h : (zbw l S).kind ≠ 0) : ∃ q, S = ⟨q, 0, 0⟩ /\ q + 1 < l.length := by
 rcases hv.ways with hb | ⟨q, rfl, hq⟩
 ·rw [ziS hb] at h; exact absurd rfl h
 ·obtain ⟨t, ht⟩ : ∃ t, l[q]? = some t := ⟨_, List.getElem?_eq_getElem hq⟩;rw [zbG ht] at h;exact ⟨q, rfl, hl.fin q t ht h⟩
theorem zqS {l : List Tok} (hl : TokOK l) {S : RS} (hv : VS l S) (h : (zbw l S).kind ≠ 0) : VS l S.adv := by
 obtain ⟨q, rfl, hq⟩ := zkb hl hv h;exact .inr ⟨rfl, rfl, hq⟩
theorem zdO {l : List Tok} {S : RS} {e : Int} (he : e ≠ 0) : VS l (zbm l S e) := (zo0 e he).vs
theorem zqJ {l : List Tok} (hl : TokOK l) {S : RS} (hv : VS l S) (a b : Int) : VS l (zps l S a b).2 := by
 unfold zps;split
 ·rename_i h;split
  ·exact zdO (by decide)
  ·exact zqS hl hv (by omega)
 ·exact zdO (by decide)
theorem zlK {l : List Tok} (hl : TokOK l) : ∀ (ws : List W8) {S : RS}, VS l S -> VS l (zeM l S ws)
 | [], S, h => h
 | w :: ws, S, h => zlK hl ws (zbz hl h w).vs
theorem ze1 {l : List Tok} (hl : TokOK l) {S : RS} (hv : VS l S) (w : W8) (m : Bool) (a b u : Int) : VS l (zcW l S w m a b u).2 := by
 unfold zcW;split
 ·rename_i h;exact zlK hl _ (zqJ hl (zb6 hl hv h).vs a b)
 ·cases m
  ·exact hv
  ·exact zdO (by decide)
theorem zoZ {l : List Tok} (hl : TokOK l) (hE : zcJ l) {S : RS} (hv : VS l S) : VS l (zdj l S).2 := (zfb hl hE hv (by omega) (by omega) (fun _ => by simp; omega)).vs
theorem zgW {l : List Tok} (hl : TokOK l) (hE : zcJ l) {S : RS} (hv : VS l S) (w : W8) : VS l (zb5 l S w).2 := by
 have h := zoZ hl hE hv;unfold zb5;split
 ·exact h
 ·split
  ·exact zdO (by decide)
  ·rename_i h1;split
   ·exact zdO (by decide)
   ·split
    ·rename_i h2;have h3 : isR l (zdj l S).2 w = true := by
      cases hb : isR l (zdj l S).2 w with
      | true => rfl
      | false => exact absurd (.inr ⟨h2, hb⟩) h1
     exact (zb6 hl h h3).vs
    ·exact h
theorem zge {l : List Tok} (hl : TokOK l) (hE : zcJ l) {S : RS} (hv : VS l S) (w : W8) : VS l (zbZ l S w).2 := by
 unfold zbZ;split
 ·rename_i h; exact zgW hl hE (zb6 hl hv h).vs _
 ·exact hv
theorem zp6 {l : List Tok} (hl : TokOK l) (hE : zcJ l) (hll : l.length <= 2001) {S : RS} (hv : VS l S) : (zdj l S).2.err ≠ 0 \/ (zdj l S).1.lev <= 1000000000 := by
 rcases hv.ways with hb | ⟨q, rfl, hq⟩
 ·rw [zjI hb]; exact .inl hb
 ·rcases (ziD hl hE hq).ways with ⟨a, r, h1, x1⟩ | ⟨pos, e, h1, x1, x2⟩
  ·rw [x1];have hlev := (zfZ (l := l) _).1 _ _ _ _ h1;have h2 : ((4 * l.length + 3 : Nat) : Int) * ((4 * l.length + 3 : Nat) : Int) <= 8007 * 8007 := Int.mul_le_mul (by omega) (by omega) (by omega) (by omega);exact .inr (by show a.lev <= _; omega)
  ·exact .inl x1
end Go.Proofs.YthnemhfamhnfjaaGreatDoor
namespace Go.Proofs.YthnemhfamhnfjaaGreatDoor
open Go Go.VL
theorem znp {l : List Tok} (S : RS) (e f : Int) (he : e ≠ 0) : zbm l (zbm l S e) f = zbm l S e := by
 refine zg8 ?_ f;unfold zbm;by_cases h : S.err = 0
 ·rw [if_pos h]; exact he
 ·rw [if_neg h]; exact h
theorem zga {l : List Tok} (S : RS) {e : Int} (he : e ≠ 0) : (zbm l S e).err ≠ 0 := by
 unfold zbm;by_cases h : S.err = 0
 ·rw [if_pos h]; exact he
 ·rw [if_neg h]; exact h
def zhN (l : List Tok) (T : RS) (w : W8) (acc : List Let) (k : Nat) : RS := if ((acc.take k).any fun x => decide (x.name = w)) = true then zbm l T 5 else T
theorem zhC {l T w acc} : zhN l T w acc 0 = T := by simp [zhN]
theorem zqc {l T w} {acc : List Let} {k : Nat} {x : Let} (h : acc[k]? = some x) (hx : x.name = w) : zhN l T w acc (k + 1) = zbm l (zhN l T w acc k) 5 := by
 have h1 : zhN l T w acc (k + 1) = zbm l T 5 := by rw [zhN, List.take_add_one, h]; simp [hx]
 rw [h1];unfold zhN;split
 ·rw [znp T 5 5 (by decide)]
 ·rfl
theorem zo6 {l T w} {acc : List Let} {k : Nat} {x : Let} (h : acc[k]? = some x) (hx : ¬ x.name = w) : zhN l T w acc (k + 1) = zhN l T w acc k := by
 unfold zhN;rw [List.take_add_one, h];simp [hx]
theorem zo5 {l : List Tok} {T : RS} (hT : VS l T) (w : W8) (acc : List Let) (k : Nat) : VS l (zhN l T w acc k) := by
 unfold zhN;split
 ·exact zdO (by decide)
 ·exact hT
end Go.Proofs.YthnemhfamhnfjaaGreatDoor
namespace Go.Proofs.YthnemhfamhnfjaaGreatDoor
open Go Go.VL
theorem zrh {l : List Tok} (hl : TokOK l) {S : RS} (hv : VS l S) : VS l (ziX l S).2 := by
 have h0 := (zbz hl hv [99, 105, 114, 99, 108, 101]).vs;unfold ziX;simp only;split
 ·rename_i h; exact (zbz hl (zb6 hl h0 h).vs _).vs
 ·split
  ·rename_i h;have h1 := (zb6 hl h0 h).vs;split
   ·rename_i h2; exact (zbz hl (zb6 hl h1 h2).vs _).vs
   ·exact (zbz hl h1 _).vs
  ·exact (zbz hl (zbz hl h0 _).vs _).vs
theorem zpM {l : List Tok} (hl : TokOK l) {S : RS} (hv : VS l S) : VS l (zf0 l S).2 := by
 unfold zf0;split
 ·rename_i h;have h1 := (zb6 hl hv h).vs;split
  ·rename_i h2; exact (zbz hl (zb6 hl h1 h2).vs _).vs
  ·split
   ·rename_i h2; exact (zbz hl (zb6 hl h1 h2).vs _).vs
   ·exact (zbz hl (zbz hl h1 _).vs _).vs
 ·exact hv
theorem zoC {l : List Tok} (hl : TokOK l) (hE : zcJ l) : ∀ (n : Nat) {S : RS} (acc : List Let), VS l S -> VS l (zfD l n S acc).2
 | 0, S, acc, h => h
 | n + 1, S, acc, h => by
  rw [zfD];split
  ·rename_i hb;have h1 := (zb6 hl h hb).vs;split
   ·exact zdO (by decide)
   ·have hL : VS l (zls l acc S.adv) /\ ((zls l acc S.adv).err = 0 -> zls l acc S.adv = S.adv /\ (zbw l S.adv).kind = 1) := by
     unfold zls;simp only;by_cases c1 : (zbw l S.adv).kind = 1 /\ zb3 (zbw l S.adv).text = true
     ·rw [if_pos c1];split
      ·exact ⟨zdO (by decide), fun h => absurd h (zga _ (by decide))⟩
      ·exact ⟨h1, fun _ => ⟨rfl, c1.1⟩⟩
     ·rw [if_neg c1];split
      ·exact ⟨zdO (by decide), fun h => absurd h (zga _ (by decide))⟩
      ·exact ⟨zdO (by decide), fun h => absurd h (zga _ (by decide))⟩
    split
    ·exact hL.1
    ·rename_i hc;obtain ⟨e1, e2⟩ := hL.2 (by omega);rw [e1];exact zoC hl hE n _ (zgW hl hE (zbz hl (zqS hl h1 (by omega)) _).vs _)
  ·exact h
end Go.Proofs.YthnemhfamhnfjaaGreatDoor
namespace Go.Proofs.YthnemhfamhnfjaaGreatDoor
open Go Go.VL
theorem ze8 : ∀ ws : List W8, (zbU ws).length <= (ws.map fun w => w.length + 1).sum
 | [] => by simp [zbU, spW, zlx]
 | [w] => by rw [zbh]; simp
 | w :: v :: l => by rw [zbr]; have := ze8 (v :: l); simp at this ⊢; omega
theorem zdh {w : W8} {n : Int} {ws : List W8} (h0 : 0 <= n) (h1 : n <= 1099511627776) (h : w.length + (ws.map fun w => w.length + 1).sum <= 80) : (zcj w n ws).length <= 100 := by
 rw [zcj];split
 ·simp
 ·have h2 := ziZ h0 h1;have h3 := ze8 (w :: Lib.itoa n :: ws);rw [zca];simp at h3 ⊢;omega
theorem zdQ {w : W8} {e : Exp} (hw : w.length <= 20) (h : zaP 12 e = true) : (clauseT w e).length <= 60000000 := by
 rw [clauseT];split
 ·simp
 ·have := zcE h (Nat.le_refl _) 0;rw [zkf];omega
def zlu (b : By) : W8 := zca (if b.sld = true then [[99, 105, 114, 99, 108, 101], [98, 105, 100, 100, 105, 110, 103], [115, 101, 97, 108, 101, 100]] else [[99, 105, 114, 99, 108, 101], if b.kind = 0 then [114, 111, 116, 97, 116, 105, 110, 103] else if b.kind = 1 then [98, 105, 100, 100, 105, 110, 103] else [115, 97, 118, 105, 110, 103]])
def zj4 (o : Int) : W8 := if o = 0 then [] else zca [[111, 114, 100, 101, 114], ordersW.getD o.toNat []]
def zrf (l : Let) : W8 := zca [[108, 101, 116], l.name, [61], txt l.body 0]
def zgS (L : List Let) : W8 := (L.map zrf).flatten
noncomputable def textP (b : By) : W8 := zlu b ++ zcj [112, 101, 114, 105, 111, 100] b.period [[100, 97, 121, 115]] ++ zcj [108, 97, 115, 116] b.last [] ++ zcj [103, 114, 97, 99, 101] b.grace [[100, 97, 121, 115]] ++ zcj [119, 97, 105, 116] b.wait [[100, 97, 121, 115]] ++ zj4 b.order ++
 zcj [98, 97, 99, 107, 115] b.backs [] ++ zcj [118, 111, 105, 99, 101, 115] b.voices [[112, 101, 114], [109, 105, 108, 108, 101]] ++ zcj [106, 117, 114, 121] b.jury [] ++ zcj [102, 117, 110, 100] b.fund [[112, 101, 114], [109, 105, 108, 108, 101]] ++ zgS b.lets ++
 clauseT [100, 117, 101] b.due ++ clauseT [102, 105, 110, 101] b.fine ++ clauseT [112, 97, 121] b.pay ++ clauseT [99, 111, 118, 101, 114] b.cover ++ clauseT [104, 111, 108, 100] b.hold
noncomputable def printB (b : By) : W8 × Int := if zeY b = true then (if 2000 < (textP b).length then ([], 6) else (textP b, 0)) else ([], 1)
theorem zki : ∀ (seen L : List Let), zhS seen L = true -> ∀ l ∈ L, zb3 l.name = true /\ zaP 12 l.body = true
 | _, [], _, l, hl => by cases hl
 | seen, x :: r, h, l, hl => by
  rw [zhS] at h;simp only [Bool.and_eq_true] at h;rcases List.mem_cons.1 hl with rfl | hl
  ·exact ⟨h.1.1.1, h.1.1.2⟩
  ·exact zki _ r h.2 l hl
theorem zl2 {l : Let} (hn : zb3 l.name = true) (h : zaP 12 l.body = true) : (zrf l).length <= 60000000 := by
 have h1 := ze8 [[108, 101, 116], l.name, [61], txt l.body 0];have h2 := zcE h (Nat.le_refl _) 0;have h3 := ziT hn;rw [zrf, zca];simp at h1 ⊢;omega
theorem zkg : ∀ (L : List Let), (∀ l ∈ L, zb3 l.name = true /\ zaP 12 l.body = true) -> (zgS L).length <= L.length * 60000000
 | [], _ => by simp [zgS]
 | l :: r, h => by
  have h1 := zkg r fun x hx => h x (by simp [hx]);have h2 := zl2 (h l (by simp)).1 (h l (by simp)).2;simp only [zgS, List.map_cons, List.flatten_cons, List.length_append, List.length_cons] at h1 ⊢;omega
theorem zm8 {L : List Let} {i : Nat} {l : Let} (h : L[i]? = some l) : zgS (L.take (i + 1)) = zgS (L.take i) ++ zrf l := by
 obtain ⟨hi, rfl⟩ := lGE.1 h;rw [List.take_succ_eq_append_getElem hi, zgS, List.map_append, List.flatten_append];simp [zgS]
theorem zln {P : Program} {f : FuncId} {a c e : D} {obs nx post} (h : RetX P f [a, c, .u (.sl []), e] obs nx post) : RetX P f [a, c, .u .nil, e] obs nx post := by
 intro k own w vs hsat hhdr hown hrep;refine h k own w vs hsat hhdr hown ⟨hrep.1, fun j d hj => ?_⟩
 match j, hj with
 | 0, hj => exact hrep.2 0 d hj
 | 1, hj => exact hrep.2 1 d hj
 | 2, hj =>
  cases hj;have := zc4 (hrep.2 2 (.u .nil) rfl);rw [this];exact .u _ _ (.slE none 0 fun _ => rfl)
 | 3, hj => exact hrep.2 3 d hj
end Go.Proofs.YthnemhfamhnfjaaGreatDoor
namespace Go.Proofs.YthnemhfamhnfjaaGreatDoor
open Go Go.VL
mutual
def zr3 : Exp -> Int
 | .mk _ _ _ _ args => zoB args + 1
def zoB : List Exp -> Int
 | [] => 0
 | e :: l => max (zr3 e) (zoB l)
end
theorem zhW (l : List Int) (a : Int) (ha : 0 <= a) : l.foldl max a = max a (l.foldl max 0) := by
 induction l generalizing a with
 | nil => simp; omega
 | cons b l ih => simp only [List.foldl_cons]; rw [ih (max a b) (by omega), ih (max 0 b) (by omega)]; omega
mutual
theorem zlr : ∀ e : Exp, zr3 e = e.lev
 | .mk op n u s args => by rw [zr3, Exp.zfj, zlZ]; rfl
theorem zlZ : ∀ l : List Exp, zoB l = (l.map Exp.lev).foldl max 0
 | [] => by rw [zoB]; rfl
 | e :: l => by
  have := e.lev_pos;rw [zoB, zlr, zlZ, List.map_cons, List.foldl_cons, zhW (l.map Exp.lev) (max 0 e.lev) (by omega)];omega
end
def zj0 (s : List UInt8) : Exp × Int × Int := match zhM s with
 | .error (p, e) => (zcK, p, e)
 | .ok l => match zdZ l (4 * l.length + 3) 0 0 with
  | .stop pos e => (zcK, pos, e)
  | .ok y q => if zhv l q ≠ 0 then (zcK, zbL l q, 12) else if 12 < zr3 y then (zcK, zbL l q, 6) else (y, 0, 0)
theorem zof (s : List UInt8) : zcN s = zj0 s := by
 unfold zcN zj0;simp only [zlr]
 try rfl
def zjp (l : List Tok) (p : Nat) : PR Exp := (zdZ l (4 * l.length + 3) p 0).bind fun e q =>
 if isB l q [59] = true then if zr3 e <= 12 then .ok e (q + 1) else .stop (zbL l q) 6 else .stop (zbL l q) 12
def zpW (l : List Tok) : Nat -> Nat -> List Let -> PR (List Let)
 | 0, _, _ => .stop 0 0
 | f + 1, p, acc => if isB l p [108, 101, 116] = true then
   if acc.length < 20 then match l[p + 1]? with
    | none => .stop 0 0
    | some t => if t.kind = 1 ∧ zb3 t.text = true then
          if (acc.any fun x => decide (x.name = t.text)) = true then .stop t.pos 5
          else (zbd l (p + 2) [[61]]).bind fun _ q => (zjp l q).bind fun e r => zpW l f r (acc ++ [⟨t.text, e⟩])
     else .stop t.pos 12
   else .stop (zbL l p) 6
  else .ok acc p
def zgB (l : List Tok) (p : Nat) (word : W8) : PR Exp := if isB l p word = true then zjp l (p + 1) else .ok nothingE p
def zsW (l : List Tok) : PR By :=
 (zhu l 0).bind fun k p => (zgt l p [112, 101, 114, 105, 111, 100]).bind fun _ p => (zdr l p [112, 101, 114, 105, 111, 100] 1 1000 [[100, 97, 121, 115], [59]]).bind fun period p =>
 (zgt l p [108, 97, 115, 116]).bind fun _ p => (zdr l p [108, 97, 115, 116] 1 1000 [[59]]).bind fun last p =>
 (zdr l p [103, 114, 97, 99, 101] 0 1000 [[100, 97, 121, 115], [59]]).bind fun grace p => (zdr l p [119, 97, 105, 116] 0 1000 [[100, 97, 121, 115], [59]]).bind fun wait p =>
 (ze3 l p).bind fun order p => (zdr l p [98, 97, 99, 107, 115] 0 60 [[59]]).bind fun backs p => (zdr l p [118, 111, 105, 99, 101, 115] 0 1000 [[112, 101, 114], [109, 105, 108, 108, 101], [59]]).bind fun voices p =>
 (zdr l p [106, 117, 114, 121] 0 60 [[59]]).bind fun jury p => (zdr l p [102, 117, 110, 100] 0 1000 [[112, 101, 114], [109, 105, 108, 108, 101], [59]]).bind fun fund p =>
 (zpW l 21 p []).bind fun lets p => (zbd l p [[100, 117, 101]]).bind fun _ p => (zjp l p).bind fun due p =>
 (zgB l p [102, 105, 110, 101]).bind fun fine p => (zgB l p [112, 97, 121]).bind fun pay p => (zgB l p [99, 111, 118, 101, 114]).bind fun cover p => (zgB l p [104, 111, 108, 100]).bind fun hold p =>
 (zo2 l p).bind fun _ p => .ok ⟨k.1, period, grace, wait, last, order, k.2, backs, voices, jury, fund, lets, due, fine, pay, cover, hold⟩ p
theorem zhb : zdu = zjp := by
 funext l p;unfold zdu zjp;simp only [zlr]
theorem zl0 (l : List Tok) : ∀ f p acc, zeQ l f p acc = zpW l f p acc
 | 0, p, acc => rfl
 | f + 1, p, acc => by
  rw [zeQ, zpW, zhb];simp only [zl0 l f]
  try rfl
theorem znw : zdt = zgB := by
 funext l p w;unfold zdt zgB;rw [zhb]
theorem zrw (l : List Tok) : zql l = zsW l := by
 unfold zql zsW;rw [zhb, znw];simp only [zl0]
def zh5 (s : W8) : By × Int × Int := match zhM s with
 | .error (p, e) => (zeL, p, e)
 | .ok l => match zsW l with
  | .stop pos e => (zeL, pos, e)
  | .ok b _ => (b, 0, 0)
theorem zog (s : W8) : zdX s = zh5 s := by
 unfold zdX zh5;simp only [zrw]
 try rfl
end Go.Proofs.YthnemhfamhnfjaaGreatDoor
namespace Go.Proofs.YthnemhfamhnfjaaGreatDoor
open Go Go.VL
def eA : Exp := .mk 3 0 0 [] [.mk 1 0 0 [112, 111, 116] [], .mk 4 0 0 [] [.mk 1 0 0 [112, 97, 105, 100] [], .mk 0 50 4 [] []]]
def eS : Exp := .mk 2 0 0 [] [.mk 0 5 3 [] [], .mk 1 0 0 [112, 111, 116] []]
def eM : Exp := .mk 4 0 0 [] [.mk 0 3 1 [] [], eS]
def bB : By := ⟨2, 7, 0, 0, 10, 0, false, 0, 0, 0, 0, [], .mk 0 100 3 [] [], nothingE, nothingE, nothingE, nothingE⟩
theorem pv1 : zj0 [112, 111, 116, 45, 112, 97, 105, 100, 42, 53, 48, 32, 112, 101, 114, 32, 109, 105, 108, 108, 101] = (eA, 0, 0) := by kernel_rfl
theorem pv2 : (zj0 [49, 32, 99, 111, 105, 110, 115, 32, 50]) = (zcK, 8, 12) := by kernel_rfl
theorem pv3 : zh5 [99, 105, 114, 99, 108, 101, 32, 115, 97, 118, 105, 110, 103, 59, 112, 101, 114, 105, 111, 100, 32, 55, 32, 100, 97, 121, 115, 59, 108, 97, 115, 116, 32, 49, 48, 59, 103, 114, 97, 99, 101, 32, 48, 32, 100, 97, 121, 115, 59, 100, 117, 101, 32, 49, 48, 48, 32, 99, 111, 105, 110, 115, 59] = (bB, 0, 0) := by kernel_rfl
theorem pv4 : zh5 [99, 105, 114, 99, 108, 101, 32, 115, 97, 118, 105, 110, 103, 59, 112, 101, 114, 105, 111, 100, 32, 48, 32, 100, 97, 121, 115, 59] = (zeL, 21, 3) := by kernel_rfl
theorem pv5 : zh5 [99, 105, 114, 99, 108, 101, 32, 115, 101, 97, 108, 101, 100, 59] = (zeL, 7, 12) := by kernel_rfl
theorem zrR (n : Nat) (h : n < 10) : Lib.decDigits n = [UInt8.ofNat (48 + n)] := by rw [Lib.decDigits, dif_pos h]
theorem zsv (n : Nat) (h : ¬ n < 10) : Lib.decDigits n = Lib.decDigits (n / 10) ++ [UInt8.ofNat (48 + n % 10)] := by rw [Lib.decDigits, dif_neg h]
theorem it3 : Lib.itoa 3 = [51] := by rw [Lib.itoa, if_neg (by decide)]; show Lib.decDigits 3 = _; rw [zrR 3 (by decide)]; rfl
theorem it5 : Lib.itoa 5 = [53] := by rw [Lib.itoa, if_neg (by decide)]; show Lib.decDigits 5 = _; rw [zrR 5 (by decide)]; rfl
theorem it7 : Lib.itoa 7 = [55] := by rw [Lib.itoa, if_neg (by decide)]; show Lib.decDigits 7 = _; rw [zrR 7 (by decide)]; rfl
theorem ztR : Lib.itoa 10 = [49, 48] := by rw [Lib.itoa, if_neg (by decide)]; show Lib.decDigits 10 = _; rw [zsv 10 (by decide), zrR (10 / 10) (by decide)]; rfl
theorem ztQ : Lib.itoa 50 = [53, 48] := by rw [Lib.itoa, if_neg (by decide)]; show Lib.decDigits 50 = _; rw [zsv 50 (by decide), zrR (50 / 10) (by decide)]; rfl
theorem zsC : Lib.itoa 100 = [49, 48, 48] := by rw [Lib.itoa, if_neg (by decide)]; show Lib.decDigits 100 = _; rw [zsv 100 (by decide), zsv (100 / 10) (by decide), zrR (100 / 10 / 10) (by decide)]; rfl
theorem ziw (s : W8) {least : Int} (h : least <= 7) : txt (.mk 1 0 0 s []) least = s := by
 rw [zda (by show ¬ (7 : Int) < least; omega), zcc, zfM, if_neg (by decide), if_pos rfl, zbh]
theorem ziv (n u : Int) {least : Int} (h : least <= 7) : txt (.mk 0 n u [] []) least = zbU (zgR n u) := by
 rw [zda (by show ¬ (7 : Int) < least; omega), zcc, zfM, if_pos rfl]
theorem tA : txt eA 0 = [112, 111, 116, 32, 45, 32, 112, 97, 105, 100, 32, 42, 32, 53, 48, 32, 112, 101, 114, 32, 109, 105, 108, 108, 101] := by
 have h1 := zft (d := 11) (a := .mk 1 0 0 [112, 97, 105, 100] []) (b := .mk 0 50 4 [] []) (o := ⟨[42], 4, 6⟩) (by simp [oprs]) (by kernel_rfl) (by kernel_rfl);have h2 := zft (d := 11) (a := .mk 1 0 0 [112, 111, 116] []) (b := .mk 4 0 0 [] [.mk 1 0 0 [112, 97, 105, 100] [], .mk 0 50 4 [] []]) (o := ⟨[45], 3, 5⟩) (by simp [oprs]) (by kernel_rfl) (by kernel_rfl);have e : txt eA 0 = zbU (zcc eA) := zda (by show ¬ (5 : Int) < 0; decide);rw [e];refine Eq.trans h2 ?_;rw [ziw _ (by decide)];have e2 : txt (.mk 4 0 0 [] [.mk 1 0 0 [112, 97, 105, 100] [], .mk 0 50 4 [] []]) (5 + 1) = zbU (zcc (.mk 4 0 0 [] [.mk 1 0 0 [112, 97, 105, 100] [], .mk 0 50 4 [] []])) := zda (by show ¬ (6 : Int) < 5 + 1; decide);rw [e2];have e3 : zbU (zcc (.mk 4 0 0 [] [.mk 1 0 0 [112, 97, 105, 100] [], .mk 0 50 4 [] []])) = _ := h1;rw [e3, ziw _ (by decide), ziv _ _ (by decide), zgR, if_neg (by decide), if_neg (by decide), if_neg (by decide), if_pos (by decide), ztQ];rfl
theorem tM : txt eM 0 = [51, 32, 42, 32, 40, 32, 53, 32, 99, 111, 105, 110, 115, 32, 43, 32, 112, 111, 116, 32, 41] := by
 have h1 := zft (d := 11) (a := .mk 0 5 3 [] []) (b := .mk 1 0 0 [112, 111, 116] []) (o := ⟨[43], 2, 5⟩) (by simp [oprs]) (by kernel_rfl) (by kernel_rfl);have h2 := zft (d := 11) (a := .mk 0 3 1 [] []) (b := eS) (o := ⟨[42], 4, 6⟩) (by simp [oprs]) (by kernel_rfl) (by kernel_rfl);have e : txt eM 0 = zbU (zcc eM) := zda (by show ¬ (6 : Int) < 0; decide);rw [e];refine Eq.trans h2 ?_;have e2 : txt eS (6 + 1) = [40, 32] ++ zbU (zcc eS) ++ [32, 41] := zgX (d := 11) (by kernel_rfl) (by show (5 : Int) < 6 + 1; decide);have e3 : zbU (zcc eS) = _ := h1;rw [e2, e3, ziv _ _ (by decide), ziv _ _ (by decide), ziw _ (by decide), zgR, if_neg (by decide), if_neg (by decide), if_neg (by decide), if_neg (by decide), zgR, if_neg (by decide), if_pos (by decide), it3, it5];rfl
theorem ztJ : txt (.mk 0 100 3 [] []) 0 = [49, 48, 48, 32, 99, 111, 105, 110, 115] := by
 rw [ziv _ _ (by decide), zgR, if_neg (by decide), if_pos (by decide), zsC];rfl
theorem tB : textP bB = [99, 105, 114, 99, 108, 101, 32, 115, 97, 118, 105, 110, 103, 32, 59] ++ [10] ++ [112, 101, 114, 105, 111, 100, 32, 55, 32, 100, 97, 121, 115, 32, 59] ++ [10] ++ [108, 97, 115, 116, 32, 49, 48, 32, 59] ++ [10] ++ [100, 117, 101, 32, 49, 48, 48, 32, 99, 111, 105, 110, 115, 32, 59] ++ [10] := by
 have hk : zlu bB = [99, 105, 114, 99, 108, 101, 32, 115, 97, 118, 105, 110, 103, 32, 59] ++ [10] := by kernel_rfl
 have hd : clauseT [100, 117, 101] bB.due = [100, 117, 101, 32, 49, 48, 48, 32, 99, 111, 105, 110, 115, 32, 59] ++ [10] := by
  rw [clauseT, if_neg (by simp)];show zca [_, txt (.mk 0 100 3 [] []) 0] = _;rw [ztJ]; kernel_rfl
 have hn : ∀ w : W8, w ≠ [100, 117, 101] -> clauseT w nothingE = [] := fun w hw => by rw [clauseT, if_pos ⟨zfc _, hw⟩]
 have h7 : zcj [112, 101, 114, 105, 111, 100] bB.period [[100, 97, 121, 115]] = [112, 101, 114, 105, 111, 100, 32, 55, 32, 100, 97, 121, 115, 32, 59] ++ [10] := by
  rw [zcj, if_neg (by decide)]; show zca [_, Lib.itoa 7, _] = _; rw [it7]; kernel_rfl
 have h10 : zcj [108, 97, 115, 116] bB.last [] = [108, 97, 115, 116, 32, 49, 48, 32, 59] ++ [10] := by
  rw [zcj, if_neg (by decide)]; show zca [_, Lib.itoa 10] = _; rw [ztR]; kernel_rfl
 have h0 : ∀ w ws, zcj w 0 ws = [] := fun w ws => by rw [zcj, if_pos rfl]
 rw [textP, hk, h7, h10, hd];rw [show bB.grace = 0 from rfl, show bB.wait = 0 from rfl, show bB.order = 0 from rfl, show bB.backs = 0 from rfl, show bB.voices = 0 from rfl, show bB.jury = 0 from rfl, show bB.fund = 0 from rfl, show bB.lets = [] from rfl, show bB.fine = nothingE from rfl, show bB.pay = nothingE from rfl, show bB.cover = nothingE from rfl, show bB.hold = nothingE from rfl];rw [h0, h0, h0, h0, h0, h0, hn _ (by decide), hn _ (by decide), hn _ (by decide), hn _ (by decide), show zj4 0 = [] from rfl, show zgS [] = [] from rfl];simp
end Go.Proofs.YthnemhfamhnfjaaGreatDoor
namespace Go.Proofs.YthnemhfamhnfjaaGreatDoor
open Go Go.VL
def zfg : Nat -> U -> U
 | 0, x => x
 | _ + 1, .nil => .sl []
 | n + 1, .sl rows => .sl (rows.map fun r => r.map (zfg n))
 | n + 1, .agg cs => .agg (cs.map (zfg n))
 | _ + 1, x => x
theorem zi7 {m : Mem} : ∀ (n : Nat) {x : U} {v : Value}, RepU m x v -> RepU m (zfg n x) v
 | 0, x, v, h => by rw [zfg]; exact h
 | n + 1, x, v, h => by
  cases h with
  | map kk ag es0 es hp b ents clock f h1 h2 h3 h4 => exact .map kk ag es0 es hp b ents clock f h1 h2 h3 h4
  | nil => rw [zfg]; exact .slE none 0 fun _ => rfl
  | int k n => exact .int k n
  | bool b => exact .bool b
  | str l => exact .str l
  | oth v => cases x' : U.oth v <;> first | (cases x'; rw [zfg] <;> first | exact .oth _ | (intros; contradiction)) | cases x'
  | slE a c h => rw [zfg]; exact .slE a c h
  | row cells off b o f h1 h2 => exact .row cells off b o f h1 h2
  | sl rows b o sz c f h1 h2 h3 h4 h5 =>
   rw [zfg];have := RepU.sl (m := m) (rows.map fun r => r.map (zfg n)) b o sz c f (by simpa using h1) h2 (fun r hr => by
    obtain ⟨r0, hr0, rfl⟩ := List.mem_map.1 hr;simpa using h3 r0 hr0) (fun i hi => h4 i (by simpa using hi)) (fun i r hi j u hj => by
    rw [List.getElem?_map] at hi;cases hc : rows[i]? with
    | none => rw [hc] at hi; cases hi
    | some r0 =>
     rw [hc] at hi; cases hi;rw [List.getElem?_map] at hj;cases hd : r0[j]? with
     | none => rw [hd] at hj; cases hj
     | some u0 => rw [hd] at hj; cases hj; exact zi7 n (h5 i r0 hc j u0 hd))
   simpa using this
  | agg cells vs h1 h2 =>
   rw [zfg];refine .agg _ vs (by simpa using h1) fun j u hj => ?_;rw [List.getElem?_map] at hj;cases hc : cells[j]? with
   | none => rw [hc] at hj; cases hj
   | some e => rw [hc] at hj; cases hj; exact zi7 n (h2 j e hc)
theorem Fun.zsq {P : Program} {f : FuncId} {us : List U} {post : D -> Prop} (n : Nat) (h : Fun P f (us.map fun u => .u (zfg n u)) post) : Fun P f (us.map .u) post := by
 intro k own w vs hsat hhdr hown hrep;refine h k own w vs hsat hhdr hown ⟨by simpa using hrep.1, fun j d hj => ?_⟩;rw [List.getElem?_map] at hj;cases hc : us[j]? with
 | none => rw [hc] at hj; cases hj
 | some u =>
  rw [hc] at hj; cases hj;have h1 := hrep.2 j (.u u) (by rw [List.getElem?_map, hc]; rfl);generalize vs.getD j undef = v at h1;cases h1 with
  | u _ _ h1 => exact .u _ _ (zi7 n h1)
theorem rA : zaP 12 eA = true := by kernel_rfl
theorem rM : zaP 12 eM = true := by kernel_rfl
theorem rS : zaP 12 eS = true := by kernel_rfl
theorem rZ : zaP 12 (.mk 1 0 0 [] []) = false := by kernel_rfl
theorem rB : zeY bB = true := by kernel_rfl
theorem rz : zeY zeL = false := by kernel_rfl
theorem nP : zb3 [112, 101, 114, 105, 111, 100] = true := by kernel_rfl
theorem nC : zb3 [99, 111, 105, 110, 115] = false := by kernel_rfl
end Go.Proofs.YthnemhfamhnfjaaGreatDoor
namespace Go.Proofs.YthnemhfamhnfjaaGreatDoor
open Go Go.VL
attribute [local simp] HS zdS zcz evPure opd uOf zaN St.put St.at getK binD binI binS binB nilD aggD zjm zkZ lookD lookR zdv Go.VL.nextD zdz zlv zk0 zid zc5 mkV zep zbT zb7 mapEff zfk zhO Key.kk shiftI arith unD convD zfC loadD cellsAt fieldAddrD fieldD indexAddrD indexD sliceD cutD lenD minmaxD nilCheckD buildD fillD zcs zd9 zf2 setAll zdC zgj zdo zkH zde St.add za8 zct rowsOf ze5 zdq zal zac zaa zbK zd4 zbo entry zcb zck valD zcB zc6 zjf zen zeo zcw zch zaE zba zbX delAll effD St.effS zeq zbM zbs zer zbN zbu zc7 zbt zbg zc8 zeb zcu zc0 zb1 zcY zcZ zaL mkD zcp zce zcg zaE zdk D.ids Op.operands Call.operands zcq makeIfD makeFuncD typeAssertD zkY zeT zeU zkV zdx IntKind.bits zdG List.take_of_length_le List.range_succ
attribute [local irreducible] V G H HD HD2 HD4 znD RetX zap Eff CallP CallV EndOK Fun Ret FinOK LoopI LoopW EndW
theorem zqr (i j q nx : Nat) (hi : i < nx) (hj : j < nx) (hq : q < nx) (hij : i ≠ j) (hiq : i ≠ q) (hjq : j ≠ q) (p e : Int) (cells : List U) :
  RetDf Tryz.prog 35 [.ptr i 0, .ptr j 0, .ptr q 0] [(i, .box [.u (.int .i64 p)]), (j, .box [.u (.int .i64 e)]), (q, .box (cells.map .u))] nx .returning
   (fun u o n => settle u = .returning /\ n = nx /\ o = [(i, .box [.u (.int .i64 p)]), (j, .box [.u (.int .i64 e)]), (q, .box (cells.map .u))]) := by
 have hne := zaw hi;have hne2 := zaw hj;have hne3 := zaw hq;have hc0 := zhJ i j nx hi hj hij p e;refine RetDf.of_body Tryz.func35 rfl (by simp) (by simp) rfl fun Γ hn => ?_;simp [entry, zld, Tryz.ntmps35];refine CallP.x2 hc0 (by simp [getK]) (by simp [getK, hij, Ne.symm hij]) hij rfl rfl (by simp) (by simp) (fun d o1 nx' hnx h => ?_) (fun ch o1 nx' hnx h => by cases h.1);obtain ⟨h1, rfl, h4⟩ := h;have h4 := h4.symm;subst h4;cases h1;simp [del, hij, Ne.symm hij, hiq, hjq, Ne.symm hiq, Ne.symm hjq]
 repeat' (first
  | (refine zai ?_; simp [hij, hiq, hjq])
  | (refine zao ?_; simp only [zap])
  | fail)
 (refine ⟨by simp, { n := _, env := [], obs := [(i, .box [.u (.int .i64 p)]), (j, .box [.u (.int .i64 e)]), (q, .box (cells.map .u))], next := nx }, (Wk.cut rfl (by simp [hn]) (by simp [wkO, zaa, getK, zab, zac, Ob.under, D.under, zad, zaf, hi, hj, hq, hne, hne2, hne3, hij, hiq, hjq, Ne.symm hij, Ne.symm hiq, Ne.symm hjq]) (by simp [wkU, zan, zaa, getK, D.under, hi, hj, hq, hne, hne2, hne3, hij, hiq, hjq, Ne.symm hij, Ne.symm hiq, Ne.symm hjq]) (by simp [wkE, zan, zaa, getK, hi, hj, hq, hne, hne2, hne3, hij, hiq, hjq, Ne.symm hij, Ne.symm hiq, Ne.symm hjq])), by simp [hn], ?_⟩; try simp)
 all_goals rfl
theorem zqs (i j q nx : Nat) (hi : i < nx) (hj : j < nx) (hq : q < nx) (hij : i ≠ j) (hiq : i ≠ q) (hjq : j ≠ q) (p e pos err : Int) :
  RetDf Tryz.prog 35 [.ptr i 0, .ptr j 0, .ptr q 0] [(i, .box [.u (.int .i64 p)]), (j, .box [.u (.int .i64 e)]), (q, zqm)] nx (.panicking (chP pos err))
   (fun u o n => settle u = .returning /\ n = nx /\ o = [(i, .box [.u (.int .i64 pos)]), (j, .box [.u (.int .i64 err)]), (q, zqm)]) := by
 have hne := zaw hi;have hne2 := zaw hj;have hne3 := zaw hq;have hc0 := zhI i j nx hi hj hij p e pos err;refine RetDf.of_body Tryz.func35 rfl (by simp) (by simp) rfl fun Γ hn => ?_;simp [entry, zld, chP, Tryz.ntmps35];refine CallP.x2 hc0 (by simp [getK]) (by simp [getK, hij, Ne.symm hij]) hij rfl rfl (by simp) (by simp) (fun d o1 nx' hnx h => ?_) (fun ch o1 nx' hnx h => by cases h.1);obtain ⟨h1, rfl, h4⟩ := h;have h4 := h4.symm;subst h4;cases h1;simp [del, hij, Ne.symm hij, hiq, hjq, Ne.symm hiq, Ne.symm hjq]
 repeat' (first
  | ((first | refine zag ?_ | refine zaj ?_ | refine zai ?_ | refine zas ?_ | fail); simp [hij, hiq, hjq])
  | fail)
 (refine ⟨by simp, { n := _, env := [], obs := [(i, .box [.u (.int .i64 pos)]), (j, .box [.u (.int .i64 err)]), (q, zqm)], next := nx }, (Wk.cut rfl (by simp [hn]) (by simp [wkO, zaa, getK, zab, zac, Ob.under, D.under, zad, zaf, hi, hj, hq, hne, hne2, hne3, hij, hiq, hjq, Ne.symm hij, Ne.symm hiq, Ne.symm hjq]) (by simp [wkU, zan, zaa, getK, D.under, hi, hj, hq, hne, hne2, hne3, hij, hiq, hjq, Ne.symm hij, Ne.symm hiq, Ne.symm hjq]) (by simp [wkE, zan, zaa, getK, hi, hj, hq, hne, hne2, hne3, hij, hiq, hjq, Ne.symm hij, Ne.symm hiq, Ne.symm hjq])), by simp [hn], ?_⟩; try simp)
 all_goals rfl
theorem zod (s : W8) : RetX Tryz.prog 10 [.u (.str s)] [] 0 (fun r o n => r = .val (zpu (zdX s))) := by
 skip
 unfold zdX;cases hlx : zhM s with
 | error pe =>
  obtain ⟨p, e⟩ := pe;have ho := fun nx => zlT s p e nx hlx;have he := (zg5 hlx).1;simp only
  (refine RetX.zdH Tryz.func10 rfl (by simp) fun Γ hn hdfr hpan hesc => ?_); simp only [entry, ziC, ziN, maC, maN, oA, Tryz.ntmps10]
  repeat' (first
  | ((first | refine zag ?_ | refine zaS rfl ?_ | refine zbJ rfl ?_ | refine zaj ?_ | refine zah ?_ | refine zai ?_ | fail); simp [he])
  | (refine za0 (hC _ (by kernel_rfl)) (hk _ ?_); clear hC hk C k; simp only [zap])
  | (refine za3 rfl (by kernel_rfl) (by first | (simp [hn]; done) | (simp [hn]; omega) | fail) fun C k hC hk => ?_; simp [he])
  | (refine zaq ?_; simp only [zap])
  | (refine CallP.okL (ho _) (by first | (simp [he, zaa, getK, zab, zac, zal, zaL, del]; done) | fail) (by rfl) (by rfl) ?_; (try simp [he, zcV, del]))
  | fail)
  refine EndW.norm ?_;simp [St.norm, zaD, zaT, zaV, zaW]
  (refine EndW.here ?_; (first | (refine EndOK.fin (.inr rfl) ?_) | (refine EndOK.fin (.inl rfl) ?_)); simp [zaA, zae, Tryz.results10]; refine FinOK.here (by simp) ?_; try simp)
  simp [zpu, zbb, zeL, zcK, Exp.op, Exp.n, Exp.unit, Exp.s, Exp.args]
 | ok l =>
  obtain ⟨hl, hl2, hl0⟩ := ziU hlx;have ho := fun nx => zol s l nx hlx;have hE := znA l hl0 hl hl2;simp only;cases hr : zql l with
  | stop pos e =>
   simp only [hr] at hE ⊢
   (refine RetX.zdH Tryz.func10 rfl (by simp) fun Γ hn hdfr hpan hesc => ?_); simp only [entry, ziC, ziN, maC, maN, oA, Tryz.ntmps10]
   rw [zdJ]
   repeat' (first
  | ((first | refine zag ?_ | refine zaj ?_ | refine zah ?_ | refine zai ?_ | fail); simp)
  | (refine zao ?_; simp only [zap])
  | (refine CallP.okL (ho _) (by first | (simp [zaa, getK, zab, zac, zal, zaL, del]; done) | fail) (by rfl) (by rfl) ?_; (try simp [zcV, del]))
  | fail)
   refine zgJ hesc hdfr rfl (by simp) ?_;have hn0 := hn;have hpan0 := hpan;intro Γ' hn hpan;simp
   repeat' (first
  | ((first | refine zag ?_ | refine zah ?_ | fail); simp)
  | (refine CallP.zeW (hE) (by first | (simp [zaa, getK, zab, zac]; done) | fail) (by rfl) (by first | assumption | (simp; done) | fail) (by rfl) (by simp) ?_; rintro ob' ⟨q', rfl⟩; refine ⟨_, Wk.refl _, ?_⟩)
  | fail)
   refine hpan _ _ ?_;refine LeaveD.of [(1, .box [.u (.int .i64 0)]), (2, .box [.u (.int .i64 0)]), (0, zqm)] (by simp [zaa, getK, zab, zac]) (zqs 1 2 0 _ (by simp) (by simp) (by simp) (by decide) (by decide) (by decide) 0 0 _ _) ?_;simp only [show Γ.base.n0 = 0 from hn0];simp [zcV, del];refine EndW.norm ?_;simp [St.norm, zaD, zaT, zaV, zaW]
   (refine EndW.here ?_; (first | (refine EndOK.fin (.inr rfl) ?_) | (refine EndOK.fin (.inl rfl) ?_)); simp [zaA, zae, Tryz.results10]; refine FinOK.here (by simp) ?_; try simp)
   simp [zpu, zbb, zeL, zcK, Exp.op, Exp.n, Exp.unit, Exp.s, Exp.args]
  | ok b q =>
   have hEx : RetX Tryz.prog 37 [.ptr 3 0] [(3, pOb l 0)] 4 (fun r o n => r = .val (.u (.agg (zbb b))) /\ o = [(3, pOb l q)] /\ n = 4) := by
    rw [hr] at hE;exact hE
   unfold zbb at hEx
   (refine RetX.zdH Tryz.func10 rfl (by simp) fun Γ hn hdfr hpan hesc => ?_); simp only [entry, ziC, ziN, maC, maN, oA, Tryz.ntmps10]
   rw [zdJ]
   repeat' (first
  | ((first | refine zag ?_ | refine zaj ?_ | refine zah ?_ | refine zai ?_ | fail); simp)
  | (refine zao ?_; simp only [zap])
  | (refine CallP.okL (ho _) (by first | (simp [zaa, getK, zab, zac, zal, zaL, del]; done) | fail) (by rfl) (by rfl) ?_; (try simp [zcV, del]))
  | fail)
   refine zgJ hesc hdfr rfl (by simp) ?_;have hn0 := hn;have hpan0 := hpan;intro Γ' hn hpan;simp
   repeat' (first
  | ((first | refine zag ?_ | refine zaj ?_ | refine zah ?_ | fail); simp [del])
  | (refine zaq ?_; simp only [zap])
  | (refine CallP.ok1 (hEx) (by first | (simp [del, zaa, getK, zab, zac]; done) | fail) (by rfl) (by rfl) ?_; (try simp [del]))
  | fail)
   refine ⟨rfl, ?_⟩;refine LeaveD.of [(1, .box [.u (.int .i64 0)]), (2, .box [.u (.int .i64 0)]), (0, .box ((zbb b).map .u))] (by simp [zaa, getK, zab, zac, zbb]) (zqr 1 2 0 _ (by simp) (by simp) (by simp) (by decide) (by decide) (by decide) 0 0 _) ?_;simp only [show Γ.base.n0 = 0 from hn0];simp [zcV, del, zbb]
   (refine EndW.here ?_; (first | (refine EndOK.fin (.inr rfl) ?_) | (refine EndOK.fin (.inl rfl) ?_)); simp [zaA, zae, Tryz.results10]; refine FinOK.here (by simp) ?_; try simp)
   simp [zpu, zbb]
theorem zjY (s : W8) : Fun Tryz.prog 10 [.u (.str s)] (· = .tup [byD (zdX s).1, .u (.int .i64 (zdX s).2.1), .u (.int .i64 (zdX s).2.2)]) := by
 unfold Fun;exact (zod s).ret (fun d o n h => by
  cases h;exact ⟨by simp [zpu, zar], rfl⟩) (fun ch o n h => by cases h)
theorem zla : ∀ (n : Nat) (e : Exp), SizeOf.sizeOf e <= n -> e.lev <= 1000000000 -> Fun Tryz.prog 101 [.u (.agg e.row)] (· = .u (.int .i64 e.lev)) := by
 skip
 intro n
 induction n with
 | zero =>
  intro e h;cases e with
  | mk op n u s args => simp only [Exp.mk.sizeOf_spec] at h; omega
 | succ n ih =>
  intro e hs he;have hx : ∀ x ∈ e.args, Fun Tryz.prog 101 [.u (.agg [.int .i64 x.op, .int .i64 x.n, .int .i64 x.unit, .str x.s, .sl (x.args.map Exp.row)])] (· = .u (.int .i64 x.lev)) := fun x hx => by
   rw [<- Exp.row_eq];refine ih x (by have := Exp.zeK hx; omega) ?_;have := (zby (e.args.map Exp.lev) 0).2 x.lev (List.mem_map.2 ⟨x, hx, rfl⟩);rw [Exp.zfj] at he;omega
  have hlb : ∀ k, ((e.args.map Exp.lev).take k).foldl max 0 <= 1000000000 := fun k => by
   rw [<- List.map_take];rw [Exp.zfj] at he;have h2 : (e.args.map Exp.lev).foldl max 0 = (e.args.drop k |>.map Exp.lev).foldl max ((e.args.take k |>.map Exp.lev).foldl max 0) := by
    rw [<- List.foldl_append, <- List.map_append, List.take_append_drop]
   have := (zby (e.args.drop k |>.map Exp.lev) ((e.args.take k |>.map Exp.lev).foldl max 0)).1;omega
  rw [Exp.row_eq, Exp.zfj];generalize hA : e.args = A at *;rw [Exp.zfj, hA] at he
  (refine Fun.of_body Tryz.func101 rfl (by simp) fun Γ hn => ?_); simp only [entry, ziC, ziN, maC, maN, oA, Tryz.ntmps101]
  refine zpl (x := 0) (j := 4) rfl rfl fun hl => ?_;simp at hl
  repeat' (first
  | ((first | refine zag ?_ | refine zaj ?_ | refine zah ?_ | refine zat ?_ | fail); simp)
  | fail)
  refine zb8 (α := { k : Nat // k <= A.length }) [1] (fun k => [(4, .u (.int .i64 k.1)), (3, .u (.int .i64 (((A.map Exp.lev).take k.1).foldl max 0)))]) (fun k => A.length - k.1) ⟨0, by omega⟩ ?_ ?_
  ·exact (Wk.env rfl rfl rfl (by simp [wkE, St.lp, zan, zaa, getK] <;> (try (intros; simp_all; done)) <;> (try (intros; omega)) <;> (try grind)))
  rintro ⟨k, hk⟩;simp [St.lp, St.only, zan, zaa, getK];rcases hy : A[k]? with _ | y
  ·have hge : A.length <= k := by simpa using hy
   have hb := hlb k;rw [List.take_of_length_le (by simpa using hge : (A.map Exp.lev).length <= k)] at hb ⊢;have hb0 := (zby (A.map Exp.lev) 0).1;generalize (A.map Exp.lev).foldl max 0 = M at *
   repeat' (first
  | ((first | refine zag ?_ | refine zaj ?_ | fail); simp [hy])
  | (refine ⟨by omega, ?_⟩)
  | ((first | refine zah ?_ | refine zai ?_ | fail); simp [hy])
  | (refine zaq ?_; simp only [zap])
  | (refine za9 ?_; simp [zap])
  | (intro hc <;> (try (exfalso; omega)))
  | fail)
   (refine EndOK.val (.inr rfl) ?_; simp [zaA, zae, zar, Tryz.results101])
  ·have hlt : k < A.length := (lGE.1 hy).1;have hfn := hx y (List.mem_of_getElem? hy);have ht : ((A.map Exp.lev).take (k + 1)).foldl max 0 = max (((A.map Exp.lev).take k).foldl max 0) y.lev := by
    rw [List.take_add_one, List.getElem?_map, hy];simp
   have hb := hlb (k + 1);rw [ht] at hb;have hb0 := (zby ((A.map Exp.lev).take k) 0).1;generalize hM : ((A.map Exp.lev).take k).foldl max 0 = M at *;have hyp := y.lev_pos
   repeat' (first
  | ((first | refine zag ?_ | refine zaj ?_ | fail); simp [hy, Exp.row_eq])
  | (refine ⟨by omega, ?_⟩)
  | ((first | refine zah ?_ | refine zai ?_ | refine zas ?_ | fail); simp [hy, Exp.row_eq])
  | (refine zao ?_; simp only [zap])
  | (refine ⟨?_, by omega⟩)
  | (intro hc <;> (try (exfalso; omega)))
  | (refine CallP.fE (hfn) (by first | rfl | fail) (by first | simp [hy, Exp.row_eq] <;> rfl | fail) ?_; (try simp [hy, Exp.row_eq]))
  | fail)
   refine LoopW.next ⟨k + 1, hlt⟩ (by show A.length - (k + 1) < A.length - k; omega) ?_
   exact (Wk.cut rfl (by simp [hn, St.lp]) (by simp [wkO, St.lp, zaa, getK, Ob.under, D.under, zad, zaf, ht]) (by simp [wkU, St.lp, zan, zaa, getK, D.under, ht]) (by simp [wkE, St.lp, zan, zaa, getK, ht] <;> (try (intros; simp_all; done)) <;> (try (intros; omega)) <;> (try grind)))
theorem zk8 (l : List Tok) (S : RS) (a b : Int) (i nx : Nat) (hi : i < nx) (hv : VS l S) (hl : TokOK l) (hll : l.length <= 2001) :
  RetX Tryz.prog 132 [.ptr i 0, .u (.int .i64 a), .u (.int .i64 b)] [(i, rOb l S)] nx (fun r o n => r = .val (.u (.int .i64 (zps l S a b).1)) /\ o = [(i, rOb l (zps l S a b).2)] /\ n = nx) := by
 skip
 have hne := zaw hi;have hnx := zcn l S hv (by omega);have h1 := fun nx' (h : nx <= nx') => zco l S 12 i nx' (by omega) hv (by omega);have h2 := fun nx' (h : nx <= nx') => zco l S 3 i nx' (by omega) hv (by omega);have hk := zkb hl hv;unfold zps;generalize zbm l S 12 = T1 at *;generalize zbm l S 3 = T2 at *;generalize zbw l S = t at *;by_cases c1 : t.kind = 2
 ·rw [if_pos c1];obtain ⟨q, rfl, hq⟩ := hk (by omega);by_cases c2 : t.n < a
  ·rw [if_pos (.inl c2)]
   ((try unfold zdw at *); unfold rOb zbf at *)
   (refine RetX.of_bodyW Tryz.func132 rfl (by simp) fun Γ hn hpan => ?_); simp only [entry, ziC, ziN, maC, maN, oA, Tryz.ntmps132]
   repeat' (first
  | ((first | refine zag ?_ | refine zaj ?_ | refine zah ?_ | refine zai ?_ | fail); simp [hne, del, c1, c2])
  | ((first | refine zaq ?_ | refine zao ?_ | fail); simp only [zap])
  | (refine CallP.fE (hnx) (by first | rfl | fail) (by first | simp [hne, del, c1, c2] <;> rfl | fail) ?_; (try simp [hne, del, c1, c2]))
  | (refine CallP.ok1 (h2 _ (by first | omega | simp <;> omega | fail)) (by first | (simp [hne, del, c1, c2, zaa, getK, zab, zac]; done) | fail) (by rfl) (by rfl) ?_; (try simp [hne, del, c1, c2]))
  | fail)
   refine EndW.norm ?_;simp [St.norm, zaD, zaT, zaV, zaW, hne, nAA]
   (refine EndW.here ?_; (first | (refine EndOK.fin (.inr rfl) ?_) | (refine EndOK.fin (.inl rfl) ?_)); simp [zaA, zae, Tryz.results132, hne, hi]; refine FinOK.cut [(i, rOb l T2)] (nx) (by simp [zaa, getK, zab, zac, Ob.under, D.under, zad, zaf, hne, hi] <;> omega) (by simp [D.under]) (by simp [hn]) ?_; try simp)
  ·by_cases c3 : b < t.n
   ·rw [if_pos (.inr c3)]
    ((try unfold zdw at *); unfold rOb zbf at *)
    (refine RetX.of_bodyW Tryz.func132 rfl (by simp) fun Γ hn hpan => ?_); simp only [entry, ziC, ziN, maC, maN, oA, Tryz.ntmps132]
    repeat' (first
  | ((first | refine zag ?_ | refine zaj ?_ | refine zah ?_ | refine zai ?_ | fail); simp [hne, del, c1, c2, c3])
  | ((first | refine zaq ?_ | refine zao ?_ | fail); simp only [zap])
  | (refine CallP.fE (hnx) (by first | rfl | fail) (by first | simp [hne, del, c1, c2, c3] <;> rfl | fail) ?_; (try simp [hne, del, c1, c2, c3]))
  | (refine CallP.ok1 (h2 _ (by first | omega | simp <;> omega | fail)) (by first | (simp [hne, del, c1, c2, c3, zaa, getK, zab, zac]; done) | fail) (by rfl) (by rfl) ?_; (try simp [hne, del, c1, c2, c3]))
  | fail)
    refine EndW.norm ?_;simp [St.norm, zaD, zaT, zaV, zaW, hne, nAA]
    (refine EndW.here ?_; (first | (refine EndOK.fin (.inr rfl) ?_) | (refine EndOK.fin (.inl rfl) ?_)); simp [zaA, zae, Tryz.results132, hne, hi]; refine FinOK.cut [(i, rOb l T2)] (nx) (by simp [zaa, getK, zab, zac, Ob.under, D.under, zad, zaf, hne, hi] <;> omega) (by simp [D.under]) (by simp [hn]) ?_; try simp)
   ·rw [if_neg (by omega)];simp only [RS.adv]
    ((try unfold zdw at *); unfold rOb zbf at *)
    (refine RetX.of_bodyW Tryz.func132 rfl (by simp) fun Γ hn hpan => ?_); simp only [entry, ziC, ziN, maC, maN, oA, Tryz.ntmps132]
    repeat' (first
  | ((first | refine zag ?_ | refine zaj ?_ | fail); simp [hne, del, c1, c2, c3])
  | (refine ⟨by omega, ?_⟩)
  | ((first | refine zah ?_ | refine zai ?_ | fail); simp [hne, del, c1, c2, c3])
  | ((first | refine zaq ?_ | refine zao ?_ | fail); simp only [zap])
  | (refine CallP.fE (hnx) (by first | rfl | fail) (by first | simp [hne, del, c1, c2, c3] <;> rfl | fail) ?_; (try simp [hne, del, c1, c2, c3]))
  | fail)
    refine EndW.norm ?_;simp [St.norm, zaD, zaT, zaV, zaW, hne, nAA]
    (refine EndW.here ?_; (first | (refine EndOK.fin (.inr rfl) ?_) | (refine EndOK.fin (.inl rfl) ?_)); simp [zaA, zae, Tryz.results132, hne, hi]; refine FinOK.cut [(i, rOb l ⟨q + 1, 0, 0⟩)] (nx) (by simp [zaa, getK, zab, zac, Ob.under, D.under, zad, zaf, hne, hi] <;> omega) (by simp [D.under]) (by simp [hn]) ?_; try simp)
 ·rw [if_neg c1]
  ((try unfold zdw at *); unfold rOb zbf at *)
  (refine RetX.of_bodyW Tryz.func132 rfl (by simp) fun Γ hn hpan => ?_); simp only [entry, ziC, ziN, maC, maN, oA, Tryz.ntmps132]
  repeat' (first
  | ((first | refine zag ?_ | refine zaj ?_ | refine zah ?_ | refine zai ?_ | fail); simp [hne, del, c1])
  | (refine zaq ?_; simp only [zap])
  | (refine CallP.fE (hnx) (by first | rfl | fail) (by first | simp [hne, del, c1] <;> rfl | fail) ?_; (try simp [hne, del, c1]))
  | (refine CallP.ok1 (h1 _ (by first | omega | simp <;> omega | fail)) (by first | (simp [hne, del, c1, zaa, getK, zab, zac]; done) | fail) (by rfl) (by rfl) ?_; (try simp [hne, del, c1]))
  | fail)
  refine EndW.norm ?_;simp [St.norm, zaD, zaT, zaV, zaW, hne, nAA]
  (refine EndW.here ?_; (first | (refine EndOK.fin (.inr rfl) ?_) | (refine EndOK.fin (.inl rfl) ?_)); simp [zaA, zae, Tryz.results132, hne, hi]; refine FinOK.cut [(i, rOb l T1)] (nx) (by simp [zaa, getK, zab, zac, Ob.under, D.under, zad, zaf, hne, hi] <;> omega) (by simp [D.under]) (by simp [hn]) ?_; try simp)
theorem zdf (l : List Tok) (S : RS) (w : W8) (m : Bool) (a b u : Int) (hu : u = 0 \/ u = 1 \/ u = 2) (i nx : Nat) (hi : i < nx) (hv : VS l S) (hl : TokOK l) (hll : l.length <= 2001) :
  RetX Tryz.prog 90 [.ptr i 0, .u (.str w), .u (.bool m), .u (.int .i64 a), .u (.int .i64 b), .u (.int .i64 u)] [(i, rOb l S)] nx (fun r o n => r = .val (.u (.int .i64 (zcW l S w m a b u).1)) /\ o = [(i, rOb l (zcW l S w m a b u).2)] /\ n = nx) := by
 have hne := zaw hi;have h0 := fun nx' (h : nx <= nx') => zbO l S w i nx' (by omega) hv (by omega);have hf := fun nx' (h : nx <= nx') => zco l S 12 i nx' (by omega) hv (by omega);rw [zcW];cases hb : isR l S w with
 | false =>
  simp only [hb, Bool.false_eq_true, if_false] at h0 ⊢;generalize zbm l S 12 = T1 at *;cases m with
  | false =>
   ((try unfold zdw at *); unfold rOb zbf at *)
   (refine RetX.of_bodyW Tryz.func90 rfl (by simp) fun Γ hn hpan => ?_); simp only [entry, ziC, ziN, maC, maN, oA, Tryz.ntmps90]
   repeat' (first
  | ((first | refine zag ?_ | refine zaj ?_ | refine zah ?_ | refine zai ?_ | fail); simp [hne, del])
  | ((first | refine zaq ?_ | refine zao ?_ | fail); simp only [zap])
  | (refine CallP.ok1 (h0 _ (by first | omega | simp <;> omega | fail)) (by first | (simp [hne, del, zaa, getK, zab, zac]; done) | fail) (by rfl) (by rfl) ?_; (try simp [hne, del]))
  | fail)
   refine EndW.norm ?_;simp [St.norm, zaD, zaT, zaV, zaW, hne, nAA]
   (refine EndW.here ?_; (first | (refine EndOK.fin (.inr rfl) ?_) | (refine EndOK.fin (.inl rfl) ?_)); simp [zaA, zae, Tryz.results90, hne, hi]; refine FinOK.cut [(i, rOb l S)] (nx) (by simp [zaa, getK, zab, zac, Ob.under, D.under, zad, zaf, hne, hi] <;> omega) (by simp [D.under]) (by simp [hn]) ?_; try simp)
  | true =>
   ((try unfold zdw at *); unfold rOb zbf at *)
   (refine RetX.of_bodyW Tryz.func90 rfl (by simp) fun Γ hn hpan => ?_); simp only [entry, ziC, ziN, maC, maN, oA, Tryz.ntmps90]
   repeat' (first
  | ((first | refine zag ?_ | refine zaj ?_ | refine zah ?_ | refine zai ?_ | refine zas ?_ | fail); simp [hne, del])
  | (refine zaq ?_; simp only [zap])
  | (refine CallP.ok1 (h0 _ (by first | omega | simp <;> omega | fail)) (by first | (simp [hne, del, zaa, getK, zab, zac]; done) | fail) (by rfl) (by rfl) ?_; (try simp [hne, del]))
  | (refine CallP.ok1 (hf _ (by first | omega | simp <;> omega | fail)) (by first | (simp [hne, del, zaa, getK, zab, zac]; done) | fail) (by rfl) (by rfl) ?_; (try simp [hne, del]))
  | fail)
   refine EndW.norm ?_;simp [St.norm, zaD, zaT, zaV, zaW, hne, nAA]
   (refine EndW.here ?_; (first | (refine EndOK.fin (.inr rfl) ?_) | (refine EndOK.fin (.inl rfl) ?_)); simp [zaA, zae, Tryz.results90, hne, hi]; refine FinOK.cut [(i, rOb l T1)] (nx) (by simp [zaa, getK, zab, zac, Ob.under, D.under, zad, zaf, hne, hi] <;> omega) (by simp [D.under]) (by simp [hn]) ?_; try simp)
 | true =>
  have hv1 := (zb6 hl hv hb).vs;have h1 := fun nx' (h : nx <= nx') => zk8 l S.adv a b i nx' (by omega) hv1 hl hll;have hv2 := zqJ hl hv1 a b;simp only [hb, if_true] at h0 ⊢;generalize zps l S.adv a b = A at *;obtain ⟨n, T⟩ := A;have h3 := fun (S : RS) (hv : VS l S) (w : W8) nx' (h : nx <= nx') => zb2 l S w i nx' (by omega) hv (by omega);simp only at h1 hv2 ⊢;rcases hu with rfl | rfl | rfl
  ·have w1 := h3 T hv2 [59];simp only [zk1, List.nil_append, zeM, show ¬ (0 : Int) = 1 by decide, show ¬ (0 : Int) = 2 by decide, if_false];generalize za6 l T [59] = T1 at *;generalize S.adv = S1 at *
   ((try unfold zdw at *); unfold rOb zbf at *)
   (refine RetX.of_bodyW Tryz.func90 rfl (by simp) fun Γ hn hpan => ?_); simp only [entry, ziC, ziN, maC, maN, oA, Tryz.ntmps90]
   repeat' (first
  | ((first | refine zag ?_ | refine zaj ?_ | refine zah ?_ | refine zai ?_ | fail); simp [hne, del])
  | ((first | refine zaq ?_ | refine zao ?_ | fail); simp only [zap])
  | (refine CallP.ok1 (h0 _ (by first | omega | simp <;> omega | fail)) (by first | (simp [hne, del, zaa, getK, zab, zac]; done) | fail) (by rfl) (by rfl) ?_; (try simp [hne, del]))
  | (refine CallP.ok1 (h1 _ (by first | omega | simp <;> omega | fail)) (by first | (simp [hne, del, zaa, getK, zab, zac]; done) | fail) (by rfl) (by rfl) ?_; (try simp [hne, del]))
  | (refine CallP.ok1 (w1 _ (by first | omega | simp <;> omega | fail)) (by first | (simp [hne, del, zaa, getK, zab, zac]; done) | fail) (by rfl) (by rfl) ?_; (try simp [hne, del]))
  | fail)
   refine EndW.norm ?_;simp [St.norm, zaD, zaT, zaV, zaW, hne, nAA]
   (refine EndW.here ?_; (first | (refine EndOK.fin (.inr rfl) ?_) | (refine EndOK.fin (.inl rfl) ?_)); simp [zaA, zae, Tryz.results90, hne, hi]; refine FinOK.cut [(i, rOb l T1)] (nx) (by simp [zaa, getK, zab, zac, Ob.under, D.under, zad, zaf, hne, hi] <;> omega) (by simp [D.under]) (by simp [hn]) ?_; try simp)
  ·have w1 := h3 T hv2 [100, 97, 121, 115];have hv3 := (zbz hl hv2 [100, 97, 121, 115]).vs;simp only [zk1, List.nil_append, List.cons_append, zeM, if_true];generalize za6 l T [100, 97, 121, 115] = T1 at *;have w2 := h3 T1 hv3 [59];generalize za6 l T1 [59] = T2 at *;generalize S.adv = S1 at *
   ((try unfold zdw at *); unfold rOb zbf at *)
   (refine RetX.of_bodyW Tryz.func90 rfl (by simp) fun Γ hn hpan => ?_); simp only [entry, ziC, ziN, maC, maN, oA, Tryz.ntmps90]
   repeat' (first
  | ((first | refine zag ?_ | refine zaj ?_ | refine zah ?_ | refine zai ?_ | refine zas ?_ | fail); simp [hne, del])
  | ((first | refine zaq ?_ | refine zao ?_ | fail); simp only [zap])
  | (refine CallP.ok1 (h0 _ (by first | omega | simp <;> omega | fail)) (by first | (simp [hne, del, zaa, getK, zab, zac]; done) | fail) (by rfl) (by rfl) ?_; (try simp [hne, del]))
  | (refine CallP.ok1 (h1 _ (by first | omega | simp <;> omega | fail)) (by first | (simp [hne, del, zaa, getK, zab, zac]; done) | fail) (by rfl) (by rfl) ?_; (try simp [hne, del]))
  | (refine CallP.ok1 (w1 _ (by first | omega | simp <;> omega | fail)) (by first | (simp [hne, del, zaa, getK, zab, zac]; done) | fail) (by rfl) (by rfl) ?_; (try simp [hne, del]))
  | (refine CallP.ok1 (w2 _ (by first | omega | simp <;> omega | fail)) (by first | (simp [hne, del, zaa, getK, zab, zac]; done) | fail) (by rfl) (by rfl) ?_; (try simp [hne, del]))
  | fail)
   refine EndW.norm ?_;simp [St.norm, zaD, zaT, zaV, zaW, hne, nAA]
   (refine EndW.here ?_; (first | (refine EndOK.fin (.inr rfl) ?_) | (refine EndOK.fin (.inl rfl) ?_)); simp [zaA, zae, Tryz.results90, hne, hi]; refine FinOK.cut [(i, rOb l T2)] (nx) (by simp [zaa, getK, zab, zac, Ob.under, D.under, zad, zaf, hne, hi] <;> omega) (by simp [D.under]) (by simp [hn]) ?_; try simp)
  ·have w1 := h3 T hv2 [112, 101, 114];have hv3 := (zbz hl hv2 [112, 101, 114]).vs;simp only [zk1, List.nil_append, List.cons_append, zeM, if_true, show ¬ (2 : Int) = 1 by decide, if_false];generalize za6 l T [112, 101, 114] = T1 at *;have w2 := h3 T1 hv3 [109, 105, 108, 108, 101];have hv4 := (zbz hl hv3 [109, 105, 108, 108, 101]).vs;generalize za6 l T1 [109, 105, 108, 108, 101] = T2 at *;have w3 := h3 T2 hv4 [59];generalize za6 l T2 [59] = T3 at *;generalize S.adv = S1 at *
   ((try unfold zdw at *); unfold rOb zbf at *)
   (refine RetX.of_bodyW Tryz.func90 rfl (by simp) fun Γ hn hpan => ?_); simp only [entry, ziC, ziN, maC, maN, oA, Tryz.ntmps90]
   repeat' (first
  | ((first | refine zag ?_ | refine zaj ?_ | refine zah ?_ | refine zai ?_ | refine zas ?_ | fail); simp [hne, del])
  | ((first | refine zaq ?_ | refine zao ?_ | fail); simp only [zap])
  | (refine CallP.ok1 (h0 _ (by first | omega | simp <;> omega | fail)) (by first | (simp [hne, del, zaa, getK, zab, zac]; done) | fail) (by rfl) (by rfl) ?_; (try simp [hne, del]))
  | (refine CallP.ok1 (h1 _ (by first | omega | simp <;> omega | fail)) (by first | (simp [hne, del, zaa, getK, zab, zac]; done) | fail) (by rfl) (by rfl) ?_; (try simp [hne, del]))
  | (refine CallP.ok1 (w1 _ (by first | omega | simp <;> omega | fail)) (by first | (simp [hne, del, zaa, getK, zab, zac]; done) | fail) (by rfl) (by rfl) ?_; (try simp [hne, del]))
  | (refine CallP.ok1 (w2 _ (by first | omega | simp <;> omega | fail)) (by first | (simp [hne, del, zaa, getK, zab, zac]; done) | fail) (by rfl) (by rfl) ?_; (try simp [hne, del]))
  | (refine CallP.ok1 (w3 _ (by first | omega | simp <;> omega | fail)) (by first | (simp [hne, del, zaa, getK, zab, zac]; done) | fail) (by rfl) (by rfl) ?_; (try simp [hne, del]))
  | fail)
   refine EndW.norm ?_;simp [St.norm, zaD, zaT, zaV, zaW, hne, nAA]
   (refine EndW.here ?_; (first | (refine EndOK.fin (.inr rfl) ?_) | (refine EndOK.fin (.inl rfl) ?_)); simp [zaA, zae, Tryz.results90, hne, hi]; refine FinOK.cut [(i, rOb l T3)] (nx) (by simp [zaa, getK, zab, zac, Ob.under, D.under, zad, zaf, hne, hi] <;> omega) (by simp [D.under]) (by simp [hn]) ?_; try simp)
def eD (e : Exp) : D := .u (.agg [.int .i64 e.op, .int .i64 e.n, .int .i64 e.unit, .str e.s, .sl (e.args.map Exp.row)])
theorem zfm (l : List Tok) (S : RS) (w : W8) (hw : w = [] \/ w = [59]) (i nx : Nat) (hi : i < nx) (hv : VS l S) (hl : TokOK l) (hE : zcJ l) (hll : l.length <= 2001) :
  RetX Tryz.prog 45 [.ptr i 0, .u (.str w)] [(i, rOb l S)] nx (fun r o n => r = .val (eD (zb5 l S w).1) /\ o = [(i, rOb l (zb5 l S w).2)] /\ n = nx) := by
 have hne := zaw hi;have hX := fun nx' (h : nx <= nx') => (zlR hl hE (by omega) (10 * l.length + 9) (10 * l.length + 9) (Nat.le_refl _)).1 S 0 i nx' (by omega) hv (fun _ => by simp; omega) (by omega) (by omega);have hvT := zoZ hl hE hv;have hlv := zp6 hl hE hll hv;have hP := fun nx' (h : nx <= nx') => hX nx' h;simp only [zbA] at hX;unfold zb5 eD;change ∀ nx' (h : nx <= nx'), RetX _ _ _ _ _ (fun r o n => r = .val (.u (.agg [.int .i64 (zdj l S).1.op, .int .i64 (zdj l S).1.n, .int .i64 (zdj l S).1.unit, .str (zdj l S).1.s, .sl ((zdj l S).1.args.map Exp.row)])) /\ o = [(i, rOb l (zdj l S).2)] /\ n = nx') at hX;clear hP;generalize zdj l S = A at *;obtain ⟨e, T⟩ := A;simp only at hX hvT hlv ⊢;by_cases c0 : T.err ≠ 0
 ·rw [if_pos c0]
  ((try unfold zdw at *); unfold rOb zbf at *)
  (refine RetX.of_bodyW Tryz.func45 rfl (by simp) fun Γ hn hpan => ?_); simp only [entry, ziC, ziN, maC, maN, oA, Tryz.ntmps45]
  repeat' (first
  | ((first | refine zag ?_ | refine zaj ?_ | refine zah ?_ | refine zai ?_ | fail); simp [hne, del, c0])
  | (refine zaq ?_; simp only [zap])
  | (refine CallP.ok1 (hX _ (by first | omega | simp <;> omega | fail)) (by first | (simp [hne, del, c0, zaa, getK, zab, zac]; done) | fail) (by rfl) (by rfl) ?_; (try simp [hne, del, c0]))
  | fail)
  refine EndW.norm ?_;simp [St.norm, zaD, zaT, zaV, zaW, hne, nAA]
  (refine EndW.here ?_; (first | (refine EndOK.fin (.inr rfl) ?_) | (refine EndOK.fin (.inl rfl) ?_)); simp [zaA, zae, Tryz.results45, hne, hi]; refine FinOK.cut [(i, rOb l T)] (nx) (by simp [zaa, getK, zab, zac, Ob.under, D.under, zad, zaf, hne, hi] <;> omega) (by simp [D.under]) (by simp [hn]) ?_; try simp)
 rw [if_neg c0];have c0' : T.err = 0 := by omega
 have hlev := zla (SizeOf.sizeOf e) e (Nat.le_refl _) (hlv.resolve_left c0);rw [Exp.row_eq] at hlev;have hnx := zcn l T hvT (by omega);have h12 := fun nx' (h : nx <= nx') => zco l T 12 i nx' (by omega) hvT (by omega);have h6 := fun nx' (h : nx <= nx') => zco l T 6 i nx' (by omega) hvT (by omega);generalize zbm l T 12 = T1 at *;generalize zbm l T 6 = T2 at *;rcases hw with rfl | rfl
 ·simp only [true_and, not_true, ne_eq, false_and, or_false, if_false];by_cases c1 : (zbw l T).kind = 0
  ·rw [if_neg (by simpa using c1)];generalize zbw l T = t at *;by_cases c2 : 12 < e.lev
   ·rw [if_pos c2]
    ((try unfold zdw at *); unfold rOb zbf at *)
    (refine RetX.of_bodyW Tryz.func45 rfl (by simp) fun Γ hn hpan => ?_); simp only [entry, ziC, ziN, maC, maN, oA, Tryz.ntmps45]
    repeat' (first
  | ((first | refine zag ?_ | refine zaj ?_ | refine zah ?_ | refine zai ?_ | refine zas ?_ | fail); simp [hne, del, c0', c1, c2])
  | ((first | refine zaq ?_ | refine zao ?_ | fail); simp only [zap])
  | (refine CallP.fE (hnx) (by first | rfl | fail) (by first | simp [hne, del, c0', c1, c2] <;> rfl | fail) ?_; (try simp [hne, del, c0', c1, c2]))
  | (refine CallP.fE (hlev) (by first | rfl | fail) (by first | simp [hne, del, c0', c1, c2] <;> rfl | fail) ?_; (try simp [hne, del, c0', c1, c2]))
  | (refine CallP.ok1 (hX _ (by first | omega | simp <;> omega | fail)) (by first | (simp [hne, del, c0', c1, c2, zaa, getK, zab, zac]; done) | fail) (by rfl) (by rfl) ?_; (try simp [hne, del, c0', c1, c2]))
  | (refine CallP.ok1 (h6 _ (by first | omega | simp <;> omega | fail)) (by first | (simp [hne, del, c0', c1, c2, zaa, getK, zab, zac]; done) | fail) (by rfl) (by rfl) ?_; (try simp [hne, del, c0', c1, c2]))
  | fail)
    refine EndW.norm ?_;simp [St.norm, zaD, zaT, zaV, zaW, hne, nAA]
    (refine EndW.here ?_; (first | (refine EndOK.fin (.inr rfl) ?_) | (refine EndOK.fin (.inl rfl) ?_)); simp [zaA, zae, Tryz.results45, hne, hi]; refine FinOK.cut [(i, rOb l T2)] (nx) (by simp [zaa, getK, zab, zac, Ob.under, D.under, zad, zaf, hne, hi] <;> omega) (by simp [D.under]) (by simp [hn]) ?_; try simp)
   ·rw [if_neg c2]
    ((try unfold zdw at *); unfold rOb zbf at *)
    (refine RetX.of_bodyW Tryz.func45 rfl (by simp) fun Γ hn hpan => ?_); simp only [entry, ziC, ziN, maC, maN, oA, Tryz.ntmps45]
    repeat' (first
  | ((first | refine zag ?_ | refine zaj ?_ | refine zah ?_ | refine zai ?_ | fail); simp [hne, del, c0', c1, c2])
  | ((first | refine zaq ?_ | refine zao ?_ | fail); simp only [zap])
  | (refine CallP.fE (hnx) (by first | rfl | fail) (by first | simp [hne, del, c0', c1, c2] <;> rfl | fail) ?_; (try simp [hne, del, c0', c1, c2]))
  | (refine CallP.fE (hlev) (by first | rfl | fail) (by first | simp [hne, del, c0', c1, c2] <;> rfl | fail) ?_; (try simp [hne, del, c0', c1, c2]))
  | (refine CallP.ok1 (hX _ (by first | omega | simp <;> omega | fail)) (by first | (simp [hne, del, c0', c1, c2, zaa, getK, zab, zac]; done) | fail) (by rfl) (by rfl) ?_; (try simp [hne, del, c0', c1, c2]))
  | fail)
    refine EndW.norm ?_;simp [St.norm, zaD, zaT, zaV, zaW, hne, nAA]
    (refine EndW.here ?_; (first | (refine EndOK.fin (.inr rfl) ?_) | (refine EndOK.fin (.inl rfl) ?_)); simp [zaA, zae, Tryz.results45, hne, hi]; refine FinOK.cut [(i, rOb l T)] (nx) (by simp [zaa, getK, zab, zac, Ob.under, D.under, zad, zaf, hne, hi] <;> omega) (by simp [D.under]) (by simp [hn]) ?_; try simp)
    all_goals exact c0'
  ·rw [if_pos c1];generalize zbw l T = t at *
   ((try unfold zdw at *); unfold rOb zbf at *)
   (refine RetX.of_bodyW Tryz.func45 rfl (by simp) fun Γ hn hpan => ?_); simp only [entry, ziC, ziN, maC, maN, oA, Tryz.ntmps45]
   repeat' (first
  | ((first | refine zag ?_ | refine zaj ?_ | refine zah ?_ | refine zai ?_ | refine zas ?_ | fail); simp [hne, del, c0', c1])
  | ((first | refine zaq ?_ | refine zao ?_ | fail); simp only [zap])
  | (refine CallP.fE (hnx) (by first | rfl | fail) (by first | simp [hne, del, c0', c1] <;> rfl | fail) ?_; (try simp [hne, del, c0', c1]))
  | (refine CallP.ok1 (hX _ (by first | omega | simp <;> omega | fail)) (by first | (simp [hne, del, c0', c1, zaa, getK, zab, zac]; done) | fail) (by rfl) (by rfl) ?_; (try simp [hne, del, c0', c1]))
  | (refine CallP.ok1 (h12 _ (by first | omega | simp <;> omega | fail)) (by first | (simp [hne, del, c0', c1, zaa, getK, zab, zac]; done) | fail) (by rfl) (by rfl) ?_; (try simp [hne, del, c0', c1]))
  | fail)
   refine EndW.norm ?_;simp [St.norm, zaD, zaT, zaV, zaW, hne, nAA]
   (refine EndW.here ?_; (first | (refine EndOK.fin (.inr rfl) ?_) | (refine EndOK.fin (.inl rfl) ?_)); simp [zaA, zae, Tryz.results45, hne, hi]; refine FinOK.cut [(i, rOb l T1)] (nx) (by simp [zaa, getK, zab, zac, Ob.under, D.under, zad, zaf, hne, hi] <;> omega) (by simp [D.under]) (by simp [hn]) ?_; try simp)
 ·have his := zlb l T [59] hvT (by omega);simp only [List.cons_ne_nil, ne_eq, not_false_eq_true, true_and, false_and, false_or, if_true];cases hb : isR l T [59] with
  | false =>
   rw [hb] at his;simp only [if_true]
   ((try unfold zdw at *); unfold rOb zbf at *)
   (refine RetX.of_bodyW Tryz.func45 rfl (by simp) fun Γ hn hpan => ?_); simp only [entry, ziC, ziN, maC, maN, oA, Tryz.ntmps45]
   repeat' (first
  | ((first | refine zag ?_ | refine zaj ?_ | refine zah ?_ | refine zai ?_ | refine zas ?_ | fail); simp [hne, del, c0'])
  | ((first | refine zaq ?_ | refine zao ?_ | fail); simp only [zap])
  | (refine CallP.fE (his) (by first | rfl | fail) (by first | simp [hne, del, c0'] <;> rfl | fail) ?_; (try simp [hne, del, c0']))
  | (refine CallP.ok1 (hX _ (by first | omega | simp <;> omega | fail)) (by first | (simp [hne, del, c0', zaa, getK, zab, zac]; done) | fail) (by rfl) (by rfl) ?_; (try simp [hne, del, c0']))
  | (refine CallP.ok1 (h12 _ (by first | omega | simp <;> omega | fail)) (by first | (simp [hne, del, c0', zaa, getK, zab, zac]; done) | fail) (by rfl) (by rfl) ?_; (try simp [hne, del, c0']))
  | fail)
   refine EndW.norm ?_;simp [St.norm, zaD, zaT, zaV, zaW, hne, nAA]
   (refine EndW.here ?_; (first | (refine EndOK.fin (.inr rfl) ?_) | (refine EndOK.fin (.inl rfl) ?_)); simp [zaA, zae, Tryz.results45, hne, hi]; refine FinOK.cut [(i, rOb l T1)] (nx) (by simp [zaa, getK, zab, zac, Ob.under, D.under, zad, zaf, hne, hi] <;> omega) (by simp [D.under]) (by simp [hn]) ?_; try simp)
  | true =>
   rw [hb] at his;obtain ⟨q, rfl, hq⟩ := zmc hl hvT hb;simp only [Bool.true_eq_false, if_false];by_cases c2 : 12 < e.lev
   ·rw [if_pos c2]
    ((try unfold zdw at *); unfold rOb zbf at *)
    (refine RetX.of_bodyW Tryz.func45 rfl (by simp) fun Γ hn hpan => ?_); simp only [entry, ziC, ziN, maC, maN, oA, Tryz.ntmps45]
    repeat' (first
  | ((first | refine zag ?_ | refine zaj ?_ | refine zah ?_ | refine zai ?_ | refine zas ?_ | fail); simp [hne, del, c2])
  | ((first | refine zaq ?_ | refine zao ?_ | fail); simp only [zap])
  | (refine CallP.fE (his) (by first | rfl | fail) (by first | simp [hne, del, c2] <;> rfl | fail) ?_; (try simp [hne, del, c2]))
  | (refine CallP.fE (hlev) (by first | rfl | fail) (by first | simp [hne, del, c2] <;> rfl | fail) ?_; (try simp [hne, del, c2]))
  | (refine CallP.ok1 (hX _ (by first | omega | simp <;> omega | fail)) (by first | (simp [hne, del, c2, zaa, getK, zab, zac]; done) | fail) (by rfl) (by rfl) ?_; (try simp [hne, del, c2]))
  | (refine CallP.ok1 (h6 _ (by first | omega | simp <;> omega | fail)) (by first | (simp [hne, del, c2, zaa, getK, zab, zac]; done) | fail) (by rfl) (by rfl) ?_; (try simp [hne, del, c2]))
  | fail)
    refine EndW.norm ?_;simp [St.norm, zaD, zaT, zaV, zaW, hne, nAA]
    (refine EndW.here ?_; (first | (refine EndOK.fin (.inr rfl) ?_) | (refine EndOK.fin (.inl rfl) ?_)); simp [zaA, zae, Tryz.results45, hne, hi]; refine FinOK.cut [(i, rOb l T2)] (nx) (by simp [zaa, getK, zab, zac, Ob.under, D.under, zad, zaf, hne, hi] <;> omega) (by simp [D.under]) (by simp [hn]) ?_; try simp)
   ·rw [if_neg c2];simp only [RS.adv]
    ((try unfold zdw at *); unfold rOb zbf at *)
    (refine RetX.of_bodyW Tryz.func45 rfl (by simp) fun Γ hn hpan => ?_); simp only [entry, ziC, ziN, maC, maN, oA, Tryz.ntmps45]
    repeat' (first
  | ((first | refine zag ?_ | refine zaj ?_ | fail); simp [hne, del, c2])
  | (refine ⟨by omega, ?_⟩)
  | ((first | refine zah ?_ | refine zai ?_ | refine zas ?_ | fail); simp [hne, del, c2])
  | ((first | refine zaq ?_ | refine zao ?_ | fail); simp only [zap])
  | (refine CallP.fE (his) (by first | rfl | fail) (by first | simp [hne, del, c2] <;> rfl | fail) ?_; (try simp [hne, del, c2]))
  | (refine CallP.fE (hlev) (by first | rfl | fail) (by first | simp [hne, del, c2] <;> rfl | fail) ?_; (try simp [hne, del, c2]))
  | (refine CallP.ok1 (hX _ (by first | omega | simp <;> omega | fail)) (by first | (simp [hne, del, c2, zaa, getK, zab, zac]; done) | fail) (by rfl) (by rfl) ?_; (try simp [hne, del, c2]))
  | fail)
    refine EndW.norm ?_;simp [St.norm, zaD, zaT, zaV, zaW, hne, nAA]
    (refine EndW.here ?_; (first | (refine EndOK.fin (.inr rfl) ?_) | (refine EndOK.fin (.inl rfl) ?_)); simp [zaA, zae, Tryz.results45, hne, hi]; refine FinOK.cut [(i, rOb l ⟨q + 1, 0, 0⟩)] (nx) (by simp [zaa, getK, zab, zac, Ob.under, D.under, zad, zaf, hne, hi] <;> omega) (by simp [D.under]) (by simp [hn]) ?_; try simp)
theorem zeA (l : List Tok) (S : RS) (w : W8) (i nx : Nat) (hi : i < nx) (hv : VS l S) (hl : TokOK l) (hE : zcJ l) (hll : l.length <= 2001) :
  RetX Tryz.prog 92 [.ptr i 0, .u (.str w)] [(i, rOb l S)] nx (fun r o n => r = .val (eD (zbZ l S w).1) /\ o = [(i, rOb l (zbZ l S w).2)] /\ n = nx) := by
 have hne := zaw hi;have h0 := fun nx' (h : nx <= nx') => zbO l S w i nx' (by omega) hv (by omega);have hno := zjF;simp only [nothingE, Exp.row, List.map_nil] at hno;unfold zbZ;cases hb : isR l S w with
 | false =>
  simp only [hb, Bool.false_eq_true, if_false] at h0 ⊢
  ((try unfold zdw at *); unfold rOb zbf at *)
  (refine RetX.of_bodyW Tryz.func92 rfl (by simp) fun Γ hn hpan => ?_); simp only [entry, ziC, ziN, maC, maN, oA, Tryz.ntmps92]
  repeat' (first
  | ((first | refine zag ?_ | refine zaj ?_ | refine zah ?_ | refine zai ?_ | fail); simp [hne, del])
  | ((first | refine zaq ?_ | refine zao ?_ | fail); simp only [zap])
  | (refine CallP.fE (hno) (by first | rfl | fail) (by first | simp [hne, del] <;> rfl | fail) ?_; (try simp [hne, del]))
  | (refine CallP.ok1 (h0 _ (by first | omega | simp <;> omega | fail)) (by first | (simp [hne, del, zaa, getK, zab, zac]; done) | fail) (by rfl) (by rfl) ?_; (try simp [hne, del]))
  | fail)
  refine EndW.norm ?_;simp [St.norm, zaD, zaT, zaV, zaW, hne, nAA]
  (refine EndW.here ?_; (first | (refine EndOK.fin (.inr rfl) ?_) | (refine EndOK.fin (.inl rfl) ?_)); simp [zaA, zae, Tryz.results92, hne, hi]; refine FinOK.cut [(i, rOb l S)] (nx) (by simp [zaa, getK, zab, zac, Ob.under, D.under, zad, zaf, hne, hi] <;> omega) (by simp [D.under]) (by simp [hn]) ?_; try simp)
  simp [eD, nothingE, Exp.op, Exp.n, Exp.unit, Exp.s, Exp.args]
 | true =>
  have hv1 := (zb6 hl hv hb).vs;have h1 := fun nx' (h : nx <= nx') => zfm l S.adv [59] (.inr rfl) i nx' (by omega) hv1 hl hE hll;simp only [hb, if_true] at h0 ⊢;unfold eD at *;generalize zb5 l S.adv [59] = A at *;obtain ⟨e, T⟩ := A;simp only at h1 ⊢;generalize S.adv = S1 at *
  ((try unfold zdw at *); unfold rOb zbf at *)
  (refine RetX.of_bodyW Tryz.func92 rfl (by simp) fun Γ hn hpan => ?_); simp only [entry, ziC, ziN, maC, maN, oA, Tryz.ntmps92]
  repeat' (first
  | ((first | refine zag ?_ | refine zaj ?_ | refine zah ?_ | refine zai ?_ | fail); simp [hne, del])
  | (refine zaq ?_; simp only [zap])
  | (refine CallP.ok1 (h0 _ (by first | omega | simp <;> omega | fail)) (by first | (simp [hne, del, zaa, getK, zab, zac]; done) | fail) (by rfl) (by rfl) ?_; (try simp [hne, del]))
  | (refine CallP.ok1 (h1 _ (by first | omega | simp <;> omega | fail)) (by first | (simp [hne, del, zaa, getK, zab, zac]; done) | fail) (by rfl) (by rfl) ?_; (try simp [hne, del]))
  | fail)
  refine EndW.norm ?_;simp [St.norm, zaD, zaT, zaV, zaW, hne, nAA]
  (refine EndW.here ?_; (first | (refine EndOK.fin (.inr rfl) ?_) | (refine EndOK.fin (.inl rfl) ?_)); simp [zaA, zae, Tryz.results92, hne, hi]; refine FinOK.cut [(i, rOb l T)] (nx) (by simp [zaa, getK, zab, zac, Ob.under, D.under, zad, zaf, hne, hi] <;> omega) (by simp [D.under]) (by simp [hn]) ?_; try simp)
theorem zn4 (l : List Tok) (S0 : RS) (i nx : Nat) (hi : i < nx) (hv0 : VS l S0) (hl : TokOK l) (hE : zcJ l) (hll : l.length <= 2001) :
  RetX Tryz.prog 91 [.ptr i 0] [(i, rOb l S0)] nx (fun r o n => r = .val (.u (.sl (zds (zfD l 21 S0 []).1))) /\ o = [(i, rOb l (zfD l 21 S0 []).2)] /\ n = nx) := by
 have hne := zaw hi;have hi1 : i < nx + 1 := by omega
 have hi2 : i < nx + 2 := by omega
 generalize hR : zfD l 21 S0 [] = R
 (refine RetX.of_bodyW Tryz.func91 rfl (by simp) fun Γ hn hpan => ?_); simp only [entry, ziC, ziN, maC, maN, oA, Tryz.ntmps91]
 repeat' (first
  | ((first | refine zag ?_ | refine zaj ?_ | refine zah ?_ | fail); simp [hne])
  | fail)
 refine zfH _ (Wk.own 3 45 6 (by decide) rfl) ?_;simp [St.own];refine zcT (α := { x : RS × List Let × Nat // VS l x.1 /\ x.2.1.length + x.2.2 = 21 /\ x.2.1.length <= 20 /\ zfD l x.2.2 x.1 x.2.1 = R }) [0, 2] (fun x => [(3, .vec nx x.1.2.1.length)])
  (fun x => [(nx, .vec 45 6 (rowsD (zds x.1.2.1))), (i, rOb l x.1.1)]) (nx + 1) (fun x => x.1.2.2) ⟨(S0, [], 21), hv0, rfl, by simp, hR⟩ ?_ ?_
 ·exact (Wk.cut rfl (by simp [hn, St.lp]) (by simp [wkO, St.lp, zaa, getK, Ob.under, D.under, zad, zaf, zds, hi, hi1, hne]) (by simp [wkU, St.lp, zan, zaa, getK, D.under, zds, hi, hi1, hne]) (by simp [wkE, St.lp, zan, zaa, getK, zds, hi, hi1, hne] <;> (try (intros; simp_all; done)) <;> (try (intros; omega)) <;> (try grind)))
 rintro ⟨⟨S, acc, g⟩, hv, hg, hg2, hS⟩;simp only at hv hg hg2 hS;simp [St.lp, St.only, zan, zaa, getK];have his := zlb l S [108, 101, 116] hv (by omega);have hf6 := fun nx' (h : nx <= nx') => zco l S 6 i nx' (by omega) hv (by omega);have hAl := zkh acc;have hsn := zic acc;generalize hA : zds acc = A at *;have htk : A.take acc.length = A := List.take_of_length_le (by omega);obtain ⟨g, rfl⟩ : ∃ g', g = g' + 1 := ⟨g - 1, by omega⟩;rw [zfD] at hS;cases hb : isR l S [108, 101, 116] with
 | false =>
  rw [hb] at his hS;rw [if_neg (by simp)] at hS;subst hS
  ((try unfold zdw at *); unfold rOb zbf at *)
  repeat' (first
  | ((first | refine zag ?_ | refine zaj ?_ | refine zah ?_ | refine zai ?_ | fail); simp [hne, del, hAl])
  | (refine zaq ?_; simp only [zap])
  | (refine za9 ?_; simp [zap])
  | (refine CallP.fE (his) (by first | rfl | fail) (by first | simp [hne, del, hAl] <;> rfl | fail) ?_; (try simp [hne, del, hAl]))
  | fail)
  (refine EndW.frzN 1 ?_; simp [frzN, frz1, zaz, zay, St.frz, St.frzS, frzS, fv, zaH, za2, za4, zaG, zau, zam, del, frz, za5, hAl, htk, hne, nAA])
  refine EndW.norm ?_;simp [St.norm, zaD, zaT, zaV, zaW, hne, nAA]
  (refine EndW.here ?_; (first | (refine EndOK.fin (.inr rfl) ?_) | (refine EndOK.fin (.inl rfl) ?_)); simp [zaA, zae, Tryz.results91, hne, hi]; refine FinOK.cut [(i, rOb l S)] (nx) (by simp [zaa, getK, zab, zac, Ob.under, D.under, zad, zaf, hne, hi] <;> omega) (by simp [D.under]) (by simp [hn]) ?_; try simp)
  all_goals exact hA.symm
 | true =>
  rw [hb] at his hS;rw [if_pos rfl] at hS;obtain ⟨q, rfl, hq⟩ := zmc hl hv hb;rw [show (⟨q, 0, 0⟩ : RS).adv = ⟨q + 1, 0, 0⟩ from rfl] at hS;by_cases hn20 : acc.length = 20
  ·rw [if_pos hn20] at hS;subst hS;generalize zbm l ⟨q, 0, 0⟩ 6 = T at *
   ((try unfold zdw at *); unfold rOb zbf at *)
   repeat' (first
  | ((first | refine zag ?_ | refine zaj ?_ | refine zah ?_ | refine zai ?_ | refine zat ?_ | fail); simp [hne, del, hAl, hn20])
  | ((first | refine zaq ?_ | refine zao ?_ | fail); simp only [zap])
  | (refine CallP.fE (his) (by first | rfl | fail) (by first | simp [hne, del, hAl, hn20] <;> rfl | fail) ?_; (try simp [hne, del, hAl, hn20]))
  | (refine CallP.ok1 (hf6 _ (by first | omega | simp <;> omega | fail)) (by first | (simp [hne, del, hAl, hn20, zaa, getK, zab, zac]; done) | fail) (by rfl) (by rfl) ?_; (try simp [hne, del, hAl, hn20]))
  | fail)
   refine EndW.norm ?_;simp [St.norm, zaD, zaT, zaV, zaW, hne, nAA]
   (refine EndW.here ?_; (first | (refine EndOK.fin (.inr rfl) ?_) | (refine EndOK.fin (.inl rfl) ?_)); simp [zaA, zae, Tryz.results91, hne, hi]; refine FinOK.cut [(i, rOb l T)] (nx) (by simp [zaa, getK, zab, zac, Ob.under, D.under, zad, zaf, hne, hi] <;> omega) (by simp [D.under]) (by simp [hn]) ?_; try simp)
   simp [zds]
  rw [if_neg hn20] at hS;obtain ⟨t, ht⟩ : ∃ t, l[q + 1]? = some t := ⟨_, List.getElem?_eq_getElem hq⟩;have hv1 : VS l ⟨q + 1, 0, 0⟩ := .inr ⟨rfl, rfl, hq⟩;have hnx := zcn l ⟨q + 1, 0, 0⟩ hv1 (by omega);have hnm := zhg t.text;have hf12 := fun nx' (h : nx <= nx') => zco l ⟨q + 1, 0, 0⟩ 12 i nx' (by omega) hv1 (by omega);rw [zbG ht] at hnx hS;have hLR : ∃ T, T = (if t.kind = 1 /\ zb3 t.text = true then (⟨q + 1, 0, 0⟩ : RS) else zbm l ⟨q + 1, 0, 0⟩ 12) /\ VS l T /\ zls l acc ⟨q + 1, 0, 0⟩ = zhN l T t.text acc acc.length := by
   refine ⟨_, rfl, ?_, ?_⟩
   ·split
    ·exact hv1
    ·exact zdO (by decide)
   ·unfold zls zhN;rw [zbG ht, List.take_length]
  obtain ⟨T, hT, hvT, hLR⟩ := hLR;rw [hLR] at hS;apply zgI (S := { n := 72, env := [(0, .ptr i 0), (2, .u .nil), (3, .vec nx acc.length), (4, .ptr (nx + 1) 0), (5, .u (.int .i64 0))], obs := [(i, rOb l T), (nx + 1, .box [.u (.int .i64 t.kind), .u (.str t.text), .u (.int .i64 t.n), .u (.int .i64 t.pos)]), (nx, .vec 45 6 (rowsD A))], next := nx + 2 })
  case main =>
   intro key;by_cases hk : t.kind = 1
   ·cases hb2 : zb3 t.text with
    | true =>
     rw [if_pos ⟨hk, hb2⟩] at hT;rw [hb2] at hnm
     ((try unfold zdw at *); unfold rOb zbf at *)
     repeat' (first
  | (refine zfH _ ?_ key; refine Wk.cut rfl ?_ ?_ ?_ ?_; all_goals (first | (simp [hn]; done) | (simp [wkO, zaa, getK, zab, zac, Ob.under, D.under, zad, zaf, hne, hi, hi1, hi2, hAl, hT, hk, nAA]; done) | (simp [wkU, zan, zaa, getK, D.under, hne, hi, hi1, hi2, hAl, hT, hk, nAA]; done) | (simp [wkE, zan, zaa, getK, hne, hi, hi1, hi2, hAl, hT, hk, nAA]; done) | fail))
  | ((first | refine zag ?_ | refine zaj ?_ | fail); simp [hne, hi, del, hAl, hn20, hk])
  | (refine ⟨by omega, ?_⟩)
  | ((first | refine zah ?_ | refine zai ?_ | refine zat ?_ | fail); simp [hne, hi, del, hAl, hn20, hk])
  | (refine zao ?_; simp only [zap])
  | (intro hc <;> (try (exfalso; omega)))
  | (refine CallP.fE (his) (by first | rfl | fail) (by first | simp [hne, hi, del, hAl, hn20, hk] <;> rfl | fail) ?_; (try simp [hne, hi, del, hAl, hn20, hk]))
  | (refine CallP.fE (hnx) (by first | rfl | fail) (by first | simp [hne, hi, del, hAl, hn20, hk] <;> rfl | fail) ?_; (try simp [hne, hi, del, hAl, hn20, hk]))
  | (refine CallP.fE (hnm) (by first | rfl | fail) (by first | simp [hne, hi, del, hAl, hn20, hk] <;> rfl | fail) ?_; (try simp [hne, hi, del, hAl, hn20, hk]))
  | fail)
    | false =>
     rw [if_neg (by simp [hb2])] at hT;rw [<- hT] at hf12;rw [hb2] at hnm
     ((try unfold zdw at *); unfold rOb zbf at *)
     repeat' (first
  | (refine zfH _ ?_ key; refine Wk.cut rfl ?_ ?_ ?_ ?_; all_goals (first | (simp [hn]; done) | (simp [wkO, zaa, getK, zab, zac, Ob.under, D.under, zad, zaf, hne, hi, hi1, hi2, hAl, hk, nAA]; done) | (simp [wkU, zan, zaa, getK, D.under, hne, hi, hi1, hi2, hAl, hk, nAA]; done) | (simp [wkE, zan, zaa, getK, hne, hi, hi1, hi2, hAl, hk, nAA]; done) | fail))
  | ((first | refine zag ?_ | refine zaj ?_ | fail); simp [hne, hi, del, hAl, hn20, hk])
  | (refine ⟨by omega, ?_⟩)
  | ((first | refine zah ?_ | refine zai ?_ | refine zat ?_ | refine zas ?_ | fail); simp [hne, hi, del, hAl, hn20, hk])
  | (refine zao ?_; simp only [zap])
  | (intro hc <;> (try (exfalso; omega)))
  | (refine CallP.fE (his) (by first | rfl | fail) (by first | simp [hne, hi, del, hAl, hn20, hk] <;> rfl | fail) ?_; (try simp [hne, hi, del, hAl, hn20, hk]))
  | (refine CallP.fE (hnx) (by first | rfl | fail) (by first | simp [hne, hi, del, hAl, hn20, hk] <;> rfl | fail) ?_; (try simp [hne, hi, del, hAl, hn20, hk]))
  | (refine CallP.fE (hnm) (by first | rfl | fail) (by first | simp [hne, hi, del, hAl, hn20, hk] <;> rfl | fail) ?_; (try simp [hne, hi, del, hAl, hn20, hk]))
  | (refine CallP.ok1 (hf12 _ (by first | omega | simp <;> omega | fail)) (by first | (simp [hne, hi, del, hAl, hn20, hk, zaa, getK, zab, zac]; done) | fail) (by rfl) (by rfl) ?_; (try simp [hne, hi, del, hAl, hn20, hk]))
  | fail)
   ·rw [if_neg (by simp [hk])] at hT;rw [<- hT] at hf12
    ((try unfold zdw at *); unfold rOb zbf at *)
    repeat' (first
  | (refine zfH _ ?_ key; refine Wk.cut rfl ?_ ?_ ?_ ?_; all_goals (first | (simp [hn]; done) | (simp [wkO, zaa, getK, zab, zac, Ob.under, D.under, zad, zaf, hne, hi, hi1, hi2, hAl, nAA]; done) | (simp [wkU, zan, zaa, getK, D.under, hne, hi, hi1, hi2, hAl, nAA]; done) | (simp [wkE, zan, zaa, getK, hne, hi, hi1, hi2, hAl, nAA]; done) | fail))
  | ((first | refine zag ?_ | refine zaj ?_ | fail); simp [hne, hi, del, hAl, hn20, hk])
  | (refine ⟨by omega, ?_⟩)
  | ((first | refine zah ?_ | refine zai ?_ | refine zat ?_ | refine zas ?_ | fail); simp [hne, hi, del, hAl, hn20, hk])
  | (refine zao ?_; simp only [zap])
  | (intro hc <;> (try (exfalso; omega)))
  | (refine CallP.fE (his) (by first | rfl | fail) (by first | simp [hne, hi, del, hAl, hn20, hk] <;> rfl | fail) ?_; (try simp [hne, hi, del, hAl, hn20, hk]))
  | (refine CallP.fE (hnx) (by first | rfl | fail) (by first | simp [hne, hi, del, hAl, hn20, hk] <;> rfl | fail) ?_; (try simp [hne, hi, del, hAl, hn20, hk]))
  | (refine CallP.ok1 (hf12 _ (by first | omega | simp <;> omega | fail)) (by first | (simp [hne, hi, del, hAl, hn20, hk, zaa, getK, zab, zac]; done) | fail) (by rfl) (by rfl) ?_; (try simp [hne, hi, del, hAl, hn20, hk]))
  | fail)
  case key =>
  repeat' (first
  | (refine zat ?_; simp [hne])
  | fail)
  refine zcT (α := { k : Nat // k <= acc.length }) [0, 2, 3, 4] (fun k => [(5, .u (.int .i64 k.1))])
   (fun k => [(i, rOb l (zhN l T t.text acc k.1)), (nx + 1, .box [.u (.int .i64 t.kind), .u (.str t.text), .u (.int .i64 t.n), .u (.int .i64 t.pos)]), (nx, .vec 45 6 (rowsD A))]) (nx + 2) (fun k => acc.length - k.1) ⟨0, by omega⟩ ?_ ?_
  ·exact (Wk.cut rfl (by simp [hn, St.lp]) (by simp [wkO, St.lp, zaa, getK, Ob.under, D.under, zad, zaf, zds, hi, hi1, hi2, hne, zhC]) (by simp [wkU, St.lp, zan, zaa, getK, D.under, zds, hi, hi1, hi2, hne, zhC]) (by simp [wkE, St.lp, zan, zaa, getK, zds, hi, hi1, hi2, hne, zhC] <;> (try (intros; simp_all; done)) <;> (try (intros; omega)) <;> (try grind)))
  rintro ⟨k, hk⟩;simp [St.lp, St.only, zan, zaa, getK];rcases hx : acc[k]? with _ | x
  ·have hke : k = acc.length := by have := List.getElem?_eq_none_iff.1 hx; omega
   subst hke;have hvD := zo5 hvT t.text acc acc.length;have hDq : (zhN l T t.text acc acc.length).err = 0 -> zhN l T t.text acc acc.length = ⟨q + 1, 0, 0⟩ /\ t.kind = 1 := by
    unfold zhN;split
    ·exact fun h => absurd h (zga T (by decide))
    ·intro h;rw [hT] at h ⊢;split at h
     ·rename_i hc; rw [if_pos hc]; exact ⟨rfl, hc.1⟩
     ·exact absurd h (zga _ (by decide))
   generalize hD : zhN l T t.text acc acc.length = Zd at *;by_cases he : Zd.err = 0
   ·rw [if_neg (by simpa using he)] at hS;obtain ⟨rfl, hk1⟩ := hDq he;have hq2 := hl.fin (q + 1) t ht (by omega);clear hDq hLR hD hf12 hf6 his hnx;generalize q + 1 = q1 at *;have hv2 : VS l ⟨q1 + 1, 0, 0⟩ := .inr ⟨rfl, rfl, hq2⟩;have hw := fun nx' (h : nx <= nx') => zb2 l ⟨q1 + 1, 0, 0⟩ [61] i nx' (by omega) hv2 (by omega);have hvW := (zbz hl hv2 [61]).vs;simp only [RS.adv] at hS;generalize za6 l ⟨q1 + 1, 0, 0⟩ [61] = W at *;have hwh := fun nx' (h : nx <= nx') => zfm l W [59] (.inr rfl) i nx' (by omega) hvW hl hE hll;have hvE := zgW hl hE hvW [59];generalize zb5 l W [59] = E at *;obtain ⟨e, Ze⟩ := E;simp only [eD] at hwh hvE hS;have hsn' := hsn t.text e
    ((try unfold zdw at *); unfold rOb zbf at *)
    repeat' (first
  | (refine zfi (fun nx' h' => hwh nx' (by simp at h'; omega)) (by first | (simp [hne, hi, del, hAl, htk, nAA, zaa, getK, zab, zac, zal, zaL]; done) | fail) (by rfl) (by first | assumption | simp) (by rfl) (by simp [D.under, Ob.under]) (by simp) ?_; (try simp [hne, hi, del, hAl, htk, nAA]))
  | ((first | refine zag ?_ | refine zaS rfl ?_ | refine zbJ rfl ?_ | refine zaj ?_ | fail); simp [hne, hi, del, hAl, htk, nAA])
  | (refine ⟨by omega, ?_⟩)
  | ((first | refine zah ?_ | refine zai ?_ | fail); simp [hne, hi, del, hAl, htk, nAA])
  | (refine za0 (hC _ (zbP [i] nx (by simp <;> omega) (by simp <;> omega) (by apply Exists.intro; apply And.intro; (focus (repeat' (first | exact KF.nil | exact KL.nil | apply KF.cons | apply KL.cons 0 rfl | apply KL.cons 1 rfl | apply KL.cons 2 rfl | apply KL.cons 3 rfl | apply KL.cons 4 rfl | apply KL.cons 5 rfl | apply KL.cons 6 rfl | apply KL.cons 7 rfl | apply KL.cons 8 rfl | apply KL.cons 9 rfl))); kernel_rfl))) (hk _ ?_); clear hC hk C k; simp only [zap])
  | (refine za3 rfl (by kernel_rfl) (by first | (simp [hn]; done) | (simp [hn]; omega) | fail) fun C k hC hk => ?_; simp [hne, hi, del, hAl, htk, nAA])
  | (refine zao ?_; simp only [zap])
  | (refine za9 ?_; simp [zap])
  | (refine CallP.ok1 (hw _ (by first | omega | simp <;> omega | fail)) (by first | (simp [hne, hi, del, hAl, htk, nAA, zaa, getK, zab, zac]; done) | fail) (by rfl) (by rfl) ?_; (try simp [hne, hi, del, hAl, htk, nAA]))
  | fail)
    refine LoopW.next ⟨(Ze, acc ++ [⟨t.text, e⟩], g), hvE, (by simp; omega), (by simp; omega), hS⟩ (by simp) ?_
    exact (Wk.ren ((fun j => if j = nx then nx + 3 else j)) rfl (by first | (simp [hn]; done) | (intro i hi; rw [hn] at hi; constructor <;> (try simp) <;> (try (intro _)) <;> omega)) (by simp [zgl, St.lp, zan, zaa, getK, zac, zal, D.under, D.le, D.ren, hsn', htk, hne, hi, hi1, hi2] <;> (try (intros; simp_all; done)) <;> (try omega)) (by simp [wkR, St.lp, zaa, getK, zac, zal, obR, leU, zbe, zaR, Ob.under, D.under, D.le, D.ren, hsn', htk, hne, hi, hi1, hi2] <;> (try (intros; simp_all; done)) <;> (try omega)) (by simp [hsn', htk, hne, hi, hi1, hi2]))
   ·rw [if_pos he] at hS;subst hS
    ((try unfold zdw at *); unfold rOb zbf at *)
    repeat' (first
  | ((first | refine zag ?_ | refine zaj ?_ | refine zah ?_ | refine zai ?_ | fail); simp [hne, hi, del, hAl, he])
  | (refine zaq ?_; simp only [zap])
  | (refine za9 ?_; simp [zap])
  | fail)
    refine EndW.norm ?_;simp [St.norm, zaD, zaT, zaV, zaW, hne, nAA]
    (refine EndW.here ?_; (first | (refine EndOK.fin (.inr rfl) ?_) | (refine EndOK.fin (.inl rfl) ?_)); simp [zaA, zae, Tryz.results91, hne, hi]; refine FinOK.cut [(i, rOb l Zd)] (nx) (by simp [zaa, getK, zab, zac, Ob.under, D.under, zad, zaf, hne, hi] <;> omega) (by simp [D.under]) (by simp [hn]) ?_; try simp)
    simp [zds]
  ·have hlt : k < acc.length := (lGE.1 hx).1;have hvD := zo5 hvT t.text acc k;have hf5 := fun nx' (h : nx <= nx') => zco l (zhN l T t.text acc k) 5 i nx' (by omega) hvD (by omega);have hxA : A[k]? = some [.str x.name, .int .i64 x.body.op, .int .i64 x.body.n, .int .i64 x.body.unit, .str x.body.s, .sl (x.body.args.map Exp.row)] := by rw [<- hA]; simp [zds, hx]
   by_cases hxn : x.name = t.text
   ·have hD := zqc (l := l) (T := T) hx hxn;generalize zhN l T t.text acc k = Zd at *;generalize zbm l Zd 5 = Zf at *
    ((try unfold zdw at *); unfold rOb zbf at *)
    repeat' (first
  | ((first | refine zag ?_ | refine zaS rfl ?_ | refine zaj ?_ | fail); simp [hne, hi, del, hAl, hxA, hxn])
  | (refine ⟨by omega, ?_⟩)
  | ((first | refine zah ?_ | refine zai ?_ | fail); simp [hne, hi, del, hAl, hxA, hxn])
  | (refine za0 (hC _ (zbP [i] nx (by simp <;> omega) (by simp <;> omega) (by apply Exists.intro; apply And.intro; (focus (repeat' (first | exact KF.nil | exact KL.nil | apply KF.cons | apply KL.cons 0 rfl | apply KL.cons 1 rfl | apply KL.cons 2 rfl | apply KL.cons 3 rfl | apply KL.cons 4 rfl | apply KL.cons 5 rfl | apply KL.cons 6 rfl | apply KL.cons 7 rfl | apply KL.cons 8 rfl | apply KL.cons 9 rfl))); kernel_rfl))) (hk _ ?_); clear hC hk C k; simp only [zap])
  | (refine za3 rfl (by kernel_rfl) (by first | (simp [hn]; done) | (simp [hn]; omega) | fail) fun C k hC hk => ?_; simp [hne, hi, del, hAl, hxA, hxn])
  | (refine zas ?_; simp [hne, hi, del, hAl, hxA, hxn])
  | (refine zao ?_; simp only [zap])
  | (refine ⟨?_, by omega⟩)
  | (intro hc <;> (try (exfalso; omega)))
  | (refine CallP.ok1 (hf5 _ (by first | omega | simp <;> omega | fail)) (by first | (simp [hne, hi, del, hAl, hxA, hxn, zaa, getK, zab, zac]; done) | fail) (by rfl) (by rfl) ?_; (try simp [hne, hi, del, hAl, hxA, hxn]))
  | fail)
    refine LoopW.next ⟨k + 1, hlt⟩ (by show acc.length - (k + 1) < acc.length - k; omega) ?_
    exact (Wk.cut rfl (by simp [hn, St.lp]) (by simp [wkO, St.lp, zaa, getK, Ob.under, D.under, zad, zaf, hne, hi, hi1, hi2, hD]) (by simp [wkU, St.lp, zan, zaa, getK, D.under, hne, hi, hi1, hi2, hD]) (by simp [wkE, St.lp, zan, zaa, getK, hne, hi, hi1, hi2, hD] <;> (try (intros; simp_all; done)) <;> (try (intros; omega)) <;> (try grind)))
   ·have hD := zo6 (l := l) (T := T) hx hxn;generalize zhN l T t.text acc k = Zd at *
    ((try unfold zdw at *); unfold rOb zbf at *)
    repeat' (first
  | ((first | refine zag ?_ | refine zaS rfl ?_ | refine zaj ?_ | fail); simp [hne, hi, del, hAl, hxA, hxn])
  | (refine ⟨by omega, ?_⟩)
  | ((first | refine zah ?_ | refine zai ?_ | fail); simp [hne, hi, del, hAl, hxA, hxn])
  | (refine za0 (hC _ (zbP [i] nx (by simp <;> omega) (by simp <;> omega) (by apply Exists.intro; apply And.intro; (focus (repeat' (first | exact KF.nil | exact KL.nil | apply KF.cons | apply KL.cons 0 rfl | apply KL.cons 1 rfl | apply KL.cons 2 rfl | apply KL.cons 3 rfl | apply KL.cons 4 rfl | apply KL.cons 5 rfl | apply KL.cons 6 rfl | apply KL.cons 7 rfl | apply KL.cons 8 rfl | apply KL.cons 9 rfl))); kernel_rfl))) (hk _ ?_); clear hC hk C k; simp only [zap])
  | (refine za3 rfl (by kernel_rfl) (by first | (simp [hn]; done) | (simp [hn]; omega) | fail) fun C k hC hk => ?_; simp [hne, hi, del, hAl, hxA, hxn])
  | (refine zas ?_; simp [hne, hi, del, hAl, hxA, hxn])
  | (refine zao ?_; simp only [zap])
  | (refine ⟨?_, by omega⟩)
  | (intro hc <;> (try (exfalso; omega)))
  | fail)
    refine LoopW.next ⟨k + 1, hlt⟩ (by show acc.length - (k + 1) < acc.length - k; omega) ?_
    exact (Wk.cut rfl (by simp [hn, St.lp]) (by simp [wkO, St.lp, zaa, getK, Ob.under, D.under, zad, zaf, hne, hi, hi1, hi2, hD]) (by simp [wkU, St.lp, zan, zaa, getK, D.under, hne, hi, hi1, hi2, hD]) (by simp [wkE, St.lp, zan, zaa, getK, hne, hi, hi1, hi2, hD] <;> (try (intros; simp_all; done)) <;> (try (intros; omega)) <;> (try grind)))
set_option maxHeartbeats 40000000 in
theorem zle (l : List Tok) (S0 : RS) (i nx : Nat) (hi : i < nx) (hv0 : VS l S0) (hl : TokOK l) (hE : zcJ l) (hll : l.length <= 2001) :
  RetX Tryz.prog 39 [.ptr i 0] [(i, rOb l S0)] nx (fun r o n => r = .val (byD (zrx l S0).1) /\ o = [(i, rOb l (zrx l S0).2)] /\ n = nx) := by
 have hne := zaw hi;have hi1 : i < nx + 1 := by omega
 have hi2 : i < nx + 2 := by omega
 have hW := fun (S : RS) (hv : VS l S) (w : W8) nx' (h : nx <= nx') => zb2 l S w i nx' (by omega) hv (by omega);have hH := fun (S : RS) (hv : VS l S) (w : W8) nx' (h : nx <= nx') => zbO l S w i nx' (by omega) hv (by omega);generalize hR : zrx l S0 = R;rw [zrx] at hR
 (refine RetX.of_bodyW Tryz.func39 rfl (by simp) fun Γ hn hpan => ?_); simp only [entry, ziC, ziN, maC, maN, oA, Tryz.ntmps39]
 have hvk := zrh hl hv0;generalize hK : ziX l S0 = K at *;obtain ⟨⟨kind, sealed⟩, Sk⟩ := K;rw [zbq] at hR
 (try simp only at hR hvk)
 apply zgI (S := { n := 90, env := [(0, .ptr i 0), (2, .ptr nx 0), (3, .ptr (nx + 1) 0)], obs := [(nx + 1, .box [.u (.int .i64 kind), .u (.int .i64 0), .u (.int .i64 0), .u (.int .i64 0), .u (.int .i64 0), .u (.int .i64 0), .u (.bool sealed), .u (.int .i64 0), .u (.int .i64 0), .u (.int .i64 0), .u (.int .i64 0), .u .nil, .u (.int .i64 0), .u (.int .i64 0), .u (.int .i64 0), .u (.str []), .u .nil, .u (.int .i64 0), .u (.int .i64 0), .u (.int .i64 0), .u (.str []), .u .nil, .u (.int .i64 0), .u (.int .i64 0), .u (.int .i64 0), .u (.str []), .u .nil, .u (.int .i64 0), .u (.int .i64 0), .u (.int .i64 0), .u (.str []), .u .nil, .u (.int .i64 0), .u (.int .i64 0), .u (.int .i64 0), .u (.str []), .u .nil]), (nx, .box [.u (.int .i64 0), .u (.int .i64 0), .u (.int .i64 0), .u (.int .i64 0), .u (.int .i64 0), .u (.int .i64 0), .u (.bool false), .u (.int .i64 0), .u (.int .i64 0), .u (.int .i64 0), .u (.int .i64 0), .u .nil, .u (.int .i64 0), .u (.int .i64 0), .u (.int .i64 0), .u (.str []), .u .nil, .u (.int .i64 0), .u (.int .i64 0), .u (.int .i64 0), .u (.str []), .u .nil, .u (.int .i64 0), .u (.int .i64 0), .u (.int .i64 0), .u (.str []), .u .nil, .u (.int .i64 0), .u (.int .i64 0), .u (.int .i64 0), .u (.str []), .u .nil, .u (.int .i64 0), .u (.int .i64 0), .u (.int .i64 0), .u (.str []), .u .nil]), (i, rOb l Sk)], next := nx + 2 })
 case main =>
  intro key;have hK2 := hK;rw [ziX] at hK2
  (try simp only at hK2)
  have v1 := (zbz hl hv0 [99, 105, 114, 99, 108, 101]).vs;have w1 := hW S0 hv0 [99, 105, 114, 99, 108, 101];generalize za6 l S0 [99, 105, 114, 99, 108, 101] = S1 at hK2 v1 w1;have a1 := hH S1 v1 [115, 97, 118, 105, 110, 103];have a2 := hH S1 v1 [98, 105, 100, 100, 105, 110, 103];rcases Bool.eq_false_or_eq_true (isR l S1 [115, 97, 118, 105, 110, 103]) with b1 | b1
  rw [if_pos b1] at hK2;have v2 := (zb6 hl v1 b1).vs;have w2 := hW S1.adv v2 [59];simp only [b1, if_true] at a1;have a3 := a1;have w3 := w2;simp only [Prod.mk.injEq] at hK2;obtain ⟨⟨e1, e2⟩, e3⟩ := hK2;rw [e3] at w2;generalize S1.adv = S3 at a1 w2
  rotate_left
  rcases Bool.eq_false_or_eq_true (isR l S1 [98, 105, 100, 100, 105, 110, 103]) with b2 | b2
  rcases Bool.eq_false_or_eq_true (isR l S1.adv [115, 101, 97, 108, 101, 100]) with b3 | b3
  rw [if_neg (by simp [b1]), if_pos b2, if_pos b3] at hK2;simp only [b1, Bool.false_eq_true, if_false] at a1;have v2 := (zb6 hl v1 b2).vs;simp only [b2, if_true] at a2;have a3 := hH S1.adv v2 [115, 101, 97, 108, 101, 100];have v3 := (zb6 hl v2 b3).vs;have w2 := hW S1.adv.adv v3 [59];simp only [b3, if_true] at a3;have w3 := w2;simp only [Prod.mk.injEq] at hK2;obtain ⟨⟨e1, e2⟩, e3⟩ := hK2;rw [e3] at w2;generalize S1.adv.adv = S4 at a3 w2;generalize S1.adv = S3 at a2 a3
  rotate_left
  rw [if_neg (by simp [b1]), if_pos b2, if_neg (by simp [b3])] at hK2;simp only [b1, Bool.false_eq_true, if_false] at a1;have v2 := (zb6 hl v1 b2).vs;simp only [b2, if_true] at a2;have a3 := hH S1.adv v2 [115, 101, 97, 108, 101, 100];have w2 := hW S1.adv v2 [59];simp only [b3, Bool.false_eq_true, if_false] at a3;have w3 := w2;simp only [Prod.mk.injEq] at hK2;obtain ⟨⟨e1, e2⟩, e3⟩ := hK2;rw [e3] at w2;generalize S1.adv = S3 at a2 a3 w2
  rotate_left
  rw [if_neg (by simp [b1]), if_neg (by simp [b2])] at hK2;simp only [b1, Bool.false_eq_true, if_false] at a1;simp only [b2, Bool.false_eq_true, if_false] at a2;have a3 := a2;have w2 := hW S1 v1 [114, 111, 116, 97, 116, 105, 110, 103];have v2 := (zbz hl v1 [114, 111, 116, 97, 116, 105, 110, 103]).vs;simp only [Prod.mk.injEq] at hK2;obtain ⟨⟨e1, e2⟩, e3⟩ := hK2;generalize za6 l S1 [114, 111, 116, 97, 116, 105, 110, 103] = S2 at w2 v2 e3;have w3 := hW S2 v2 [59];rw [e3] at w3
  all_goals
   ((try unfold zdw at *); unfold rOb zbf at *)
   repeat' (first
  | (refine zfH _ ?_ key; refine Wk.cut rfl ?_ ?_ ?_ ?_; all_goals (first | (simp [hn]; done) | (simp [wkO, zaa, getK, zab, zac, Ob.under, D.under, zad, zaf, hne, hi, hi1, hi2, nAA, <- e1, <- e2]; done) | (simp [wkU, zan, zaa, getK, D.under, hne, hi, hi1, hi2, nAA, <- e1, <- e2]; done) | (simp [wkE, zan, zaa, getK, hne, hi, hi1, hi2, nAA, <- e1, <- e2]; done) | fail))
  | ((first | refine zag ?_ | refine zaj ?_ | refine zah ?_ | refine zai ?_ | refine zas ?_ | fail); simp [hne, hi, del, nAA])
  | (refine CallP.ok1 (w1 _ (by first | omega | simp <;> omega | fail)) (by first | (simp [hne, hi, del, nAA, zaa, getK, zab, zac]; done) | fail) (by rfl) (by rfl) ?_; (try simp [hne, hi, del, nAA]))
  | (refine CallP.ok1 (a1 _ (by first | omega | simp <;> omega | fail)) (by first | (simp [hne, hi, del, nAA, zaa, getK, zab, zac]; done) | fail) (by rfl) (by rfl) ?_; (try simp [hne, hi, del, nAA]))
  | (refine CallP.ok1 (a2 _ (by first | omega | simp <;> omega | fail)) (by first | (simp [hne, hi, del, nAA, zaa, getK, zab, zac]; done) | fail) (by rfl) (by rfl) ?_; (try simp [hne, hi, del, nAA]))
  | (refine CallP.ok1 (a3 _ (by first | omega | simp <;> omega | fail)) (by first | (simp [hne, hi, del, nAA, zaa, getK, zab, zac]; done) | fail) (by rfl) (by rfl) ?_; (try simp [hne, hi, del, nAA]))
  | (refine CallP.ok1 (w2 _ (by first | omega | simp <;> omega | fail)) (by first | (simp [hne, hi, del, nAA, zaa, getK, zab, zac]; done) | fail) (by rfl) (by rfl) ?_; (try simp [hne, hi, del, nAA]))
  | (refine CallP.ok1 (w3 _ (by first | omega | simp <;> omega | fail)) (by first | (simp [hne, hi, del, nAA, zaa, getK, zab, zac]; done) | fail) (by rfl) (by rfl) ?_; (try simp [hne, hi, del, nAA]))
  | fail)
 case key =>
 have p_period := fun nx' (h : nx <= nx') => zdf l Sk [112, 101, 114, 105, 111, 100] true 1 1000 1 (by decide) i nx' (by omega) hvk hl hll;have v_period := ze1 hl hvk [112, 101, 114, 105, 111, 100] true 1 1000 1;generalize zcW l Sk [112, 101, 114, 105, 111, 100] true 1 1000 1 = A at *;obtain ⟨period, S_period⟩ := A;rw [zbq] at hR;simp only at p_period v_period hR;have p_last := fun nx' (h : nx <= nx') => zdf l S_period [108, 97, 115, 116] true 1 1000 0 (by decide) i nx' (by omega) v_period hl hll;have v_last := ze1 hl v_period [108, 97, 115, 116] true 1 1000 0;generalize zcW l S_period [108, 97, 115, 116] true 1 1000 0 = A at *;obtain ⟨last, S_last⟩ := A;rw [zbq] at hR;simp only at p_last v_last hR;have p_grace := fun nx' (h : nx <= nx') => zdf l S_last [103, 114, 97, 99, 101] false 0 1000 1 (by decide) i nx' (by omega) v_last hl hll;have v_grace := ze1 hl v_last [103, 114, 97, 99, 101] false 0 1000 1;generalize zcW l S_last [103, 114, 97, 99, 101] false 0 1000 1 = A at *;obtain ⟨grace, S_grace⟩ := A;rw [zbq] at hR;simp only at p_grace v_grace hR;have p_wait := fun nx' (h : nx <= nx') => zdf l S_grace [119, 97, 105, 116] false 0 1000 1 (by decide) i nx' (by omega) v_grace hl hll;have v_wait := ze1 hl v_grace [119, 97, 105, 116] false 0 1000 1;generalize zcW l S_grace [119, 97, 105, 116] false 0 1000 1 = A at *;obtain ⟨wait, S_wait⟩ := A;rw [zbq] at hR;simp only at p_wait v_wait hR;have v_order := zpM hl v_wait;generalize hO : zf0 l S_wait = A at *;obtain ⟨order, S_order⟩ := A;rw [zbq] at hR;simp only at v_order hR;apply zgI (S := { n := 90, env := [(0, .ptr i 0), (2, .ptr nx 0), (3, .ptr (nx + 1) 0)], obs := [(nx + 1, .box [.u (.int .i64 kind), .u (.int .i64 period), .u (.int .i64 grace), .u (.int .i64 wait), .u (.int .i64 last), .u (.int .i64 order), .u (.bool sealed), .u (.int .i64 0), .u (.int .i64 0), .u (.int .i64 0), .u (.int .i64 0), .u .nil, .u (.int .i64 0), .u (.int .i64 0), .u (.int .i64 0), .u (.str []), .u .nil, .u (.int .i64 0), .u (.int .i64 0), .u (.int .i64 0), .u (.str []), .u .nil, .u (.int .i64 0), .u (.int .i64 0), .u (.int .i64 0), .u (.str []), .u .nil, .u (.int .i64 0), .u (.int .i64 0), .u (.int .i64 0), .u (.str []), .u .nil, .u (.int .i64 0), .u (.int .i64 0), .u (.int .i64 0), .u (.str []), .u .nil]), (nx, .box [.u (.int .i64 0), .u (.int .i64 0), .u (.int .i64 0), .u (.int .i64 0), .u (.int .i64 0), .u (.int .i64 0), .u (.bool false), .u (.int .i64 0), .u (.int .i64 0), .u (.int .i64 0), .u (.int .i64 0), .u .nil, .u (.int .i64 0), .u (.int .i64 0), .u (.int .i64 0), .u (.str []), .u .nil, .u (.int .i64 0), .u (.int .i64 0), .u (.int .i64 0), .u (.str []), .u .nil, .u (.int .i64 0), .u (.int .i64 0), .u (.int .i64 0), .u (.str []), .u .nil, .u (.int .i64 0), .u (.int .i64 0), .u (.int .i64 0), .u (.str []), .u .nil, .u (.int .i64 0), .u (.int .i64 0), .u (.int .i64 0), .u (.str []), .u .nil]), (i, rOb l S_order)], next := nx + 2 })
 case main =>
  intro key;have hO2 := hO;rw [zf0] at hO2;have a1 := hH S_wait v_wait [111, 114, 100, 101, 114];rcases Bool.eq_false_or_eq_true (isR l S_wait [111, 114, 100, 101, 114]) with b1 | b1
  rotate_left
  rw [if_neg (by simp [b1])] at hO2;simp only [b1, Bool.false_eq_true, if_false] at a1;have a2 := a1;have a3 := a1;have w2 := a1;have w3 := a1;simp only [Prod.mk.injEq] at hO2;obtain ⟨e1, e3⟩ := hO2
  rotate_left
  rcases Bool.eq_false_or_eq_true (isR l S_wait.adv [100, 114, 97, 119]) with b2 | b2
  rw [if_pos b1, if_pos b2] at hO2;simp only [b1, if_true] at a1;have v1 := (zb6 hl v_wait b1).vs;have a2 := hH S_wait.adv v1 [100, 114, 97, 119];simp only [b2, if_true] at a2;have a3 := a2;have w2 := hW S_wait.adv.adv (zb6 hl v1 b2).vs [59];have w3 := w2;simp only [Prod.mk.injEq] at hO2;obtain ⟨e1, e3⟩ := hO2;rw [e3] at w2;generalize S_wait.adv.adv = S3 at a2 w2;generalize S_wait.adv = S1 at a1 a2
  rotate_left
  rcases Bool.eq_false_or_eq_true (isR l S_wait.adv [110, 101, 101, 100]) with b3 | b3
  rw [if_pos b1, if_neg (by simp [b2]), if_pos b3] at hO2;simp only [b1, if_true] at a1;have v1 := (zb6 hl v_wait b1).vs;have a2 := hH S_wait.adv v1 [100, 114, 97, 119];simp only [b2, Bool.false_eq_true, if_false] at a2;have a3 := hH S_wait.adv v1 [110, 101, 101, 100];simp only [b3, if_true] at a3;have w2 := hW S_wait.adv.adv (zb6 hl v1 b3).vs [59];have w3 := w2;simp only [Prod.mk.injEq] at hO2;obtain ⟨e1, e3⟩ := hO2;rw [e3] at w2;generalize S_wait.adv.adv = S3 at a3 w2;generalize S_wait.adv = S1 at a1 a2 a3
  rotate_left
  rw [if_pos b1, if_neg (by simp [b2]), if_neg (by simp [b3])] at hO2;simp only [b1, if_true] at a1;have v1 := (zb6 hl v_wait b1).vs;have a2 := hH S_wait.adv v1 [100, 114, 97, 119];simp only [b2, Bool.false_eq_true, if_false] at a2;have a3 := hH S_wait.adv v1 [110, 101, 101, 100];simp only [b3, Bool.false_eq_true, if_false] at a3;have w2 := hW S_wait.adv v1 [106, 111, 105, 110];have v2 := (zbz hl v1 [106, 111, 105, 110]).vs;simp only [Prod.mk.injEq] at hO2;obtain ⟨e1, e3⟩ := hO2;generalize za6 l S_wait.adv [106, 111, 105, 110] = S2 at w2 v2 e3;have w3 := hW S2 v2 [59];rw [e3] at w3;generalize S_wait.adv = S1 at a1 a2 a3 w2
  all_goals
   ((try unfold zdw at *); unfold rOb zbf at *)
   repeat' (first
  | (refine zfH _ ?_ key; refine Wk.cut rfl ?_ ?_ ?_ ?_; all_goals (first | (simp [hn]; done) | (simp [wkO, zaa, getK, zab, zac, Ob.under, D.under, zad, zaf, hne, hi, hi1, hi2, nAA, <- e1, <- e3]; done) | (simp [wkU, zan, zaa, getK, D.under, hne, hi, hi1, hi2, nAA, <- e1, <- e3]; done) | (simp [wkE, zan, zaa, getK, hne, hi, hi1, hi2, nAA, <- e1, <- e3]; done) | fail))
  | ((first | refine zag ?_ | refine zaj ?_ | refine zah ?_ | refine zai ?_ | refine zas ?_ | fail); simp [hne, hi, del, nAA])
  | (refine zao ?_; simp only [zap])
  | (refine CallP.ok1 (p_period _ (by first | omega | simp <;> omega | fail)) (by first | (simp [hne, hi, del, nAA, zaa, getK, zab, zac]; done) | fail) (by rfl) (by rfl) ?_; (try simp [hne, hi, del, nAA]))
  | (refine CallP.ok1 (p_last _ (by first | omega | simp <;> omega | fail)) (by first | (simp [hne, hi, del, nAA, zaa, getK, zab, zac]; done) | fail) (by rfl) (by rfl) ?_; (try simp [hne, hi, del, nAA]))
  | (refine CallP.ok1 (p_grace _ (by first | omega | simp <;> omega | fail)) (by first | (simp [hne, hi, del, nAA, zaa, getK, zab, zac]; done) | fail) (by rfl) (by rfl) ?_; (try simp [hne, hi, del, nAA]))
  | (refine CallP.ok1 (p_wait _ (by first | omega | simp <;> omega | fail)) (by first | (simp [hne, hi, del, nAA, zaa, getK, zab, zac]; done) | fail) (by rfl) (by rfl) ?_; (try simp [hne, hi, del, nAA]))
  | (refine CallP.ok1 (a1 _ (by first | omega | simp <;> omega | fail)) (by first | (simp [hne, hi, del, nAA, zaa, getK, zab, zac]; done) | fail) (by rfl) (by rfl) ?_; (try simp [hne, hi, del, nAA]))
  | (refine CallP.ok1 (a2 _ (by first | omega | simp <;> omega | fail)) (by first | (simp [hne, hi, del, nAA, zaa, getK, zab, zac]; done) | fail) (by rfl) (by rfl) ?_; (try simp [hne, hi, del, nAA]))
  | (refine CallP.ok1 (a3 _ (by first | omega | simp <;> omega | fail)) (by first | (simp [hne, hi, del, nAA, zaa, getK, zab, zac]; done) | fail) (by rfl) (by rfl) ?_; (try simp [hne, hi, del, nAA]))
  | (refine CallP.ok1 (w2 _ (by first | omega | simp <;> omega | fail)) (by first | (simp [hne, hi, del, nAA, zaa, getK, zab, zac]; done) | fail) (by rfl) (by rfl) ?_; (try simp [hne, hi, del, nAA]))
  | (refine CallP.ok1 (w3 _ (by first | omega | simp <;> omega | fail)) (by first | (simp [hne, hi, del, nAA, zaa, getK, zab, zac]; done) | fail) (by rfl) (by rfl) ?_; (try simp [hne, hi, del, nAA]))
  | fail)
 case key =>
 clear p_period p_last p_grace p_wait;have p_backs := fun nx' (h : nx <= nx') => zdf l S_order [98, 97, 99, 107, 115] false 0 60 0 (by decide) i nx' (by omega) v_order hl hll;have v_backs := ze1 hl v_order [98, 97, 99, 107, 115] false 0 60 0;generalize zcW l S_order [98, 97, 99, 107, 115] false 0 60 0 = A at *;obtain ⟨backs, S_backs⟩ := A;rw [zbq] at hR;simp only at p_backs v_backs hR;have p_voices := fun nx' (h : nx <= nx') => zdf l S_backs [118, 111, 105, 99, 101, 115] false 0 1000 2 (by decide) i nx' (by omega) v_backs hl hll;have v_voices := ze1 hl v_backs [118, 111, 105, 99, 101, 115] false 0 1000 2;generalize zcW l S_backs [118, 111, 105, 99, 101, 115] false 0 1000 2 = A at *;obtain ⟨voices, S_voices⟩ := A;rw [zbq] at hR;simp only at p_voices v_voices hR;have p_jury := fun nx' (h : nx <= nx') => zdf l S_voices [106, 117, 114, 121] false 0 60 0 (by decide) i nx' (by omega) v_voices hl hll;have v_jury := ze1 hl v_voices [106, 117, 114, 121] false 0 60 0;generalize zcW l S_voices [106, 117, 114, 121] false 0 60 0 = A at *;obtain ⟨jury, S_jury⟩ := A;rw [zbq] at hR;simp only at p_jury v_jury hR;have p_fund := fun nx' (h : nx <= nx') => zdf l S_jury [102, 117, 110, 100] false 0 1000 2 (by decide) i nx' (by omega) v_jury hl hll;have v_fund := ze1 hl v_jury [102, 117, 110, 100] false 0 1000 2;generalize zcW l S_jury [102, 117, 110, 100] false 0 1000 2 = A at *;obtain ⟨fund, S_fund⟩ := A;rw [zbq] at hR;simp only at p_fund v_fund hR;have p_lets := fun nx' (h : nx <= nx') => zn4 l S_fund i nx' (by omega) v_fund hl hE hll;have v_lets := zoC hl hE 21 [] v_fund;generalize zfD l 21 S_fund [] = A at *;obtain ⟨lets, S_lets⟩ := A;rw [zbq] at hR;simp only at p_lets v_lets hR;have w_due := hW S_lets v_lets [100, 117, 101];have v_w := (zbz hl v_lets [100, 117, 101]).vs;generalize za6 l S_lets [100, 117, 101] = S_w at *;have p_due := fun nx' (h : nx <= nx') => zfm l S_w [59] (.inr rfl) i nx' (by omega) v_w hl hE hll;have v_due := zgW hl hE v_w [59];generalize zb5 l S_w [59] = A at *;obtain ⟨due, S_due⟩ := A;rw [zbq] at hR;simp only [eD] at p_due v_due hR;have p_fine := fun nx' (h : nx <= nx') => zeA l S_due [102, 105, 110, 101] i nx' (by omega) v_due hl hE hll;have v_fine := zge hl hE v_due [102, 105, 110, 101];generalize zbZ l S_due [102, 105, 110, 101] = A at *;obtain ⟨fine, S_fine⟩ := A;rw [zbq] at hR;simp only [eD] at p_fine v_fine hR;have p_pay := fun nx' (h : nx <= nx') => zeA l S_fine [112, 97, 121] i nx' (by omega) v_fine hl hE hll;have v_pay := zge hl hE v_fine [112, 97, 121];generalize zbZ l S_fine [112, 97, 121] = A at *;obtain ⟨pay, S_pay⟩ := A;rw [zbq] at hR;simp only [eD] at p_pay v_pay hR;have p_cover := fun nx' (h : nx <= nx') => zeA l S_pay [99, 111, 118, 101, 114] i nx' (by omega) v_pay hl hE hll;have v_cover := zge hl hE v_pay [99, 111, 118, 101, 114];generalize zbZ l S_pay [99, 111, 118, 101, 114] = A at *;obtain ⟨cover, S_cover⟩ := A;rw [zbq] at hR;simp only [eD] at p_cover v_cover hR;have p_hold := fun nx' (h : nx <= nx') => zeA l S_cover [104, 111, 108, 100] i nx' (by omega) v_cover hl hE hll;have v_hold := zge hl hE v_cover [104, 111, 108, 100];generalize zbZ l S_cover [104, 111, 108, 100] = A at *;obtain ⟨hold, S_hold⟩ := A;rw [zbq] at hR;simp only [eD] at p_hold v_hold hR;have hnx := zcn l S_hold v_hold (by omega);have hf := fun nx' (h : nx <= nx') => zco l S_hold 12 i nx' (by omega) v_hold (by omega);obtain ⟨Sf, hR2, hsw⟩ : ∃ Sf, R = (⟨kind, period, grace, wait, last, order, sealed, backs, voices, jury, fund, lets, due, fine, pay, cover, hold⟩, Sf) /\ (S_hold.err = 0 /\ (zbw l S_hold).kind = 0 /\ Sf = S_hold \/ S_hold.err = 0 /\ ¬ (zbw l S_hold).kind = 0 /\ Sf = zbm l S_hold 12 \/ ¬ S_hold.err = 0 /\ True /\ Sf = S_hold) := by
  refine ⟨_, hR.symm, ?_⟩;rw [zrt];by_cases he : S_hold.err = 0
  ·by_cases hk : (zbw l S_hold).kind = 0
   ·rw [if_neg (by simp [hk])]; exact .inl ⟨he, hk, rfl⟩
   ·rw [if_pos ⟨he, hk⟩]; exact .inr (.inl ⟨he, hk, rfl⟩)
  ·rw [if_neg (fun h => he h.1)]; exact .inr (.inr ⟨he, trivial, rfl⟩)
 subst hR2;generalize zbm l S_hold 12 = T at *;generalize zbw l S_hold = t at *;rcases hsw with ⟨he, hk, hsf⟩ | ⟨he, hk, hsf⟩ | ⟨he, hk, hsf⟩
 all_goals
  ((try unfold zdw at *); unfold rOb zbf at *)
  repeat' (first
  | ((first | refine zag ?_ | refine zaj ?_ | refine zah ?_ | refine zai ?_ | refine zas ?_ | fail); simp [hne, hi, del, nAA, he, hk])
  | ((first | refine zaq ?_ | refine zao ?_ | fail); simp only [zap])
  | (refine CallP.fE (hnx) (by first | rfl | fail) (by first | simp [hne, hi, del, nAA, he, hk] <;> rfl | fail) ?_; (try simp [hne, hi, del, nAA, he, hk]))
  | (refine CallP.ok1 (p_backs _ (by first | omega | simp <;> omega | fail)) (by first | (simp [hne, hi, del, nAA, he, hk, zaa, getK, zab, zac]; done) | fail) (by rfl) (by rfl) ?_; (try simp [hne, hi, del, nAA, he, hk]))
  | (refine CallP.ok1 (p_voices _ (by first | omega | simp <;> omega | fail)) (by first | (simp [hne, hi, del, nAA, he, hk, zaa, getK, zab, zac]; done) | fail) (by rfl) (by rfl) ?_; (try simp [hne, hi, del, nAA, he, hk]))
  | (refine CallP.ok1 (p_jury _ (by first | omega | simp <;> omega | fail)) (by first | (simp [hne, hi, del, nAA, he, hk, zaa, getK, zab, zac]; done) | fail) (by rfl) (by rfl) ?_; (try simp [hne, hi, del, nAA, he, hk]))
  | (refine CallP.ok1 (p_fund _ (by first | omega | simp <;> omega | fail)) (by first | (simp [hne, hi, del, nAA, he, hk, zaa, getK, zab, zac]; done) | fail) (by rfl) (by rfl) ?_; (try simp [hne, hi, del, nAA, he, hk]))
  | (refine CallP.ok1 (p_lets _ (by first | omega | simp <;> omega | fail)) (by first | (simp [hne, hi, del, nAA, he, hk, zaa, getK, zab, zac]; done) | fail) (by rfl) (by rfl) ?_; (try simp [hne, hi, del, nAA, he, hk]))
  | (refine CallP.ok1 (w_due _ (by first | omega | simp <;> omega | fail)) (by first | (simp [hne, hi, del, nAA, he, hk, zaa, getK, zab, zac]; done) | fail) (by rfl) (by rfl) ?_; (try simp [hne, hi, del, nAA, he, hk]))
  | (refine CallP.ok1 (p_due _ (by first | omega | simp <;> omega | fail)) (by first | (simp [hne, hi, del, nAA, he, hk, zaa, getK, zab, zac]; done) | fail) (by rfl) (by rfl) ?_; (try simp [hne, hi, del, nAA, he, hk]))
  | (refine CallP.ok1 (p_fine _ (by first | omega | simp <;> omega | fail)) (by first | (simp [hne, hi, del, nAA, he, hk, zaa, getK, zab, zac]; done) | fail) (by rfl) (by rfl) ?_; (try simp [hne, hi, del, nAA, he, hk]))
  | (refine CallP.ok1 (p_pay _ (by first | omega | simp <;> omega | fail)) (by first | (simp [hne, hi, del, nAA, he, hk, zaa, getK, zab, zac]; done) | fail) (by rfl) (by rfl) ?_; (try simp [hne, hi, del, nAA, he, hk]))
  | (refine CallP.ok1 (p_cover _ (by first | omega | simp <;> omega | fail)) (by first | (simp [hne, hi, del, nAA, he, hk, zaa, getK, zab, zac]; done) | fail) (by rfl) (by rfl) ?_; (try simp [hne, hi, del, nAA, he, hk]))
  | (refine CallP.ok1 (p_hold _ (by first | omega | simp <;> omega | fail)) (by first | (simp [hne, hi, del, nAA, he, hk, zaa, getK, zab, zac]; done) | fail) (by rfl) (by rfl) ?_; (try simp [hne, hi, del, nAA, he, hk]))
  | (refine CallP.ok1 (hf _ (by first | omega | simp <;> omega | fail)) (by first | (simp [hne, hi, del, nAA, he, hk, zaa, getK, zab, zac]; done) | fail) (by rfl) (by rfl) ?_; (try simp [hne, hi, del, nAA, he, hk]))
  | fail)
  refine EndW.norm ?_;simp [St.norm, zaD, zaT, zaV, zaW, hne, nAA]
  (refine EndW.here ?_; (first | (refine EndOK.fin (.inr rfl) ?_) | (refine EndOK.fin (.inl rfl) ?_)); simp [zaA, zae, Tryz.results39, hne, hi, hsf]; refine FinOK.cut [(i, rOb l Sf)] (nx) (by simp [zaa, getK, zab, zac, Ob.under, D.under, zad, zaf, hne, hi, hsf] <;> omega) (by simp [D.under]) (by simp [hn]) ?_; try simp)
  all_goals (try simp [byD, zbb, zds, hsf])
  all_goals (try exact he)
theorem zlO (s : List UInt8) : Fun Tryz.prog 38 [.u (.str s)] (· = zdY (zhM s)) := by
 skip
 unfold zhM;by_cases hlong : 2000 < s.length
 ·have hlong2 : 2000 < (s.length : Int) := by omega
  rw [if_pos hlong]
  (refine Fun.of_bodyW Tryz.func38 rfl (by simp) fun Γ hn => ?_); simp only [entry, ziC, ziN, maC, maN, oA, Tryz.ntmps38]
  repeat' (first
  | ((first | refine zag ?_ | refine zaj ?_ | refine zah ?_ | refine zai ?_ | fail); simp [hlong, hlong2])
  | (refine zaq ?_; simp only [zap])
  | fail)
  refine EndW.norm (EndW.here ?_)
  (refine EndOK.val (.inr rfl) ?_; simp [zaA, zae, zar, Tryz.results38, zay, zaz, zfo, zfp, frz, za5, frzS, fv, zaH, za2, za4, zaG, zau, zam, zaT, zaV, zaW, zaD])
  simp [zdY]
 rw [if_neg hlong];have hlong2 : ¬ 2000 < (s.length : Int) := by omega
 obtain ⟨R, hR⟩ : ∃ R, R = zht (s.length + 1) s 0 := ⟨_, rfl⟩;rw [<- hR]
 (refine Fun.of_bodyW Tryz.func38 rfl (by simp) fun Γ hn => ?_); simp only [entry, ziC, ziN, maC, maN, oA, Tryz.ntmps38]
 repeat' (first
  | ((first | refine zag ?_ | refine zaj ?_ | refine zah ?_ | refine zai ?_ | fail); simp [hlong, hlong2])
  | (refine zao ?_; simp only [zap])
  | fail)
 refine zfH _ (Wk.own 5 52 4 (by decide) rfl) ?_;simp [St.own];refine zcT (α := { x : List Tok × Nat × Nat // x.2.1 <= s.length /\ s.length < x.2.1 + x.2.2 /\ x.1.length <= x.2.1 /\ R = zhR x.1 (zht x.2.2 s x.2.1) }) [0] (fun x => [(5, .vec 0 x.1.1.length), (6, .u (.int .i64 x.1.2.1))])
  (fun x => [(0, .vec 52 4 (zfW x.1.1))]) 1 (fun x => s.length - x.1.2.1) ⟨([], 0, s.length + 1), by simp, by simp, by simp, by simp [zjT, hR]⟩ ?_ ?_
 ·exact (Wk.cut rfl (by simp [hn, St.lp]) (by simp [wkO, St.lp, zaa, getK, Ob.under, D.under, zad, zaf, zfW]) (by simp [wkU, St.lp, zan, zaa, getK, D.under, zfW]) (by simp [wkE, St.lp, zan, zaa, getK, zfW] <;> (try (intros; simp_all; done)) <;> (try (intros; omega)) <;> (try grind)))
 rintro ⟨⟨acc, p, f⟩, h1, h2, h3, h4⟩;simp only at h1 h2 h3 h4;simp [St.lp, St.only, zan, zaa, getK];have hlr : zkW 4 (zfW acc) := fun r hr => by obtain ⟨t, _, rfl⟩ := List.mem_map.1 hr; rfl
 rcases hx : s[p]? with _ | c
 ·have hpe : p = s.length := by have := List.getElem?_eq_none_iff.1 hx; omega
  subst hpe;obtain ⟨f', rfl⟩ : ∃ f', f = f' + 1 := ⟨f - 1, by omega⟩;rw [zht] at h4;have hap : zfW acc ++ [[D.u (.int .i64 0), D.u (.str []), D.u (.int .i64 0), D.u (.int .i64 (s.length : Int))]] = zfW (acc ++ [⟨0, [], 0, s.length⟩]) := by simp [zfW]
  have hd0 : s.drop s.length = [] := List.drop_length;have hs0 : zbQ zbi (s.drop s.length) = 0 := by rw [hd0]; rfl
  rw [hs0, Nat.add_zero, hd0] at h4;simp only at h4
  repeat' (first
  | ((first | refine zag ?_ | refine zaj ?_ | fail); simp [hx, zbn, hap, hlr])
  | (refine ⟨by omega, ?_⟩)
  | ((first | refine zah ?_ | refine zai ?_ | fail); simp [hx, zbn, hap, hlr])
  | (refine zaq ?_; simp only [zap])
  | (refine za9 ?_; simp [zap])
  | fail)
  (refine EndW.frzN 3 ?_; simp [frzN, frz1, zaz, zay, St.frz, St.frzS, frzS, fv, zaH, za2, za4, zaG, zau, zam, del, frz, za5, zgY, zbn, List.length_append])
  refine EndW.norm (EndW.here ?_)
  (refine EndOK.val (.inr rfl) ?_; simp [zaA, zae, zar, Tryz.results38, zay, zaz, zfo, zfp, frz, za5, frzS, fv, zaH, za2, za4, zaG, zau, zam, zaT, zaV, zaW, zaD, zgY, zbn, List.length_append])
  rw [h4];simp [zhR, zdY]
 ·have hlt : p < s.length := (lGE.1 hx).1;have hlt2 : (p : Int) < s.length := by omega
  have hbl := zmR c;cases hb : zbi c with
  | true =>
   rw [hb] at hbl
   repeat' (first
  | ((first | refine zag ?_ | refine zaj ?_ | fail); simp [hx, hlt2])
  | (refine ⟨by omega, ?_⟩)
  | ((first | refine zah ?_ | refine zai ?_ | refine zat ?_ | fail); simp [hx, hlt2])
  | (refine zao ?_; simp only [zap])
  | (refine za9 ?_; simp [zap])
  | (refine CallP.fE (hbl) (by first | rfl | fail) (by first | simp [hx, hlt2] <;> rfl | fail) ?_; (try simp [hx, hlt2]))
  | fail)
   refine LoopW.next ⟨(acc, p + 1, f), by show p + 1 <= s.length; omega, by show s.length < p + 1 + f; omega, by show acc.length <= p + 1; omega, ?_⟩ (by show s.length - (p + 1) < s.length - p; omega) ?_
   ·obtain ⟨f', rfl⟩ : ∃ f', f = f' + 1 := ⟨f - 1, by omega⟩;rw [h4, zm7 hx hb]
   ·exact (Wk.cut rfl (by simp [hn, St.lp]) (by simp [wkO, St.lp, zaa, getK, Ob.under, D.under, zad, zaf, zcM, zcv]) (by simp [wkU, St.lp, zan, zaa, getK, D.under, zcM, zcv]) (by simp [wkE, St.lp, zan, zaa, getK, zcM, zcv] <;> (try (intros; simp_all; done)) <;> (try (intros; omega)) <;> (try grind)))
  | false =>
   rw [hb] at hbl;obtain ⟨f', rfl⟩ : ∃ f', f = f' + 1 := ⟨f - 1, by omega⟩;obtain ⟨r, hd⟩ : ∃ r, s.drop p = c :: r := ⟨s.drop (p + 1), by
    obtain ⟨hp, hx'⟩ := lGE.1 hx;rw [List.drop_eq_getElem_cons hp, hx']⟩
   have hdl : (s.drop p).length = r.length + 1 := by rw [hd]; rfl
   rw [List.length_drop] at hdl;have htk := zmI s p c r hd (by omega);rw [zht, znS hd hb, Nat.add_zero, hd] at h4;simp only at h4;cases hno : zd8 (c :: r) with
   | error e =>
    rw [hno] at h4 htk;simp only at h4 htk;have he : e ≠ 0 := by
     unfold zd8 at hno;simp only at hno;split at hno
     ·split at hno <;> cases hno;omega
     ·split at hno
      ·split at hno <;> cases hno;omega
      ·split at hno <;> cases hno;omega
    repeat' (first
  | ((first | refine zag ?_ | refine zaj ?_ | refine zah ?_ | refine zai ?_ | refine zat ?_ | fail); simp [hx, hlt2, he])
  | ((first | refine zaq ?_ | refine zao ?_ | fail); simp only [zap])
  | (refine CallP.fE (hbl) (by first | rfl | fail) (by first | simp [hx, hlt2, he] <;> rfl | fail) ?_; (try simp [hx, hlt2, he]))
  | (refine CallP.fE (htk) (by first | rfl | fail) (by first | simp [hx, hlt2, he] <;> rfl | fail) ?_; (try simp [hx, hlt2, he]))
  | fail)
    refine EndW.norm (EndW.here ?_)
    (refine EndOK.val (.inr rfl) ?_; simp [zaA, zae, zar, Tryz.results38, zay, zaz, zfo, zfp, frz, za5, frzS, fv, zaH, za2, za4, zaG, zau, zam, zaT, zaV, zaW, zaD])
    rw [h4];simp [zhR, zdY]
   | ok t =>
    rw [hno] at h4 htk;simp only at h4 htk;obtain ⟨ht1, ht2⟩ := zfq hno;simp only [List.length_cons] at ht2;have hap : zfW acc ++ [[D.u (.int .i64 t.kind), D.u (.str t.text), D.u (.int .i64 t.n), D.u (.int .i64 (p : Int))]] = zfW (acc ++ [{ t with pos := (p : Int) }]) := by simp [zfW]
    repeat' (first
  | ((first | refine zag ?_ | refine zaj ?_ | fail); simp [hx, hlt2, zbn, hap, hlr])
  | (refine ⟨by omega, ?_⟩)
  | ((first | refine zah ?_ | refine zai ?_ | refine zat ?_ | refine zas ?_ | fail); simp [hx, hlt2, zbn, hap, hlr])
  | (refine zao ?_; simp only [zap])
  | (refine CallP.fE (hbl) (by first | rfl | fail) (by first | simp [hx, hlt2, zbn, hap, hlr] <;> rfl | fail) ?_; (try simp [hx, hlt2, zbn, hap, hlr]))
  | (refine CallP.fE (htk) (by first | rfl | fail) (by first | simp [hx, hlt2, zbn, hap, hlr] <;> rfl | fail) ?_; (try simp [hx, hlt2, zbn, hap, hlr]))
  | fail)
    refine LoopW.next ⟨(acc ++ [{ t with pos := (p : Int) }], p + t.text.length, f'), by show p + t.text.length <= s.length; omega, by show s.length < p + t.text.length + f'; omega, by simp; omega, ?_⟩ (by show s.length - (p + t.text.length) < s.length - p; omega) ?_
    ·rw [h4];simp only;cases zht f' s (p + t.text.length) <;> simp [zhR]
    ·exact (Wk.ren ((fun i => if i = 0 then 3 else i)) rfl (by first | (simp [hn]; done) | (intro i hi; rw [hn] at hi; constructor <;> (try simp) <;> (try (intro _)) <;> omega)) (by simp [zgl, St.lp, zan, zaa, getK, zac, zal, D.under, D.le, D.ren, zcM, zcv] <;> (try (intros; simp_all; done)) <;> (try omega)) (by simp [wkR, St.lp, zaa, getK, zac, zal, obR, leU, zbe, zaR, Ob.under, D.under, D.le, D.ren, zcM, zcv] <;> (try (intros; simp_all; done)) <;> (try omega)) (by simp [zcM, zcv]))
theorem zm5 {s : List UInt8} {t : Tok} (h : zd8 s = .ok t) : t.kind ≠ 0 := by
 unfold zd8 at h;split at h
 ·cases h
 ·split at h
  ·split at h
   ·cases h; show ¬ _ = _; simp
   ·cases h
  ·split at h
   ·split at h
    ·cases h; show ¬ _ = _; simp
    ·cases h
   ·split at h
    ·cases h; show ¬ _ = _; simp
    ·cases h
theorem znP {s : W8} {l : List Tok} (h : zhM s = .ok l) : zcJ l := by
 have key : ∀ (f : Nat) (p : Nat) (l : List Tok), zht f s p = .ok l -> zcJ l := by
  intro f
  induction f with
  | zero => intro p l h; rw [zht] at h; cases h; intro i t ht; simp at ht
  | succ f ih =>
   intro p l h;rw [zht] at h;split at h
   ·cases h;intro i t ht hk
    match i with
    | 0 => cases ht; rfl
    | i + 1 => simp at ht
   ·rename_i c r hc;split at h
    ·cases h
    ·rename_i t ht0;split at h
     ·cases h
     ·rename_i l' hl';cases h;intro i t' ht hk
      match i with
      | 0 =>
       cases ht;exact absurd (show t.kind = 0 from hk) (zm5 ht0)
      | i + 1 => exact ih _ _ hl' i t' ht hk
 unfold zhM at h;split at h
 ·cases h
 ·exact key _ _ _ h
def zr8 (l : List Tok) : Exp × Int × Int := match zdZ l (4 * l.length + 3) 0 0 with
 | .stop pos e => (zcK, pos, e)
 | .ok y q => if zhv l q ≠ 0 then (zcK, zbL l q, 12) else if 12 < y.lev then (zcK, zbL l q, 6) else (y, 0, 0)
theorem zoe {s : W8} {l : List Tok} (h : zhM s = .ok l) : zcN s = zr8 l := by
 unfold zcN zr8;rw [h];simp only;all_goals (cases zdZ l (4 * l.length + 3) 0 0 <;> rfl)
theorem zmU {s : W8} {p : Nat} {e : Int} (h : zhM s = .error (p, e)) : zcN s = (zcK, (p : Int), e) := by
 unfold zcN;rw [h]
theorem zmQ {l : List Tok} (hl : TokOK l) (hT : zcJ l) (hl0 : 0 < l.length) :
  ((zb5 l ⟨0, 0, 0⟩ []).2.err ≠ 0 /\ zr8 l = (zcK, (zb5 l ⟨0, 0, 0⟩ []).2.pos, (zb5 l ⟨0, 0, 0⟩ []).2.err)) \/ ((zb5 l ⟨0, 0, 0⟩ []).2.err = 0 /\ zr8 l = ((zb5 l ⟨0, 0, 0⟩ []).1, 0, 0)) := by
 unfold zb5 zr8;rcases (ziD hl hT hl0).ways with ⟨a, r, h1, x1⟩ | ⟨pos, e, h1, x1, x2⟩
 ·have hr := (zcR hl h1 hl0).2;unfold zfx at h1;obtain ⟨t, ht⟩ : ∃ t, l[r]? = some t := ⟨_, List.getElem?_eq_getElem hr⟩;have hp : zbL l r = t.pos := by rw [zbL, ht]
  have hk : zhv l r = t.kind := by rw [zhv, ht]
  rw [h1, x1, zbG ht];rw [if_neg (by simp)];simp only;rw [hk, hp];by_cases c1 : t.kind = 0
  ·rw [if_neg (show ¬ (True /\ t.kind ≠ 0 \/ ([] : W8) ≠ [] /\ isR l ⟨r, 0, 0⟩ [] = false) by simp [c1]), if_neg (show ¬ t.kind ≠ 0 by simp [c1])];by_cases c2 : 12 < a.lev
   ·rw [if_pos c2, if_pos c2];refine .inl ⟨by simp [zbm], ?_⟩;simp [zbm, zbG ht]
   ·rw [if_neg c2, if_neg c2];exact .inr ⟨rfl, rfl⟩
  ·rw [if_pos (.inl ⟨trivial, c1⟩), if_pos c1];refine .inl ⟨by simp [zbm], ?_⟩;simp [zbm, zbG ht]
 ·unfold zfx at h1;rw [h1, if_pos x1];refine .inl ⟨x1, ?_⟩;rw [x2.2.1, x2.2.2]
theorem ziA (s : W8) : RetX Tryz.prog 13 [.u (.str s)] [] 0 (fun r o n => r = .val (zlI (zcN s))) := by
 skip
 have ho := zlO s;cases hlx : zhM s with
 | error pe =>
  obtain ⟨p, e⟩ := pe;have he := (zg5 hlx).1;rw [hlx] at ho;rw [zmU hlx];simp only [zdY] at ho ⊢
  (refine RetX.of_bodyW Tryz.func13 rfl (by simp) fun Γ hn hpan => ?_); simp only [entry, ziC, ziN, maC, maN, oA, Tryz.ntmps13]
  repeat' (first
  | ((first | refine zag ?_ | refine zaj ?_ | refine zah ?_ | refine zai ?_ | fail); simp [he])
  | (refine zaq ?_; simp only [zap])
  | (refine CallP.fE (ho) (by first | rfl | fail) (by first | simp [he] <;> rfl | fail) ?_; (try simp [he]))
  | fail)
  refine EndW.norm ?_
  (try simp [St.norm, zaD, zaT, zaV, zaW])
  (refine EndW.here ?_; (first | (refine EndOK.fin (.inr rfl) ?_) | (refine EndOK.fin (.inl rfl) ?_)); simp [zaA, zae, Tryz.results13]; refine FinOK.here (by simp) ?_; try simp)
  simp [zlI, zcK, Exp.row]
 | ok l =>
  obtain ⟨hl, hl2, hl0⟩ := ziU hlx;have hv : VS l ⟨0, 0, 0⟩ := .inr ⟨rfl, rfl, hl0⟩;have hT := znP hlx;have hw := zfm l ⟨0, 0, 0⟩ [] (.inl rfl) 1 2 (by omega) hv hl hT hl2;have hg := zmQ hl hT hl0;rw [hlx] at ho;rw [zoe hlx];simp only [zdY] at ho ⊢;simp only [eD] at hw;generalize zb5 l ⟨0, 0, 0⟩ [] = A at *;obtain ⟨e, S⟩ := A;simp only at hw hg;rcases hg with ⟨h1, h2⟩ | ⟨h1, h2⟩
  ·rw [h2]
   (refine RetX.of_bodyW Tryz.func13 rfl (by simp) fun Γ hn hpan => ?_); simp only [entry, ziC, ziN, maC, maN, oA, Tryz.ntmps13]
   repeat' (first
  | ((first | refine zag ?_ | refine zaS rfl ?_ | refine zbJ rfl ?_ | refine zaj ?_ | refine zah ?_ | refine zai ?_ | fail); simp [h1, del])
  | (refine za0 (hC _ (by kernel_rfl)) (hk _ ?_); clear hC hk C k; simp only [zap])
  | (refine za3 rfl (by kernel_rfl) (by first | (simp [hn]; done) | (simp [hn]; omega) | fail) fun C k hC hk => ?_; simp [h1, del])
  | ((first | refine zaq ?_ | refine zao ?_ | fail); simp only [zap])
  | (refine CallP.fE (ho) (by first | rfl | fail) (by first | simp [h1, del] <;> rfl | fail) ?_; (try simp [h1, del]))
  | (refine CallP.okL (hw) (by first | (simp [h1, del, zaa, getK, zab, zac, zal, zaL, del]; done) | fail) (by rfl) (by rfl) ?_; (try simp [h1, del, zcV, del]))
  | fail)
   refine EndW.norm ?_
   (try simp [St.norm, zaD, zaT, zaV, zaW])
   (refine EndW.here ?_; (first | (refine EndOK.fin (.inr rfl) ?_) | (refine EndOK.fin (.inl rfl) ?_)); simp [zaA, zae, Tryz.results13]; refine FinOK.here (by simp) ?_; try simp)
   simp [zlI, zcK, Exp.row]
  ·rw [h2]
   (refine RetX.of_bodyW Tryz.func13 rfl (by simp) fun Γ hn hpan => ?_); simp only [entry, ziC, ziN, maC, maN, oA, Tryz.ntmps13]
   repeat' (first
  | ((first | refine zag ?_ | refine zaj ?_ | refine zah ?_ | refine zai ?_ | fail); simp [h1, del])
  | ((first | refine zaq ?_ | refine zao ?_ | fail); simp only [zap])
  | (refine CallP.fE (ho) (by first | rfl | fail) (by first | simp [h1, del] <;> rfl | fail) ?_; (try simp [h1, del]))
  | (refine CallP.okL (hw) (by first | (simp [h1, del, zaa, getK, zab, zac, zal, zaL, del]; done) | fail) (by rfl) (by rfl) ?_; (try simp [h1, del, zcV, del]))
  | fail)
   refine EndW.norm ?_
   (try simp [St.norm, zaD, zaT, zaV, zaW])
   (refine EndW.here ?_; (first | (refine EndOK.fin (.inr rfl) ?_) | (refine EndOK.fin (.inl rfl) ?_)); simp [zaA, zae, Tryz.results13]; refine FinOK.here (by simp) ?_; try simp)
   simp [zlI, Exp.row_eq]
theorem zmM (s : W8) : RetX Tryz.prog 11 [.u (.str s)] [] 0 (fun r o n => r = .val (zpu (zdX s))) := by
 skip
 unfold zdX;have ho := zlO s;cases hlx : zhM s with
 | error pe =>
  obtain ⟨p, e⟩ := pe;have he := (zg5 hlx).1;rw [hlx] at ho;simp only [zdY] at ho ⊢
  (refine RetX.of_bodyW Tryz.func11 rfl (by simp) fun Γ hn hpan => ?_); simp only [entry, ziC, ziN, maC, maN, oA, Tryz.ntmps11]
  repeat' (first
  | ((first | refine zag ?_ | refine zaj ?_ | refine zah ?_ | refine zai ?_ | fail); simp [he])
  | (refine zaq ?_; simp only [zap])
  | (refine CallP.fE (ho) (by first | rfl | fail) (by first | simp [he] <;> rfl | fail) ?_; (try simp [he]))
  | fail)
  refine EndW.norm ?_
  (try simp [St.norm, zaD, zaT, zaV, zaW])
  (refine EndW.here ?_; (first | (refine EndOK.fin (.inr rfl) ?_) | (refine EndOK.fin (.inl rfl) ?_)); simp [zaA, zae, Tryz.results11]; refine FinOK.here (by simp) ?_; try simp)
  simp [zpu, zbb, zeL, zcK, Exp.op, Exp.n, Exp.unit, Exp.s, Exp.args]
 | ok l =>
  obtain ⟨hl, hl2, hl0⟩ := ziU hlx;have hv : VS l ⟨0, 0, 0⟩ := .inr ⟨rfl, rfl, hl0⟩;have hT := znP hlx;have hw := zle l ⟨0, 0, 0⟩ 1 2 (by omega) hv hl hT hl2;have hg := (zsb hl hT hl0).ways;rw [hlx] at ho;simp only [zdY] at ho ⊢;generalize zrx l ⟨0, 0, 0⟩ = A at *;obtain ⟨b, S⟩ := A;unfold byD zbb at hw;simp only at hw hg;rcases hg with ⟨a, q, h1, h2⟩ | ⟨pos, e, h1, h2, h3, h4, h5⟩
  ·rw [h1];cases h2
   (try simp only at hw)
   (refine RetX.of_bodyW Tryz.func11 rfl (by simp) fun Γ hn hpan => ?_); simp only [entry, ziC, ziN, maC, maN, oA, Tryz.ntmps11]
   repeat' (first
  | ((first | refine zag ?_ | refine zaj ?_ | refine zah ?_ | refine zai ?_ | fail); simp [del])
  | ((first | refine zaq ?_ | refine zao ?_ | fail); simp only [zap])
  | (refine CallP.fE (ho) (by first | rfl | fail) (by first | simp [del] <;> rfl | fail) ?_; (try simp [del]))
  | (refine CallP.okL (hw) (by first | (simp [del, zaa, getK, zab, zac, zal, zaL, del]; done) | fail) (by rfl) (by rfl) ?_; (try simp [del, zcV, del]))
  | fail)
   refine EndW.norm ?_
   (try simp [St.norm, zaD, zaT, zaV, zaW])
   (refine EndW.here ?_; (first | (refine EndOK.fin (.inr rfl) ?_) | (refine EndOK.fin (.inl rfl) ?_)); simp [zaA, zae, Tryz.results11]; refine FinOK.here (by simp) ?_; try simp)
   simp [zpu, zbb]
  ·rw [h1]
   (try simp only at h2 h4 h5)
   (refine RetX.of_bodyW Tryz.func11 rfl (by simp) fun Γ hn hpan => ?_); simp only [entry, ziC, ziN, maC, maN, oA, Tryz.ntmps11]
   repeat' (first
  | ((first | refine zag ?_ | refine zaS rfl ?_ | refine zbJ rfl ?_ | refine zaj ?_ | refine zah ?_ | refine zai ?_ | fail); simp [h2, del])
  | (refine za0 (hC _ (by kernel_rfl)) (hk _ ?_); clear hC hk C k; simp only [zap])
  | (refine za3 rfl (by kernel_rfl) (by first | (simp [hn]; done) | (simp [hn]; omega) | fail) fun C k hC hk => ?_; simp [h2, del])
  | ((first | refine zaq ?_ | refine zao ?_ | fail); simp only [zap])
  | (refine CallP.fE (ho) (by first | rfl | fail) (by first | simp [h2, del] <;> rfl | fail) ?_; (try simp [h2, del]))
  | (refine CallP.okL (hw) (by first | (simp [h2, del, zaa, getK, zab, zac, zal, zaL, del]; done) | fail) (by rfl) (by rfl) ?_; (try simp [h2, del, zcV, del]))
  | fail)
   refine EndW.norm ?_
   (try simp [St.norm, zaD, zaT, zaV, zaW])
   (refine EndW.here ?_; (first | (refine EndOK.fin (.inr rfl) ?_) | (refine EndOK.fin (.inl rfl) ?_)); simp [zaA, zae, Tryz.results11]; refine FinOK.here (by simp) ?_; try simp)
   simp [zpu, zbb, zeL, zcK, Exp.op, Exp.n, Exp.unit, Exp.s, Exp.args, h4, h5]
theorem zmN (s : W8) : Fun Tryz.prog 11 [.u (.str s)] (· = .tup [byD (zdX s).1, .u (.int .i64 (zdX s).2.1), .u (.int .i64 (zdX s).2.2)]) := by
 unfold Fun;exact (zmM s).ret (fun d o n h => by
  cases h;exact ⟨by simp [zpu, zar], rfl⟩) (fun ch o n h => by cases h)
theorem ziB (s : List UInt8) : Fun Tryz.prog 13 [.u (.str s)] (· = .tup [zkA (zcN s).1, .u (.int .i64 (zcN s).2.1), .u (.int .i64 (zcN s).2.2)]) := by
 unfold Fun;exact (ziA s).ret (fun d o n h => by
  cases h;refine ⟨by simp [zlI, zar], ?_⟩;rw [zlI, Exp.row_eq];rfl) (fun ch o n h => by cases h)
set_option maxHeartbeats 40000000 in
theorem zn9 (b : By) (hb : zeY b = true) : RetX Tryz.prog 19 [.u (.agg (zbb b))] [] 0 (fun r o n => r = .val (.tup [.u (.str (printB b).1), .u (.int .i64 (printB b).2)])) := by
 have hri := zey b;rw [hb] at hri;have hh := hb;simp only [zeY, zrm, zrp, Bool.and_eq_true, decide_eq_true_eq] at hh;obtain ⟨⟨⟨⟨⟨⟨⟨⟨i1, i2⟩, i3⟩, i4⟩, i5⟩, hsl⟩, hLn⟩, hLb⟩, ⟨⟨⟨hrdue, hrfine⟩, hrpay⟩, hrcover⟩, hrhold⟩ := hh;have hLs := zki [] b.lets hLb;simp only [inB, List.any_cons, List.any_nil, Bool.or_false, Bool.not_eq_true', Bool.or_eq_false_iff, decide_eq_false_iff_not, Int.not_lt] at i1 i2 i3 i4 i5;have hca : zak Tryz.prog 62 = true := by kernel_rfl
 have hprB : printB b = if 2000 < (textP b).length then ([], 6) else (textP b, 0) := by unfold printB; rw [if_pos hb]
 rw [hprB];generalize hT : textP b = TT;obtain ⟨T0, e0⟩ : ∃ T0, T0 = zlu b := ⟨_, rfl⟩;have m0 : T0.length <= 100 := by
  rw [e0, zlu, zca];split
  ·decide
  ·split
   ·decide
   ·split <;> decide
 have hok : True := trivial;clear hLb;unfold zbb at hri ⊢;obtain ⟨CL, hCL⟩ : ∃ CL : List D, CL = [.u (.int .i64 b.kind), .u (.int .i64 b.period), .u (.int .i64 b.grace), .u (.int .i64 b.wait), .u (.int .i64 b.last), .u (.int .i64 b.order), .u (.bool b.sld), .u (.int .i64 b.backs), .u (.int .i64 b.voices), .u (.int .i64 b.jury), .u (.int .i64 b.fund), .u (.sl (b.lets.map fun l => [.str l.name, .int .i64 l.body.op, .int .i64 l.body.n, .int .i64 l.body.unit, .str l.body.s, .sl (l.body.args.map Exp.row)])), .u (.int .i64 b.due.op), .u (.int .i64 b.due.n), .u (.int .i64 b.due.unit), .u (.str b.due.s), .u (.sl (b.due.args.map Exp.row)), .u (.int .i64 b.fine.op), .u (.int .i64 b.fine.n), .u (.int .i64 b.fine.unit), .u (.str b.fine.s), .u (.sl (b.fine.args.map Exp.row)), .u (.int .i64 b.pay.op), .u (.int .i64 b.pay.n), .u (.int .i64 b.pay.unit), .u (.str b.pay.s), .u (.sl (b.pay.args.map Exp.row)), .u (.int .i64 b.cover.op), .u (.int .i64 b.cover.n), .u (.int .i64 b.cover.unit), .u (.str b.cover.s), .u (.sl (b.cover.args.map Exp.row)), .u (.int .i64 b.hold.op), .u (.int .i64 b.hold.n), .u (.int .i64 b.hold.unit), .u (.str b.hold.s), .u (.sl (b.hold.args.map Exp.row))] := ⟨_, rfl⟩
 (refine RetX.of_bodyW Tryz.func19 rfl (by simp) fun Γ hn hpan => ?_); simp only [entry, ziC, ziN, maC, maN, oA, Tryz.ntmps19]
 apply zgI (S := { n := 118, env := [(1, .ptr 0 0), (4, .ptr 1 0), (5, .ptr 2 0), (6, .fnc (.func 55) [.ptr 2 0]), (7, .fnc (.func 57) [.ptr 2 0])], obs := [(0, .box [.u (.int .i64 b.kind), .u (.int .i64 b.period), .u (.int .i64 b.grace), .u (.int .i64 b.wait), .u (.int .i64 b.last), .u (.int .i64 b.order), .u (.bool b.sld), .u (.int .i64 b.backs), .u (.int .i64 b.voices), .u (.int .i64 b.jury), .u (.int .i64 b.fund), .u (.sl (b.lets.map fun l => [.str l.name, .int .i64 l.body.op, .int .i64 l.body.n, .int .i64 l.body.unit, .str l.body.s, .sl (l.body.args.map Exp.row)])), .u (.int .i64 b.due.op), .u (.int .i64 b.due.n), .u (.int .i64 b.due.unit), .u (.str b.due.s), .u (.sl (b.due.args.map Exp.row)), .u (.int .i64 b.fine.op), .u (.int .i64 b.fine.n), .u (.int .i64 b.fine.unit), .u (.str b.fine.s), .u (.sl (b.fine.args.map Exp.row)), .u (.int .i64 b.pay.op), .u (.int .i64 b.pay.n), .u (.int .i64 b.pay.unit), .u (.str b.pay.s), .u (.sl (b.pay.args.map Exp.row)), .u (.int .i64 b.cover.op), .u (.int .i64 b.cover.n), .u (.int .i64 b.cover.unit), .u (.str b.cover.s), .u (.sl (b.cover.args.map Exp.row)), .u (.int .i64 b.hold.op), .u (.int .i64 b.hold.n), .u (.int .i64 b.hold.unit), .u (.str b.hold.s), .u (.sl (b.hold.args.map Exp.row))]), (2, zcf), (1, zdn 3 T0), (3, zdm T0)], next := 4 })
 case main =>
  intro key;cases hsd : b.sld with
  | true =>
   rw [zlu, if_pos hsd] at e0;have hln := fun nx (h : 3 <= nx) => zg4 [[99, 105, 114, 99, 108, 101], [98, 105, 100, 100, 105, 110, 103], [115, 101, 97, 108, 101, 100]] 1 nx (by omega) (by rw [<- e0]; omega) (by simp);rw [<- e0] at hln;simp only [List.map_cons, List.map_nil] at hln
   repeat' (first
  | (refine zg9 (by first | (simp; done) | fail) (by simp) ?_; simp)
  | ((first | refine zag ?_ | refine zaj ?_ | refine zah ?_ | refine zai ?_ | refine zas ?_ | fail); simp [hsd])
  | (refine zao ?_; simp only [zap])
  | (refine CallP.fE (hri) (by first | rfl | fail) (by first | simp [hsd] <;> rfl | fail) ⟨by first | assumption | (simp; done) | fail, by simp, ?_⟩; (try simp [hsd]))
  | (refine zav (by first | rfl | fail) ?_; simp [hsd, frzN, frz1, zaz, zay, St.frz, St.frzS, frzS, fv, zaH, za2, za4, zaG, zau, zam, del, frz, za5])
  | fail)
   refine CallP.okL (hln _ (by simp)) (by simp [zaa, getK]) (by rfl) (by rfl) ⟨by first | assumption | (simp; done), by simp, ?_⟩;simp [zcV, del];refine zaj ?_;simp only [zap];refine zfH _ ?_ key;exact (Wk.ren ((fun x => if x = 3 then 5 else x)) rfl (by first | (simp [hn]; done) | (intro i hi; rw [hn] at hi; constructor <;> (try simp) <;> (try (intro _)) <;> omega)) (by simp [zgl, St.lp, zan, zaa, getK, zac, zal, D.under, D.le, D.ren] <;> (try (intros; simp_all; done)) <;> (try omega)) (by simp [wkR, St.lp, zaa, getK, zac, zal, obR, leU, zbe, zaR, Ob.under, D.under, D.le, D.ren] <;> (try (intros; simp_all; done)) <;> (try omega)) (by simp))
  | false =>
   have hk3 : b.kind = 0 \/ b.kind = 1 \/ b.kind = 2 := by omega
   have go : ∀ (kw : W8) (kd : Int), b.kind = kd -> (kd = 0 /\ kw = [114, 111, 116, 97, 116, 105, 110, 103] \/ kd = 1 /\ kw = [98, 105, 100, 100, 105, 110, 103] \/ kd = 2 /\ kw = [115, 97, 118, 105, 110, 103]) -> T0 = zca [[99, 105, 114, 99, 108, 101], kw] := fun kw kd h1 h2 => by
    rw [e0, zlu, hsd];rcases h2 with ⟨rfl, rfl⟩ | ⟨rfl, rfl⟩ | ⟨rfl, rfl⟩ <;> simp [h1]
   rcases hk3 with hk0 | hk0 | hk0
   ·have e1 := go [114, 111, 116, 97, 116, 105, 110, 103] 0 hk0 (by decide);have hln := fun nx (h : 3 <= nx) => zg4 [[99, 105, 114, 99, 108, 101], [114, 111, 116, 97, 116, 105, 110, 103]] 1 nx (by omega) (by rw [<- e1]; omega) (by simp);rw [<- e1] at hln;simp only [List.map_cons, List.map_nil] at hln
    repeat' (first
  | (refine zg9 (by first | (simp; done) | fail) (by simp) ?_; simp)
  | (refine zdD ?_; simp [hsd, hk0])
  | (refine zeI rfl rfl (by decide +kernel) (by first | (simp [hn]; done) | (simp [hn]; omega) | fail) fun C k hC hk => ?_; simp [hsd, hk0])
  | ((first | refine zag ?_ | refine zaS rfl ?_ | refine zbJ rfl ?_ | refine zaj ?_ | refine zah ?_ | refine zai ?_ | fail); simp [hsd, hk0])
  | (refine za0 (hC _ (by kernel_rfl)) (hk _ ?_); clear hC hk C k; simp only [zap])
  | (refine zao ?_; simp only [zap])
  | (refine CallP.fE (hri) (by first | rfl | fail) (by first | simp [hsd, hk0] <;> rfl | fail) ⟨by first | assumption | (simp; done) | fail, by simp, ?_⟩; (try simp [hsd, hk0]))
  | (refine zav (by first | rfl | fail) ?_; simp [hsd, hk0, frzN, frz1, zaz, zay, St.frz, St.frzS, frzS, fv, zaH, za2, za4, zaG, zau, zam, del, frz, za5])
  | fail)
    refine CallP.okL (hln _ (by simp)) (by simp [zaa, getK]) (by rfl) (by rfl) ⟨by first | assumption | (simp; done), by simp, ?_⟩;simp [zcV, del];refine zaj ?_;simp only [zap];refine zfH _ ?_ key;exact (Wk.ren ((fun x => if x = 3 then 6 else x)) rfl (by first | (simp [hn]; done) | (intro i hi; rw [hn] at hi; constructor <;> (try simp) <;> (try (intro _)) <;> omega)) (by simp [zgl, St.lp, zan, zaa, getK, zac, zal, D.under, D.le, D.ren] <;> (try (intros; simp_all; done)) <;> (try omega)) (by simp [wkR, St.lp, zaa, getK, zac, zal, obR, leU, zbe, zaR, Ob.under, D.under, D.le, D.ren] <;> (try (intros; simp_all; done)) <;> (try omega)) (by simp))
   ·have e1 := go [98, 105, 100, 100, 105, 110, 103] 1 hk0 (by decide);have hln := fun nx (h : 3 <= nx) => zg4 [[99, 105, 114, 99, 108, 101], [98, 105, 100, 100, 105, 110, 103]] 1 nx (by omega) (by rw [<- e1]; omega) (by simp);rw [<- e1] at hln;simp only [List.map_cons, List.map_nil] at hln
    repeat' (first
  | (refine zg9 (by first | (simp; done) | fail) (by simp) ?_; simp)
  | (refine zdD ?_; simp [hsd, hk0])
  | (refine zeI rfl rfl (by decide +kernel) (by first | (simp [hn]; done) | (simp [hn]; omega) | fail) fun C k hC hk => ?_; simp [hsd, hk0])
  | ((first | refine zag ?_ | refine zaS rfl ?_ | refine zbJ rfl ?_ | refine zaj ?_ | refine zah ?_ | refine zai ?_ | fail); simp [hsd, hk0])
  | (refine za0 (hC _ (by kernel_rfl)) (hk _ ?_); clear hC hk C k; simp only [zap])
  | (refine zao ?_; simp only [zap])
  | (refine CallP.fE (hri) (by first | rfl | fail) (by first | simp [hsd, hk0] <;> rfl | fail) ⟨by first | assumption | (simp; done) | fail, by simp, ?_⟩; (try simp [hsd, hk0]))
  | (refine zav (by first | rfl | fail) ?_; simp [hsd, hk0, frzN, frz1, zaz, zay, St.frz, St.frzS, frzS, fv, zaH, za2, za4, zaG, zau, zam, del, frz, za5])
  | fail)
    refine CallP.okL (hln _ (by simp)) (by simp [zaa, getK]) (by rfl) (by rfl) ⟨by first | assumption | (simp; done), by simp, ?_⟩;simp [zcV, del];refine zaj ?_;simp only [zap];refine zfH _ ?_ key;exact (Wk.ren ((fun x => if x = 3 then 6 else x)) rfl (by first | (simp [hn]; done) | (intro i hi; rw [hn] at hi; constructor <;> (try simp) <;> (try (intro _)) <;> omega)) (by simp [zgl, St.lp, zan, zaa, getK, zac, zal, D.under, D.le, D.ren] <;> (try (intros; simp_all; done)) <;> (try omega)) (by simp [wkR, St.lp, zaa, getK, zac, zal, obR, leU, zbe, zaR, Ob.under, D.under, D.le, D.ren] <;> (try (intros; simp_all; done)) <;> (try omega)) (by simp))
   ·have e1 := go [115, 97, 118, 105, 110, 103] 2 hk0 (by decide);have hln := fun nx (h : 3 <= nx) => zg4 [[99, 105, 114, 99, 108, 101], [115, 97, 118, 105, 110, 103]] 1 nx (by omega) (by rw [<- e1]; omega) (by simp);rw [<- e1] at hln;simp only [List.map_cons, List.map_nil] at hln
    repeat' (first
  | (refine zg9 (by first | (simp; done) | fail) (by simp) ?_; simp)
  | (refine zdD ?_; simp [hsd, hk0])
  | (refine zeI rfl rfl (by decide +kernel) (by first | (simp [hn]; done) | (simp [hn]; omega) | fail) fun C k hC hk => ?_; simp [hsd, hk0])
  | ((first | refine zag ?_ | refine zaS rfl ?_ | refine zbJ rfl ?_ | refine zaj ?_ | refine zah ?_ | refine zai ?_ | fail); simp [hsd, hk0])
  | (refine za0 (hC _ (by kernel_rfl)) (hk _ ?_); clear hC hk C k; simp only [zap])
  | (refine zao ?_; simp only [zap])
  | (refine CallP.fE (hri) (by first | rfl | fail) (by first | simp [hsd, hk0] <;> rfl | fail) ⟨by first | assumption | (simp; done) | fail, by simp, ?_⟩; (try simp [hsd, hk0]))
  | (refine zav (by first | rfl | fail) ?_; simp [hsd, hk0, frzN, frz1, zaz, zay, St.frz, St.frzS, frzS, fv, zaH, za2, za4, zaG, zau, zam, del, frz, za5])
  | fail)
    refine CallP.okL (hln _ (by simp)) (by simp [zaa, getK]) (by rfl) (by rfl) ⟨by first | assumption | (simp; done), by simp, ?_⟩;simp [zcV, del];refine zaj ?_;simp only [zap];refine zfH _ ?_ key;exact (Wk.ren ((fun x => if x = 3 then 6 else x)) rfl (by first | (simp [hn]; done) | (intro i hi; rw [hn] at hi; constructor <;> (try simp) <;> (try (intro _)) <;> omega)) (by simp [zgl, St.lp, zan, zaa, getK, zac, zal, D.under, D.le, D.ren] <;> (try (intros; simp_all; done)) <;> (try omega)) (by simp [wkR, St.lp, zaa, getK, zac, zal, obR, leU, zbe, zaR, Ob.under, D.under, D.le, D.ren] <;> (try (intros; simp_all; done)) <;> (try omega)) (by simp))
 case key =>
 rw [<- hCL];have x0 : CL[0]? = some (.u (.int .i64 b.kind)) := by rw [hCL]; rfl
 have x1 : CL[1]? = some (.u (.int .i64 b.period)) := by rw [hCL]; rfl
 have x2 : CL[2]? = some (.u (.int .i64 b.grace)) := by rw [hCL]; rfl
 have x3 : CL[3]? = some (.u (.int .i64 b.wait)) := by rw [hCL]; rfl
 have x4 : CL[4]? = some (.u (.int .i64 b.last)) := by rw [hCL]; rfl
 have x5 : CL[5]? = some (.u (.int .i64 b.order)) := by rw [hCL]; rfl
 have x6 : CL[6]? = some (.u (.bool b.sld)) := by rw [hCL]; rfl
 have x7 : CL[7]? = some (.u (.int .i64 b.backs)) := by rw [hCL]; rfl
 have x8 : CL[8]? = some (.u (.int .i64 b.voices)) := by rw [hCL]; rfl
 have x9 : CL[9]? = some (.u (.int .i64 b.jury)) := by rw [hCL]; rfl
 have x10 : CL[10]? = some (.u (.int .i64 b.fund)) := by rw [hCL]; rfl
 have x11 : CL[11]? = some (.u (.sl (b.lets.map fun l => [.str l.name, .int .i64 l.body.op, .int .i64 l.body.n, .int .i64 l.body.unit, .str l.body.s, .sl (l.body.args.map Exp.row)]))) := by rw [hCL]; rfl
 have x12 : CL[12]? = some (.u (.int .i64 b.due.op)) := by rw [hCL]; rfl
 have x13 : CL[13]? = some (.u (.int .i64 b.due.n)) := by rw [hCL]; rfl
 have x14 : CL[14]? = some (.u (.int .i64 b.due.unit)) := by rw [hCL]; rfl
 have x15 : CL[15]? = some (.u (.str b.due.s)) := by rw [hCL]; rfl
 have x16 : CL[16]? = some (.u (.sl (b.due.args.map Exp.row))) := by rw [hCL]; rfl
 have x17 : CL[17]? = some (.u (.int .i64 b.fine.op)) := by rw [hCL]; rfl
 have x18 : CL[18]? = some (.u (.int .i64 b.fine.n)) := by rw [hCL]; rfl
 have x19 : CL[19]? = some (.u (.int .i64 b.fine.unit)) := by rw [hCL]; rfl
 have x20 : CL[20]? = some (.u (.str b.fine.s)) := by rw [hCL]; rfl
 have x21 : CL[21]? = some (.u (.sl (b.fine.args.map Exp.row))) := by rw [hCL]; rfl
 have x22 : CL[22]? = some (.u (.int .i64 b.pay.op)) := by rw [hCL]; rfl
 have x23 : CL[23]? = some (.u (.int .i64 b.pay.n)) := by rw [hCL]; rfl
 have x24 : CL[24]? = some (.u (.int .i64 b.pay.unit)) := by rw [hCL]; rfl
 have x25 : CL[25]? = some (.u (.str b.pay.s)) := by rw [hCL]; rfl
 have x26 : CL[26]? = some (.u (.sl (b.pay.args.map Exp.row))) := by rw [hCL]; rfl
 have x27 : CL[27]? = some (.u (.int .i64 b.cover.op)) := by rw [hCL]; rfl
 have x28 : CL[28]? = some (.u (.int .i64 b.cover.n)) := by rw [hCL]; rfl
 have x29 : CL[29]? = some (.u (.int .i64 b.cover.unit)) := by rw [hCL]; rfl
 have x30 : CL[30]? = some (.u (.str b.cover.s)) := by rw [hCL]; rfl
 have x31 : CL[31]? = some (.u (.sl (b.cover.args.map Exp.row))) := by rw [hCL]; rfl
 have x32 : CL[32]? = some (.u (.int .i64 b.hold.op)) := by rw [hCL]; rfl
 have x33 : CL[33]? = some (.u (.int .i64 b.hold.n)) := by rw [hCL]; rfl
 have x34 : CL[34]? = some (.u (.int .i64 b.hold.unit)) := by rw [hCL]; rfl
 have x35 : CL[35]? = some (.u (.str b.hold.s)) := by rw [hCL]; rfl
 have x36 : CL[36]? = some (.u (.sl (b.hold.args.map Exp.row))) := by rw [hCL]; rfl
 have xs := And.intro x0 <| And.intro x1 <| And.intro x2 <| And.intro x3 <| And.intro x4 <| And.intro x5 <| And.intro x6 <| And.intro x7 <| And.intro x8 <| And.intro x9 <| And.intro x10 <| And.intro x11 <| And.intro x12 <| And.intro x13 <| And.intro x14 <| And.intro x15 <| And.intro x16 <| And.intro x17 <| And.intro x18 <| And.intro x19 <| And.intro x20 <| And.intro x21 <| And.intro x22 <| And.intro x23 <| And.intro x24 <| And.intro x25 <| And.intro x26 <| And.intro x27 <| And.intro x28 <| And.intro x29 <| And.intro x30 <| And.intro x31 <| And.intro x32 <| And.intro x33 <| And.intro x34 <| And.intro x35 x36
 have xun : (∀ x : D, x ∈ CL -> D.under 4 x = true) = True := eq_true (by rw [hCL]; simp [D.under]);have y12 : 17 <= CL.length := by rw [hCL]; simp
 have z12 : List.take 5 (List.drop 12 CL) = [.u (.int .i64 b.due.op), .u (.int .i64 b.due.n), .u (.int .i64 b.due.unit), .u (.str b.due.s), .u (.sl (b.due.args.map Exp.row))] := by rw [hCL]; rfl
 have y17 : 22 <= CL.length := by rw [hCL]; simp
 have z17 : List.take 5 (List.drop 17 CL) = [.u (.int .i64 b.fine.op), .u (.int .i64 b.fine.n), .u (.int .i64 b.fine.unit), .u (.str b.fine.s), .u (.sl (b.fine.args.map Exp.row))] := by rw [hCL]; rfl
 have y22 : 27 <= CL.length := by rw [hCL]; simp
 have z22 : List.take 5 (List.drop 22 CL) = [.u (.int .i64 b.pay.op), .u (.int .i64 b.pay.n), .u (.int .i64 b.pay.unit), .u (.str b.pay.s), .u (.sl (b.pay.args.map Exp.row))] := by rw [hCL]; rfl
 have y27 : 32 <= CL.length := by rw [hCL]; simp
 have z27 : List.take 5 (List.drop 27 CL) = [.u (.int .i64 b.cover.op), .u (.int .i64 b.cover.n), .u (.int .i64 b.cover.unit), .u (.str b.cover.s), .u (.sl (b.cover.args.map Exp.row))] := by rw [hCL]; rfl
 have y32 : 37 <= CL.length := by rw [hCL]; simp
 have z32 : List.take 5 (List.drop 32 CL) = [.u (.int .i64 b.hold.op), .u (.int .i64 b.hold.n), .u (.int .i64 b.hold.unit), .u (.str b.hold.s), .u (.sl (b.hold.args.map Exp.row))] := by rw [hCL]; rfl
 have xfz : ∀ σ, CL.map (frzS σ) = CL := fun σ => by rw [hCL]; simp [VL.frzS]
 have xle : ∀ ρ nx, leU ρ nx CL CL := fun ρ nx => by rw [hCL]; simp [leU, D.le, D.ren, D.under]
 have p1 := zdg T0 [112, 101, 114, 105, 111, 100] b.period [[100, 97, 121, 115]];obtain ⟨T1, e1⟩ : ∃ T1, T1 = T0 ++ zcj [112, 101, 114, 105, 111, 100] b.period [[100, 97, 121, 115]] := ⟨_, rfl⟩;have l1 : (zcj [112, 101, 114, 105, 111, 100] b.period [[100, 97, 121, 115]]).length <= 100 := zdh (by omega) (by omega) (by decide);have m1 : T1.length <= T0.length + 100 := by rw [e1, List.length_append]; omega
 rw [<- e1] at p1
 repeat' (first
  | ((first | refine zag ?_ | refine zah ?_ | fail); simp [xs, xfz])
  | (refine zav (by first | rfl | fail) ?_; simp [xs, xfz, frzN, frz1, zaz, zay, St.frz, St.frzS, frzS, fv, zaH, za2, za4, zaG, zau, zam, del, frz, za5])
  | fail)
 refine CallP.okE (p1 3 _ (by omega) (by first | omega | simp <;> omega | fail) (by omega) (by omega) (by omega) (by simp)) (by first | (simp [zaa, getK, zab, zac]; done) | fail) (by rfl) (by first | assumption | (simp; done) | fail) (by rfl) (by simp) ?_;rintro d o N hN ⟨rfl, j', h3, hlt, hge, rfl⟩;simp at hge;have q0 : ¬ j' = 0 := by omega
 have q1 : ¬ j' = 1 := by omega
 have q2 : ¬ j' = 2 := by omega
 have q3 : ¬ 0 = j' := by omega
 have q4 : ¬ 1 = j' := by omega
 have q5 : ¬ 2 = j' := by omega
 have qs := And.intro q0 <| And.intro q1 <| And.intro q2 <| And.intro q3 <| And.intro q4 q5
 simp [zcV, del];refine zaj ?_;simp only [zap];refine zfH { n := 118, env := [(1, .ptr 0 0), (4, .ptr 1 0), (5, .ptr 2 0), (6, .fnc (.func 55) [.ptr 2 0]), (7, .fnc (.func 57) [.ptr 2 0])], obs := [(0, .box CL), (2, zcf), (1, zdn 3 T1), (3, zdm T1)], next := 4 } (Wk.ren ((fun x => if x = 3 then j' else x)) rfl (by first | (simp [hn]; done) | (intro i hi; rw [hn] at hi; constructor <;> (try simp) <;> (try (intro _)) <;> omega)) (by simp [zgl, St.lp, zan, zaa, getK, zac, zal, D.under, D.le, D.ren, h3, hlt, qs, xle, xfz] <;> (try (intros; simp_all; done)) <;> (try omega)) (by simp [wkR, St.lp, zaa, getK, zac, zal, obR, leU, zbe, zaR, Ob.under, D.under, D.le, D.ren, h3, hlt, qs, xle, xfz] <;> (try (intros; simp_all; done)) <;> (try omega)) (by simp [h3, hlt, qs, xle, xfz])) ?_;have p2 := zdg T1 [108, 97, 115, 116] b.last [];obtain ⟨T2, e2⟩ : ∃ T2, T2 = T1 ++ zcj [108, 97, 115, 116] b.last [] := ⟨_, rfl⟩;have l2 : (zcj [108, 97, 115, 116] b.last []).length <= 100 := zdh (by omega) (by omega) (by decide);have m2 : T2.length <= T1.length + 100 := by rw [e2, List.length_append]; omega
 rw [<- e2] at p2
 repeat' (first
  | ((first | refine zag ?_ | refine zah ?_ | fail); simp [xs, xfz])
  | fail)
 refine CallP.okE (zln (p2 3 _ (by omega) (by first | omega | simp <;> omega | fail) (by omega) (by omega) (by omega) (by simp))) (by first | (simp [zaa, getK, zab, zac]; done) | fail) (by rfl) (by first | assumption | (simp; done) | fail) (by rfl) (by simp) ?_;rintro d o N hN ⟨rfl, j', h3, hlt, hge, rfl⟩;simp at hge;have q0 : ¬ j' = 0 := by omega
 have q1 : ¬ j' = 1 := by omega
 have q2 : ¬ j' = 2 := by omega
 have q3 : ¬ 0 = j' := by omega
 have q4 : ¬ 1 = j' := by omega
 have q5 : ¬ 2 = j' := by omega
 have qs := And.intro q0 <| And.intro q1 <| And.intro q2 <| And.intro q3 <| And.intro q4 q5
 simp [zcV, del];refine zaj ?_;simp only [zap];refine zfH { n := 118, env := [(1, .ptr 0 0), (4, .ptr 1 0), (5, .ptr 2 0), (6, .fnc (.func 55) [.ptr 2 0]), (7, .fnc (.func 57) [.ptr 2 0])], obs := [(0, .box CL), (2, zcf), (1, zdn 3 T2), (3, zdm T2)], next := 4 } (Wk.ren ((fun x => if x = 3 then j' else x)) rfl (by first | (simp [hn]; done) | (intro i hi; rw [hn] at hi; constructor <;> (try simp) <;> (try (intro _)) <;> omega)) (by simp [zgl, St.lp, zan, zaa, getK, zac, zal, D.under, D.le, D.ren, h3, hlt, qs, xle, xfz] <;> (try (intros; simp_all; done)) <;> (try omega)) (by simp [wkR, St.lp, zaa, getK, zac, zal, obR, leU, zbe, zaR, Ob.under, D.under, D.le, D.ren, h3, hlt, qs, xle, xfz] <;> (try (intros; simp_all; done)) <;> (try omega)) (by simp [h3, hlt, qs, xle, xfz])) ?_;have p3 := zdg T2 [103, 114, 97, 99, 101] b.grace [[100, 97, 121, 115]];obtain ⟨T3, e3⟩ : ∃ T3, T3 = T2 ++ zcj [103, 114, 97, 99, 101] b.grace [[100, 97, 121, 115]] := ⟨_, rfl⟩;have l3 : (zcj [103, 114, 97, 99, 101] b.grace [[100, 97, 121, 115]]).length <= 100 := zdh (by omega) (by omega) (by decide);have m3 : T3.length <= T2.length + 100 := by rw [e3, List.length_append]; omega
 rw [<- e3] at p3
 repeat' (first
  | ((first | refine zag ?_ | refine zah ?_ | fail); simp [xs, xfz])
  | (refine zav (by first | rfl | fail) ?_; simp [xs, xfz, frzN, frz1, zaz, zay, St.frz, St.frzS, frzS, fv, zaH, za2, za4, zaG, zau, zam, del, frz, za5])
  | fail)
 refine CallP.okE (p3 3 _ (by omega) (by first | omega | simp <;> omega | fail) (by omega) (by omega) (by omega) (by simp)) (by first | (simp [zaa, getK, zab, zac]; done) | fail) (by rfl) (by first | assumption | (simp; done) | fail) (by rfl) (by simp) ?_;rintro d o N hN ⟨rfl, j', h3, hlt, hge, rfl⟩;simp at hge;have q0 : ¬ j' = 0 := by omega
 have q1 : ¬ j' = 1 := by omega
 have q2 : ¬ j' = 2 := by omega
 have q3 : ¬ 0 = j' := by omega
 have q4 : ¬ 1 = j' := by omega
 have q5 : ¬ 2 = j' := by omega
 have qs := And.intro q0 <| And.intro q1 <| And.intro q2 <| And.intro q3 <| And.intro q4 q5
 simp [zcV, del];refine zaj ?_;simp only [zap];refine zfH { n := 118, env := [(1, .ptr 0 0), (4, .ptr 1 0), (5, .ptr 2 0), (6, .fnc (.func 55) [.ptr 2 0]), (7, .fnc (.func 57) [.ptr 2 0])], obs := [(0, .box CL), (2, zcf), (1, zdn 3 T3), (3, zdm T3)], next := 4 } (Wk.ren ((fun x => if x = 3 then j' else x)) rfl (by first | (simp [hn]; done) | (intro i hi; rw [hn] at hi; constructor <;> (try simp) <;> (try (intro _)) <;> omega)) (by simp [zgl, St.lp, zan, zaa, getK, zac, zal, D.under, D.le, D.ren, h3, hlt, qs, xle, xfz] <;> (try (intros; simp_all; done)) <;> (try omega)) (by simp [wkR, St.lp, zaa, getK, zac, zal, obR, leU, zbe, zaR, Ob.under, D.under, D.le, D.ren, h3, hlt, qs, xle, xfz] <;> (try (intros; simp_all; done)) <;> (try omega)) (by simp [h3, hlt, qs, xle, xfz])) ?_;have p4 := zdg T3 [119, 97, 105, 116] b.wait [[100, 97, 121, 115]];obtain ⟨T4, e4⟩ : ∃ T4, T4 = T3 ++ zcj [119, 97, 105, 116] b.wait [[100, 97, 121, 115]] := ⟨_, rfl⟩;have l4 : (zcj [119, 97, 105, 116] b.wait [[100, 97, 121, 115]]).length <= 100 := zdh (by omega) (by omega) (by decide);have m4 : T4.length <= T3.length + 100 := by rw [e4, List.length_append]; omega
 rw [<- e4] at p4
 repeat' (first
  | ((first | refine zag ?_ | refine zah ?_ | fail); simp [xs, xfz])
  | (refine zav (by first | rfl | fail) ?_; simp [xs, xfz, frzN, frz1, zaz, zay, St.frz, St.frzS, frzS, fv, zaH, za2, za4, zaG, zau, zam, del, frz, za5])
  | fail)
 refine CallP.okE (p4 3 _ (by omega) (by first | omega | simp <;> omega | fail) (by omega) (by omega) (by omega) (by simp)) (by first | (simp [zaa, getK, zab, zac]; done) | fail) (by rfl) (by first | assumption | (simp; done) | fail) (by rfl) (by simp) ?_;rintro d o N hN ⟨rfl, j', h3, hlt, hge, rfl⟩;simp at hge;have q0 : ¬ j' = 0 := by omega
 have q1 : ¬ j' = 1 := by omega
 have q2 : ¬ j' = 2 := by omega
 have q3 : ¬ 0 = j' := by omega
 have q4 : ¬ 1 = j' := by omega
 have q5 : ¬ 2 = j' := by omega
 have qs := And.intro q0 <| And.intro q1 <| And.intro q2 <| And.intro q3 <| And.intro q4 q5
 simp [zcV, del];refine zaj ?_;simp only [zap];refine zfH { n := 118, env := [(1, .ptr 0 0), (4, .ptr 1 0), (5, .ptr 2 0), (6, .fnc (.func 55) [.ptr 2 0]), (7, .fnc (.func 57) [.ptr 2 0])], obs := [(0, .box CL), (2, zcf), (1, zdn 3 T4), (3, zdm T4)], next := 4 } (Wk.ren ((fun x => if x = 3 then j' else x)) rfl (by first | (simp [hn]; done) | (intro i hi; rw [hn] at hi; constructor <;> (try simp) <;> (try (intro _)) <;> omega)) (by simp [zgl, St.lp, zan, zaa, getK, zac, zal, D.under, D.le, D.ren, h3, hlt, qs, xle, xfz] <;> (try (intros; simp_all; done)) <;> (try omega)) (by simp [wkR, St.lp, zaa, getK, zac, zal, obR, leU, zbe, zaR, Ob.under, D.under, D.le, D.ren, h3, hlt, qs, xle, xfz] <;> (try (intros; simp_all; done)) <;> (try omega)) (by simp [h3, hlt, qs, xle, xfz])) ?_;obtain ⟨T5, e5⟩ : ∃ T5, T5 = T4 ++ zj4 b.order := ⟨_, rfl⟩;have ho3 : b.order = 0 \/ b.order = 1 \/ b.order = 2 := by omega
 have l5 : (zj4 b.order).length <= 100 := by rcases ho3 with h | h | h <;> rw [h] <;> decide
 have m5 : T5.length <= T4.length + 100 := by rw [e5, List.length_append]; omega
 apply zgI (S := { n := 118, env := [(1, .ptr 0 0), (4, .ptr 1 0), (5, .ptr 2 0), (6, .fnc (.func 55) [.ptr 2 0]), (7, .fnc (.func 57) [.ptr 2 0])], obs := [(0, .box CL), (2, zcf), (1, zdn 3 T5), (3, zdm T5)], next := 4 })
 case main =>
  intro key2;rcases ho3 with ho | ho | ho
  ·have e2 : T5 = T4 := by rw [e5, ho, zj4, if_pos rfl, List.append_nil]
   repeat' (first
  | ((first | refine zag ?_ | refine zaj ?_ | refine zah ?_ | refine zai ?_ | fail); simp [xs, xfz, ho])
  | (refine zas ?_; simp [xs, xfz, ho]))
   refine zao ?_;simp only [zap];refine zfH _ ?_ key2;rw [e2];exact (Wk.cut rfl (by simp [hn, St.lp]) (by simp [wkO, St.lp, zaa, getK, Ob.under, D.under, zad, zaf, xle, xun]) (by simp [wkU, St.lp, zan, zaa, getK, D.under, xle, xun]) (by simp [wkE, St.lp, zan, zaa, getK, xle, xun] <;> (try (intros; simp_all; done)) <;> (try (intros; omega)) <;> (try grind)))
  ·have e2 : T5 = T4 ++ zca [[111, 114, 100, 101, 114], [100, 114, 97, 119]] := by rw [e5, ho]; rfl
   have hor := zgr;simp only [ordersW, List.map_cons, List.map_nil] at hor;have hln := fun nx (h : 4 <= nx) => zhs T4 [[111, 114, 100, 101, 114], [100, 114, 97, 119]] 3 nx (by omega) (by omega) (by have := ze8 [[111, 114, 100, 101, 114], [100, 114, 97, 119]]; rw [zca]; simp at this ⊢; omega) (by simp);rw [<- e2] at hln;simp only [List.map_cons, List.map_nil] at hln
   repeat' (first
  | ((first | refine zag ?_ | refine zaj ?_ | refine zah ?_ | refine zai ?_ | fail); simp [xs, xfz, ho])
  | (refine zas ?_; simp [xs, xfz, ho]))
   repeat' (first
  | (refine zdD ?_; simp [xs, xfz, ho])
  | (refine zeI rfl rfl (by decide +kernel) (by first | (simp [hn]; done) | (simp [hn]; omega) | fail) fun C k hC hk => ?_; simp [xs, xfz, ho])
  | ((first | refine zag ?_ | refine zaS rfl ?_ | refine zbJ rfl ?_ | fail); simp [xs, xfz, ho])
  | (refine za0 (hC _ (by kernel_rfl)) (hk _ ?_); clear hC hk C k; simp only [zap])
  | (refine CallV.fun_ (hor) (by first | rfl | fail) (by first | simp [xs, xfz, ho] <;> rfl | fail) ⟨by first | assumption | (simp; done) | fail, by simp, ?_⟩ <;> (try simp [xs, xfz, ho]))
  | (refine zav (by first | rfl | fail) ?_; simp [xs, xfz, ho, frzN, frz1, zaz, zay, St.frz, St.frzS, frzS, fv, zaH, za2, za4, zaG, zau, zam, del, frz, za5])
  | fail)
   refine CallP.okL (hln _ (by simp)) (by simp [zaa, getK]) (by rfl) (by rfl) ⟨by first | assumption | (simp; done), by simp, ?_⟩;simp [zcV, del];refine zaj ?_;simp only [zap];refine zfH _ ?_ key2;exact (Wk.ren ((fun x => if x = 3 then 5 else x)) rfl (by first | (simp [hn]; done) | (intro i hi; rw [hn] at hi; constructor <;> (try simp) <;> (try (intro _)) <;> omega)) (by simp [zgl, St.lp, zan, zaa, getK, zac, zal, D.under, D.le, D.ren, xle, xfz] <;> (try (intros; simp_all; done)) <;> (try omega)) (by simp [wkR, St.lp, zaa, getK, zac, zal, obR, leU, zbe, zaR, Ob.under, D.under, D.le, D.ren, xle, xfz] <;> (try (intros; simp_all; done)) <;> (try omega)) (by simp [xle, xfz]))
  ·have e2 : T5 = T4 ++ zca [[111, 114, 100, 101, 114], [110, 101, 101, 100]] := by rw [e5, ho]; rfl
   have hor := zgr;simp only [ordersW, List.map_cons, List.map_nil] at hor;have hln := fun nx (h : 4 <= nx) => zhs T4 [[111, 114, 100, 101, 114], [110, 101, 101, 100]] 3 nx (by omega) (by omega) (by have := ze8 [[111, 114, 100, 101, 114], [110, 101, 101, 100]]; rw [zca]; simp at this ⊢; omega) (by simp);rw [<- e2] at hln;simp only [List.map_cons, List.map_nil] at hln
   repeat' (first
  | ((first | refine zag ?_ | refine zaj ?_ | refine zah ?_ | refine zai ?_ | fail); simp [xs, xfz, ho])
  | (refine zas ?_; simp [xs, xfz, ho]))
   repeat' (first
  | (refine zdD ?_; simp [xs, xfz, ho])
  | (refine zeI rfl rfl (by decide +kernel) (by first | (simp [hn]; done) | (simp [hn]; omega) | fail) fun C k hC hk => ?_; simp [xs, xfz, ho])
  | ((first | refine zag ?_ | refine zaS rfl ?_ | refine zbJ rfl ?_ | fail); simp [xs, xfz, ho])
  | (refine za0 (hC _ (by kernel_rfl)) (hk _ ?_); clear hC hk C k; simp only [zap])
  | (refine CallV.fun_ (hor) (by first | rfl | fail) (by first | simp [xs, xfz, ho] <;> rfl | fail) ⟨by first | assumption | (simp; done) | fail, by simp, ?_⟩ <;> (try simp [xs, xfz, ho]))
  | (refine zav (by first | rfl | fail) ?_; simp [xs, xfz, ho, frzN, frz1, zaz, zay, St.frz, St.frzS, frzS, fv, zaH, za2, za4, zaG, zau, zam, del, frz, za5])
  | fail)
   refine CallP.okL (hln _ (by simp)) (by simp [zaa, getK]) (by rfl) (by rfl) ⟨by first | assumption | (simp; done), by simp, ?_⟩;simp [zcV, del];refine zaj ?_;simp only [zap];refine zfH _ ?_ key2;exact (Wk.ren ((fun x => if x = 3 then 5 else x)) rfl (by first | (simp [hn]; done) | (intro i hi; rw [hn] at hi; constructor <;> (try simp) <;> (try (intro _)) <;> omega)) (by simp [zgl, St.lp, zan, zaa, getK, zac, zal, D.under, D.le, D.ren, xle, xfz] <;> (try (intros; simp_all; done)) <;> (try omega)) (by simp [wkR, St.lp, zaa, getK, zac, zal, obR, leU, zbe, zaR, Ob.under, D.under, D.le, D.ren, xle, xfz] <;> (try (intros; simp_all; done)) <;> (try omega)) (by simp [xle, xfz]))
 case key =>
 have p6 := zdg T5 [98, 97, 99, 107, 115] b.backs [];obtain ⟨T6, e6⟩ : ∃ T6, T6 = T5 ++ zcj [98, 97, 99, 107, 115] b.backs [] := ⟨_, rfl⟩;have l6 : (zcj [98, 97, 99, 107, 115] b.backs []).length <= 100 := zdh (by omega) (by omega) (by decide);have m6 : T6.length <= T5.length + 100 := by rw [e6, List.length_append]; omega
 rw [<- e6] at p6
 repeat' (first
  | ((first | refine zag ?_ | refine zah ?_ | fail); simp [xs, xfz])
  | fail)
 refine CallP.okE (zln (p6 3 _ (by omega) (by first | omega | simp <;> omega | fail) (by omega) (by omega) (by omega) (by simp))) (by first | (simp [zaa, getK, zab, zac]; done) | fail) (by rfl) (by first | assumption | (simp; done) | fail) (by rfl) (by simp) ?_;rintro d o N hN ⟨rfl, j', h3, hlt, hge, rfl⟩;simp at hge;have q0 : ¬ j' = 0 := by omega
 have q1 : ¬ j' = 1 := by omega
 have q2 : ¬ j' = 2 := by omega
 have q3 : ¬ 0 = j' := by omega
 have q4 : ¬ 1 = j' := by omega
 have q5 : ¬ 2 = j' := by omega
 have qs := And.intro q0 <| And.intro q1 <| And.intro q2 <| And.intro q3 <| And.intro q4 q5
 simp [zcV, del];refine zaj ?_;simp only [zap];refine zfH { n := 118, env := [(1, .ptr 0 0), (4, .ptr 1 0), (5, .ptr 2 0), (6, .fnc (.func 55) [.ptr 2 0]), (7, .fnc (.func 57) [.ptr 2 0])], obs := [(0, .box CL), (2, zcf), (1, zdn 3 T6), (3, zdm T6)], next := 4 } (Wk.ren ((fun x => if x = 3 then j' else x)) rfl (by first | (simp [hn]; done) | (intro i hi; rw [hn] at hi; constructor <;> (try simp) <;> (try (intro _)) <;> omega)) (by simp [zgl, St.lp, zan, zaa, getK, zac, zal, D.under, D.le, D.ren, h3, hlt, qs, xle, xfz] <;> (try (intros; simp_all; done)) <;> (try omega)) (by simp [wkR, St.lp, zaa, getK, zac, zal, obR, leU, zbe, zaR, Ob.under, D.under, D.le, D.ren, h3, hlt, qs, xle, xfz] <;> (try (intros; simp_all; done)) <;> (try omega)) (by simp [h3, hlt, qs, xle, xfz])) ?_;have p7 := zdg T6 [118, 111, 105, 99, 101, 115] b.voices [[112, 101, 114], [109, 105, 108, 108, 101]];obtain ⟨T7, e7⟩ : ∃ T7, T7 = T6 ++ zcj [118, 111, 105, 99, 101, 115] b.voices [[112, 101, 114], [109, 105, 108, 108, 101]] := ⟨_, rfl⟩;have l7 : (zcj [118, 111, 105, 99, 101, 115] b.voices [[112, 101, 114], [109, 105, 108, 108, 101]]).length <= 100 := zdh (by omega) (by omega) (by decide);have m7 : T7.length <= T6.length + 100 := by rw [e7, List.length_append]; omega
 rw [<- e7] at p7
 repeat' (first
  | ((first | refine zag ?_ | refine zah ?_ | fail); simp [xs, xfz])
  | (refine zav (by first | rfl | fail) ?_; simp [xs, xfz, frzN, frz1, zaz, zay, St.frz, St.frzS, frzS, fv, zaH, za2, za4, zaG, zau, zam, del, frz, za5])
  | fail)
 refine CallP.okE (p7 3 _ (by omega) (by first | omega | simp <;> omega | fail) (by omega) (by omega) (by omega) (by simp)) (by first | (simp [zaa, getK, zab, zac]; done) | fail) (by rfl) (by first | assumption | (simp; done) | fail) (by rfl) (by simp) ?_;rintro d o N hN ⟨rfl, j', h3, hlt, hge, rfl⟩;simp at hge;have q0 : ¬ j' = 0 := by omega
 have q1 : ¬ j' = 1 := by omega
 have q2 : ¬ j' = 2 := by omega
 have q3 : ¬ 0 = j' := by omega
 have q4 : ¬ 1 = j' := by omega
 have q5 : ¬ 2 = j' := by omega
 have qs := And.intro q0 <| And.intro q1 <| And.intro q2 <| And.intro q3 <| And.intro q4 q5
 simp [zcV, del];refine zaj ?_;simp only [zap];refine zfH { n := 118, env := [(1, .ptr 0 0), (4, .ptr 1 0), (5, .ptr 2 0), (6, .fnc (.func 55) [.ptr 2 0]), (7, .fnc (.func 57) [.ptr 2 0])], obs := [(0, .box CL), (2, zcf), (1, zdn 3 T7), (3, zdm T7)], next := 4 } (Wk.ren ((fun x => if x = 3 then j' else x)) rfl (by first | (simp [hn]; done) | (intro i hi; rw [hn] at hi; constructor <;> (try simp) <;> (try (intro _)) <;> omega)) (by simp [zgl, St.lp, zan, zaa, getK, zac, zal, D.under, D.le, D.ren, h3, hlt, qs, xle, xfz] <;> (try (intros; simp_all; done)) <;> (try omega)) (by simp [wkR, St.lp, zaa, getK, zac, zal, obR, leU, zbe, zaR, Ob.under, D.under, D.le, D.ren, h3, hlt, qs, xle, xfz] <;> (try (intros; simp_all; done)) <;> (try omega)) (by simp [h3, hlt, qs, xle, xfz])) ?_;have p8 := zdg T7 [106, 117, 114, 121] b.jury [];obtain ⟨T8, e8⟩ : ∃ T8, T8 = T7 ++ zcj [106, 117, 114, 121] b.jury [] := ⟨_, rfl⟩;have l8 : (zcj [106, 117, 114, 121] b.jury []).length <= 100 := zdh (by omega) (by omega) (by decide);have m8 : T8.length <= T7.length + 100 := by rw [e8, List.length_append]; omega
 rw [<- e8] at p8
 repeat' (first
  | ((first | refine zag ?_ | refine zah ?_ | fail); simp [xs, xfz])
  | fail)
 refine CallP.okE (zln (p8 3 _ (by omega) (by first | omega | simp <;> omega | fail) (by omega) (by omega) (by omega) (by simp))) (by first | (simp [zaa, getK, zab, zac]; done) | fail) (by rfl) (by first | assumption | (simp; done) | fail) (by rfl) (by simp) ?_;rintro d o N hN ⟨rfl, j', h3, hlt, hge, rfl⟩;simp at hge;have q0 : ¬ j' = 0 := by omega
 have q1 : ¬ j' = 1 := by omega
 have q2 : ¬ j' = 2 := by omega
 have q3 : ¬ 0 = j' := by omega
 have q4 : ¬ 1 = j' := by omega
 have q5 : ¬ 2 = j' := by omega
 have qs := And.intro q0 <| And.intro q1 <| And.intro q2 <| And.intro q3 <| And.intro q4 q5
 simp [zcV, del];refine zaj ?_;simp only [zap];refine zfH { n := 118, env := [(1, .ptr 0 0), (4, .ptr 1 0), (5, .ptr 2 0), (6, .fnc (.func 55) [.ptr 2 0]), (7, .fnc (.func 57) [.ptr 2 0])], obs := [(0, .box CL), (2, zcf), (1, zdn 3 T8), (3, zdm T8)], next := 4 } (Wk.ren ((fun x => if x = 3 then j' else x)) rfl (by first | (simp [hn]; done) | (intro i hi; rw [hn] at hi; constructor <;> (try simp) <;> (try (intro _)) <;> omega)) (by simp [zgl, St.lp, zan, zaa, getK, zac, zal, D.under, D.le, D.ren, h3, hlt, qs, xle, xfz] <;> (try (intros; simp_all; done)) <;> (try omega)) (by simp [wkR, St.lp, zaa, getK, zac, zal, obR, leU, zbe, zaR, Ob.under, D.under, D.le, D.ren, h3, hlt, qs, xle, xfz] <;> (try (intros; simp_all; done)) <;> (try omega)) (by simp [h3, hlt, qs, xle, xfz])) ?_;have p9 := zdg T8 [102, 117, 110, 100] b.fund [[112, 101, 114], [109, 105, 108, 108, 101]];obtain ⟨T9, e9⟩ : ∃ T9, T9 = T8 ++ zcj [102, 117, 110, 100] b.fund [[112, 101, 114], [109, 105, 108, 108, 101]] := ⟨_, rfl⟩;have l9 : (zcj [102, 117, 110, 100] b.fund [[112, 101, 114], [109, 105, 108, 108, 101]]).length <= 100 := zdh (by omega) (by omega) (by decide);have m9 : T9.length <= T8.length + 100 := by rw [e9, List.length_append]; omega
 rw [<- e9] at p9
 repeat' (first
  | ((first | refine zag ?_ | refine zah ?_ | fail); simp [xs, xfz])
  | (refine zav (by first | rfl | fail) ?_; simp [xs, xfz, frzN, frz1, zaz, zay, St.frz, St.frzS, frzS, fv, zaH, za2, za4, zaG, zau, zam, del, frz, za5])
  | fail)
 refine CallP.okE (p9 3 _ (by omega) (by first | omega | simp <;> omega | fail) (by omega) (by omega) (by omega) (by simp)) (by first | (simp [zaa, getK, zab, zac]; done) | fail) (by rfl) (by first | assumption | (simp; done) | fail) (by rfl) (by simp) ?_;rintro d o N hN ⟨rfl, j', h3, hlt, hge, rfl⟩;simp at hge;have q0 : ¬ j' = 0 := by omega
 have q1 : ¬ j' = 1 := by omega
 have q2 : ¬ j' = 2 := by omega
 have q3 : ¬ 0 = j' := by omega
 have q4 : ¬ 1 = j' := by omega
 have q5 : ¬ 2 = j' := by omega
 have qs := And.intro q0 <| And.intro q1 <| And.intro q2 <| And.intro q3 <| And.intro q4 q5
 simp [zcV, del];refine zaj ?_;simp only [zap];refine zfH { n := 118, env := [(1, .ptr 0 0), (4, .ptr 1 0), (5, .ptr 2 0), (6, .fnc (.func 55) [.ptr 2 0]), (7, .fnc (.func 57) [.ptr 2 0])], obs := [(0, .box CL), (2, zcf), (1, zdn 3 T9), (3, zdm T9)], next := 4 } (Wk.ren ((fun x => if x = 3 then j' else x)) rfl (by first | (simp [hn]; done) | (intro i hi; rw [hn] at hi; constructor <;> (try simp) <;> (try (intro _)) <;> omega)) (by simp [zgl, St.lp, zan, zaa, getK, zac, zal, D.under, D.le, D.ren, h3, hlt, qs, xle, xfz] <;> (try (intros; simp_all; done)) <;> (try omega)) (by simp [wkR, St.lp, zaa, getK, zac, zal, obR, leU, zbe, zaR, Ob.under, D.under, D.le, D.ren, h3, hlt, qs, xle, xfz] <;> (try (intros; simp_all; done)) <;> (try omega)) (by simp [h3, hlt, qs, xle, xfz])) ?_;obtain ⟨F, eF⟩ : ∃ F : Nat -> W8, F = fun i => T9 ++ zgS (b.lets.take i) := ⟨_, rfl⟩;have hF0 : F 0 = T9 := by rw [eF]; simp [zgS]
 have hFs : ∀ i l, b.lets[i]? = some l -> F (i + 1) = F i ++ zrf l := fun i l h => by rw [eF]; simp only; rw [zm8 h, List.append_assoc]
 have hFl : ∀ i, i <= b.lets.length -> (F i).length <= T9.length + 2000000000 := fun i hi => by
  rw [eF];have h1 := zkg (b.lets.take i) fun l hl => hLs l (List.mem_of_mem_take hl);simp only [List.length_append, List.length_take] at h1 ⊢;omega
 obtain ⟨T10, e10⟩ : ∃ T10, T10 = F b.lets.length := ⟨_, rfl⟩;have m10 : T10.length <= T9.length + 2000000000 := by rw [e10]; exact hFl _ (Nat.le_refl _)
 have eL : T10 = T9 ++ zgS b.lets := by rw [e10, eF]; simp only; rw [List.take_length]
 clear eF
 repeat' (first
  | ((first | refine zag ?_ | refine zaj ?_ | refine zah ?_ | refine zat ?_ | fail); simp [xs, xfz])
  | fail)
 refine zcT (α := { i : Nat // i <= b.lets.length }) [1, 4, 5, 7, 79, 80] (fun x => [(81, .u (.int .i64 x.1))]) (fun x => [(0, .box CL), (2, zcf), (1, zdn 3 (F x.1)), (3, zdm (F x.1))]) 4 (fun x => b.lets.length - x.1) ⟨0, by omega⟩ ?_ ?_
 ·exact (Wk.cut rfl (by simp [hn, St.lp]) (by simp [wkO, St.lp, zaa, getK, Ob.under, D.under, zad, zaf, xle, xun, hF0]) (by simp [wkU, St.lp, zan, zaa, getK, D.under, xle, xun, hF0]) (by simp [wkE, St.lp, zan, zaa, getK, xle, xun, hF0] <;> (try (intros; simp_all; done)) <;> (try (intros; omega)) <;> (try grind)))
 rintro ⟨i, hi⟩;have hFi := hFl i hi;simp [St.lp, St.only, zan, zaa, getK];rcases hx : b.lets[i]? with _ | l
 case some =>
  have hlt : i < b.lets.length := (lGE.1 hx).1;obtain ⟨hln, hlr⟩ := hLs l (List.mem_of_getElem? hx);have hn20 := ziT hln;have htl := zcE hlr (Nat.le_refl _) 0;have hsh := zgZ 12 (Nat.le_refl _) l.body hlr 0;rw [Exp.row_eq] at hsh;have hnx := hFs i l hx;rw [zrf] at hnx;have hlw := zl2 hln hlr;rw [zrf] at hlw;have hw := fun nx (h : 4 <= nx) => zhs (F i) [[108, 101, 116], l.name, [61], txt l.body 0] 3 nx (by omega) (by omega) (by omega) (by simp);rw [<- hnx] at hw;simp only [List.map_cons, List.map_nil] at hw;generalize txt l.body 0 = TB at *;generalize hFN : F (i + 1) = FN at *;generalize hFI : F i = FI at *
  repeat' (first
  | (refine zdD ?_; simp [xs, xfz, hx])
  | (refine zeI rfl rfl (by decide +kernel) (by first | (simp [hn]; done) | (simp [hn]; omega) | fail) fun C k hC hk => ?_; simp [xs, xfz, hx])
  | ((first | refine zag ?_ | refine zaS rfl ?_ | refine zbJ rfl ?_ | refine zaj ?_ | fail); simp [xs, xfz, hx])
  | (refine ⟨by omega, ?_⟩)
  | (refine zah ?_; simp [xs, xfz, hx])
  | (refine za0 (hC _ (by kernel_rfl)) (hk _ ?_); clear hC hk C k; simp only [zap])
  | (refine zas ?_; simp [xs, xfz, hx])
  | (refine zao ?_; simp only [zap])
  | (refine ⟨?_, by omega⟩)
  | (intro hc <;> (try (exfalso; omega)))
  | (refine CallV.fun_ (hsh) (by first | rfl | fail) (by first | simp [xs, xfz, hx] <;> rfl | fail) ⟨by first | assumption | (simp; done) | fail, by simp, ?_⟩ <;> (try simp [xs, xfz, hx]))
  | (refine zav (by first | rfl | fail) ?_; simp [xs, xfz, hx, frzN, frz1, zaz, zay, St.frz, St.frzS, frzS, fv, zaH, za2, za4, zaG, zau, zam, del, frz, za5])
  | (refine CallP.okL (hw _ (by first | omega | simp <;> omega | fail)) (by first | (simp [xs, xfz, hx, zaa, getK, zab, zac, zal, zaL, del]; done) | fail) (by rfl) (by rfl) ⟨by first | assumption | (simp; done) | fail, by simp, ?_⟩; (try simp [xs, xfz, hx, zcV, del]))
  | fail)
  refine LoopW.next ⟨i + 1, by omega⟩ (by simp; omega) ?_
  exact (Wk.ren ((fun x => if x = 3 then 6 else x)) rfl (by first | (simp [hn]; done) | (intro i hi; rw [hn] at hi; constructor <;> (try simp) <;> (try (intro _)) <;> omega)) (by simp [zgl, St.lp, zan, zaa, getK, zac, zal, D.under, D.le, D.ren, xle, xfz, xun, hFN] <;> (try (intros; simp_all; done)) <;> (try omega)) (by simp [wkR, St.lp, zaa, getK, zac, zal, obR, leU, zbe, zaR, Ob.under, D.under, D.le, D.ren, xle, xfz, xun, hFN] <;> (try (intros; simp_all; done)) <;> (try omega)) (by simp [xle, xfz, xun, hFN]))
 case none =>
 have hge : b.lets.length <= i := by simpa using hx
 obtain rfl : i = b.lets.length := by omega
 rw [<- e10];clear hFs hFl hFi hx;have p11 := zdl T10 [100, 117, 101] b.due;rw [Exp.row_eq] at p11;obtain ⟨T11, e11⟩ : ∃ T11, T11 = T10 ++ clauseT [100, 117, 101] b.due := ⟨_, rfl⟩;have m11 : T11.length <= T10.length + 60000000 := by rw [e11, List.length_append]; have := zdQ (w := [100, 117, 101]) (by decide) hrdue; omega
 rw [<- e11] at p11
 repeat' (first
  | ((first | refine zag ?_ | refine zaj ?_ | refine zah ?_ | fail); simp [y12, z12, xfz])
  | (refine za9 ?_; simp [zap])
  | fail)
 refine CallP.okE (p11 3 _ (by omega) (by first | omega | simp <;> omega | fail) hrdue (by simp; omega)) (by first | (simp [zaa, getK, zab, zac]; done) | fail) (by rfl) (by first | assumption | (simp; done) | fail) (by rfl) (by simp) ?_;rintro d o N hN ⟨rfl, j', h3, hlt, hge, rfl⟩;simp at hge;have q0 : ¬ j' = 0 := by omega
 have q1 : ¬ j' = 1 := by omega
 have q2 : ¬ j' = 2 := by omega
 have q3 : ¬ 0 = j' := by omega
 have q4 : ¬ 1 = j' := by omega
 have q5 : ¬ 2 = j' := by omega
 have qs := And.intro q0 <| And.intro q1 <| And.intro q2 <| And.intro q3 <| And.intro q4 q5
 simp [zcV, del];refine zaj ?_;simp only [zap];refine zfH { n := 118, env := [(1, .ptr 0 0), (4, .ptr 1 0), (5, .ptr 2 0), (7, .fnc (.func 57) [.ptr 2 0])], obs := [(0, .box CL), (2, zcf), (1, zdn 3 T11), (3, zdm T11)], next := 4 } (Wk.ren ((fun x => if x = 3 then j' else x)) rfl (by first | (simp [hn]; done) | (intro i hi; rw [hn] at hi; constructor <;> (try simp) <;> (try (intro _)) <;> omega)) (by simp [zgl, St.lp, zan, zaa, getK, zac, zal, D.under, D.le, D.ren, h3, hlt, qs, xle, xfz] <;> (try (intros; simp_all; done)) <;> (try omega)) (by simp [wkR, St.lp, zaa, getK, zac, zal, obR, leU, zbe, zaR, Ob.under, D.under, D.le, D.ren, h3, hlt, qs, xle, xfz] <;> (try (intros; simp_all; done)) <;> (try omega)) (by simp [h3, hlt, qs, xle, xfz])) ?_;have p12 := zdl T11 [102, 105, 110, 101] b.fine;rw [Exp.row_eq] at p12;obtain ⟨T12, e12⟩ : ∃ T12, T12 = T11 ++ clauseT [102, 105, 110, 101] b.fine := ⟨_, rfl⟩;have m12 : T12.length <= T11.length + 60000000 := by rw [e12, List.length_append]; have := zdQ (w := [102, 105, 110, 101]) (by decide) hrfine; omega
 rw [<- e12] at p12
 repeat' (first
  | ((first | refine zag ?_ | refine zah ?_ | fail); simp [y17, z17, xfz])
  | fail)
 refine CallP.okE (p12 3 _ (by omega) (by first | omega | simp <;> omega | fail) hrfine (by simp; omega)) (by first | (simp [zaa, getK, zab, zac]; done) | fail) (by rfl) (by first | assumption | (simp; done) | fail) (by rfl) (by simp) ?_;rintro d o N hN ⟨rfl, j', h3, hlt, hge, rfl⟩;simp at hge;have q0 : ¬ j' = 0 := by omega
 have q1 : ¬ j' = 1 := by omega
 have q2 : ¬ j' = 2 := by omega
 have q3 : ¬ 0 = j' := by omega
 have q4 : ¬ 1 = j' := by omega
 have q5 : ¬ 2 = j' := by omega
 have qs := And.intro q0 <| And.intro q1 <| And.intro q2 <| And.intro q3 <| And.intro q4 q5
 simp [zcV, del];refine zaj ?_;simp only [zap];refine zfH { n := 118, env := [(1, .ptr 0 0), (4, .ptr 1 0), (5, .ptr 2 0), (7, .fnc (.func 57) [.ptr 2 0])], obs := [(0, .box CL), (2, zcf), (1, zdn 3 T12), (3, zdm T12)], next := 4 } (Wk.ren ((fun x => if x = 3 then j' else x)) rfl (by first | (simp [hn]; done) | (intro i hi; rw [hn] at hi; constructor <;> (try simp) <;> (try (intro _)) <;> omega)) (by simp [zgl, St.lp, zan, zaa, getK, zac, zal, D.under, D.le, D.ren, h3, hlt, qs, xle, xfz] <;> (try (intros; simp_all; done)) <;> (try omega)) (by simp [wkR, St.lp, zaa, getK, zac, zal, obR, leU, zbe, zaR, Ob.under, D.under, D.le, D.ren, h3, hlt, qs, xle, xfz] <;> (try (intros; simp_all; done)) <;> (try omega)) (by simp [h3, hlt, qs, xle, xfz])) ?_;have p13 := zdl T12 [112, 97, 121] b.pay;rw [Exp.row_eq] at p13;obtain ⟨T13, e13⟩ : ∃ T13, T13 = T12 ++ clauseT [112, 97, 121] b.pay := ⟨_, rfl⟩;have m13 : T13.length <= T12.length + 60000000 := by rw [e13, List.length_append]; have := zdQ (w := [112, 97, 121]) (by decide) hrpay; omega
 rw [<- e13] at p13
 repeat' (first
  | ((first | refine zag ?_ | refine zah ?_ | fail); simp [y22, z22, xfz])
  | fail)
 refine CallP.okE (p13 3 _ (by omega) (by first | omega | simp <;> omega | fail) hrpay (by simp; omega)) (by first | (simp [zaa, getK, zab, zac]; done) | fail) (by rfl) (by first | assumption | (simp; done) | fail) (by rfl) (by simp) ?_;rintro d o N hN ⟨rfl, j', h3, hlt, hge, rfl⟩;simp at hge;have q0 : ¬ j' = 0 := by omega
 have q1 : ¬ j' = 1 := by omega
 have q2 : ¬ j' = 2 := by omega
 have q3 : ¬ 0 = j' := by omega
 have q4 : ¬ 1 = j' := by omega
 have q5 : ¬ 2 = j' := by omega
 have qs := And.intro q0 <| And.intro q1 <| And.intro q2 <| And.intro q3 <| And.intro q4 q5
 simp [zcV, del];refine zaj ?_;simp only [zap];refine zfH { n := 118, env := [(1, .ptr 0 0), (4, .ptr 1 0), (5, .ptr 2 0), (7, .fnc (.func 57) [.ptr 2 0])], obs := [(0, .box CL), (2, zcf), (1, zdn 3 T13), (3, zdm T13)], next := 4 } (Wk.ren ((fun x => if x = 3 then j' else x)) rfl (by first | (simp [hn]; done) | (intro i hi; rw [hn] at hi; constructor <;> (try simp) <;> (try (intro _)) <;> omega)) (by simp [zgl, St.lp, zan, zaa, getK, zac, zal, D.under, D.le, D.ren, h3, hlt, qs, xle, xfz] <;> (try (intros; simp_all; done)) <;> (try omega)) (by simp [wkR, St.lp, zaa, getK, zac, zal, obR, leU, zbe, zaR, Ob.under, D.under, D.le, D.ren, h3, hlt, qs, xle, xfz] <;> (try (intros; simp_all; done)) <;> (try omega)) (by simp [h3, hlt, qs, xle, xfz])) ?_;have p14 := zdl T13 [99, 111, 118, 101, 114] b.cover;rw [Exp.row_eq] at p14;obtain ⟨T14, e14⟩ : ∃ T14, T14 = T13 ++ clauseT [99, 111, 118, 101, 114] b.cover := ⟨_, rfl⟩;have m14 : T14.length <= T13.length + 60000000 := by rw [e14, List.length_append]; have := zdQ (w := [99, 111, 118, 101, 114]) (by decide) hrcover; omega
 rw [<- e14] at p14
 repeat' (first
  | ((first | refine zag ?_ | refine zah ?_ | fail); simp [y27, z27, xfz])
  | fail)
 refine CallP.okE (p14 3 _ (by omega) (by first | omega | simp <;> omega | fail) hrcover (by simp; omega)) (by first | (simp [zaa, getK, zab, zac]; done) | fail) (by rfl) (by first | assumption | (simp; done) | fail) (by rfl) (by simp) ?_;rintro d o N hN ⟨rfl, j', h3, hlt, hge, rfl⟩;simp at hge;have q0 : ¬ j' = 0 := by omega
 have q1 : ¬ j' = 1 := by omega
 have q2 : ¬ j' = 2 := by omega
 have q3 : ¬ 0 = j' := by omega
 have q4 : ¬ 1 = j' := by omega
 have q5 : ¬ 2 = j' := by omega
 have qs := And.intro q0 <| And.intro q1 <| And.intro q2 <| And.intro q3 <| And.intro q4 q5
 simp [zcV, del];refine zaj ?_;simp only [zap];refine zfH { n := 118, env := [(1, .ptr 0 0), (4, .ptr 1 0), (5, .ptr 2 0), (7, .fnc (.func 57) [.ptr 2 0])], obs := [(0, .box CL), (2, zcf), (1, zdn 3 T14), (3, zdm T14)], next := 4 } (Wk.ren ((fun x => if x = 3 then j' else x)) rfl (by first | (simp [hn]; done) | (intro i hi; rw [hn] at hi; constructor <;> (try simp) <;> (try (intro _)) <;> omega)) (by simp [zgl, St.lp, zan, zaa, getK, zac, zal, D.under, D.le, D.ren, h3, hlt, qs, xle, xfz] <;> (try (intros; simp_all; done)) <;> (try omega)) (by simp [wkR, St.lp, zaa, getK, zac, zal, obR, leU, zbe, zaR, Ob.under, D.under, D.le, D.ren, h3, hlt, qs, xle, xfz] <;> (try (intros; simp_all; done)) <;> (try omega)) (by simp [h3, hlt, qs, xle, xfz])) ?_;have p15 := zdl T14 [104, 111, 108, 100] b.hold;rw [Exp.row_eq] at p15;obtain ⟨T15, e15⟩ : ∃ T15, T15 = T14 ++ clauseT [104, 111, 108, 100] b.hold := ⟨_, rfl⟩;have m15 : T15.length <= T14.length + 60000000 := by rw [e15, List.length_append]; have := zdQ (w := [104, 111, 108, 100]) (by decide) hrhold; omega
 rw [<- e15] at p15
 repeat' (first
  | ((first | refine zag ?_ | refine zah ?_ | fail); simp [y32, z32, xfz])
  | fail)
 refine CallP.okE (p15 3 _ (by omega) (by first | omega | simp <;> omega | fail) hrhold (by simp; omega)) (by first | (simp [zaa, getK, zab, zac]; done) | fail) (by rfl) (by first | assumption | (simp; done) | fail) (by rfl) (by simp) ?_;rintro d o N hN ⟨rfl, j', h3, hlt, hge, rfl⟩;simp at hge;have q0 : ¬ j' = 0 := by omega
 have q1 : ¬ j' = 1 := by omega
 have q2 : ¬ j' = 2 := by omega
 have q3 : ¬ 0 = j' := by omega
 have q4 : ¬ 1 = j' := by omega
 have q5 : ¬ 2 = j' := by omega
 have qs := And.intro q0 <| And.intro q1 <| And.intro q2 <| And.intro q3 <| And.intro q4 q5
 simp [zcV, del];refine zaj ?_;simp only [zap];refine zfH { n := 118, env := [(1, .ptr 0 0), (4, .ptr 1 0), (5, .ptr 2 0), (7, .fnc (.func 57) [.ptr 2 0])], obs := [(0, .box CL), (2, zcf), (1, zdn 3 T15), (3, zdm T15)], next := 4 } (Wk.ren ((fun x => if x = 3 then j' else x)) rfl (by first | (simp [hn]; done) | (intro i hi; rw [hn] at hi; constructor <;> (try simp) <;> (try (intro _)) <;> omega)) (by simp [zgl, St.lp, zan, zaa, getK, zac, zal, D.under, D.le, D.ren, h3, hlt, qs, xle, xfz] <;> (try (intros; simp_all; done)) <;> (try omega)) (by simp [wkR, St.lp, zaa, getK, zac, zal, obR, leU, zbe, zaR, Ob.under, D.under, D.le, D.ren, h3, hlt, qs, xle, xfz] <;> (try (intros; simp_all; done)) <;> (try omega)) (by simp [h3, hlt, qs, xle, xfz])) ?_;have hTT : TT = T15 := by
  rw [<- hT, textP, e15, e14, e13, e12, e11, eL, e9, e8, e7, e6, e5, e4, e3, e2, e1, e0]
 have n0 : 0 < T0.length := by rw [e0, zlu, zca]; simp
 have hge : T0.length <= T15.length := by
  simp only [e15, e14, e13, e12, e11, eL, e9, e8, e7, e6, e5, e4, e3, e2, e1, List.length_append];omega
 have hne0 : T15 ≠ [] := fun h => by rw [h] at hge; simp at hge; rw [hge] at n0; simp at n0
 rw [hTT];have hst := fun nx (h : 4 <= nx) => zmD 1 3 nx (by omega) (by omega) (by decide) T15 hne0;have hft := zmh T15;by_cases hbig : 2000 < T15.length
 ·rw [if_pos hbig] at hft ⊢
  repeat' (first
  | ((first | refine zag ?_ | refine zaj ?_ | refine zah ?_ | fail); simp [xfz])
  | (refine zaq ?_; simp only [zap])
  | (refine CallP.fE (hft) (by first | rfl | fail) (by first | simp [xfz] <;> rfl | fail) ⟨by first | assumption | (simp; done) | fail, by simp, ?_⟩; (try simp [xfz]))
  | (refine CallP.okL (hst _ (by first | omega | simp <;> omega | fail)) (by first | (simp [xfz, zaa, getK, zab, zac, zal, zaL, del]; done) | fail) (by rfl) (by rfl) ⟨by first | assumption | (simp; done) | fail, by simp, ?_⟩; (try simp [xfz, zcV, del]))
  | fail)
  (refine EndW.here ?_; (first | (refine EndOK.fin (.inr rfl) ?_) | (refine EndOK.fin (.inl rfl) ?_)); simp [zaA, zae, Tryz.results19]; refine FinOK.here (by simp) ?_; try simp)
 ·rw [if_neg hbig] at hft ⊢
  repeat' (first
  | ((first | refine zag ?_ | refine zaj ?_ | refine zah ?_ | fail); simp [xfz])
  | (refine zaq ?_; simp only [zap])
  | (refine CallP.fE (hft) (by first | rfl | fail) (by first | simp [xfz] <;> rfl | fail) ⟨by first | assumption | (simp; done) | fail, by simp, ?_⟩; (try simp [xfz]))
  | (refine CallP.okL (hst _ (by first | omega | simp <;> omega | fail)) (by first | (simp [xfz, zaa, getK, zab, zac, zal, zaL, del]; done) | fail) (by rfl) (by rfl) ⟨by first | assumption | (simp; done) | fail, by simp, ?_⟩; (try simp [xfz, zcV, del]))
  | fail)
  (refine EndW.here ?_; (first | (refine EndOK.fin (.inr rfl) ?_) | (refine EndOK.fin (.inl rfl) ?_)); simp [zaA, zae, Tryz.results19]; refine FinOK.here (by simp) ?_; try simp)
theorem zoa (b : By) : Fun Tryz.prog 19 [.u (.agg (zbb b))] (· = .tup [.u (.str (printB b).1), .u (.int .i64 (printB b).2)]) := by
 cases hb : zeY b with
 | true =>
  unfold Fun;exact (zn9 b hb).ret (fun d o n h => by
   cases h;exact ⟨by simp [zar], rfl⟩) (fun ch o n h => by cases h)
 | false =>
  have hri := zey b;rw [hb] at hri;have hp : printB b = ([], 1) := by unfold printB; rw [if_neg (by simp [hb])]
  rw [hp];unfold zbb at hri ⊢
  (refine Fun.of_body Tryz.func19 rfl (by simp) fun Γ hn => ?_); simp only [entry, ziC, ziN, maC, maN, oA, Tryz.ntmps19]
  repeat' (first
  | ((first | refine zag ?_ | refine zaj ?_ | refine zah ?_ | refine zai ?_ | fail); simp)
  | (refine zaq ?_; simp only [zap])
  | (refine CallP.fE (hri) (by first | rfl | fail) (by first | (simp; done) | (simp; rfl) | fail) ?_; (try simp))
  | fail)
  (refine EndOK.val (.inr rfl) ?_; simp [zaA, zae, zar, Tryz.results19])
theorem ziL {s : W8} {b : By} {p e : Int} (h : zh5 s = (b, p, e)) : Fun Tryz.prog 10 [.u (.str s)] (· = .tup [byD b, .u (.int .i64 p), .u (.int .i64 e)]) := by
 have h1 := zjY s;rw [zog, h] at h1;exact h1
theorem zj2 {s : W8} {b : Exp} {p e : Int} (h : zj0 s = (b, p, e)) : Fun Tryz.prog 12 [.u (.str s)] (· = .tup [zkA b, .u (.int .i64 p), .u (.int .i64 e)]) := by
 have h1 := zgM s;rw [zof, h] at h1;exact h1
theorem zjO {e : Exp} {s : W8} (h : zaP 12 e = true) (ht : txt e 0 = s) (hs : s.length <= 2000) : Fun Tryz.prog 21 [.u (.agg e.row)] (· = .tup [.u (.str s), .u (.int .i64 0)]) := by
 have h1 := zjN e;rw [show zjM e = (s, 0) by unfold zjM; rw [if_pos h, ht, if_neg (by omega)]] at h1;exact h1
theorem dM : zfg 9 (.agg [.int .i64 4, .int .i64 0, .int .i64 0, .str [], .sl [[.int .i64 0, .int .i64 3, .int .i64 1, .str [], .nil], [.int .i64 2, .int .i64 0, .int .i64 0, .str [], .sl [[.int .i64 0, .int .i64 5, .int .i64 3, .str [], .nil], [.int .i64 1, .int .i64 0, .int .i64 0, .str [112, 111, 116], .nil]]]]]) = .agg eM.row := by simp [zfg, Exp.row_eq, eM, eS, Exp.op, Exp.n, Exp.unit, Exp.s, Exp.args]
theorem dS : zfg 9 (.agg [.int .i64 2, .int .i64 0, .int .i64 0, .str [], .sl [[.int .i64 0, .int .i64 5, .int .i64 3, .str [], .nil], [.int .i64 1, .int .i64 0, .int .i64 0, .str [112, 111, 116], .nil]]]) = .agg eS.row := by simp [zfg, Exp.row_eq, eM, eS, Exp.op, Exp.n, Exp.unit, Exp.s, Exp.args]
theorem dZ : zfg 9 (.agg [.int .i64 1, .int .i64 0, .int .i64 0, .str [], .nil]) = .agg (Exp.mk 1 0 0 [] []).row := by simp [zfg, Exp.row_eq, eM, eS, Exp.op, Exp.n, Exp.unit, Exp.s, Exp.args]
theorem znU : Fun Tryz.prog 9 [] (· = .u (.bool true)) := by
 have h1 := zj2 pv1;have h2 := zjO rA tA (by decide);have h3 : Fun Tryz.prog 21 ([.agg [.int .i64 4, .int .i64 0, .int .i64 0, .str [], .sl [[.int .i64 0, .int .i64 3, .int .i64 1, .str [], .nil], [.int .i64 2, .int .i64 0, .int .i64 0, .str [], .sl [[.int .i64 0, .int .i64 5, .int .i64 3, .str [], .nil], [.int .i64 1, .int .i64 0, .int .i64 0, .str [112, 111, 116], .nil]]]]]].map .u) (· = .tup [.u (.str [51, 32, 42, 32, 40, 32, 53, 32, 99, 111, 105, 110, 115, 32, 43, 32, 112, 111, 116, 32, 41]), .u (.int .i64 0)]) := Fun.zsq 9 (by simp only [List.map_cons, List.map_nil, dM]; exact zjO rM tM (by decide));have h4 := ziL pv3;have h5 : Fun Tryz.prog 19 [.u (.agg (zbb bB))] (· = .tup [.u (.str [99, 105, 114, 99, 108, 101, 32, 115, 97, 118, 105, 110, 103, 32, 59, 10, 112, 101, 114, 105, 111, 100, 32, 55, 32, 100, 97, 121, 115, 32, 59, 10, 108, 97, 115, 116, 32, 49, 48, 32, 59, 10, 100, 117, 101, 32, 49, 48, 48, 32, 99, 111, 105, 110, 115, 32, 59, 10]), .u (.int .i64 0)]) := by
  have h := zoa bB;have e : textP bB = [99, 105, 114, 99, 108, 101, 32, 115, 97, 118, 105, 110, 103, 32, 59, 10, 112, 101, 114, 105, 111, 100, 32, 55, 32, 100, 97, 121, 115, 32, 59, 10, 108, 97, 115, 116, 32, 49, 48, 32, 59, 10, 100, 117, 101, 32, 49, 48, 48, 32, 99, 111, 105, 110, 115, 32, 59, 10] := tB;rw [show printB bB = ([99, 105, 114, 99, 108, 101, 32, 115, 97, 118, 105, 110, 103, 32, 59, 10, 112, 101, 114, 105, 111, 100, 32, 55, 32, 100, 97, 121, 115, 32, 59, 10, 108, 97, 115, 116, 32, 49, 48, 32, 59, 10, 100, 117, 101, 32, 49, 48, 48, 32, 99, 111, 105, 110, 115, 32, 59, 10], 0) by unfold printB; rw [if_pos rB, e, if_neg (by decide)]] at h;exact h
 have h6 := ziL pv4;have h7 := ziL pv5;have h8 := zj2 pv2;have h9 := zey bB;rw [rB] at h9;have h10 : Fun Tryz.prog 23 ([.agg [.int .i64 0, .int .i64 0, .int .i64 0, .int .i64 0, .int .i64 0, .int .i64 0, .bool false, .int .i64 0, .int .i64 0, .int .i64 0, .int .i64 0, .nil, .int .i64 0, .int .i64 0, .int .i64 0, .str [], .nil, .int .i64 0, .int .i64 0, .int .i64 0, .str [], .nil, .int .i64 0, .int .i64 0, .int .i64 0, .str [], .nil, .int .i64 0, .int .i64 0, .int .i64 0, .str [], .nil, .int .i64 0, .int .i64 0, .int .i64 0, .str [], .nil]].map .u) (· = .u (.bool false)) := Fun.zsq 9 (by have h := zey zeL; rw [rz] at h; exact h);have h11 : Fun Tryz.prog 25 ([.agg [.int .i64 2, .int .i64 0, .int .i64 0, .str [], .sl [[.int .i64 0, .int .i64 5, .int .i64 3, .str [], .nil], [.int .i64 1, .int .i64 0, .int .i64 0, .str [112, 111, 116], .nil]]]].map .u) (· = .u (.bool true)) := Fun.zsq 9 (by have h := zdV eS; rw [rS, zkA, <- Exp.row_eq] at h; simp only [List.map_cons, List.map_nil, dS]; exact h);have h12 : Fun Tryz.prog 25 ([.agg [.int .i64 1, .int .i64 0, .int .i64 0, .str [], .nil]].map .u) (· = .u (.bool false)) := Fun.zsq 9 (by have h := zdV (.mk 1 0 0 [] []); rw [rZ, zkA, <- Exp.row_eq] at h; simp only [List.map_cons, List.map_nil, dZ]; exact h);have h13 := zeD [112, 101, 114, 105, 111, 100];rw [nP] at h13;have h14 := zeD [99, 111, 105, 110, 115];rw [nC] at h14;have h15 := zjC bB;have h16 : Fun Tryz.prog 28 ([.agg [.int .i64 2, .int .i64 0, .int .i64 0, .str [], .sl [[.int .i64 0, .int .i64 5, .int .i64 3, .str [], .nil], [.int .i64 1, .int .i64 0, .int .i64 0, .str [112, 111, 116], .nil]]], .agg [.int .i64 2, .int .i64 0, .int .i64 0, .str [], .sl [[.int .i64 0, .int .i64 5, .int .i64 3, .str [], .nil], [.int .i64 1, .int .i64 0, .int .i64 0, .str [112, 111, 116], .nil]]]].map .u) (· = .u (.bool true)) := Fun.zsq 9 (by have h := zcl eS eS; rw [zdA, zfc] at h; simp only [List.map_cons, List.map_nil, dS]; exact h);rw [Exp.row_eq] at h2;simp only [zkA, byD, zbb, List.map_cons, List.map_nil] at h1 h3 h4 h6 h7 h8 h10 h11 h12 h15 h16 h5 h9;generalize eA = e1 at *;generalize bB = b1 at *
 (refine Fun.of_bodyW Tryz.func9 rfl (by simp) fun Γ hn => ?_); simp only [entry, ziC, ziN, maC, maN, oA, Tryz.ntmps9]
 repeat' (first
  | ((first | refine zag ?_ | refine zaj ?_ | refine zah ?_ | fail); simp)
  | (refine CallP.fE (h1) (by first | rfl | fail) (by first | (simp; done) | (simp; rfl) | fail) ?_; (try simp))
  | (refine CallP.fE (h2) (by first | rfl | fail) (by first | (simp; done) | (simp; rfl) | fail) ?_; (try simp))
  | fail)
 refine zjl (Wk.frzN 1 _) ?_;simp [frzN, frz1, zaz, zay, St.frz, St.frzS, frzS, fv, zaH, za2, za4, zaG, zau, zam, del, frz, za5];refine zjl (Wk.frzN 1 _) ?_;simp [frzN, frz1, zaz, zay, St.frz, St.frzS, frzS, fv, zaH, za2, za4, zaG, zau, zam, del, frz, za5]
 repeat' (first
  | ((first | refine zag ?_ | refine zaj ?_ | refine zah ?_ | fail); simp)
  | (refine zaq ?_; simp only [zap])
  | (refine CallP.fE (h3) (by first | rfl | fail) (by first | (simp; done) | (simp; rfl) | fail) ?_; (try simp))
  | (refine CallP.fE (h4) (by first | rfl | fail) (by first | (simp; done) | (simp; rfl) | fail) ?_; (try simp))
  | (refine CallP.fE (h5) (by first | rfl | fail) (by first | (simp; done) | (simp; rfl) | fail) ?_; (try simp))
  | (refine CallP.fE (h6) (by first | rfl | fail) (by first | (simp; done) | (simp; rfl) | fail) ?_; (try simp))
  | (refine CallP.fE (h7) (by first | rfl | fail) (by first | (simp; done) | (simp; rfl) | fail) ?_; (try simp))
  | (refine CallP.fE (h8) (by first | rfl | fail) (by first | (simp; done) | (simp; rfl) | fail) ?_; (try simp))
  | (refine CallP.fE (h9) (by first | rfl | fail) (by first | (simp; done) | (simp; rfl) | fail) ?_; (try simp))
  | (refine CallP.fE (h10) (by first | rfl | fail) (by first | (simp; done) | (simp; rfl) | fail) ?_; (try simp))
  | (refine CallP.fE (h11) (by first | rfl | fail) (by first | (simp; done) | (simp; rfl) | fail) ?_; (try simp))
  | (refine CallP.fE (h12) (by first | rfl | fail) (by first | (simp; done) | (simp; rfl) | fail) ?_; (try simp))
  | (refine CallP.fE (h13) (by first | rfl | fail) (by first | (simp; done) | (simp; rfl) | fail) ?_; (try simp))
  | (refine CallP.fE (h14) (by first | rfl | fail) (by first | (simp; done) | (simp; rfl) | fail) ?_; (try simp))
  | (refine CallP.fE (h15) (by first | rfl | fail) (by first | (simp; done) | (simp; rfl) | fail) ?_; (try simp))
  | (refine CallP.fE (h16) (by first | rfl | fail) (by first | (simp; done) | (simp; rfl) | fail) ?_; (try simp))
  | fail)
 refine EndW.here ?_
 (refine EndOK.val (.inr rfl) ?_; simp [zaA, zae, zar, Tryz.results9])
end Go.Proofs.YthnemhfamhnfjaaGreatDoor
