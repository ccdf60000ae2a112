import Derived.Test.YtkdhmbhbbciedaaGreatDoorT5
import Derived.Lib.ItoaLen
set_option linter.all false
set_option maxRecDepth 100000
set_option maxHeartbeats 8000000
namespace Go.VL
open Go
def w64 (n : Int) : Int := IntKind.wrap .i64 n
theorem zf0 (n : Int) : -9223372036854775808 <= w64 n /\ w64 n <= 9223372036854775807 := by
 unfold w64 IntKind.wrap;simp [IntKind.bits, IntKind.signed];split <;> omega
theorem zoO {n : Int} (h0 : -9223372036854775808 <= n) (h1 : n <= 9223372036854775807) : w64 n = n := by
 unfold w64 IntKind.wrap;simp [IntKind.bits, IntKind.signed];split <;> omega
theorem Eff.one {P Γ o s k d} (h : zqw P o s (· = d)) (hp : zat o.dst s) (hk : k (s.put o.dst d)) : Eff P Γ o s k := by
 intro K a w hin hs Kont Q hK;obtain ⟨_, rfl, v, hv, hr⟩ := h K Γ.own a w hs;unfold Oper.wp;rw [hv];exact hK K _ w _ hin (hs.put hp hr) hk
theorem zkB {P : Program} {o : Oper} {s : St} {t t' : TypeId} {x y : Operand} {a b : Int} {op : BinOp} {c : Int} (ho : o.op = .binOp op t x y t') (hc : op = .mul /\ c = a * b \/ op = .sub /\ c = a - b) (hx : opd s x = .u (.int .i64 a)) (hy : opd s y = .u (.int .i64 b)) : zqw P o s (· = .u (.int .i64 (w64 c))) := by
 intro k own A w hs;have h1 := zaF hs x;have h2 := zaF hs y;rw [hx] at h1;rw [hy] at h2;refine ⟨_, rfl, .int .i64 (w64 c), ?_, .u _ _ (.int _ _)⟩;obtain ⟨dst, op', type, pos, after, guard⟩ := o;simp only at ho;subst ho;have e1 := zbw h1;have e2 := zbw h2;rcases hc with ⟨rfl, rfl⟩ | ⟨rfl, rfl⟩ <;> simp [execOp, e1, e2, binOp, Op.intArith, w64, eqGuard]
theorem zo8 {P : Program} {o : Oper} {s : St} {t : TypeId} {x : Operand} {a : Int} (ho : o.op = .unOp .neg t x) (hx : opd s x = .u (.int .i64 a)) : zqw P o s (· = .u (.int .i64 (w64 (-a)))) := by
 intro k own A w hs;have h1 := zaF hs x;rw [hx] at h1;refine ⟨_, rfl, .int .i64 (w64 (-a)), ?_, .u _ _ (.int _ _)⟩;obtain ⟨dst, op', type, pos, after, guard⟩ := o;simp only at ho;subst ho;have e1 := zbw h1;simp [execOp, e1, Op.unary, Op.intArith, w64]
theorem ztU {P : Program} {Γ : Ctx} {s : St} {k : St -> Prop} {d : Option Tmp} {op : Op} {rest : List O1} {v : D} (h1 : ∀ o : Oper, o.op = op -> zqw P o s (· = v)) (hp : zat d s) (h : H P Γ rest (s.put d v) k) : H P Γ (⟨d, op, none⟩ :: rest) s k := by
 intro all ops e;obtain ⟨o, ops', rfl, hx', hr⟩ := zdo e;obtain ⟨dst', op', type, pos, after, guard⟩ := o;unfold zcH at hx';simp only at hx';cases guard with
 | none =>
  simp at hx';obtain ⟨rfl, rfl⟩ := hx';exact zsp ((Eff.one (k := fun s' => H P Γ rest s' k) (o := { dst := dst', op := op', type, pos, after, guard := none }) (h1 _ rfl) hp h).mono fun s' h => h all ops' hr)
 | some g =>
  obtain ⟨j, b⟩ := g;simp only at hx';split at hx' <;> simp at hx'
theorem zv2 {P : Program} {Γ : Ctx} {s : St} {k : St -> Prop} {d : Option Tmp} {t t' : TypeId} {x y : Operand} {rest : List O1} {a b : Int} (hx : opd s x = .u (.int .i64 a)) (hy : opd s y = .u (.int .i64 b)) (hp : zat d s) (h : H P Γ rest (s.put d (.u (.int .i64 (w64 (a * b))))) k) : H P Γ (⟨d, .binOp .mul t x y t', none⟩ :: rest) s k :=
 ztU (fun _ ho => zkB ho (.inl ⟨rfl, rfl⟩) hx hy) hp h
theorem zv0 {P : Program} {Γ : Ctx} {s : St} {k : St -> Prop} {d : Option Tmp} {t t' : TypeId} {x y : Operand} {rest : List O1} {a b : Int} (hx : opd s x = .u (.int .i64 a)) (hy : opd s y = .u (.int .i64 b)) (hp : zat d s) (h : H P Γ rest (s.put d (.u (.int .i64 (w64 (a - b))))) k) : H P Γ (⟨d, .binOp .sub t x y t', none⟩ :: rest) s k :=
 ztU (fun _ ho => zkB ho (.inr ⟨rfl, rfl⟩) hx hy) hp h
theorem zv1 {P : Program} {Γ : Ctx} {s : St} {k : St -> Prop} {d : Option Tmp} {t : TypeId} {x : Operand} {rest : List O1} {a : Int} (hx : opd s x = .u (.int .i64 a)) (hp : zat d s) (h : H P Γ rest (s.put d (.u (.int .i64 (w64 (-a))))) k) : H P Γ (⟨d, .unOp .neg t x, none⟩ :: rest) s k :=
 ztU (fun _ ho => zo8 ho hx) hp h
end Go.VL
namespace Go.Proofs.YtkdhmbhbbciedaaGreatDoor
open Go Go.VL
def zb2 (n : Int) (c : UInt8) : Int := w64 (w64 (10 * n) - ((c.toNat : Int) - 48))
def zfJ (s : W8) : Int × Bool :=
 let f := if s.head? = some 45 then 1 else 0
 if (s.drop f).all zav = true then
  let n := (s.drop f).foldl zb2 0
  let m := if f = 0 then w64 (-n) else n
  (m, decide (Lib.itoa m ++ [59] = s ++ [59]))
 else (0, false)
theorem zmm (s : W8) (n : Int) (h : -9223372036854775808 <= n /\ n <= 9223372036854775807) : -9223372036854775808 <= s.foldl zb2 n /\ s.foldl zb2 n <= 9223372036854775807 := by
 induction s generalizing n with
 | nil => exact h
 | cons c r ih => exact ih _ (zf0 _)
theorem znf : ∀ (s : W8) (acc : Int), 0 <= acc -> (∀ c ∈ s, zav c = true) -> s.foldl (fun (n : Int) c => 10 * n + ((c.toNat : Int) - 48)) acc <= 1000000000000000000 ->
  s.foldl zb2 (-acc) = -(s.foldl (fun (n : Int) c => 10 * n + ((c.toNat : Int) - 48)) acc) /\ acc <= s.foldl (fun (n : Int) c => 10 * n + ((c.toNat : Int) - 48)) acc
 | [], acc, _, _, _ => ⟨rfl, Int.le_refl _⟩
 | c :: r, acc, h0, hd, hb => by
  have hc := hd c (by simp);simp only [zav, Bool.and_eq_true, decide_eq_true_eq] at hc;rw [List.foldl_cons] at hb ⊢;have ih := znf r (10 * acc + ((c.toNat : Int) - 48)) (by omega) (fun x hx => hd x (by simp [hx])) hb;have hle := Int.le_trans ih.2 hb;have e : zb2 (-acc) c = -(10 * acc + ((c.toNat : Int) - 48)) := by
   unfold zb2;rw [zoO (n := 10 * -acc) (by omega) (by omega), zoO (by omega) (by omega)];omega
  rw [e];refine ⟨ih.1, ?_⟩;have := ih.2;rw [List.foldl_cons];omega
theorem zqp {a : Int} (h0 : -1099511627776 <= a) (h1 : a <= 1099511627776) : zfJ (Lib.itoa a) = (a, true) := by
 have hdd : ∀ n : Nat, n <= 1099511627776 -> (Lib.decDigits n).foldl zb2 0 = -(n : Int) := fun n hn => by
  have hv := zgf n;unfold zby at hv;have := (znf (Lib.decDigits n) 0 (by omega) (zcj n) (by rw [hv]; omega)).1;rw [hv] at this;exact this
 have hall : ∀ n : Nat, (Lib.decDigits n).all zav = true := fun n => List.all_eq_true.2 (zcj n);by_cases hn : a < 0
 ·have e : Lib.itoa a = 45 :: Lib.decDigits a.natAbs := by unfold Lib.itoa; rw [if_pos hn]
  have hv := hdd a.natAbs (by omega);rw [show -((a.natAbs : Nat) : Int) = a by omega] at hv;unfold zfJ;rw [e];simp only [List.head?_cons, if_true, List.drop_succ_cons, List.drop_zero];rw [if_pos (hall _), hv, if_neg (by decide), e];simp
 ·have e : Lib.itoa a = Lib.decDigits a.toNat := by unfold Lib.itoa; rw [if_neg hn]
  have hv := hdd a.toNat (by omega);rw [show ((a.toNat : Nat) : Int) = a by omega] at hv;have hh : (Lib.decDigits a.toNat).head? ≠ some 45 := fun h => by
   cases hd : Lib.decDigits a.toNat with
   | nil => exact zfm _ hd
   | cons c r =>
    rw [hd] at h;have := zcj a.toNat c (by rw [hd]; simp);simp at h;subst h
    revert this; decide
  unfold zfJ;rw [e, if_neg hh];simp only [List.drop_zero];rw [if_pos (hall _), hv];simp only [if_true];rw [show w64 (- -a) = a by rw [Int.neg_neg]; exact zoO (by omega) (by omega), e];simp
end Go.Proofs.YtkdhmbhbbciedaaGreatDoor
namespace Go.Proofs.YtkdhmbhbbciedaaGreatDoor
open Go Go.VL
theorem zho (m : Nat) (h : m <= 9223372036854775808) : (Lib.decDigits m).length <= 19 := zgg m 18 (by omega)
end Go.Proofs.YtkdhmbhbbciedaaGreatDoor
namespace Go.Proofs.YtkdhmbhbbciedaaGreatDoor
open Go Go.VL
theorem zgd {s : W8} {f i : Nat} {c : UInt8} (h : s[i]? = some c) (hf : f <= i) : (s.take (i + 1)).drop f = (s.take i).drop f ++ [c] := by
 obtain ⟨hi, rfl⟩ := List.getElem?_eq_some_iff.1 h;rw [List.take_succ_eq_append_getElem hi, List.drop_append_of_le_length (by simp; omega)]
end Go.Proofs.YtkdhmbhbbciedaaGreatDoor
namespace Go.Proofs.YtkdhmbhbbciedaaGreatDoor
open Go Go.VL
def zo1 (T : W8) : Nat := ((T.take 21).takeWhile fun c => decide (c ≠ 59)).length
def zoE (T : W8) : Int := if zo1 T < T.length /\ T[zo1 T]? = some 59 /\ (zfJ (T.take (zo1 T))).2 = true then (zfJ (T.take (zo1 T))).1 else 0
def zeAA (T : W8) : W8 × Bool := if zo1 T < T.length /\ T[zo1 T]? = some 59 /\ (zfJ (T.take (zo1 T))).2 = true then (T.drop (zo1 T + 1), false) else ([], true)
abbrev zkz (T : W8) (b : Bool) : Ob := .box [.u (.str T), .u (.bool b)]
theorem zst {T : W8} {n : Nat} (h : ∀ j, j < n -> T[j]? ≠ some 59) (hn : n <= T.length) (h21 : n <= 21) (hs : n = T.length \/ n = 21 \/ T[n]? = some 59) : zo1 T = n := by
 have e : T.take 21 = T.take n ++ (T.drop n).take (21 - n) := by rw [<- List.take_add, show n + (21 - n) = 21 by omega]
 have ha : ∀ x ∈ T.take n, decide (x ≠ 59) = true := fun x hx => by
  obtain ⟨j, hj⟩ := List.getElem?_of_mem hx;rw [List.getElem?_take] at hj;split at hj
  ·rename_i hjn;have := h j hjn;rw [hj] at this;simpa using this
  ·cases hj
 unfold zo1;rw [e, List.takeWhile_append_of_pos ha, List.length_append, List.length_take, Nat.min_eq_left hn]
 suffices hz : ((T.drop n).take (21 - n)).takeWhile (fun c => decide (c ≠ 59)) = [] by rw [hz]; rfl
 rcases hs with rfl | rfl | hs
 ·simp
 ·simp
 ·have : T.drop n = 59 :: T.drop (n + 1) := by
   obtain ⟨hl, e2⟩ := List.getElem?_eq_some_iff.1 hs;rw [List.drop_eq_getElem_cons hl, e2]
  rw [this];cases 21 - n <;> simp
end Go.Proofs.YtkdhmbhbbciedaaGreatDoor
namespace Go.Proofs.YtkdhmbhbbciedaaGreatDoor
open Go Go.VL
def zeu (w : W8) : Nat -> Int
 | 0 => -1
 | n + 1 => if wordsL[n]? = some w then n else zeu w n
def zef (t : W8) : Ins := match zfV 32 t with
 | none => ⟨zeu t 15, 0, []⟩
 | some p => if zeu p.1 15 = 1 then ⟨1, 0, p.2⟩ else ⟨zeu p.1 15, zoE (p.2 ++ [59]), []⟩
theorem zl4 : ∀ n : Nat, n < 15 -> zeu (wordsL.getD n []) 15 = n := by decide
theorem zk0 {a : Int} (h0 : -1099511627776 <= a) (h1 : a <= 1099511627776) : zoE (Lib.itoa a ++ [59]) = a := by
 have hl := Lib.itoa_length_le a (by omega) (by omega);have hno : (59 : UInt8) ∉ Lib.itoa a := fun hm => by
  have hd : ∀ n, (59 : UInt8) ∉ Lib.decDigits n := fun n h => by
   have := zcj n 59 h;simp [zav] at this
  unfold Lib.itoa at hm;split at hm
  ·simp at hm; exact hd _ hm
  ·exact hd _ hm
 have hs : zo1 (Lib.itoa a ++ [59]) = (Lib.itoa a).length := zst (fun j hj e => by
  rw [List.getElem?_append_left hj] at e;exact hno (List.mem_of_getElem? e)) (by simp) (by omega) (.inr (.inr (by simp)))
 unfold zoE;rw [hs];simp [zqp h0 h1]
theorem znB {x : Ins} {i n : Nat} (h : zdn x i n = true) (hn : n <= 1099511627776) : zef (zdd x.op ++ zdG x) = x := by
 obtain ⟨op, a, s⟩ := x;have hw : ∀ o : Int, 0 <= o -> o < 15 -> zeu (zdd o) 15 = o /\ (32 : UInt8) ∉ zdd o := fun o h0 h1 => by
  have h2 := zl4 o.toNat (by omega);unfold zdd;refine ⟨?_, (zmA o.toNat (by omega)).2.1⟩;rw [h2];omega
 unfold zdn at h;simp only at h;split at h
 ·rename_i e;subst e;simp at h;obtain ⟨⟨rfl, h1⟩, h2⟩ := h;obtain ⟨w1, w2⟩ := hw 0 (by omega) (by omega);have et : zdG ⟨0, a, []⟩ = 32 :: Lib.itoa a := by simp [zdG]
  rw [et];unfold zef;rw [zg3 _ w2];simp only;rw [w1, if_neg (by omega), zk0 h1 h2]
 split at h
 ·rename_i e;subst e;simp at h;obtain ⟨rfl, h2⟩ := h;obtain ⟨w1, w2⟩ := hw 1 (by omega) (by omega);have et : zdG ⟨1, 0, s⟩ = 32 :: s := by simp [zdG]
  rw [et];unfold zef;rw [zg3 _ w2];simp only;rw [w1, if_pos rfl]
 split at h
 ·rename_i e1 e2 e;simp at h;obtain ⟨⟨rfl, h1⟩, h2⟩ := h;obtain ⟨w1, w2⟩ := hw op (by omega) (by omega);have et : zdG ⟨op, a, []⟩ = 32 :: Lib.itoa a := by simp only [zdG]; rw [if_pos (by omega)]
  rw [et];unfold zef;rw [zg3 _ w2];simp only;rw [w1, if_neg (by omega), zk0 (by omega) (by omega)]
 ·rename_i e1 e2 e3;simp at h;obtain ⟨⟨⟨rfl, rfl⟩, h1⟩, h2⟩ := h;obtain ⟨w1, w2⟩ := hw op (by omega) (by omega);have et : zdG ⟨op, 0, []⟩ = [] := by simp only [zdG]; rw [if_neg (by omega), if_neg (by omega)]
  rw [et, List.append_nil];unfold zef;rw [zjO w2];simp only;rw [w1]
end Go.Proofs.YtkdhmbhbbciedaaGreatDoor
namespace Go.Proofs.YtkdhmbhbbciedaaGreatDoor
open Go Go.VL
theorem zpI {β : Type} (sc : List (List UInt8 × β)) (k : List UInt8) (r : β) (n : List UInt8) : zg7 (sc ++ [(k, r)]) n = if k = n then some r else zg7 sc n := by
 induction sc with
 | nil => simp [zg7]
 | cons p l ih =>
  rw [List.cons_append, zg7, ih, zg7];by_cases h : k = n
  ·simp [h]
  ·simp [h]
theorem zoZ (g : GM) : ∀ (l : List Let) (m : LM) (sh : SB), sF m = bF sh ->
  sF (l.foldl (fun m l => zia m l.name ((zjf (gF g) (mF m) l.body).1, (zjf (gF g) (mF m) l.body).2, zbY (sF m) l.body)) m) = bF (l.foldl (fun sh l => sh ++ [(l.name, zbY (bF sh) l.body)]) sh)
 | [], m, sh, h => h
 | a :: l, m, sh, h => by
  rw [List.foldl_cons, List.foldl_cons];refine zoZ g l _ _ (funext fun n => ?_);rw [h];unfold sF bF;rw [zmn, zpI];by_cases hn : n = a.name
  ·subst hn; simp [bF]
  ·rw [if_neg hn, if_neg (Ne.symm hn)];exact congrFun h n
theorem znw (lets : List Let) (e : Exp) : zf3 lets e = zmG lets e := by
 unfold zf3 zmG mOf zlL;rw [zoZ [] lets [] [] (funext fun n => rfl)]
theorem zqJ {lets : List Let} (hr : ∀ l ∈ lets, zaL 12 l.body = true) (hll : lets.length <= 20) : ∀ (n : Nat), n <= lets.length -> ∀ (d : Nat), d <= 12 -> ∀ e : Exp, zaL d e = true -> XOK lets n e := by
 intro n
 induction n using Nat.strongRecOn with
 | ind n ihn =>
 intro hn d
 induction d with
 | zero => intro _ e he; simp [zaL] at he
 | succ d ih =>
  intro hd e he;obtain ⟨h1, h2, h3, h4⟩ := zdf he;by_cases h0 : e.op = 0
  ·exact zqF lets n e h0
  by_cases hnm : e.op = 1
  ·exact zoF lets n e hnm hn (by omega) fun i l hi hl => ihn i hi (by omega) 12 (by omega) l.body (hr l (List.mem_of_getElem? hl))
  have hargs := h4 h0 hnm;have hE : ∀ x ∈ e.args, XOK lets n x /\ (xC lets n x).length <= 9000000 /\ JB 9000000 (xC lets n x) := fun x hx => by
   have hb := zhb (sh := shF lets n) (fun s => zjw hr (sh := shF lets) n s) (by omega) d x (hargs x hx);exact ⟨ih (by omega) x (hargs x hx), Nat.le_trans hb.1 (by omega), hb.2.le (by omega)⟩
  have hS : ∀ x, Fun Tryz.prog 73 [.u (.sl ((lets.map zmR).take n)), .u (.agg x.row)] (· = .u (.bool (shF lets n x))) := fun x => by
   have := znH (lets.take n) x;rw [<- znw] at this;unfold zaz zce at this;rw [List.map_take, <- Exp.row_eq] at this;exact this
  obtain ⟨op, n0, u, s, args⟩ := e;simp only [Exp.op, Exp.args] at *;by_cases h12 : op = 12
  ·obtain ⟨a, rfl⟩ : ∃ a, args = [a] := by
    rw [h12] at h1; simp [zaO] at h1
    match args, h1 with | [a], _ => exact ⟨a, rfl⟩
   obtain ⟨x1, x2, x3⟩ := hE a (by simp);exact zmz lets n op n0 u s a [] h0 hnm x1 x2 (.inr h12)
  obtain ⟨a, b, r, rfl⟩ : ∃ a b r, args = a :: b :: r := by
   unfold zaO at h1;rw [if_neg (by omega), if_neg h12] at h1
   match args, h1 with
   | a :: b :: r, _ => exact ⟨a, b, r, rfl⟩
   | [a], h1 => simp at h1; split at h1 <;> (try split at h1) <;> omega
   | [], h1 => simp at h1; split at h1 <;> (try split at h1) <;> omega
  obtain ⟨a1, a2, a3⟩ := hE a (by simp);obtain ⟨b1, b2, b3⟩ := hE b (by simp);by_cases la : 4000 < (xC lets n a).length
  ·exact zmz lets n op n0 u s a (b :: r) h0 hnm a1 a2 (.inl la)
  by_cases lb : 4000 < (xC lets n b).length
  ·exact zoG lets n op n0 u s a b r h0 hnm h12 a1 b1 (by omega) lb b2
  by_cases hA : op = 10
  ·exact zqI lets n op n0 u s a b r h0 hnm h12 a1 b1 (by omega) (by omega) a3 b3 hA
  by_cases hO : op = 11
  ·exact zsR lets n op n0 u s a b r h0 hnm h12 a1 b1 (by omega) (by omega) a3 b3 hO
  by_cases hI : op = 13
  ·obtain ⟨c, r', rfl⟩ : ∃ c r', r = c :: r' := by
    rw [hI] at h1; simp [zaO] at h1
    match r, h1 with
    | c :: r', _ => exact ⟨c, r', rfl⟩
    | [], h1 => simp at h1
   obtain ⟨c1, c2, c3⟩ := hE c (by simp);exact zsS lets n op n0 u s a b c r' hI a1 b1 c1 (by omega) (by omega) c2 a3 b3 c3
  obtain rfl : r = [] := by
   unfold zaO at h1;rw [if_neg (by omega), if_neg h12, if_neg hI, if_neg (by omega)] at h1
   match r, h1 with
   | [], _ => rfl
   | x :: r, h1 => simp at h1; omega
  by_cases hM : op = 4
  ·exact zqG lets n op n0 u s a b [] h0 hnm h12 a1 b1 (by omega) (by omega) a3 b3 rfl hM (hS a) (hS b)
  ·exact zqH lets n op n0 u s a b [] h0 hnm h12 a1 b1 (by omega) (by omega) a3 b3 rfl hA hO hI hM (by omega)
theorem zuZ {lets : List Let} {e : Exp} (hr : zcm lets e = true) : zel lets e = if 2000 <= (xC lets lets.length e).length then ([], 6) else (xC lets lets.length e ++ [⟨14, 0, []⟩], 0) := by
 obtain ⟨r1, r2, r3⟩ := zgx hr;have hc := zrF (sh := shF lets) r3 r2;obtain ⟨q1, q2⟩ := zrJ lets e;unfold zel;rw [if_pos hr];rcases (show xC lets lets.length e = zh8 lets (shF lets) e \/ 4000 < (xC lets lets.length e).length /\ 4000 < (zh8 lets (shF lets) e).length from hc) with e1 | ⟨e1, e2⟩
 ·rw [e1];by_cases h : 2000 <= (zh8 lets (shF lets) e).length
  ·rw [if_pos h, if_pos (by omega)]
  ·rw [if_neg h, if_neg (by omega), q2 (by omega)]
 ·rw [if_pos (by omega), if_pos (by omega)]
end Go.Proofs.YtkdhmbhbbciedaaGreatDoor
namespace Go.Proofs.YtkdhmbhbbciedaaGreatDoor
open Go Go.VL Go.Shelf Go.RowKit
theorem zjD (s : W8) (c : UInt8) : Fun Tryz.prog 145 [.u (.str s), .u (.int .u8 c.toNat)] (· = .u (.int .i64 (Lib.indexByte s c))) :=
 Fun.zqB fun k own w vs hsat hrep => by
  obtain ⟨v, u, rfl, hv, hu⟩ := zqQ hrep;have hv := zet hv;have hu := zbw hu;subst hv hu;refine ⟨_, .int _ _, (Tryz.stringslite_IndexByte ⟨s.toArray⟩ c.toNat w).mono ?_⟩;rintro e w' ⟨h1, rfl⟩;refine ⟨?_, Below.refl _ _⟩;rw [h1];simp
end Go.Proofs.YtkdhmbhbbciedaaGreatDoor
namespace Go.Proofs.YtkdhmbhbbciedaaGreatDoor
open Go Go.VL
def zkY (c : UInt8) (s : W8) : W8 := (zbS c s).getLast (zhJ s)
def ziv (c : UInt8) (s : W8) : List (Nat × Ob) := [(1, .box [.u (.str s)]), (2, .box [.u (.str [c])]), (3, .box [.u (.int .i64 0)])]
theorem zn3 {c : UInt8} {s p q : W8} (h : zfV c s = some (p, q)) : zkY c s = zkY c q := by
 unfold zkY;have := zd8 (c := c) s;rw [h] at this;simp only [this];rw [List.getLast_cons (zhJ q)]
theorem zn4 {c : UInt8} {s : W8} (h : zfV c s = none) : zkY c s = s := by
 unfold zkY;have := zd8 (c := c) s;rw [h] at this;simp only [this];rfl
end Go.Proofs.YtkdhmbhbbciedaaGreatDoor
namespace Go.Proofs.YtkdhmbhbbciedaaGreatDoor
open Go Go.VL Go.Shelf Go.RowKit
theorem Fun.ofB {P : Program} {f : FuncId} {ds : List D} {post : D -> Prop} (h : ∀ (k : Kr) (own : Nat -> Prop) (w : World) (vs : Array Value), Sat k own [] w -> RepL k ds vs ->
  Calls P f vs w fun e w' => (∃ v d, e = .returned v /\ Rep k d v /\ zaY d = true /\ post d) /\ Below w.heap.size w w') : Fun P f ds post := by
 intro k own w vs hsat hhdr hown hrep;refine (h k own w vs hsat hrep).mono ?_;rintro e w' ⟨⟨v, d, rfl, hv, hpd, hpo⟩, hb⟩;refine ⟨v, d, [], 0, k, rfl, ⟨.refl _, fun i hi => hhdr i hi, fun _ _ _ e => .inl e, hown, hb.os, hb.tape, hb.output, hb.size, fun x hx => hb.block x ?_⟩, ⟨fun x o v hm => ?_, fun j ob hj => by simp [getK] at hj, fun x y ox oy g g' b hx => by simp [getK] at hx⟩, hhdr, Nat.le_refl _, hv, hpd, hpo⟩
 ·rcases Nat.lt_or_ge x w.heap.size with h | h
  ·exact h
  ·exact absurd (hown x h) hx
 ·rw [zfc (hb.block x (hsat.memLt hm))];exact hsat.mem x o v hm
theorem zsD {k : Kr} {own obs} {w : World} (h : Sat k own obs w) {g : Nat} (hg : g ∈ zum) : ∃ ev, w.cell? ⟨g, 0, none⟩ = some ev /\ (ev = .nilIface \/ ∃ te pe, ev = .iface te pe) := by
 obtain ⟨t, v, e⟩ := k.glob.ifc g hg;exact ⟨_, h.cell e, .inr ⟨t, v, rfl⟩⟩
theorem zr7 (s : W8) (hl : s.length <= 140737488355328) : Fun Tryz.prog 45 [.u (.str s)] (fun d => ∃ v, d = .tup [.u (.int .i64 (zls s)), .u (.oth v)]) :=
 Fun.ofB fun k own w vs hsat hrep => by
  obtain ⟨v, rfl, hv⟩ := zhL hrep;have hv := zet hv;subst hv;have tup : ∀ (n : Int) (u : Value), Rep k (.tup [.u (.int .i64 n), .u (.oth u)]) (.tuple #[.int .i64 n, u]) := fun n u => .tup _ [_, _] rfl fun j d hj => by
   match j, hj with
   | 0, hj => cases hj; exact .u _ _ (.int _ _)
   | 1, hj => cases hj; exact .u _ _ (.oth _)
  have hsz : (⟨s.toArray⟩ : ByteArray).size <= 281474976710656 := by
   show s.toArray.size <= _;simp; omega
  unfold zls;cases ha : Lib.atoiAll s with
  | ok n =>
   refine (Tryz.strconv_Atoi_ok ⟨s.toArray⟩ (by omega) n (by simpa using ha) w).mono ?_;rintro e w' ⟨rfl, h2⟩;refine ⟨⟨_, _, rfl, tup n .nilIface, by simp [zaY], _, rfl⟩, ?_⟩;rcases h2 with rfl | ⟨t, rfl⟩
   ·exact Below.refl _ _
   ·exact Lib.bytesWorld_below w _ t
  | range =>
   obtain ⟨ev, h1, h2⟩ := zsD hsat (g := 3) (by simp [zum]);refine (Tryz.strconv_Atoi_range ⟨s.toArray⟩ hsz (by simpa using ha) ev w h1 h2).mono ?_;rintro e w' ⟨N, rfl, _, _, hb⟩;refine ⟨⟨_, _, rfl, tup (Lib.atoiSat s) _, by simp [zaY], _, rfl⟩, hb⟩
  | _ =>
   obtain ⟨ev, h1, h2⟩ := zsD hsat (g := 2) (by simp [zum]);refine (Tryz.strconv_Atoi_syntax ⟨s.toArray⟩ hsz (by simp [ha]) ev w h1 h2).mono ?_;rintro e w' ⟨N, rfl, _, _, hb⟩;exact ⟨⟨_, _, rfl, tup 0 _, by simp [zaY], _, rfl⟩, hb⟩
end Go.Proofs.YtkdhmbhbbciedaaGreatDoor
namespace Go.Proofs.YtkdhmbhbbciedaaGreatDoor
open Go Go.VL
attribute [local simp] HS zba zcP zb4 evPure opd uOf zat St.put St.at getK binD binI binS binB nilD aggD ze5 zfC lookD lookR zbZ rangeS Go.VL.nextD Go.VL.nextS zb1 zfI zfF ze0 zci mkV zbb zcX zaW za9 mapEff zdX zeK Key.kk shiftI arith unD convD zdg loadD cellsAt fieldAddrD fieldD indexAddrD indexSlD arrAddr indexD sliceD cutD lenD minmaxD nilCheckD buildD fillD zbu zcQ zek setAll zcI zed zbU ze3 zbR St.add zaq zbe rowsOf zcY zco zad zac zaa za5 zcH zaS entry za6 zbc valD zb7 zcG ze4 zcV zcW zbz zbv zag zaM za8 delAll effD St.effS zck zaJ zaw zcl zaK zay zbr zax zas zbs zch za7 zbq zaU zbp zai mkD zb3 zbg zbk zag zb6 D.ids Op.operands Call.operands zbj makeIfD makeFuncD typeAssertD zfB zc2 zc4 zfn zb0 IntKind.bits zb5 zam List.take_of_length_le List.range_succ zcA zbJ zcB zcu zbf zbA zbC zcv zbE za0 zbD zbB zgo zbI zcy zaQ zaB zcz zaR zaD zbH zaC zau zcE zcF zfZ zab frzN frz1 zaH zaG St.frz St.frzS frzS fv zbh zbx zbM zaI zar zal frz zbN za1 za2 zbt zbP zbQ zaV St.norm St.lp St.only zaA wkE wkO wkU Ob.under D.under zak zap zcC zbK zcD h4s zdt zao zaY List.zipIdx_cons List.zipIdx_nil List.map_cons List.map_nil Nat.zero_add
attribute [local irreducible] V G H HD HD2 HD4 zg5 RetX zaX Eff CallP CallV EndOK Fun Ret FinOK LoopI LoopW EndW HR vs2 RN Cnd H4
abbrev zpZ (e : Exp) : D := .u (.agg e.row)
abbrev zqD (n : Int) : D := .u (.int .i64 n)
theorem zbm {i nx : Nat} (h : i < nx) : ¬ i = nx /\ ¬ nx = i /\ (∀ k, ¬ i = nx + k) /\ ∀ k, ¬ nx + k = i := ⟨by omega, by omega, fun k => by omega, fun k => by omega⟩
theorem zqN (l : List Tok) (p : Nat) (i nx : Nat) (hi : i < nx) (hp : p < l.length) (hl : TokOK l) :
  RetX Tryz.prog 183 [.ptr i 0] [(i, pOb l p)] nx (PPost l i nx zqD (znp l p)) := by
 have hne := zbm hi;have hh1 := fun nx' (h : nx <= nx') => zcr l p [99, 111, 105, 110, 115] i nx' (by omega) hp hl.len;have hh2 := fun nx' (h : nx <= nx') => zcr l p [100, 97, 121, 115] i nx' (by omega) hp hl.len;have hh3 := fun nx' (h : nx <= nx') => zcr l p [112, 101, 114] i nx' (by omega) hp hl.len;unfold znp;by_cases h1 : isB l p [99, 111, 105, 110, 115] = true
 ·simp only [h1, if_true] at hh1 ⊢;refine RetX.runW Tryz.func183 Tryz.ntmps183 rfl (by simp) fun Γ hn hpan => ?_
  repeat' (first
  | (refine zaf rfl ?_; simp [hne])
  | (refine CallP.ok1 (hh1 _ (by first | omega | (simp; done) | (simp; omega) | fail)) (by first | (simp [hne, zaa, getK, zab, zac]; done) | fail) (by rfl) (by first | assumption | (simp; done) | fail) (by rfl) (by simp) ?_; (try simp [hne]))
  | fail)
  (refine EndW.h Tryz.results183 ?_; simp)
  exact PPost.zeE rfl rfl (by first | rfl | simp [del])
 ·simp only [h1, Bool.false_eq_true, if_false] at hh1 ⊢;by_cases h2 : isB l p [100, 97, 121, 115] = true
  ·simp only [h2, if_true] at hh2 ⊢;refine RetX.runW Tryz.func183 Tryz.ntmps183 rfl (by simp) fun Γ hn hpan => ?_
   repeat' (first
  | (refine zaf rfl ?_; simp [hne])
  | (refine CallP.ok1 (hh1 _ (by first | omega | (simp; done) | (simp; omega) | fail)) (by first | (simp [hne, zaa, getK, zab, zac]; done) | fail) (by rfl) (by first | assumption | (simp; done) | fail) (by rfl) (by simp) ?_; (try simp [hne]))
  | (refine CallP.ok1 (hh2 _ (by first | omega | (simp; done) | (simp; omega) | fail)) (by first | (simp [hne, zaa, getK, zab, zac]; done) | fail) (by rfl) (by first | assumption | (simp; done) | fail) (by rfl) (by simp) ?_; (try simp [hne]))
  | fail)
   (refine EndW.h Tryz.results183 ?_; simp)
   exact PPost.zeE rfl rfl (by first | rfl | simp [del])
  ·simp only [h2, Bool.false_eq_true, if_false] at hh2 ⊢;by_cases h3 : isB l p [112, 101, 114] = true
   ·simp only [h3, if_true] at hh3 ⊢;have hw := fun nx' (h : nx <= nx') => zmD l (p + 1) [[109, 105, 108, 108, 101]] i nx' (by omega) (zcN hl h3) hl (by simp);cases hr : zdM l (p + 1) [[109, 105, 108, 108, 101]] with
    | ok a q =>
     simp only [hr, List.map_cons, List.map_nil] at hw;refine RetX.runW Tryz.func183 Tryz.ntmps183 rfl (by simp) fun Γ hn hpan => ?_
     repeat' (first
  | (refine zaf rfl ?_; simp [hne])
  | (refine CallP.ok1 (hh1 _ (by first | omega | (simp; done) | (simp; omega) | fail)) (by first | (simp [hne, zaa, getK, zab, zac]; done) | fail) (by rfl) (by first | assumption | (simp; done) | fail) (by rfl) (by simp) ?_; (try simp [hne]))
  | (refine CallP.ok1 (hh2 _ (by first | omega | (simp; done) | (simp; omega) | fail)) (by first | (simp [hne, zaa, getK, zab, zac]; done) | fail) (by rfl) (by first | assumption | (simp; done) | fail) (by rfl) (by simp) ?_; (try simp [hne]))
  | (refine CallP.ok1 (hh3 _ (by first | omega | (simp; done) | (simp; omega) | fail)) (by first | (simp [hne, zaa, getK, zab, zac]; done) | fail) (by rfl) (by first | assumption | (simp; done) | fail) (by rfl) (by simp) ?_; (try simp [hne]))
  | (refine CallP.ok1 (hw _ (by first | omega | (simp; done) | (simp; omega) | fail)) (by first | (simp [hne, zaa, getK, zab, zac]; done) | fail) (by rfl) (by first | assumption | (simp; done) | fail) (by rfl) (by simp) ?_; (try simp [hne]))
  | (refine zbX (by first | rfl | fail) ?_; simp [hne, frzN, frz1, zaH, zaG, St.frz, St.frzS, frzS, fv, zbh, zbx, zbM, zaI, zar, zal, del, frz, zbN])
  | fail)
     (refine EndW.wk { n := _, env := [(2, zqD 4)], obs := [(i, pOb l q)], next := nx } (Wk.cut rfl (by simp [hn]) (by simp [wkO, zaa, getK, zab, zac, Ob.under, D.under, zak, zap, hne, hi]) (by simp [wkU, zaA, zaa, getK, D.under, hne, hi]) (by simp [wkE, zaA, zaa, getK, hne, hi])) (EndW.here ?_); (first | (refine EndOK.fin (.inr rfl) ?_) | (refine EndOK.fin (.inl rfl) ?_)); simp [zdt, zao, Tryz.results183]; refine FinOK.here (by simp) ?_; try simp)
     exact PPost.zeE rfl rfl (by first | rfl | simp [del])
    | stop pos e =>
     simp only [hr, List.map_cons, List.map_nil] at hw;refine RetX.runW Tryz.func183 Tryz.ntmps183 rfl (by simp) fun Γ hn hpan => ?_
     repeat' (first
  | (refine zaf rfl ?_; simp [hne])
  | (refine CallP.ok1 (hh1 _ (by first | omega | (simp; done) | (simp; omega) | fail)) (by first | (simp [hne, zaa, getK, zab, zac]; done) | fail) (by rfl) (by first | assumption | (simp; done) | fail) (by rfl) (by simp) ?_; (try simp [hne]))
  | (refine CallP.ok1 (hh2 _ (by first | omega | (simp; done) | (simp; omega) | fail)) (by first | (simp [hne, zaa, getK, zab, zac]; done) | fail) (by rfl) (by first | assumption | (simp; done) | fail) (by rfl) (by simp) ?_; (try simp [hne]))
  | (refine CallP.ok1 (hh3 _ (by first | omega | (simp; done) | (simp; omega) | fail)) (by first | (simp [hne, zaa, getK, zab, zac]; done) | fail) (by rfl) (by first | assumption | (simp; done) | fail) (by rfl) (by simp) ?_; (try simp [hne]))
  | (refine CallP.zht (hw _ (by first | omega | (simp; done) | (simp; omega) | fail)) (by first | (simp [hne, zaa, getK, zab, zac]; done) | fail) (by rfl) (by first | assumption | (simp; done) | fail) (by rfl) (by simp) ?_; rintro ob' ⟨q', rfl⟩; refine ⟨_, Wk.refl _, ?_⟩)
  | (refine zbX (by first | rfl | fail) ?_; simp [hne, frzN, frz1, zaH, zaG, St.frz, St.frzS, frzS, fv, zbh, zbx, zbM, zaI, zar, zal, del, frz, zbN])
  | fail)
     (refine hpan _ _ (PanG.k ([(i, pOb l q')]) (nx) (by simp [hn, hi, zab, zac, zaa, getK] <;> omega) ?_); try simp)
     exact PPost.zcd rfl
   ·simp only [h3, Bool.false_eq_true, if_false] at hh3 ⊢;refine RetX.runW Tryz.func183 Tryz.ntmps183 rfl (by simp) fun Γ hn hpan => ?_
    repeat' (first
  | (refine zaf rfl ?_; simp [hne])
  | (refine CallP.ok1 (hh1 _ (by first | omega | (simp; done) | (simp; omega) | fail)) (by first | (simp [hne, zaa, getK, zab, zac]; done) | fail) (by rfl) (by first | assumption | (simp; done) | fail) (by rfl) (by simp) ?_; (try simp [hne]))
  | (refine CallP.ok1 (hh2 _ (by first | omega | (simp; done) | (simp; omega) | fail)) (by first | (simp [hne, zaa, getK, zab, zac]; done) | fail) (by rfl) (by first | assumption | (simp; done) | fail) (by rfl) (by simp) ?_; (try simp [hne]))
  | (refine CallP.ok1 (hh3 _ (by first | omega | (simp; done) | (simp; omega) | fail)) (by first | (simp [hne, zaa, getK, zab, zac]; done) | fail) (by rfl) (by first | assumption | (simp; done) | fail) (by rfl) (by simp) ?_; (try simp [hne]))
  | fail)
    (refine EndW.h Tryz.results183 ?_; simp)
    exact PPost.zeE rfl rfl (by first | rfl | simp [del])
theorem ziV : zma 0 = .u (.row (wordsL.map .str) 0) := by
 simp [zma, globs, wordsL, uOf]
theorem zrj (x : Ins) (h0 : 0 <= x.op) (h1 : x.op < 15) (ha : -9223372036854775808 <= x.a) (hb : x.a <= 9223372036854775807) (hsl : x.s.length <= 1000000) : Fun Tryz.prog 50 [.u (.agg [.int .i64 x.op, .int .i64 x.a, .str x.s])] (· = .u (.str (ze1 x))) := by
 have hgw := ziV;have hwl : wordsL.length = 15 := rfl;have hu : wordsL[x.op.toNat]? = some (zdd x.op) := by
  rw [zdd, List.getD, List.getElem?_eq_getElem (by omega)]; rfl
 have hu' : ∀ h, wordsL[x.op.toNat]'h = zdd x.op := fun h => (List.getElem?_eq_some_iff.1 hu).2;have hit := zrt x.a ha hb;have hkn : ((x.op.toNat : Nat) : Int) = x.op := by omega
 have hs : ∃ W, W = zdd x.op := ⟨_, rfl⟩;obtain ⟨W, hW⟩ := hs;unfold ze1;have hwl2 : ∀ w ∈ wordsL, w.length <= 5 := by decide
 have hWl : (zdd x.op).length <= 5 := hwl2 _ (List.mem_of_getElem? hu);rw [<- hW] at hu hu' hWl ⊢;clear hW hwl2;have hil := Lib.itoa_length_le x.a ha hb;generalize Lib.itoa x.a = T at *;refine Fun.run Tryz.func50 Tryz.ntmps50 Tryz.results50 rfl (by simp) fun Γ hn => ?_; simp only [entry, List.zipIdx_cons, List.zipIdx_nil, List.map_cons, List.map_nil, Nat.zero_add];by_cases e0 : x.op = 0
 ·rw [e0] at hu' ⊢;have hwx : wordsL[0]'(by decide) = W := hu' (by decide);clear hu hu' hkn
  repeat' (first
  | (refine zaf rfl ?_; simp [hgw, hwl, hwx])
  | (refine And.intro (by omega) ?_)
  | (refine CallP.f2 rfl (hit) (by first | simp [hgw, hwl, hwx] <;> rfl | fail) ?_; simp [hgw, hwl, hwx])
  | fail)
  (refine Pst.of ?_; simp)
 by_cases e12 : x.op = 12
 ·rw [e12] at hu' ⊢;have hwx : wordsL[12]'(by decide) = W := hu' (by decide);clear hu hu' hkn
  repeat' (first
  | (refine zaf rfl ?_; simp [hgw, hwl, hwx])
  | (refine And.intro (by omega) ?_)
  | (refine CallP.f2 rfl (hit) (by first | simp [hgw, hwl, hwx] <;> rfl | fail) ?_; simp [hgw, hwl, hwx])
  | fail)
  (refine Pst.of ?_; simp)
 by_cases e13 : x.op = 13
 ·rw [e13] at hu' ⊢;have hwx : wordsL[13]'(by decide) = W := hu' (by decide);clear hu hu' hkn
  repeat' (first
  | (refine zaf rfl ?_; simp [hgw, hwl, hwx])
  | (refine And.intro (by omega) ?_)
  | (refine CallP.f2 rfl (hit) (by first | simp [hgw, hwl, hwx] <;> rfl | fail) ?_; simp [hgw, hwl, hwx])
  | fail)
  (refine Pst.of ?_; simp)
 by_cases e1 : x.op = 1
 ·rw [e1] at hu' ⊢;have hwx : wordsL[1]'(by decide) = W := hu' (by decide);clear hu hu' hkn
  repeat' (first
  | (refine zaf rfl ?_; simp [hgw, hwl, hwx])
  | (refine And.intro (by omega) ?_)
  | fail)
  (refine Pst.of ?_; simp)
 repeat' (first
  | (refine zaf rfl ?_; simp [hgw, hwl, hu, hu', h0, h1, hkn, e0, e1, e12, e13])
  | (refine And.intro (by omega) ?_)
  | fail)
 (refine Pst.of ?_; simp)
theorem zkA (lets : List Let) (e : Exp) : Fun Tryz.prog 13 [.u (zaz lets), zce e] (· = .tup [.u (Vm.inss (zel lets e).1), .u (.int .i64 (zel lets e).2)]) := by
 have h1 := zd5 e;simp only [zaz, zce] at h1 ⊢;by_cases hl : lets.length <= 20
 case neg =>
  have hcp : zel lets e = ([], 1) := by unfold zel zcm; rw [if_neg (by simp [hl])]
  have hl' : (20 : Int) < lets.length := by omega
  have hl2 : 20 < lets.length := by omega
  rw [hcp];refine Fun.runW Tryz.func13 Tryz.ntmps13 rfl (by simp) fun Γ hn => ?_
  repeat' (first
  | (refine zaf rfl ?_; simp [hl, hl', hl2])
  | fail)
  refine EndW.norm (EndW.here ?_)
  (refine EndOK.val (.inr rfl) ?_; simp [Tryz.results13, Vm.inss])
 have hl' : ¬ (20 : Int) < lets.length := by omega
 have hl2 : ¬ 20 < lets.length := by omega
 cases hre : zaL 12 e with
 | false =>
  have hcp : zel lets e = ([], 1) := by unfold zel zcm; rw [if_neg (by simp [hre])]
  rw [hre] at h1;rw [hcp];refine Fun.runW Tryz.func13 Tryz.ntmps13 rfl (by simp) fun Γ hn => ?_
  repeat' (first
  | (refine zaf rfl ?_; simp [hl, hl', hl2])
  | (refine CallP.f2 rfl (h1) (by first | simp [hl, hl', hl2] <;> rfl | fail) ?_; simp [hl, hl', hl2])
  | fail)
  refine EndW.norm (EndW.here ?_)
  (refine EndOK.val (.inr rfl) ?_; simp [Tryz.results13, Vm.inss])
 | true =>
  rw [hre] at h1;refine Fun.runW Tryz.func13 Tryz.ntmps13 rfl (by simp) fun Γ hn => ?_
  repeat' (first
  | (refine zaf rfl ?_; simp [hl, hl', hl2])
  | (refine CallP.f2 rfl (h1) (by first | simp [hl, hl', hl2] <;> rfl | fail) ?_; simp [hl, hl', hl2])
  | fail)
  refine zb8 (α := { i : Nat // i <= lets.length /\ ∀ l ∈ lets.take i, zaL 12 l.body = true }) [0, 3] (fun i => [(6, .u (.int .i64 i.1))])
   (fun i => [(0, .box [.u (.int .i64 e.op), .u (.int .i64 e.n), .u (.int .i64 e.unit), .u (.str e.s), .u (.sl (e.args.map Exp.row))])]) 1 (fun i => lets.length - i.1) ⟨0, by omega, by simp⟩ ?_ ?_
  ·exact (Wk.zda (by simp [hn] <;> grind))
  rintro ⟨i, hi, hb⟩;simp;rcases hx : lets[i]? with _ | l
  ·have hge : lets.length <= i := by simpa using hx
   obtain rfl : i = lets.length := by omega
   rw [List.take_length] at hb;have hra : zcm lets e = true := by
    unfold zcm;rw [hre, decide_eq_true hl, List.any_eq_false.2 fun l hl => by simp [hb l hl]];rfl
   rw [zuZ hra];have ha := zqJ hb hl lets.length (Nat.le_refl _) 12 (by omega) e hre;have hcl := (zhb (sh := shF lets lets.length) (fun s => zjw hb (sh := shF lets) lets.length s) (by omega) 12 e hre).1;have hll : (xC lets lets.length e).length <= 9000000 := Nat.le_trans hcl (by omega);unfold XOK at ha;rw [show (lets.map zmR).take lets.length = lets.map zmR by rw [List.take_of_length_le (by simp)]] at ha;clear hcl;generalize xC lets lets.length e = L at *;have f1 := zam;have f2 := zbL;have hlr := zcU L;unfold OwnC kOb at ha;rw [Exp.row_eq] at ha;by_cases h2 : 2000 <= L.length
   ·have h2' : (2000 : Int) <= L.length := by omega
    rw [if_pos h2]
    repeat' (first
  | (refine zaf rfl ?_; simp [hx, h2, h2'])
  | (refine CallP.okL (ha _) (by first | (simp [hx, h2, h2', zaa, getK, zab, zac, zad, zai, del]; done) | fail) (by rfl) (by first | assumption | (simp; done) | fail) (by rfl) (by simp) ?_; (try simp [hx, h2, h2', zcx, del]))
  | fail)
    refine EndW.norm (EndW.here ?_)
    (refine EndOK.val (.inr rfl) ?_; simp [Tryz.results13, Vm.inss])
   ·have h2' : ¬ (2000 : Int) <= L.length := by omega
    rw [if_neg h2]
    repeat' (first
  | (refine zaf rfl ?_; simp [hx, h2, h2'])
  | (refine And.intro (by omega) ?_)
  | (refine CallP.okL (ha _) (by first | (simp [hx, h2, h2', zaa, getK, zab, zac, zad, zai, del]; done) | fail) (by rfl) (by first | assumption | (simp; done) | fail) (by rfl) (by simp) ?_; (try simp [hx, h2, h2', zcx, del]))
  | fail)
    (refine EndW.frzN 1 ?_; simp [del, f1, f2])
    refine EndW.norm (EndW.here ?_)
    (refine EndOK.val (.inr rfl) ?_; simp [Tryz.results13, Vm.inss])
  ·have hlt : i < lets.length := (List.getElem?_eq_some_iff.1 hx).1;have h2 := zd5 l.body;simp only [zce] at h2;cases hrl : zaL 12 l.body with
   | false =>
    have hcp : zel lets e = ([], 1) := by
     unfold zel zcm;rw [if_neg];intro h;simp only [Bool.and_eq_true, Bool.not_eq_true', List.any_eq_false] at h;have := h.2 l (List.mem_of_getElem? hx);simp [hrl] at this
    rw [hrl] at h2;rw [hcp]
    repeat' (first
  | (refine Cnd.of (fun hc => ?_) (fun hc => ?_) <;> (try (exfalso; omega)) <;> (try simp [hx]))
  | (refine zaf rfl ?_; simp [hx])
  | (refine CallP.f2 rfl (h2) (by first | simp [hx] <;> rfl | fail) ?_; simp [hx])
  | fail)
    refine EndW.norm (EndW.here ?_)
    (refine EndOK.val (.inr rfl) ?_; simp [Tryz.results13, Vm.inss])
   | true =>
    rw [hrl] at h2
    repeat' (first
  | (refine Cnd.of (fun hc => ?_) (fun hc => ?_) <;> (try (exfalso; omega)) <;> (try simp [hx]))
  | (refine zaf rfl ?_; simp [hx])
  | (refine And.intro (by omega) ?_)
  | (refine CallP.f2 rfl (h2) (by first | simp [hx] <;> rfl | fail) ?_; simp [hx])
  | fail)
    refine LoopW.next ⟨i + 1, by omega, fun m hm => ?_⟩ (by simp; omega) ?_
    ·rw [List.take_succ_eq_append_getElem hlt] at hm;rcases List.mem_append.1 hm with hm | hm
     ·exact hb m hm
     ·simp at hm;rw [(List.getElem?_eq_some_iff.1 hx).2] at hm;rw [hm]; exact hrl
    exact (Wk.zda (by simp [hn] <;> grind))
end Go.Proofs.YtkdhmbhbbciedaaGreatDoor
namespace Go.Proofs.YtkdhmbhbbciedaaGreatDoor
open Go Go.VL Go.Shelf Go.RowKit
attribute [local simp] HS zba zcP zb4 evPure opd uOf zat St.put St.at getK binD binI binS binB nilD aggD ze5 zfC lookD lookR zbZ rangeS Go.VL.nextD Go.VL.nextS zb1 zfI zfF ze0 zci mkV zbb zcX zaW za9 mapEff zdX zeK Key.kk shiftI arith unD convD zdg loadD cellsAt fieldAddrD fieldD indexAddrD indexSlD arrAddr indexD sliceD cutD lenD minmaxD nilCheckD buildD fillD zbu zcQ zek setAll zcI zed zbU ze3 zbR St.add zaq zbe rowsOf zcY zco zad zac zaa za5 zcH zaS entry za6 zbc valD zb7 zcG ze4 zcV zcW zbz zbv zag zaM za8 delAll effD St.effS zck zaJ zaw zcl zaK zay zbr zax zas zbs zch za7 zbq zaU zbp zai mkD zb3 zbg zbk zag zb6 D.ids Op.operands Call.operands zbj makeIfD makeFuncD typeAssertD zfB zc2 zc4 zfn zb0 IntKind.bits zb5 zam List.take_of_length_le List.range_succ zcA zbJ zcB zcu zbf zbA zbC zcv zbE za0 zbD zbB zgo zbI zcy zaQ zaB zcz zaR zaD zbH zaC zau zcE zcF zfZ zab frzN frz1 zaH zaG St.frz St.frzS frzS fv zbh zbx zbM zaI zar zal frz zbN za1 za2 zbt zbP zbQ zaV St.norm St.lp St.only zaA wkE wkO wkU Ob.under D.under zak zap zcC zbK zcD h4s zdt zao zaY List.zipIdx_cons List.zipIdx_nil List.map_cons List.map_nil Nat.zero_add
attribute [local irreducible] V G H HD HD2 HD4 zg5 RetX zaX Eff CallP CallV EndOK Fun Ret FinOK LoopI LoopW EndW HR vs2 RN Cnd H4
theorem ziU (s : W8) (c : UInt8) : Fun Tryz.prog 119 [.u (.str s), .u (.str [c])] (· = .u (.int .i64 (Lib.indexByte s c))) := by
 have hib := zjD s c;by_cases he : s = [c]
 ·subst he;have e : Lib.indexByte [c] c = 0 := by simp [Lib.indexByte]
  rw [e];refine Fun.run Tryz.func119 Tryz.ntmps119 Tryz.results119 rfl (by simp) fun Γ hn => ?_
  repeat' (first
  | (refine zaf rfl ?_; simp)
  | fail)
  (refine Pst.of ?_; simp)
 ·generalize Lib.indexByte s c = n at hib ⊢;have he' : ¬ [c] = s := fun e => he e.symm;refine Fun.run Tryz.func119 Tryz.ntmps119 Tryz.results119 rfl (by simp) fun Γ hn => ?_
  repeat' (first
  | (refine zaf rfl ?_; simp [he', he])
  | (refine CallP.f2 rfl (hib) (by first | simp [he', he] <;> rfl | fail) ?_; simp [he', he])
  | fail)
  (refine Pst.of ?_; simp)
theorem zpP (s : W8) (c : UInt8) : Fun Tryz.prog 117 [.u (.str s), .u (.str [c])] (· = .u (.int .i64 (Lib.indexByte s c))) := by
 have hib := ziU s c;refine Fun.run Tryz.func117 Tryz.ntmps117 Tryz.results117 rfl (by simp) fun Γ hn => ?_
 repeat' (first
  | (refine zaf rfl ?_; simp)
  | (refine CallP.f2 rfl (hib) (by first | simp <;> rfl | fail) ?_; simp)
  | fail)
 (refine Pst.of ?_; simp)
def ztn (c : UInt8) (s : W8) : D := match zfV c s with
 | some p => .tup [.u (.str p.1), .u (.str p.2), .u (.bool true)]
 | none => .tup [.u (.str s), .u (.str []), .u (.bool false)]
theorem zrG (s : W8) (c : UInt8) (hl : s.length <= 140737488355328) : Fun Tryz.prog 77 [.u (.str s), .u (.str [c])] (· = ztn c s) := by
 have hib := ziU s c;have hix := zhX (c := c) s;unfold ztn;cases hc : zfV c s with
 | none =>
  rw [hc] at hix;simp only at hix;rw [hix] at hib;refine Fun.run Tryz.func77 Tryz.ntmps77 Tryz.results77 rfl (by simp) fun Γ hn => ?_
  repeat' (first
  | (refine zaf rfl ?_; simp)
  | (refine CallP.f2 rfl (hib) (by first | simp <;> rfl | fail) ?_; simp)
  | fail)
  (refine Pst.of ?_; simp)
 | some pq =>
  obtain ⟨p, q⟩ := pq;rw [hc] at hix;simp only at hix ⊢;rw [hix] at hib;obtain ⟨rfl, _⟩ := zgh hc;simp at hl;have e1 : List.drop (p.length + 1) (p ++ c :: q) = q := by simp [List.drop_append]
  have e2 : List.take p.length (p ++ c :: q) = p := by simp
  have b1 : p.length <= (p ++ c :: q).length := by simp
  have b2 : p.length + 1 <= (p ++ c :: q).length := by simp
  refine Fun.run Tryz.func77 Tryz.ntmps77 Tryz.results77 rfl (by simp) fun Γ hn => ?_
  repeat' (first
  | (refine zaf rfl ?_; simp [e1, e2, b1, b2])
  | (refine And.intro (by omega) ?_)
  | (refine ⟨hC _ (by kernel_rfl), hk _ (zeI 8 _ _ _ ?_)⟩; clear hC hk C k; simp [e1, e2, b1, b2])
  | (refine zeH rfl (by kernel_rfl) (by first | (simp [hn]; done) | (simp [hn]; omega) | fail) fun C k hC hk => ?_; simp [e1, e2, b1, b2])
  | (refine CallP.f2 rfl (hib) (by first | simp [e1, e2, b1, b2] <;> rfl | fail) ?_; simp [e1, e2, b1, b2])
  | fail)
  (refine Pst.of ?_; simp)
theorem ztl (s : W8) (c : UInt8) (hl : s.length <= 140737488355328) : Fun Tryz.prog 43 [.u (.str s), .u (.str [c])] (· = ztn c s) := by
 have hib := zrG s c hl;unfold ztn at hib ⊢;cases hc : zfV c s <;> rw [hc] at hib <;> simp only at hib ⊢
 all_goals
  refine Fun.run Tryz.func43 Tryz.ntmps43 Tryz.results43 rfl (by simp) fun Γ hn => ?_
  repeat' (first
  | (refine zaf rfl ?_; simp)
  | (refine CallP.f2 rfl (hib) (by first | simp <;> rfl | fail) ?_; simp)
  | fail)
  (refine Pst.of ?_; simp)
theorem zjH (s : W8) (hl : s.length <= 140737488355328) : Fun Tryz.prog 118 [.u (.str s), .u (.str [10])] (· = .u (.bool (decide (s.getLast? = some 10)))) := by
 rcases List.eq_nil_or_concat s with rfl | ⟨t, c, rfl⟩
 ·refine Fun.run Tryz.func118 Tryz.ntmps118 Tryz.results118 rfl (by simp) fun Γ hn => ?_
  repeat' (first
  | (refine zaf rfl ?_; simp)
  | fail)
  (refine Pst.of ?_; simp)
 ·rw [List.concat_eq_append] at hl ⊢;have e1 : List.drop t.length (t ++ [c]) = [c] := by simp
  have e2 : (t ++ [c]).getLast? = some c := by simp
  simp at hl;rw [e2];refine Fun.run Tryz.func118 Tryz.ntmps118 Tryz.results118 rfl (by simp) fun Γ hn => ?_
  repeat' (first
  | (refine Cnd.of (fun hc => ?_) (fun hc => ?_) <;> (try (exfalso; omega)) <;> (try simp [e1]))
  | (refine zaf rfl ?_; simp [e1])
  | (refine And.intro (by omega) ?_)
  | fail)
  (refine Pst.of ?_; simp)
theorem zoV (s : W8) (hl : s.length <= 140737488355328) : Fun Tryz.prog 76 [.u (.str s), .u (.str [10])] (· = .u (.str (zfN s))) := by
 have hsf := zjH s hl;unfold zfN;by_cases hb : s.getLast? = some 10
 ·rw [decide_eq_true hb] at hsf;rw [if_pos hb];obtain ⟨t, rfl⟩ : ∃ t, s = t ++ [10] := List.getLast?_eq_some_iff.1 hb;have e1 : List.take t.length (t ++ [10]) = t := by simp
  simp at hl;refine Fun.run Tryz.func76 Tryz.ntmps76 Tryz.results76 rfl (by simp) fun Γ hn => ?_
  repeat' (first
  | (refine zaf rfl ?_; simp [e1])
  | (refine And.intro (by omega) ?_)
  | (refine CallP.f2 rfl (hsf) (by first | simp [e1] <;> rfl | fail) ?_; simp [e1])
  | fail)
  (refine Pst.of ?_; simp)
 ·rw [decide_eq_false hb] at hsf;rw [if_neg hb];refine Fun.run Tryz.func76 Tryz.ntmps76 Tryz.results76 rfl (by simp) fun Γ hn => ?_
  repeat' (first
  | (refine zaf rfl ?_; simp)
  | (refine CallP.f2 rfl (hsf) (by first | simp <;> rfl | fail) ?_; simp)
  | fail)
  (refine Pst.of ?_; simp)
theorem zqS (s : W8) (hl : s.length <= 140737488355328) : Fun Tryz.prog 42 [.u (.str s), .u (.str [10])] (· = .u (.str (zfN s))) := by
 have hsf := zoV s hl;refine Fun.run Tryz.func42 Tryz.ntmps42 Tryz.results42 rfl (by simp) fun Γ hn => ?_
 repeat' (first
  | (refine zaf rfl ?_; simp)
  | (refine CallP.f2 rfl (hsf) (by first | simp <;> rfl | fail) ?_; simp)
  | fail)
 (refine Pst.of ?_; simp)
end Go.Proofs.YtkdhmbhbbciedaaGreatDoor
namespace Go.Proofs.YtkdhmbhbbciedaaGreatDoor
open Go Go.VL
attribute [local simp] HS zba zcP zb4 evPure opd uOf zat St.put St.at getK binD binI binS binB nilD aggD ze5 zfC lookD lookR zbZ rangeS Go.VL.nextD Go.VL.nextS zb1 zfI zfF ze0 zci mkV zbb zcX zaW za9 mapEff zdX zeK Key.kk shiftI arith unD convD zdg loadD cellsAt fieldAddrD fieldD indexAddrD indexSlD arrAddr indexD sliceD cutD lenD minmaxD nilCheckD buildD fillD zbu zcQ zek setAll zcI zed zbU ze3 zbR St.add zaq zbe rowsOf zcY zco zad zac zaa za5 zcH zaS entry za6 zbc valD zb7 zcG ze4 zcV zcW zbz zbv zag zaM za8 delAll effD St.effS zck zaJ zaw zcl zaK zay zbr zax zas zbs zch za7 zbq zaU zbp zai mkD zb3 zbg zbk zag zb6 D.ids Op.operands Call.operands zbj makeIfD makeFuncD typeAssertD zfB zc2 zc4 zfn zb0 IntKind.bits zb5 zam List.take_of_length_le List.range_succ zcA zbJ zcB zcu zbf zbA zbC zcv zbE za0 zbD zbB zgo zbI zcy zaQ zaB zcz zaR zaD zbH zaC zau zcE zcF zfZ zab frzN frz1 zaH zaG St.frz St.frzS frzS fv zbh zbx zbM zaI zar zal frz zbN za1 za2 zbt zbP zbQ zaV St.norm St.lp St.only zaA wkE wkO wkU Ob.under D.under zak zap zcC zbK zcD h4s zdt zao zaY List.zipIdx_cons List.zipIdx_nil List.map_cons List.map_nil Nat.zero_add
attribute [local irreducible] V G H HD HD2 HD4 zg5 RetX zaX Eff CallP CallV EndOK Fun Ret FinOK LoopI LoopW EndW HR vs2 RN Cnd H4
theorem znt (c : UInt8) (s : W8) (hl : s.length <= 140737488355328) : zvZ Tryz.prog 115 [.ptr 2 0, .ptr 1 0, .ptr 3 0] (ziv c s) (ziv c (zkY c s)) ((zbS c s).map fun t => .u (.str t)) := by
 intro k0 l L A N hdis hN hY;have hNle : ∀ i, N 0 <= N i := fun i => by
  induction i with
  | zero => omega
  | succ i ih => exact Nat.le_trans ih (hN i)
 simp only [ziv] at hdis ⊢;have hdis1 : ∀ i j ob, getK [(1, Ob.box [D.u (.str s)]), (2, Ob.box [D.u (.str [c])]), (3, Ob.box [D.u (.int .i64 0)])] j = some ob -> getK (A i) j = none := hdis;have hdis2 : ∀ (t : W8) i j ob, getK [(1, Ob.box [D.u (.str t)]), (2, Ob.box [D.u (.str [c])]), (3, Ob.box [D.u (.int .i64 0)])] j = some ob -> getK (A i) j = none := fun t i j ob h => by
  simp only [zaa] at h hdis1;by_cases h1 : j = 1
  ·exact hdis1 i j _ (if_pos h1)
  ·rw [if_neg h1] at h;exact hdis1 i j ob (by rw [if_neg h1]; exact h)
 generalize hls : zkY c s = ls;refine RetI.of_body Tryz.func115 Tryz.ntmps115 rfl (by simp) fun Γ hn hyc hpan => ?_; simp only [entry, List.zipIdx_cons, List.zipIdx_nil, List.map_cons, List.map_nil, Nat.zero_add];rw [ztc 8, zrx 10]
 repeat' (first
  | (refine zgm rfl ?_; simp)
  | fail)
 refine ztI (α := { p : Nat × W8 // (zbS c s).drop p.1 = zbS c p.2 /\ p.2.length <= s.length /\ ls = zkY c p.2 }) [0, 1, 2, 3] (fun _ => []) (fun p => [(1, .box [.u (.str p.1.2)]), (2, .box [.u (.str [c])]), (3, .box [.u (.int .i64 0)])] ++ A p.1.1) (fun p => N p.1.1) (fun p => p.1.2.length) ⟨(0, s), by simp, by simp, hls.symm⟩ ?_ ?_
 ·exact (Wk.env rfl rfl rfl (by simp [wkE, St.lp, zaA, zaa, getK] <;> (try (intros; simp_all; done)) <;> (try (intros; omega)) <;> (try grind)))
 rintro ⟨⟨i, t⟩, h1, h2, h3⟩;simp;have hix := zpP t c;rw [zhX] at hix;have hpc := zd8 (c := c) t;simp only at h1 h2 h3;have hN0 := hNle i;have hlt : i < (zbS c s).length := by
  rcases Nat.lt_or_ge i (zbS c s).length with h | h
  ·exact h
  ·rw [List.drop_eq_nil_of_le h] at h1;exact absurd h1.symm (zhJ t)
 cases hc : zfV c t with
 | none =>
  rw [hc] at hix hpc;simp only at hix hpc;have h3' : ls = t := h3.trans (zn4 hc);have hlen : (zbS c s).length = i + 1 := by
   have := congrArg List.length h1;rw [hpc] at this;simp at this;omega
  have hget : ((zbS c s).map fun t => D.u (.str t))[i]? = some (.u (.str t)) := by
   have : ((zbS c s).drop i)[0]? = some t := by rw [h1, hpc]; rfl
   rw [List.getElem?_drop] at this;simp only [Nat.add_zero] at this;rw [List.getElem?_map, this];rfl
  repeat' (first
  | (refine zgm rfl ?_; simp)
  | (refine CallP.f2 rfl (hix) (by first | simp <;> rfl | fail) ?_; simp)
  | fail)
  refine znh 2 hpan hyc rfl rfl ?_;simp;refine YS.of [(1, .box [.u (.str t)]), (2, .box [.u (.str [c])]), (3, .box [.u (.int .i64 0)])] (hY i _ hget) rfl (fun _ => rfl) (hdis2 t i) rfl (by simp) ?_;rintro d o n hn2 ⟨rfl, rfl, rfl⟩;simp
  repeat' (first | fail)
  (refine EndW.h Tryz.results115 ?_; simp)
  rw [hlen, h3'];exact ⟨hNle _, ⟨rfl, rfl⟩, rfl⟩
 | some pq =>
  obtain ⟨p, q⟩ := pq;rw [hc] at hix hpc;simp only at hix hpc;have hget : ((zbS c s).map fun t => D.u (.str t))[i]? = some (.u (.str p)) := by
   have : ((zbS c s).drop i)[0]? = some p := by rw [h1, hpc]; rfl
   rw [List.getElem?_drop] at this;simp only [Nat.add_zero] at this;rw [List.getElem?_map, this];rfl
  have hdrop : (zbS c s).drop (i + 1) = zbS c q := by
   have : ((zbS c s).drop i).drop 1 = zbS c q := by rw [h1, hpc]; rfl
   rw [List.drop_drop] at this;exact this
  have hlp := zn3 hc;obtain ⟨rfl, _⟩ := zgh hc;simp at h2;have e1 : List.drop (p.length + 1) (p ++ c :: q) = q := by simp [List.drop_append]
  have e2 : List.take p.length (p ++ c :: q) = p := by simp
  repeat' (first
  | (refine Cnd.of (fun hc => ?_) (fun hc => ?_) <;> (try (exfalso; omega)) <;> (try simp [e1, e2]))
  | (refine zgm rfl ?_; simp [e1, e2])
  | (refine And.intro (by omega) ?_)
  | (refine CallP.f2 rfl (hix) (by first | simp [e1, e2] <;> rfl | fail) ?_; simp [e1, e2])
  | fail)
  refine zqr ?_;refine ztG 2 hpan hyc rfl rfl ?_;simp;refine YS.of [(1, .box [.u (.str (p ++ c :: q))]), (2, .box [.u (.str [c])]), (3, .box [.u (.int .i64 0)])] (hY i _ hget) rfl (fun _ => rfl) (hdis2 (p ++ c :: q) i) rfl (by simp) ?_;rintro d o n hn2 ⟨rfl, rfl, rfl⟩;simp
  repeat' (first
  | (refine zgm rfl ?_; simp [e1, e2])
  | (refine And.intro (by omega) ?_)
  | fail)
  refine LoopW.next ⟨(i + 1, q), hdrop, by simp; omega, h3.trans hlp⟩ (by simp; omega) ?_
  exact (Wk.env rfl rfl rfl (by simp [wkE, St.lp, zaA, zaa, getK] <;> (try (intros; simp_all; done)) <;> (try (intros; omega)) <;> (try grind)))
end Go.Proofs.YtkdhmbhbbciedaaGreatDoor
namespace Go.Proofs.YtkdhmbhbbciedaaGreatDoor
open Go Go.VL Go.Shelf Go.RowKit
attribute [local simp] HS zba zcP zb4 evPure opd uOf zat St.put St.at getK binD binI binS binB nilD aggD ze5 zfC lookD lookR zbZ rangeS Go.VL.nextD Go.VL.nextS zb1 zfI zfF ze0 zci mkV zbb zcX zaW za9 mapEff zdX zeK Key.kk shiftI arith unD convD zdg loadD cellsAt fieldAddrD fieldD indexAddrD indexSlD arrAddr indexD sliceD cutD lenD minmaxD nilCheckD buildD fillD zbu zcQ zek setAll zcI zed zbU ze3 zbR St.add zaq zbe rowsOf zcY zco zad zac zaa za5 zcH zaS entry za6 zbc valD zb7 zcG ze4 zcV zcW zbz zbv zag zaM za8 delAll effD St.effS zck zaJ zaw zcl zaK zay zbr zax zas zbs zch za7 zbq zaU zbp zai mkD zb3 zbg zbk zag zb6 D.ids Op.operands Call.operands zbj makeIfD makeFuncD typeAssertD zfB zc2 zc4 zfn zb0 IntKind.bits zb5 zam List.take_of_length_le List.range_succ zcA zbJ zcB zcu zbf zbA zbC zcv zbE za0 zbD zbB zgo zbI zcy zaQ zaB zcz zaR zaD zbH zaC zau zcE zcF zfZ zab frzN frz1 zaH zaG St.frz St.frzS frzS fv zbh zbx zbM zaI zar zal frz zbN za1 za2 zbt zbP zbQ zaV St.norm St.lp St.only zaA wkE wkO wkU Ob.under D.under zak zap zcC zbK zcD h4s zdt zao zaY List.zipIdx_cons List.zipIdx_nil List.map_cons List.map_nil Nat.zero_add
attribute [local irreducible] V G H HD HD2 HD4 zg5 RetX zaX Eff CallP CallV EndOK Fun Ret FinOK LoopI LoopW EndW HR vs2 RN Cnd H4
theorem zji (s : W8) (c : UInt8) : Ret Tryz.prog 75 [.u (.str s), .u (.str [c]), .u (.int .i64 0)] [] 1
  (fun d o n => d = .fnc (.func 115) [.ptr 2 0, .ptr 1 0, .ptr 3 0] /\ o = [(3, .box [.u (.int .i64 0)]), (2, .box [.u (.str [c])]), (1, .box [.u (.str s)])] /\ n = 4) := by
 refine Ret.runW Tryz.func75 Tryz.ntmps75 rfl (by simp) fun Γ hn => ?_
 repeat' (first
  | (refine zaf rfl ?_; simp)
  | fail)
 (refine EndW.h Tryz.results75 ?_; simp)
theorem zki (s : W8) (c : UInt8) : Ret Tryz.prog 41 [.u (.str s), .u (.str [c])] [] 1
  (fun d o n => d = .fnc (.func 115) [.ptr 2 0, .ptr 1 0, .ptr 3 0] /\ o = [(3, .box [.u (.int .i64 0)]), (2, .box [.u (.str [c])]), (1, .box [.u (.str s)])] /\ n = 4) := by
 have h1 := zji s c;have hca : zae Tryz.prog 75 = true := by kernel_rfl
 refine Ret.runW Tryz.func41 Tryz.ntmps41 rfl (by simp) fun Γ hn => ?_
 repeat' (first
  | (refine zaf rfl ?_; simp [hca])
  | (refine CallP.zv4 (h1) (by rfl) (by first | assumption | simp) (by rfl) (by simp) ?_; rintro d o n' hn' ⟨rfl, rfl, rfl⟩; (try simp at hn'); (try simp [hca]))
  | fail)
 (refine EndW.h Tryz.results41 ?_; simp)
end Go.Proofs.YtkdhmbhbbciedaaGreatDoor
namespace Go.Proofs.YtkdhmbhbbciedaaGreatDoor
open Go Go.VL
attribute [local simp] HS zba zcP zb4 evPure opd uOf zat St.put St.at getK binD binI binS binB nilD aggD ze5 zfC lookD lookR zbZ rangeS Go.VL.nextD Go.VL.nextS zb1 zfI zfF ze0 zci mkV zbb zcX zaW za9 mapEff zdX zeK Key.kk shiftI arith unD convD zdg loadD cellsAt fieldAddrD fieldD indexAddrD indexSlD arrAddr indexD sliceD cutD lenD minmaxD nilCheckD buildD fillD zbu zcQ zek setAll zcI zed zbU ze3 zbR St.add zaq zbe rowsOf zcY zco zad zac zaa za5 zcH zaS entry za6 zbc valD zb7 zcG ze4 zcV zcW zbz zbv zag zaM za8 delAll effD St.effS zck zaJ zaw zcl zaK zay zbr zax zas zbs zch za7 zbq zaU zbp zai mkD zb3 zbg zbk zag zb6 D.ids Op.operands Call.operands zbj makeIfD makeFuncD typeAssertD zfB zc2 zc4 zfn zb0 IntKind.bits zb5 zam List.take_of_length_le List.range_succ zcA zbJ zcB zcu zbf zbA zbC zcv zbE za0 zbD zbB zgo zbI zcy zaQ zaB zcz zaR zaD zbH zaC zau zcE zcF zfZ zab frzN frz1 zaH zaG St.frz St.frzS frzS fv zbh zbx zbM zaI zar zal frz zbN za1 za2 zbt zbP zbQ zaV St.norm St.lp St.only zaA wkE wkO wkU Ob.under D.under zak zap zcC zbK zcD h4s zdt zao zaY List.zipIdx_cons List.zipIdx_nil List.map_cons List.map_nil Nat.zero_add
attribute [local irreducible] V G H HD HD2 HD4 zg5 RetX zaX Eff CallP CallV EndOK Fun Ret FinOK LoopI LoopW EndW HR vs2 RN Cnd H4
abbrev zkN (e : Exp × Int) : D := .tup [.u (.agg e.1.row), .u (.int .i64 e.2)]
def zha (l : List Tok) (f : Nat) : Prop := ∀ (p : Nat) (form : Int) (i nx : Nat), i < nx -> p < l.length -> 4 * (l.length - p) + 3 <= f -> 0 <= form -> form <= 7 ->
 RetX Tryz.prog 106 [.ptr i 0, zqD form] [(i, pOb l p)] nx (PPost l i nx zpZ (zfj l f p form))
def ztQ (l : List Tok) (f : Nat) : Prop := ∀ (p : Nat) (form : Int) (i nx : Nat), i < nx -> p < l.length -> 4 * (l.length - p) + 2 <= f -> 0 <= form -> form <= 7 ->
 RetX Tryz.prog 139 [.ptr i 0, zqD form] [(i, pOb l p)] nx (PPost l i nx zkN (zcb l f p form))
def zja (l : List Tok) (f : Nat) : Prop := ∀ (p : Nat) (i nx : Nat), i < nx -> p < l.length -> 4 * (l.length - p) + 1 <= f ->
 RetX Tryz.prog 170 [.ptr i 0] [(i, pOb l p)] nx (PPost l i nx zpZ (zbi l f p))
theorem znn {l : List Tok} (hl : TokOK l) (w : List UInt8) {q i nx : Nat} (hi : i < nx) (hq : q < l.length) :
  RetX Tryz.prog 169 [.ptr i 0, .u (.sl [[.str w]])] [(i, pOb l q)] nx (PPost l i nx (fun _ => .tup []) (zdM l q [w])) := zmD l q [w] i nx hi hq hl (by simp)
theorem zlQ {l : List Tok} (hl : TokOK l) {f p : Nat} {t : Tok} (ht : l[p]? = some t) (hk : t.kind = 2) {i nx : Nat} (hi : i < nx) :
  RetX Tryz.prog 170 [.ptr i 0] [(i, pOb l p)] nx (PPost l i nx zpZ (zbi l (f + 1) p)) := by
 have hne := zbm hi;have hp := (List.getElem?_eq_some_iff.1 ht).1;have hnx := zdA l p t ht hl.len;have hp2 := hl.fin p t ht (by omega);have hll := hl.len;rw [zbi, ht];simp only [hk, if_true] at hnx ⊢;have hu := fun nx' (h : nx <= nx') => zqN l (p + 1) i nx' (by omega) hp2 hl;cases hr : znp l (p + 1) with
 | ok a q =>
  simp only [hr] at hu;refine RetX.runW Tryz.func170 Tryz.ntmps170 rfl (by simp) fun Γ hn hpan => ?_
  repeat' (first
  | (refine zj4 (fun nx' h' => hu nx' (by simp at h'; omega)) (by first | (simp [hne, zaa, getK, zab, zac, zad, zai]; done) | fail) (by rfl) (by first | assumption | simp) (by rfl) (by simp [D.under, Ob.under]) (by simp) ?_; (try simp [hne]))
  | (refine zaf rfl ?_; simp [hne])
  | (refine And.intro (by omega) ?_)
  | (refine ⟨hC _ (zc0 [i] nx (by simp <;> omega) (by simp <;> omega) (by apply Exists.intro; apply And.intro; (focus (repeat' (first | exact KF.nil | exact KL.nil | apply KF.cons | apply KL.cons 0 rfl | apply KL.cons 1 rfl | apply KL.cons 2 rfl | apply KL.cons 3 rfl | apply KL.cons 4 rfl | apply KL.cons 5 rfl | apply KL.cons 6 rfl | apply KL.cons 7 rfl | apply KL.cons 8 rfl | apply KL.cons 9 rfl))); kernel_rfl)), hk _ (zeI 8 _ _ _ ?_)⟩; clear hC hk C k; simp [hne])
  | (refine zeH rfl (by kernel_rfl) (by first | (simp [hn]; done) | (simp [hn]; omega) | fail) fun C k hC hk => ?_; simp [hne])
  | (refine zd2 rfl ?_; simp [hne])
  | (refine CallP.f2 rfl (hnx) (by first | simp [hne] <;> rfl | fail) ?_; simp [hne])
  | fail)
  refine EndW.norm ?_;simp [St.norm, zaV, zbt, zbP, zbQ, hne]
  (refine EndW.z ([(i, pOb l q)]) (N := nx) Tryz.results170 (by simp [hne, hi] <;> omega) ?_; simp [hne, hi])
  exact PPost.zeE rfl (by simp [Exp.row]) rfl
 | stop pos e =>
  simp only [hr] at hu;refine RetX.runW Tryz.func170 Tryz.ntmps170 rfl (by simp) fun Γ hn hpan => ?_
  repeat' (first
  | (refine zhr (fun nx' h' => hu nx' (by simp at h'; omega)) (by first | (simp [hne, zaa, getK, zab, zac, zad, zai]; done) | fail) (by rfl) (by first | assumption | simp) (by rfl) (by simp) ?_ ?_; rintro env' ob' n' hn' ⟨q', rfl⟩; refine ⟨_, Wk.refl _, ?_⟩)
  | (refine zgp rfl (by simp) ?_; simp)
  | (refine zaf rfl ?_; simp [hne])
  | (refine And.intro (by omega) ?_)
  | (refine zhs (hC _ (zc0 [i] nx (by simp <;> omega) (by simp <;> omega) (by apply Exists.intro; apply And.intro; (focus (repeat' (first | exact KF.nil | exact KL.nil | apply KF.cons | apply KL.cons 0 rfl | apply KL.cons 1 rfl | apply KL.cons 2 rfl | apply KL.cons 3 rfl | apply KL.cons 4 rfl | apply KL.cons 5 rfl | apply KL.cons 6 rfl | apply KL.cons 7 rfl | apply KL.cons 8 rfl | apply KL.cons 9 rfl))); kernel_rfl))) rfl; done)
  | (refine zeH rfl (by kernel_rfl) (by first | (simp [hn]; done) | (simp [hn]; omega) | fail) fun C k hC hk => ?_; simp [hne])
  | (refine CallP.f2 rfl (hnx) (by first | simp [hne] <;> rfl | fail) ?_; simp [hne])
  | fail)
  (refine hpan _ _ (PanG.k ([(i, pOb l q')]) (nx) (by simp [hn, hi, hne, zab, zac, zaa, getK] <;> omega) ?_); try simp)
  exact PPost.zcd (by simp [PR.bind])
theorem zkC {l : List Tok} (hl : TokOK l) {f p : Nat} {t : Tok} (ht : l[p]? = some t) (hk : ¬ t.kind = 2) (h1 : isB l p [116, 114, 117, 101] = true) {i nx : Nat} (hi : i < nx) :
  RetX Tryz.prog 170 [.ptr i 0] [(i, pOb l p)] nx (PPost l i nx zpZ (zbi l (f + 1) p)) := by
 have hne := zbm hi;have hp := (List.getElem?_eq_some_iff.1 ht).1;have hnx := zdA l p t ht hl.len;have hll := hl.len;rw [zbi, ht];have hh1 := fun nx' (h : nx <= nx') => zcr l p [116, 114, 117, 101] i nx' (by omega) hp hl.len;simp only [hk, h1, if_false, if_true] at hh1 ⊢;refine RetX.runW Tryz.func170 Tryz.ntmps170 rfl (by simp) fun Γ hn hpan => ?_
 repeat' (first
  | (refine zaf rfl ?_; simp [hne, hk, del])
  | (refine CallP.f2 rfl (hnx) (by first | simp [hne, hk, del] <;> rfl | fail) ?_; simp [hne, hk, del])
  | (refine CallP.ok1 (hh1 _ (by first | omega | (simp; done) | (simp; omega) | fail)) (by first | (simp [hne, hk, del, zaa, getK, zab, zac]; done) | fail) (by rfl) (by first | assumption | (simp; done) | fail) (by rfl) (by simp) ?_; (try simp [hne, hk, del]))
  | fail)
 refine EndW.norm ?_;simp [St.norm, zaV, zbt, zbP, zbQ, hne]
 (refine EndW.z ([(i, pOb l (p + 1))]) (N := nx) Tryz.results170 (by simp [hne, hi] <;> omega) ?_; simp [hne, hi])
 exact PPost.zeE rfl (by simp [Exp.row]) rfl
theorem zjp {l : List Tok} (hl : TokOK l) {f p : Nat} {t : Tok} (ht : l[p]? = some t) (hk : ¬ t.kind = 2) (h1 : isB l p [116, 114, 117, 101] = false) (h2 : isB l p [102, 97, 108, 115, 101] = true) {i nx : Nat} (hi : i < nx) :
  RetX Tryz.prog 170 [.ptr i 0] [(i, pOb l p)] nx (PPost l i nx zpZ (zbi l (f + 1) p)) := by
 have hne := zbm hi;have hp := (List.getElem?_eq_some_iff.1 ht).1;have hnx := zdA l p t ht hl.len;have hll := hl.len;rw [zbi, ht];have hh1 := fun nx' (h : nx <= nx') => zcr l p [116, 114, 117, 101] i nx' (by omega) hp hl.len;have hh2 := fun nx' (h : nx <= nx') => zcr l p [102, 97, 108, 115, 101] i nx' (by omega) hp hl.len;simp only [hk, h1, h2, if_false, if_true, Bool.false_eq_true] at hh1 hh2 ⊢;refine RetX.runW Tryz.func170 Tryz.ntmps170 rfl (by simp) fun Γ hn hpan => ?_
 repeat' (first
  | (refine zaf rfl ?_; simp [hne, hk, del])
  | (refine CallP.f2 rfl (hnx) (by first | simp [hne, hk, del] <;> rfl | fail) ?_; simp [hne, hk, del])
  | (refine CallP.ok1 (hh1 _ (by first | omega | (simp; done) | (simp; omega) | fail)) (by first | (simp [hne, hk, del, zaa, getK, zab, zac]; done) | fail) (by rfl) (by first | assumption | (simp; done) | fail) (by rfl) (by simp) ?_; (try simp [hne, hk, del]))
  | (refine CallP.ok1 (hh2 _ (by first | omega | (simp; done) | (simp; omega) | fail)) (by first | (simp [hne, hk, del, zaa, getK, zab, zac]; done) | fail) (by rfl) (by first | assumption | (simp; done) | fail) (by rfl) (by simp) ?_; (try simp [hne, hk, del]))
  | fail)
 refine EndW.norm ?_;simp [St.norm, zaV, zbt, zbP, zbQ, hne]
 (refine EndW.z ([(i, pOb l (p + 1))]) (N := nx) Tryz.results170 (by simp [hne, hi] <;> omega) ?_; simp [hne, hi])
 exact PPost.zeE rfl (by simp [Exp.row]) rfl
theorem zeC {l : List Tok} {F : FuncId} {r : PR Exp} {e : Exp} {q i nx : Nat} {ds : List D} {obs : List (Nat × Ob)} (h : RetX Tryz.prog F ds obs nx (PPost l i nx zpZ r)) (hr : r = .ok e q) :
  RetX Tryz.prog F ds obs nx fun r o n => r = .val (.u (.agg [.int .i64 e.op, .int .i64 e.n, .int .i64 e.unit, .str e.s, .sl (e.args.map Exp.row)])) /\ o = [(i, pOb l q)] /\ n = nx := by
 subst hr;rw [<- Exp.row_eq];exact h
theorem zjo {l : List Tok} (hl : TokOK l) {f p : Nat} (hE : zha l f) (hf : 4 * (l.length - p) <= f) {t : Tok} (ht : l[p]? = some t) (hk : ¬ t.kind = 2) (h1 : isB l p [116, 114, 117, 101] = false) (h2 : isB l p [102, 97, 108, 115, 101] = false)
  (h3 : isB l p [109, 105, 110] = false) (h4 : isB l p [109, 97, 120] = false) (h5 : isB l p [40] = true) {i nx : Nat} (hi : i < nx) :
  RetX Tryz.prog 170 [.ptr i 0] [(i, pOb l p)] nx (PPost l i nx zpZ (zbi l (f + 1) p)) := by
 have hne := zbm hi;have hp := (List.getElem?_eq_some_iff.1 ht).1;have hnx := zdA l p t ht hl.len;have hll := hl.len;have hp2 := zcN hl h5;rw [zbi, ht];have hh1 := fun nx' (h : nx <= nx') => zcr l p [116, 114, 117, 101] i nx' (by omega) hp hl.len;have hh2 := fun nx' (h : nx <= nx') => zcr l p [102, 97, 108, 115, 101] i nx' (by omega) hp hl.len;have hm1 := zg0 l p [109, 105, 110] hp hl.len;have hm2 := zg0 l p [109, 97, 120] hp hl.len;have hh3 := fun nx' (h : nx <= nx') => zcr l p [40] i nx' (by omega) hp hl.len;simp only [hk, h1, h2, h3, h4, h5, if_false, if_true, Bool.false_eq_true, or_self] at hh1 hh2 hm1 hm2 hh3 ⊢;have he := fun nx' (h : nx <= nx') => hE (p + 1) 0 i nx' (by omega) hp2 (by omega) (by omega) (by omega);cases hr : zfj l f (p + 1) 0 with
 | stop pos e =>
  simp only [hr] at he;refine RetX.runW Tryz.func170 Tryz.ntmps170 rfl (by simp) fun Γ hn hpan => ?_
  repeat' (first
  | (refine zaf rfl ?_; simp [hne, hk, del, Nat.add_assoc])
  | ((first | refine CallP.f2 rfl (hnx) (by first | simp [hne, hk, del, Nat.add_assoc] <;> rfl | fail) ?_ | refine CallP.f2 rfl (hm1) (by first | simp [hne, hk, del, Nat.add_assoc] <;> rfl | fail) ?_ | refine CallP.f2 rfl (hm2) (by first | simp [hne, hk, del, Nat.add_assoc] <;> rfl | fail) ?_ | fail); simp [hne, hk, del, Nat.add_assoc])
  | (refine CallP.ok1 (hh1 _ (by first | omega | (simp; done) | (simp; omega) | fail)) (by first | (simp [hne, hk, del, Nat.add_assoc, zaa, getK, zab, zac]; done) | fail) (by rfl) (by first | assumption | (simp; done) | fail) (by rfl) (by simp) ?_; (try simp [hne, hk, del, Nat.add_assoc]))
  | (refine CallP.ok1 (hh2 _ (by first | omega | (simp; done) | (simp; omega) | fail)) (by first | (simp [hne, hk, del, Nat.add_assoc, zaa, getK, zab, zac]; done) | fail) (by rfl) (by first | assumption | (simp; done) | fail) (by rfl) (by simp) ?_; (try simp [hne, hk, del, Nat.add_assoc]))
  | (refine CallP.ok1 (hh3 _ (by first | omega | (simp; done) | (simp; omega) | fail)) (by first | (simp [hne, hk, del, Nat.add_assoc, zaa, getK, zab, zac]; done) | fail) (by rfl) (by first | assumption | (simp; done) | fail) (by rfl) (by simp) ?_; (try simp [hne, hk, del, Nat.add_assoc]))
  | (refine CallP.zht (he _ (by first | omega | (simp; done) | (simp; omega) | fail)) (by first | (simp [hne, hk, del, Nat.add_assoc, zaa, getK, zab, zac]; done) | fail) (by rfl) (by first | assumption | (simp; done) | fail) (by rfl) (by simp) ?_; rintro ob' ⟨q', rfl⟩; refine ⟨_, Wk.refl _, ?_⟩)
  | fail)
  (refine hpan _ _ (PanG.k ([(i, pOb l q')]) (nx) (by simp [hn, hi, hne, zab, zac, zaa, getK] <;> omega) ?_); try simp)
  exact PPost.zcd (by simp [PR.bind, *])
 | ok e1 q1 =>
  have he := fun nx' h => zeC (he nx' h) hr;obtain ⟨g1, g2⟩ := (zdB hl f).1 _ _ _ _ hr hp2;have hw := fun nx' (h : nx <= nx') => znn hl [41] (q := q1) (i := i) (nx := nx') (by omega) g2;cases hr2 : zdM l q1 [[41]] with
  | stop pos e =>
   simp only [hr2] at hw;refine RetX.runW Tryz.func170 Tryz.ntmps170 rfl (by simp) fun Γ hn hpan => ?_
   repeat' (first
  | (refine zaf rfl ?_; simp [hne, hk, del, Nat.add_assoc])
  | ((first | refine CallP.f2 rfl (hnx) (by first | simp [hne, hk, del, Nat.add_assoc] <;> rfl | fail) ?_ | refine CallP.f2 rfl (hm1) (by first | simp [hne, hk, del, Nat.add_assoc] <;> rfl | fail) ?_ | refine CallP.f2 rfl (hm2) (by first | simp [hne, hk, del, Nat.add_assoc] <;> rfl | fail) ?_ | fail); simp [hne, hk, del, Nat.add_assoc])
  | (refine CallP.ok1 (hh1 _ (by first | omega | (simp; done) | (simp; omega) | fail)) (by first | (simp [hne, hk, del, Nat.add_assoc, zaa, getK, zab, zac]; done) | fail) (by rfl) (by first | assumption | (simp; done) | fail) (by rfl) (by simp) ?_; (try simp [hne, hk, del, Nat.add_assoc]))
  | (refine CallP.ok1 (hh2 _ (by first | omega | (simp; done) | (simp; omega) | fail)) (by first | (simp [hne, hk, del, Nat.add_assoc, zaa, getK, zab, zac]; done) | fail) (by rfl) (by first | assumption | (simp; done) | fail) (by rfl) (by simp) ?_; (try simp [hne, hk, del, Nat.add_assoc]))
  | (refine CallP.ok1 (hh3 _ (by first | omega | (simp; done) | (simp; omega) | fail)) (by first | (simp [hne, hk, del, Nat.add_assoc, zaa, getK, zab, zac]; done) | fail) (by rfl) (by first | assumption | (simp; done) | fail) (by rfl) (by simp) ?_; (try simp [hne, hk, del, Nat.add_assoc]))
  | (refine CallP.ok1 (he _ (by first | omega | (simp; done) | (simp; omega) | fail)) (by first | (simp [hne, hk, del, Nat.add_assoc, zaa, getK, zab, zac]; done) | fail) (by rfl) (by first | assumption | (simp; done) | fail) (by rfl) (by simp) ?_; (try simp [hne, hk, del, Nat.add_assoc]))
  | (refine CallP.zht (hw _ (by first | omega | (simp; done) | (simp; omega) | fail)) (by first | (simp [hne, hk, del, Nat.add_assoc, zaa, getK, zab, zac]; done) | fail) (by rfl) (by first | assumption | (simp; done) | fail) (by rfl) (by simp) ?_; rintro ob' ⟨q', rfl⟩; refine ⟨_, Wk.refl _, ?_⟩)
  | (refine zbX (by first | rfl | fail) ?_; simp [hne, hk, del, Nat.add_assoc, frzN, frz1, zaH, zaG, St.frz, St.frzS, frzS, fv, zbh, zbx, zbM, zaI, zar, zal, del, frz, zbN])
  | fail)
   (refine hpan _ _ (PanG.k ([(i, pOb l q')]) (nx) (by simp [hn, hi, hne, zab, zac, zaa, getK] <;> omega) ?_); try simp)
   exact PPost.zcd (by simp [PR.bind, *])
  | ok u2 q =>
   simp only [hr2] at hw;refine RetX.runW Tryz.func170 Tryz.ntmps170 rfl (by simp) fun Γ hn hpan => ?_
   repeat' (first
  | (refine zaf rfl ?_; simp [hne, hk, del, Nat.add_assoc])
  | ((first | refine CallP.f2 rfl (hnx) (by first | simp [hne, hk, del, Nat.add_assoc] <;> rfl | fail) ?_ | refine CallP.f2 rfl (hm1) (by first | simp [hne, hk, del, Nat.add_assoc] <;> rfl | fail) ?_ | refine CallP.f2 rfl (hm2) (by first | simp [hne, hk, del, Nat.add_assoc] <;> rfl | fail) ?_ | fail); simp [hne, hk, del, Nat.add_assoc])
  | (refine CallP.ok1 (hh1 _ (by first | omega | (simp; done) | (simp; omega) | fail)) (by first | (simp [hne, hk, del, Nat.add_assoc, zaa, getK, zab, zac]; done) | fail) (by rfl) (by first | assumption | (simp; done) | fail) (by rfl) (by simp) ?_; (try simp [hne, hk, del, Nat.add_assoc]))
  | (refine CallP.ok1 (hh2 _ (by first | omega | (simp; done) | (simp; omega) | fail)) (by first | (simp [hne, hk, del, Nat.add_assoc, zaa, getK, zab, zac]; done) | fail) (by rfl) (by first | assumption | (simp; done) | fail) (by rfl) (by simp) ?_; (try simp [hne, hk, del, Nat.add_assoc]))
  | (refine CallP.ok1 (hh3 _ (by first | omega | (simp; done) | (simp; omega) | fail)) (by first | (simp [hne, hk, del, Nat.add_assoc, zaa, getK, zab, zac]; done) | fail) (by rfl) (by first | assumption | (simp; done) | fail) (by rfl) (by simp) ?_; (try simp [hne, hk, del, Nat.add_assoc]))
  | (refine CallP.ok1 (he _ (by first | omega | (simp; done) | (simp; omega) | fail)) (by first | (simp [hne, hk, del, Nat.add_assoc, zaa, getK, zab, zac]; done) | fail) (by rfl) (by first | assumption | (simp; done) | fail) (by rfl) (by simp) ?_; (try simp [hne, hk, del, Nat.add_assoc]))
  | (refine CallP.ok1 (hw _ (by first | omega | (simp; done) | (simp; omega) | fail)) (by first | (simp [hne, hk, del, Nat.add_assoc, zaa, getK, zab, zac]; done) | fail) (by rfl) (by first | assumption | (simp; done) | fail) (by rfl) (by simp) ?_; (try simp [hne, hk, del, Nat.add_assoc]))
  | (refine zbX (by first | rfl | fail) ?_; simp [hne, hk, del, Nat.add_assoc, frzN, frz1, zaH, zaG, St.frz, St.frzS, frzS, fv, zbh, zbx, zbM, zaI, zar, zal, del, frz, zbN])
  | fail)
   refine EndW.norm ?_;simp [St.norm, zaV, zbt, zbP, zbQ, hne]
   (refine EndW.z ([(i, pOb l q)]) (N := nx) Tryz.results170 (by simp [hne, hi] <;> omega) ?_; simp [hne, hi])
   exact PPost.zeE (by simp [PR.bind, *]; rfl) (by simp [Exp.row_eq]) rfl
theorem ziD {l : List Tok} (hl : TokOK l) {f p : Nat} (hE : zha l f) (hf : 4 * (l.length - p) <= f) {t : Tok} (ht : l[p]? = some t) (hk : ¬ t.kind = 2) (h1 : isB l p [116, 114, 117, 101] = false) (h2 : isB l p [102, 97, 108, 115, 101] = false)
  (hm : isB l p [109, 105, 110] = false /\ isB l p [109, 97, 120] = true \/ isB l p [109, 105, 110] = true /\ isB l p [109, 97, 120] = false) {i nx : Nat} (hi : i < nx) :
  RetX Tryz.prog 170 [.ptr i 0] [(i, pOb l p)] nx (PPost l i nx zpZ (zbi l (f + 1) p)) := by
 have hne := zbm hi;have hp := (List.getElem?_eq_some_iff.1 ht).1;have hnx := zdA l p t ht hl.len;have hll := hl.len;have hp2 : p + 1 < l.length := hm.elim (fun h => zcN hl h.2) (fun h => zcN hl h.1);rw [zbi, ht];have hh1 := fun nx' (h : nx <= nx') => zcr l p [116, 114, 117, 101] i nx' (by omega) hp hl.len;have hh2 := fun nx' (h : nx <= nx') => zcr l p [102, 97, 108, 115, 101] i nx' (by omega) hp hl.len;have hm1 := zg0 l p [109, 105, 110] hp hl.len;have hm2 := zg0 l p [109, 97, 120] hp hl.len;rcases hm with ⟨h3, h4⟩ | ⟨h3, h4⟩
 all_goals
  simp only [hk, h1, h2, h3, h4, if_false, if_true, Bool.false_eq_true, or_true, true_or] at hh1 hh2 hm1 hm2 ⊢;have hw1 := fun nx' (h : nx <= nx') => znn hl [40] (q := (p + 1)) (i := i) (nx := nx') (by omega) hp2;cases hr0 : zdM l (p + 1) [[40]] with
  | stop pos e =>
   simp only [hr0] at hw1;refine RetX.runW Tryz.func170 Tryz.ntmps170 rfl (by simp) fun Γ hn hpan => ?_
   repeat' (first
  | (refine zaf rfl ?_; simp [hne, hk, del, Nat.add_assoc])
  | (refine And.intro (by omega) ?_)
  | ((first | refine CallP.f2 rfl (hnx) (by first | simp [hne, hk, del, Nat.add_assoc] <;> rfl | fail) ?_ | refine CallP.f2 rfl (hm1) (by first | simp [hne, hk, del, Nat.add_assoc] <;> rfl | fail) ?_ | refine CallP.f2 rfl (hm2) (by first | simp [hne, hk, del, Nat.add_assoc] <;> rfl | fail) ?_ | fail); simp [hne, hk, del, Nat.add_assoc])
  | (refine CallP.ok1 (hh1 _ (by first | omega | (simp; done) | (simp; omega) | fail)) (by first | (simp [hne, hk, del, Nat.add_assoc, zaa, getK, zab, zac]; done) | fail) (by rfl) (by first | assumption | (simp; done) | fail) (by rfl) (by simp) ?_; (try simp [hne, hk, del, Nat.add_assoc]))
  | (refine CallP.ok1 (hh2 _ (by first | omega | (simp; done) | (simp; omega) | fail)) (by first | (simp [hne, hk, del, Nat.add_assoc, zaa, getK, zab, zac]; done) | fail) (by rfl) (by first | assumption | (simp; done) | fail) (by rfl) (by simp) ?_; (try simp [hne, hk, del, Nat.add_assoc]))
  | (refine CallP.zht (hw1 _ (by first | omega | (simp; done) | (simp; omega) | fail)) (by first | (simp [hne, hk, del, Nat.add_assoc, zaa, getK, zab, zac]; done) | fail) (by rfl) (by first | assumption | (simp; done) | fail) (by rfl) (by simp) ?_; rintro ob' ⟨q', rfl⟩; refine ⟨_, Wk.refl _, ?_⟩)
  | (refine zbX (by first | rfl | fail) ?_; simp [hne, hk, del, Nat.add_assoc, frzN, frz1, zaH, zaG, St.frz, St.frzS, frzS, fv, zbh, zbx, zbM, zaI, zar, zal, del, frz, zbN])
  | fail)
   (refine hpan _ _ (PanG.k ([(i, pOb l q')]) (nx) (by simp [hn, hi, hne, zab, zac, zaa, getK] <;> omega) ?_); try simp)
   exact PPost.zcd (by simp [PR.bind, *])
  | ok v0 q0 =>
   simp only [hr0] at hw1;obtain ⟨g0a, g0b⟩ := zct hl _ hr0 hp2;have ha := fun nx' (h : nx <= nx') => hE q0 0 i nx' (by omega) g0b (by omega) (by omega) (by omega);cases hr1 : zfj l f q0 0 with
   | stop pos e =>
    simp only [hr1] at ha;refine RetX.runW Tryz.func170 Tryz.ntmps170 rfl (by simp) fun Γ hn hpan => ?_
    repeat' (first
  | (refine zaf rfl ?_; simp [hne, hk, del, Nat.add_assoc])
  | (refine And.intro (by omega) ?_)
  | ((first | refine CallP.f2 rfl (hnx) (by first | simp [hne, hk, del, Nat.add_assoc] <;> rfl | fail) ?_ | refine CallP.f2 rfl (hm1) (by first | simp [hne, hk, del, Nat.add_assoc] <;> rfl | fail) ?_ | refine CallP.f2 rfl (hm2) (by first | simp [hne, hk, del, Nat.add_assoc] <;> rfl | fail) ?_ | fail); simp [hne, hk, del, Nat.add_assoc])
  | (refine CallP.ok1 (hh1 _ (by first | omega | (simp; done) | (simp; omega) | fail)) (by first | (simp [hne, hk, del, Nat.add_assoc, zaa, getK, zab, zac]; done) | fail) (by rfl) (by first | assumption | (simp; done) | fail) (by rfl) (by simp) ?_; (try simp [hne, hk, del, Nat.add_assoc]))
  | (refine CallP.ok1 (hh2 _ (by first | omega | (simp; done) | (simp; omega) | fail)) (by first | (simp [hne, hk, del, Nat.add_assoc, zaa, getK, zab, zac]; done) | fail) (by rfl) (by first | assumption | (simp; done) | fail) (by rfl) (by simp) ?_; (try simp [hne, hk, del, Nat.add_assoc]))
  | (refine CallP.ok1 (hw1 _ (by first | omega | (simp; done) | (simp; omega) | fail)) (by first | (simp [hne, hk, del, Nat.add_assoc, zaa, getK, zab, zac]; done) | fail) (by rfl) (by first | assumption | (simp; done) | fail) (by rfl) (by simp) ?_; (try simp [hne, hk, del, Nat.add_assoc]))
  | (refine CallP.zht (ha _ (by first | omega | (simp; done) | (simp; omega) | fail)) (by first | (simp [hne, hk, del, Nat.add_assoc, zaa, getK, zab, zac]; done) | fail) (by rfl) (by first | assumption | (simp; done) | fail) (by rfl) (by simp) ?_; rintro ob' ⟨q', rfl⟩; refine ⟨_, Wk.refl _, ?_⟩)
  | (refine zbX (by first | rfl | fail) ?_; simp [hne, hk, del, Nat.add_assoc, frzN, frz1, zaH, zaG, St.frz, St.frzS, frzS, fv, zbh, zbx, zbM, zaI, zar, zal, del, frz, zbN])
  | fail)
    (refine hpan _ _ (PanG.k ([(i, pOb l q')]) (nx) (by simp [hn, hi, hne, zab, zac, zaa, getK] <;> omega) ?_); try simp)
    exact PPost.zcd (by simp [PR.bind, *])
   | ok v1 q1 =>
    have ha := fun nx' h => zeC (ha nx' h) hr1;obtain ⟨g1a, g1b⟩ := (zdB hl f).1 _ _ _ _ hr1 g0b;have hw2 := fun nx' (h : nx <= nx') => znn hl [44] (q := q1) (i := i) (nx := nx') (by omega) g1b;cases hr2 : zdM l q1 [[44]] with
    | stop pos e =>
     simp only [hr2] at hw2;refine RetX.runW Tryz.func170 Tryz.ntmps170 rfl (by simp) fun Γ hn hpan => ?_
     repeat' (first
  | (refine zaf rfl ?_; simp [hne, hk, del, Nat.add_assoc])
  | (refine And.intro (by omega) ?_)
  | ((first | refine CallP.f2 rfl (hnx) (by first | simp [hne, hk, del, Nat.add_assoc] <;> rfl | fail) ?_ | refine CallP.f2 rfl (hm1) (by first | simp [hne, hk, del, Nat.add_assoc] <;> rfl | fail) ?_ | refine CallP.f2 rfl (hm2) (by first | simp [hne, hk, del, Nat.add_assoc] <;> rfl | fail) ?_ | fail); simp [hne, hk, del, Nat.add_assoc])
  | (refine CallP.ok1 (hh1 _ (by first | omega | (simp; done) | (simp; omega) | fail)) (by first | (simp [hne, hk, del, Nat.add_assoc, zaa, getK, zab, zac]; done) | fail) (by rfl) (by first | assumption | (simp; done) | fail) (by rfl) (by simp) ?_; (try simp [hne, hk, del, Nat.add_assoc]))
  | (refine CallP.ok1 (hh2 _ (by first | omega | (simp; done) | (simp; omega) | fail)) (by first | (simp [hne, hk, del, Nat.add_assoc, zaa, getK, zab, zac]; done) | fail) (by rfl) (by first | assumption | (simp; done) | fail) (by rfl) (by simp) ?_; (try simp [hne, hk, del, Nat.add_assoc]))
  | (refine CallP.ok1 (hw1 _ (by first | omega | (simp; done) | (simp; omega) | fail)) (by first | (simp [hne, hk, del, Nat.add_assoc, zaa, getK, zab, zac]; done) | fail) (by rfl) (by first | assumption | (simp; done) | fail) (by rfl) (by simp) ?_; (try simp [hne, hk, del, Nat.add_assoc]))
  | (refine CallP.ok1 (ha _ (by first | omega | (simp; done) | (simp; omega) | fail)) (by first | (simp [hne, hk, del, Nat.add_assoc, zaa, getK, zab, zac]; done) | fail) (by rfl) (by first | assumption | (simp; done) | fail) (by rfl) (by simp) ?_; (try simp [hne, hk, del, Nat.add_assoc]))
  | (refine CallP.zht (hw2 _ (by first | omega | (simp; done) | (simp; omega) | fail)) (by first | (simp [hne, hk, del, Nat.add_assoc, zaa, getK, zab, zac]; done) | fail) (by rfl) (by first | assumption | (simp; done) | fail) (by rfl) (by simp) ?_; rintro ob' ⟨q', rfl⟩; refine ⟨_, Wk.refl _, ?_⟩)
  | (refine zbX (by first | rfl | fail) ?_; simp [hne, hk, del, Nat.add_assoc, frzN, frz1, zaH, zaG, St.frz, St.frzS, frzS, fv, zbh, zbx, zbM, zaI, zar, zal, del, frz, zbN])
  | fail)
     (refine hpan _ _ (PanG.k ([(i, pOb l q')]) (nx) (by simp [hn, hi, hne, zab, zac, zaa, getK] <;> omega) ?_); try simp)
     exact PPost.zcd (by simp [PR.bind, *])
    | ok v2 q2 =>
     simp only [hr2] at hw2;obtain ⟨g2a, g2b⟩ := zct hl _ hr2 g1b;have hb := fun nx' (h : nx <= nx') => hE q2 0 i nx' (by omega) g2b (by omega) (by omega) (by omega);cases hr3 : zfj l f q2 0 with
     | stop pos e =>
      simp only [hr3] at hb;refine RetX.runW Tryz.func170 Tryz.ntmps170 rfl (by simp) fun Γ hn hpan => ?_
      repeat' (first
  | (refine zaf rfl ?_; simp [hne, hk, del, Nat.add_assoc])
  | (refine And.intro (by omega) ?_)
  | ((first | refine CallP.f2 rfl (hnx) (by first | simp [hne, hk, del, Nat.add_assoc] <;> rfl | fail) ?_ | refine CallP.f2 rfl (hm1) (by first | simp [hne, hk, del, Nat.add_assoc] <;> rfl | fail) ?_ | refine CallP.f2 rfl (hm2) (by first | simp [hne, hk, del, Nat.add_assoc] <;> rfl | fail) ?_ | fail); simp [hne, hk, del, Nat.add_assoc])
  | (refine CallP.ok1 (hh1 _ (by first | omega | (simp; done) | (simp; omega) | fail)) (by first | (simp [hne, hk, del, Nat.add_assoc, zaa, getK, zab, zac]; done) | fail) (by rfl) (by first | assumption | (simp; done) | fail) (by rfl) (by simp) ?_; (try simp [hne, hk, del, Nat.add_assoc]))
  | (refine CallP.ok1 (hh2 _ (by first | omega | (simp; done) | (simp; omega) | fail)) (by first | (simp [hne, hk, del, Nat.add_assoc, zaa, getK, zab, zac]; done) | fail) (by rfl) (by first | assumption | (simp; done) | fail) (by rfl) (by simp) ?_; (try simp [hne, hk, del, Nat.add_assoc]))
  | (refine CallP.ok1 (hw1 _ (by first | omega | (simp; done) | (simp; omega) | fail)) (by first | (simp [hne, hk, del, Nat.add_assoc, zaa, getK, zab, zac]; done) | fail) (by rfl) (by first | assumption | (simp; done) | fail) (by rfl) (by simp) ?_; (try simp [hne, hk, del, Nat.add_assoc]))
  | (refine CallP.ok1 (ha _ (by first | omega | (simp; done) | (simp; omega) | fail)) (by first | (simp [hne, hk, del, Nat.add_assoc, zaa, getK, zab, zac]; done) | fail) (by rfl) (by first | assumption | (simp; done) | fail) (by rfl) (by simp) ?_; (try simp [hne, hk, del, Nat.add_assoc]))
  | (refine CallP.ok1 (hw2 _ (by first | omega | (simp; done) | (simp; omega) | fail)) (by first | (simp [hne, hk, del, Nat.add_assoc, zaa, getK, zab, zac]; done) | fail) (by rfl) (by first | assumption | (simp; done) | fail) (by rfl) (by simp) ?_; (try simp [hne, hk, del, Nat.add_assoc]))
  | (refine CallP.zht (hb _ (by first | omega | (simp; done) | (simp; omega) | fail)) (by first | (simp [hne, hk, del, Nat.add_assoc, zaa, getK, zab, zac]; done) | fail) (by rfl) (by first | assumption | (simp; done) | fail) (by rfl) (by simp) ?_; rintro ob' ⟨q', rfl⟩; refine ⟨_, Wk.refl _, ?_⟩)
  | (refine zbX (by first | rfl | fail) ?_; simp [hne, hk, del, Nat.add_assoc, frzN, frz1, zaH, zaG, St.frz, St.frzS, frzS, fv, zbh, zbx, zbM, zaI, zar, zal, del, frz, zbN])
  | fail)
      (refine hpan _ _ (PanG.k ([(i, pOb l q')]) (nx) (by simp [hn, hi, hne, zab, zac, zaa, getK] <;> omega) ?_); try simp)
      exact PPost.zcd (by simp [PR.bind, *])
     | ok v3 q3 =>
      have hb := fun nx' h => zeC (hb nx' h) hr3;obtain ⟨g3a, g3b⟩ := (zdB hl f).1 _ _ _ _ hr3 g2b;have hw3 := fun nx' (h : nx <= nx') => znn hl [41] (q := q3) (i := i) (nx := nx') (by omega) g3b;cases hr4 : zdM l q3 [[41]] with
      | stop pos e =>
       simp only [hr4] at hw3;refine RetX.runW Tryz.func170 Tryz.ntmps170 rfl (by simp) fun Γ hn hpan => ?_
       repeat' (first
  | (refine zaf rfl ?_; simp [hne, hk, del, Nat.add_assoc])
  | (refine And.intro (by omega) ?_)
  | ((first | refine CallP.f2 rfl (hnx) (by first | simp [hne, hk, del, Nat.add_assoc] <;> rfl | fail) ?_ | refine CallP.f2 rfl (hm1) (by first | simp [hne, hk, del, Nat.add_assoc] <;> rfl | fail) ?_ | refine CallP.f2 rfl (hm2) (by first | simp [hne, hk, del, Nat.add_assoc] <;> rfl | fail) ?_ | fail); simp [hne, hk, del, Nat.add_assoc])
  | (refine CallP.ok1 (hh1 _ (by first | omega | (simp; done) | (simp; omega) | fail)) (by first | (simp [hne, hk, del, Nat.add_assoc, zaa, getK, zab, zac]; done) | fail) (by rfl) (by first | assumption | (simp; done) | fail) (by rfl) (by simp) ?_; (try simp [hne, hk, del, Nat.add_assoc]))
  | (refine CallP.ok1 (hh2 _ (by first | omega | (simp; done) | (simp; omega) | fail)) (by first | (simp [hne, hk, del, Nat.add_assoc, zaa, getK, zab, zac]; done) | fail) (by rfl) (by first | assumption | (simp; done) | fail) (by rfl) (by simp) ?_; (try simp [hne, hk, del, Nat.add_assoc]))
  | (refine CallP.ok1 (hw1 _ (by first | omega | (simp; done) | (simp; omega) | fail)) (by first | (simp [hne, hk, del, Nat.add_assoc, zaa, getK, zab, zac]; done) | fail) (by rfl) (by first | assumption | (simp; done) | fail) (by rfl) (by simp) ?_; (try simp [hne, hk, del, Nat.add_assoc]))
  | (refine CallP.ok1 (ha _ (by first | omega | (simp; done) | (simp; omega) | fail)) (by first | (simp [hne, hk, del, Nat.add_assoc, zaa, getK, zab, zac]; done) | fail) (by rfl) (by first | assumption | (simp; done) | fail) (by rfl) (by simp) ?_; (try simp [hne, hk, del, Nat.add_assoc]))
  | (refine CallP.ok1 (hw2 _ (by first | omega | (simp; done) | (simp; omega) | fail)) (by first | (simp [hne, hk, del, Nat.add_assoc, zaa, getK, zab, zac]; done) | fail) (by rfl) (by first | assumption | (simp; done) | fail) (by rfl) (by simp) ?_; (try simp [hne, hk, del, Nat.add_assoc]))
  | (refine CallP.ok1 (hb _ (by first | omega | (simp; done) | (simp; omega) | fail)) (by first | (simp [hne, hk, del, Nat.add_assoc, zaa, getK, zab, zac]; done) | fail) (by rfl) (by first | assumption | (simp; done) | fail) (by rfl) (by simp) ?_; (try simp [hne, hk, del, Nat.add_assoc]))
  | (refine CallP.zht (hw3 _ (by first | omega | (simp; done) | (simp; omega) | fail)) (by first | (simp [hne, hk, del, Nat.add_assoc, zaa, getK, zab, zac]; done) | fail) (by rfl) (by first | assumption | (simp; done) | fail) (by rfl) (by simp) ?_; rintro ob' ⟨q', rfl⟩; refine ⟨_, Wk.refl _, ?_⟩)
  | (refine zbX (by first | rfl | fail) ?_; simp [hne, hk, del, Nat.add_assoc, frzN, frz1, zaH, zaG, St.frz, St.frzS, frzS, fv, zbh, zbx, zbM, zaI, zar, zal, del, frz, zbN])
  | fail)
       (refine hpan _ _ (PanG.k ([(i, pOb l q')]) (nx) (by simp [hn, hi, hne, zab, zac, zaa, getK] <;> omega) ?_); try simp)
       exact PPost.zcd (by simp [PR.bind, *])
      | ok v4 q4 =>
       simp only [hr4] at hw3;obtain ⟨g4a, g4b⟩ := zct hl _ hr4 g3b;refine RetX.runW Tryz.func170 Tryz.ntmps170 rfl (by simp) fun Γ hn hpan => ?_
       repeat' (first
  | (refine zaf rfl ?_; simp [hne, hk, del, Nat.add_assoc])
  | (refine And.intro (by omega) ?_)
  | ((first | refine CallP.f2 rfl (hnx) (by first | simp [hne, hk, del, Nat.add_assoc] <;> rfl | fail) ?_ | refine CallP.f2 rfl (hm1) (by first | simp [hne, hk, del, Nat.add_assoc] <;> rfl | fail) ?_ | refine CallP.f2 rfl (hm2) (by first | simp [hne, hk, del, Nat.add_assoc] <;> rfl | fail) ?_ | fail); simp [hne, hk, del, Nat.add_assoc])
  | (refine CallP.ok1 (hh1 _ (by first | omega | (simp; done) | (simp; omega) | fail)) (by first | (simp [hne, hk, del, Nat.add_assoc, zaa, getK, zab, zac]; done) | fail) (by rfl) (by first | assumption | (simp; done) | fail) (by rfl) (by simp) ?_; (try simp [hne, hk, del, Nat.add_assoc]))
  | (refine CallP.ok1 (hh2 _ (by first | omega | (simp; done) | (simp; omega) | fail)) (by first | (simp [hne, hk, del, Nat.add_assoc, zaa, getK, zab, zac]; done) | fail) (by rfl) (by first | assumption | (simp; done) | fail) (by rfl) (by simp) ?_; (try simp [hne, hk, del, Nat.add_assoc]))
  | (refine CallP.ok1 (hw1 _ (by first | omega | (simp; done) | (simp; omega) | fail)) (by first | (simp [hne, hk, del, Nat.add_assoc, zaa, getK, zab, zac]; done) | fail) (by rfl) (by first | assumption | (simp; done) | fail) (by rfl) (by simp) ?_; (try simp [hne, hk, del, Nat.add_assoc]))
  | (refine CallP.ok1 (ha _ (by first | omega | (simp; done) | (simp; omega) | fail)) (by first | (simp [hne, hk, del, Nat.add_assoc, zaa, getK, zab, zac]; done) | fail) (by rfl) (by first | assumption | (simp; done) | fail) (by rfl) (by simp) ?_; (try simp [hne, hk, del, Nat.add_assoc]))
  | (refine CallP.ok1 (hw2 _ (by first | omega | (simp; done) | (simp; omega) | fail)) (by first | (simp [hne, hk, del, Nat.add_assoc, zaa, getK, zab, zac]; done) | fail) (by rfl) (by first | assumption | (simp; done) | fail) (by rfl) (by simp) ?_; (try simp [hne, hk, del, Nat.add_assoc]))
  | (refine CallP.ok1 (hb _ (by first | omega | (simp; done) | (simp; omega) | fail)) (by first | (simp [hne, hk, del, Nat.add_assoc, zaa, getK, zab, zac]; done) | fail) (by rfl) (by first | assumption | (simp; done) | fail) (by rfl) (by simp) ?_; (try simp [hne, hk, del, Nat.add_assoc]))
  | (refine CallP.ok1 (hw3 _ (by first | omega | (simp; done) | (simp; omega) | fail)) (by first | (simp [hne, hk, del, Nat.add_assoc, zaa, getK, zab, zac]; done) | fail) (by rfl) (by first | assumption | (simp; done) | fail) (by rfl) (by simp) ?_; (try simp [hne, hk, del, Nat.add_assoc]))
  | (refine zbX (by first | rfl | fail) ?_; simp [hne, hk, del, Nat.add_assoc, frzN, frz1, zaH, zaG, St.frz, St.frzS, frzS, fv, zbh, zbx, zbM, zaI, zar, zal, del, frz, zbN])
  | fail)
       (refine EndW.frzN 1 ?_; simp [del, hne, Nat.add_assoc])
       refine EndW.norm ?_;simp [St.norm, zaV, zbt, zbP, zbQ, hne, Nat.add_assoc]
       (refine EndW.z ([(i, pOb l q4)]) (N := nx) Tryz.results170 (by simp [hne, hi] <;> omega) ?_; simp [hne, hi])
       exact PPost.zeE (by simp [PR.bind, *]; rfl) (by simp [Exp.row_eq, Exp.op, Exp.n, Exp.unit, Exp.s, Exp.args]) rfl
theorem zlS {l : List Tok} (hl : TokOK l) {f p : Nat} (hE : zha l f) (hf : 4 * (l.length - p) <= f) {t : Tok} (ht : l[p]? = some t) (hk : ¬ t.kind = 2) (h1 : isB l p [116, 114, 117, 101] = false) (h2 : isB l p [102, 97, 108, 115, 101] = false)
  (h3 : isB l p [109, 105, 110] = false) (h4 : isB l p [109, 97, 120] = true) {i nx : Nat} (hi : i < nx) :
  RetX Tryz.prog 170 [.ptr i 0] [(i, pOb l p)] nx (PPost l i nx zpZ (zbi l (f + 1) p)) := ziD hl hE hf ht hk h1 h2 (.inl ⟨h3, h4⟩) hi
theorem zpb {l : List Tok} (hl : TokOK l) {f p : Nat} {form : Int} (hE : zha l f) (hp : p < l.length) (hf : 4 * (l.length - p) + 1 <= f)
  (hf0 : form = 0) (h1 : isB l p [105, 102] = true) {i nx : Nat} (hi : i < nx) :
  RetX Tryz.prog 139 [.ptr i 0, zqD form] [(i, pOb l p)] nx (PPost l i nx zkN (zcb l (f + 1) p form)) := by
 have hne := zbm hi;have hll := hl.len;rw [zcb];have hp2 := zcN hl h1;subst hf0;have hf0 : (0 : Int) = 0 := rfl;have hf3 : (0 : Int) <= 3 := by omega
 have hh1 := fun nx' (h : nx <= nx') => zcr l p [105, 102] i nx' (by omega) hp hl.len;simp only [h1, if_true] at hh1;rw [if_pos ⟨rfl, h1⟩];have ha := fun nx' (h : nx <= nx') => hE (p + 1) 0 i nx' (by omega) hp2 (by omega) (by omega) (by omega);cases hr0 : zfj l f (p + 1) 0 with
 | stop pos e =>
  simp only [hr0] at ha;refine RetX.runW Tryz.func139 Tryz.ntmps139 rfl (by simp) fun Γ hn hpan => ?_
  repeat' (first
  | (refine zaf rfl ?_; simp [hne, hf0, hf3, del, Nat.add_assoc])
  | (refine CallP.ok1 (hh1 _ (by first | omega | (simp; done) | (simp; omega) | fail)) (by first | (simp [hne, hf0, hf3, del, Nat.add_assoc, zaa, getK, zab, zac]; done) | fail) (by rfl) (by first | assumption | (simp; done) | fail) (by rfl) (by simp) ?_; (try simp [hne, hf0, hf3, del, Nat.add_assoc]))
  | (refine CallP.zht (ha _ (by first | omega | (simp; done) | (simp; omega) | fail)) (by first | (simp [hne, hf0, hf3, del, Nat.add_assoc, zaa, getK, zab, zac]; done) | fail) (by rfl) (by first | assumption | (simp; done) | fail) (by rfl) (by simp) ?_; rintro ob' ⟨q', rfl⟩; refine ⟨_, Wk.refl _, ?_⟩)
  | fail)
  (refine hpan _ _ (PanG.k ([(i, pOb l q')]) (nx) (by simp [hn, hi, hne, zab, zac, zaa, getK] <;> omega) ?_); try simp)
  exact PPost.zcd (by simp [PR.bind, *])
 | ok v0 q0 =>
  have ha := fun nx' h => zeC (ha nx' h) hr0;obtain ⟨g0a, g0b⟩ := (zdB hl f).1 _ _ _ _ hr0 hp2;have hw1 := fun nx' (h : nx <= nx') => znn hl [116, 104, 101, 110] (q := q0) (i := i) (nx := nx') (by omega) g0b;cases hr1 : zdM l q0 [[116, 104, 101, 110]] with
  | stop pos e =>
   simp only [hr1] at hw1;refine RetX.runW Tryz.func139 Tryz.ntmps139 rfl (by simp) fun Γ hn hpan => ?_
   repeat' (first
  | (refine zaf rfl ?_; simp [hne, hf0, hf3, del, Nat.add_assoc])
  | (refine CallP.ok1 (hh1 _ (by first | omega | (simp; done) | (simp; omega) | fail)) (by first | (simp [hne, hf0, hf3, del, Nat.add_assoc, zaa, getK, zab, zac]; done) | fail) (by rfl) (by first | assumption | (simp; done) | fail) (by rfl) (by simp) ?_; (try simp [hne, hf0, hf3, del, Nat.add_assoc]))
  | (refine CallP.ok1 (ha _ (by first | omega | (simp; done) | (simp; omega) | fail)) (by first | (simp [hne, hf0, hf3, del, Nat.add_assoc, zaa, getK, zab, zac]; done) | fail) (by rfl) (by first | assumption | (simp; done) | fail) (by rfl) (by simp) ?_; (try simp [hne, hf0, hf3, del, Nat.add_assoc]))
  | (refine CallP.zht (hw1 _ (by first | omega | (simp; done) | (simp; omega) | fail)) (by first | (simp [hne, hf0, hf3, del, Nat.add_assoc, zaa, getK, zab, zac]; done) | fail) (by rfl) (by first | assumption | (simp; done) | fail) (by rfl) (by simp) ?_; rintro ob' ⟨q', rfl⟩; refine ⟨_, Wk.refl _, ?_⟩)
  | (refine zbX (by first | rfl | fail) ?_; simp [hne, hf0, hf3, del, Nat.add_assoc, frzN, frz1, zaH, zaG, St.frz, St.frzS, frzS, fv, zbh, zbx, zbM, zaI, zar, zal, del, frz, zbN])
  | fail)
   (refine hpan _ _ (PanG.k ([(i, pOb l q')]) (nx) (by simp [hn, hi, hne, zab, zac, zaa, getK] <;> omega) ?_); try simp)
   exact PPost.zcd (by simp [PR.bind, *])
  | ok v1 q1 =>
   simp only [hr1] at hw1;obtain ⟨g1a, g1b⟩ := zct hl _ hr1 g0b;have hb := fun nx' (h : nx <= nx') => hE q1 0 i nx' (by omega) g1b (by omega) (by omega) (by omega);cases hr2 : zfj l f q1 0 with
   | stop pos e =>
    simp only [hr2] at hb;refine RetX.runW Tryz.func139 Tryz.ntmps139 rfl (by simp) fun Γ hn hpan => ?_
    repeat' (first
  | (refine zaf rfl ?_; simp [hne, hf0, hf3, del, Nat.add_assoc])
  | (refine CallP.ok1 (hh1 _ (by first | omega | (simp; done) | (simp; omega) | fail)) (by first | (simp [hne, hf0, hf3, del, Nat.add_assoc, zaa, getK, zab, zac]; done) | fail) (by rfl) (by first | assumption | (simp; done) | fail) (by rfl) (by simp) ?_; (try simp [hne, hf0, hf3, del, Nat.add_assoc]))
  | (refine CallP.ok1 (ha _ (by first | omega | (simp; done) | (simp; omega) | fail)) (by first | (simp [hne, hf0, hf3, del, Nat.add_assoc, zaa, getK, zab, zac]; done) | fail) (by rfl) (by first | assumption | (simp; done) | fail) (by rfl) (by simp) ?_; (try simp [hne, hf0, hf3, del, Nat.add_assoc]))
  | (refine CallP.ok1 (hw1 _ (by first | omega | (simp; done) | (simp; omega) | fail)) (by first | (simp [hne, hf0, hf3, del, Nat.add_assoc, zaa, getK, zab, zac]; done) | fail) (by rfl) (by first | assumption | (simp; done) | fail) (by rfl) (by simp) ?_; (try simp [hne, hf0, hf3, del, Nat.add_assoc]))
  | (refine CallP.zht (hb _ (by first | omega | (simp; done) | (simp; omega) | fail)) (by first | (simp [hne, hf0, hf3, del, Nat.add_assoc, zaa, getK, zab, zac]; done) | fail) (by rfl) (by first | assumption | (simp; done) | fail) (by rfl) (by simp) ?_; rintro ob' ⟨q', rfl⟩; refine ⟨_, Wk.refl _, ?_⟩)
  | (refine zbX (by first | rfl | fail) ?_; simp [hne, hf0, hf3, del, Nat.add_assoc, frzN, frz1, zaH, zaG, St.frz, St.frzS, frzS, fv, zbh, zbx, zbM, zaI, zar, zal, del, frz, zbN])
  | fail)
    (refine hpan _ _ (PanG.k ([(i, pOb l q')]) (nx) (by simp [hn, hi, hne, zab, zac, zaa, getK] <;> omega) ?_); try simp)
    exact PPost.zcd (by simp [PR.bind, *])
   | ok v2 q2 =>
    have hb := fun nx' h => zeC (hb nx' h) hr2;obtain ⟨g2a, g2b⟩ := (zdB hl f).1 _ _ _ _ hr2 g1b;have hw2 := fun nx' (h : nx <= nx') => znn hl [101, 108, 115, 101] (q := q2) (i := i) (nx := nx') (by omega) g2b;cases hr3 : zdM l q2 [[101, 108, 115, 101]] with
    | stop pos e =>
     simp only [hr3] at hw2;refine RetX.runW Tryz.func139 Tryz.ntmps139 rfl (by simp) fun Γ hn hpan => ?_
     repeat' (first
  | (refine zaf rfl ?_; simp [hne, hf0, hf3, del, Nat.add_assoc])
  | (refine CallP.ok1 (hh1 _ (by first | omega | (simp; done) | (simp; omega) | fail)) (by first | (simp [hne, hf0, hf3, del, Nat.add_assoc, zaa, getK, zab, zac]; done) | fail) (by rfl) (by first | assumption | (simp; done) | fail) (by rfl) (by simp) ?_; (try simp [hne, hf0, hf3, del, Nat.add_assoc]))
  | (refine CallP.ok1 (ha _ (by first | omega | (simp; done) | (simp; omega) | fail)) (by first | (simp [hne, hf0, hf3, del, Nat.add_assoc, zaa, getK, zab, zac]; done) | fail) (by rfl) (by first | assumption | (simp; done) | fail) (by rfl) (by simp) ?_; (try simp [hne, hf0, hf3, del, Nat.add_assoc]))
  | (refine CallP.ok1 (hw1 _ (by first | omega | (simp; done) | (simp; omega) | fail)) (by first | (simp [hne, hf0, hf3, del, Nat.add_assoc, zaa, getK, zab, zac]; done) | fail) (by rfl) (by first | assumption | (simp; done) | fail) (by rfl) (by simp) ?_; (try simp [hne, hf0, hf3, del, Nat.add_assoc]))
  | (refine CallP.ok1 (hb _ (by first | omega | (simp; done) | (simp; omega) | fail)) (by first | (simp [hne, hf0, hf3, del, Nat.add_assoc, zaa, getK, zab, zac]; done) | fail) (by rfl) (by first | assumption | (simp; done) | fail) (by rfl) (by simp) ?_; (try simp [hne, hf0, hf3, del, Nat.add_assoc]))
  | (refine CallP.zht (hw2 _ (by first | omega | (simp; done) | (simp; omega) | fail)) (by first | (simp [hne, hf0, hf3, del, Nat.add_assoc, zaa, getK, zab, zac]; done) | fail) (by rfl) (by first | assumption | (simp; done) | fail) (by rfl) (by simp) ?_; rintro ob' ⟨q', rfl⟩; refine ⟨_, Wk.refl _, ?_⟩)
  | (refine zbX (by first | rfl | fail) ?_; simp [hne, hf0, hf3, del, Nat.add_assoc, frzN, frz1, zaH, zaG, St.frz, St.frzS, frzS, fv, zbh, zbx, zbM, zaI, zar, zal, del, frz, zbN])
  | fail)
     (refine hpan _ _ (PanG.k ([(i, pOb l q')]) (nx) (by simp [hn, hi, hne, zab, zac, zaa, getK] <;> omega) ?_); try simp)
     exact PPost.zcd (by simp [PR.bind, *])
    | ok v3 q3 =>
     simp only [hr3] at hw2;obtain ⟨g3a, g3b⟩ := zct hl _ hr3 g2b;have hc := fun nx' (h : nx <= nx') => hE q3 0 i nx' (by omega) g3b (by omega) (by omega) (by omega);cases hr4 : zfj l f q3 0 with
     | stop pos e =>
      simp only [hr4] at hc;refine RetX.runW Tryz.func139 Tryz.ntmps139 rfl (by simp) fun Γ hn hpan => ?_
      repeat' (first
  | (refine zhr (fun nx' h' => hc nx' (by simp at h'; omega)) (by first | (simp [hne, hf0, hf3, del, Nat.add_assoc, zaa, getK, zab, zac, zad, zai]; done) | fail) (by rfl) (by first | assumption | simp) (by rfl) (by simp) ?_ ?_; rintro env' ob' n' hn' ⟨q', rfl⟩; refine ⟨_, Wk.refl _, ?_⟩)
  | (refine zgp rfl (by simp) ?_; simp)
  | (refine zaf rfl ?_; simp [hne, hf0, hf3, del, Nat.add_assoc])
  | (refine zhs (hC _ (zc0 [i] nx (by simp <;> omega) (by simp <;> omega) (by apply Exists.intro; apply And.intro; (focus (repeat' (first | exact KF.nil | exact KL.nil | apply KF.cons | apply KL.cons 0 rfl | apply KL.cons 1 rfl | apply KL.cons 2 rfl | apply KL.cons 3 rfl | apply KL.cons 4 rfl | apply KL.cons 5 rfl | apply KL.cons 6 rfl | apply KL.cons 7 rfl | apply KL.cons 8 rfl | apply KL.cons 9 rfl))); kernel_rfl))) rfl; done)
  | (refine zeH rfl (by kernel_rfl) (by first | (simp [hn]; done) | (simp [hn]; omega) | fail) fun C k hC hk => ?_; simp [hne, hf0, hf3, del, Nat.add_assoc])
  | (refine CallP.ok1 (hh1 _ (by first | omega | (simp; done) | (simp; omega) | fail)) (by first | (simp [hne, hf0, hf3, del, Nat.add_assoc, zaa, getK, zab, zac]; done) | fail) (by rfl) (by first | assumption | (simp; done) | fail) (by rfl) (by simp) ?_; (try simp [hne, hf0, hf3, del, Nat.add_assoc]))
  | (refine CallP.ok1 (ha _ (by first | omega | (simp; done) | (simp; omega) | fail)) (by first | (simp [hne, hf0, hf3, del, Nat.add_assoc, zaa, getK, zab, zac]; done) | fail) (by rfl) (by first | assumption | (simp; done) | fail) (by rfl) (by simp) ?_; (try simp [hne, hf0, hf3, del, Nat.add_assoc]))
  | (refine CallP.ok1 (hw1 _ (by first | omega | (simp; done) | (simp; omega) | fail)) (by first | (simp [hne, hf0, hf3, del, Nat.add_assoc, zaa, getK, zab, zac]; done) | fail) (by rfl) (by first | assumption | (simp; done) | fail) (by rfl) (by simp) ?_; (try simp [hne, hf0, hf3, del, Nat.add_assoc]))
  | (refine CallP.ok1 (hb _ (by first | omega | (simp; done) | (simp; omega) | fail)) (by first | (simp [hne, hf0, hf3, del, Nat.add_assoc, zaa, getK, zab, zac]; done) | fail) (by rfl) (by first | assumption | (simp; done) | fail) (by rfl) (by simp) ?_; (try simp [hne, hf0, hf3, del, Nat.add_assoc]))
  | (refine CallP.ok1 (hw2 _ (by first | omega | (simp; done) | (simp; omega) | fail)) (by first | (simp [hne, hf0, hf3, del, Nat.add_assoc, zaa, getK, zab, zac]; done) | fail) (by rfl) (by first | assumption | (simp; done) | fail) (by rfl) (by simp) ?_; (try simp [hne, hf0, hf3, del, Nat.add_assoc]))
  | (refine zbX (by first | rfl | fail) ?_; simp [hne, hf0, hf3, del, Nat.add_assoc, frzN, frz1, zaH, zaG, St.frz, St.frzS, frzS, fv, zbh, zbx, zbM, zaI, zar, zal, del, frz, zbN])
  | fail)
      (refine hpan _ _ (PanG.k ([(i, pOb l q')]) (nx) (by simp [hn, hi, hne, zab, zac, zaa, getK] <;> omega) ?_); try simp)
      exact PPost.zcd (by simp [PR.bind, *])
     | ok v4 q4 =>
      have hc := fun nx' h => zeC (hc nx' h) hr4;obtain ⟨g4a, g4b⟩ := (zdB hl f).1 _ _ _ _ hr4 g3b;refine RetX.runW Tryz.func139 Tryz.ntmps139 rfl (by simp) fun Γ hn hpan => ?_
      repeat' (first
  | (refine zj4 (fun nx' h' => hc nx' (by simp at h'; omega)) (by first | (simp [hne, hf0, hf3, del, Nat.add_assoc, zaa, getK, zab, zac, zad, zai]; done) | fail) (by rfl) (by first | assumption | simp) (by rfl) (by simp [D.under, Ob.under]) (by simp) ?_; (try simp [hne, hf0, hf3, del, Nat.add_assoc]))
  | (refine zaf rfl ?_; simp [hne, hf0, hf3, del, Nat.add_assoc])
  | (refine ⟨hC _ (zc0 [i] nx (by simp <;> omega) (by simp <;> omega) (by apply Exists.intro; apply And.intro; (focus (repeat' (first | exact KF.nil | exact KL.nil | apply KF.cons | apply KL.cons 0 rfl | apply KL.cons 1 rfl | apply KL.cons 2 rfl | apply KL.cons 3 rfl | apply KL.cons 4 rfl | apply KL.cons 5 rfl | apply KL.cons 6 rfl | apply KL.cons 7 rfl | apply KL.cons 8 rfl | apply KL.cons 9 rfl))); kernel_rfl)), hk _ (zeI 8 _ _ _ ?_)⟩; clear hC hk C k; simp [hne, hf0, hf3, del, Nat.add_assoc])
  | (refine zeH rfl (by kernel_rfl) (by first | (simp [hn]; done) | (simp [hn]; omega) | fail) fun C k hC hk => ?_; simp [hne, hf0, hf3, del, Nat.add_assoc])
  | (refine zd2 rfl ?_; simp [hne, hf0, hf3, del, Nat.add_assoc])
  | (refine CallP.ok1 (hh1 _ (by first | omega | (simp; done) | (simp; omega) | fail)) (by first | (simp [hne, hf0, hf3, del, Nat.add_assoc, zaa, getK, zab, zac]; done) | fail) (by rfl) (by first | assumption | (simp; done) | fail) (by rfl) (by simp) ?_; (try simp [hne, hf0, hf3, del, Nat.add_assoc]))
  | (refine CallP.ok1 (ha _ (by first | omega | (simp; done) | (simp; omega) | fail)) (by first | (simp [hne, hf0, hf3, del, Nat.add_assoc, zaa, getK, zab, zac]; done) | fail) (by rfl) (by first | assumption | (simp; done) | fail) (by rfl) (by simp) ?_; (try simp [hne, hf0, hf3, del, Nat.add_assoc]))
  | (refine CallP.ok1 (hw1 _ (by first | omega | (simp; done) | (simp; omega) | fail)) (by first | (simp [hne, hf0, hf3, del, Nat.add_assoc, zaa, getK, zab, zac]; done) | fail) (by rfl) (by first | assumption | (simp; done) | fail) (by rfl) (by simp) ?_; (try simp [hne, hf0, hf3, del, Nat.add_assoc]))
  | (refine CallP.ok1 (hb _ (by first | omega | (simp; done) | (simp; omega) | fail)) (by first | (simp [hne, hf0, hf3, del, Nat.add_assoc, zaa, getK, zab, zac]; done) | fail) (by rfl) (by first | assumption | (simp; done) | fail) (by rfl) (by simp) ?_; (try simp [hne, hf0, hf3, del, Nat.add_assoc]))
  | (refine CallP.ok1 (hw2 _ (by first | omega | (simp; done) | (simp; omega) | fail)) (by first | (simp [hne, hf0, hf3, del, Nat.add_assoc, zaa, getK, zab, zac]; done) | fail) (by rfl) (by first | assumption | (simp; done) | fail) (by rfl) (by simp) ?_; (try simp [hne, hf0, hf3, del, Nat.add_assoc]))
  | (refine zbX (by first | rfl | fail) ?_; simp [hne, hf0, hf3, del, Nat.add_assoc, frzN, frz1, zaH, zaG, St.frz, St.frzS, frzS, fv, zbh, zbx, zbM, zaI, zar, zal, del, frz, zbN])
  | fail)
      (refine EndW.frzN 1 ?_; simp [del, hne, Nat.add_assoc])
      refine EndW.norm ?_;simp [St.norm, zaV, zbt, zbP, zbQ, hne, Nat.add_assoc]
      (refine EndW.z ([(i, pOb l q4)]) (N := nx) Tryz.results139 (by simp [hne, hi] <;> omega) ?_; simp [hne, hi])
      exact PPost.zeE (by simp [PR.bind, *]; rfl) (by simp [Exp.row_eq, Exp.op, Exp.n, Exp.unit, Exp.s, Exp.args]) rfl
theorem zlV {l : List Tok} (hl : TokOK l) {f p : Nat} {form : Int} (hE : zha l f) (hp : p < l.length) (hf : 4 * (l.length - p) + 1 <= f)
  (hf0 : form = 0) (hf3 : form <= 3) (h1 : isB l p [105, 102] = false) (h2 : isB l p [110, 111, 116] = true) {i nx : Nat} (hi : i < nx) :
  RetX Tryz.prog 139 [.ptr i 0, zqD form] [(i, pOb l p)] nx (PPost l i nx zkN (zcb l (f + 1) p form)) := by
 have hne := zbm hi;have hll := hl.len;rw [zcb];have hh1 := fun nx' (h : nx <= nx') => zcr l p [105, 102] i nx' (by omega) hp hl.len;rw [h1] at hh1;simp only [if_true, Bool.false_eq_true, if_false] at hh1;have hp2 := zcN hl h2;have hh2 := fun nx' (h : nx <= nx') => zcr l p [110, 111, 116] i nx' (by omega) hp hl.len;rw [h2] at hh2;simp only [if_true, Bool.false_eq_true, if_false] at hh2;rw [if_neg (by simp [*]), if_pos ⟨hf3, h2⟩];have ha := fun nx' (h : nx <= nx') => hE (p + 1) 3 i nx' (by omega) hp2 (by omega) (by omega) (by omega);cases hr0 : zfj l f (p + 1) 3 with
 | stop pos e =>
  simp only [hr0] at ha;refine RetX.runW Tryz.func139 Tryz.ntmps139 rfl (by simp) fun Γ hn hpan => ?_
  repeat' (first
  | (refine zaf rfl ?_; simp [hne, hf0, hf3, del, Nat.add_assoc])
  | (refine CallP.ok1 (hh1 _ (by first | omega | (simp; done) | (simp; omega) | fail)) (by first | (simp [hne, hf0, hf3, del, Nat.add_assoc, zaa, getK, zab, zac]; done) | fail) (by rfl) (by first | assumption | (simp; done) | fail) (by rfl) (by simp) ?_; (try simp [hne, hf0, hf3, del, Nat.add_assoc]))
  | (refine CallP.ok1 (hh2 _ (by first | omega | (simp; done) | (simp; omega) | fail)) (by first | (simp [hne, hf0, hf3, del, Nat.add_assoc, zaa, getK, zab, zac]; done) | fail) (by rfl) (by first | assumption | (simp; done) | fail) (by rfl) (by simp) ?_; (try simp [hne, hf0, hf3, del, Nat.add_assoc]))
  | (refine CallP.zht (ha _ (by first | omega | (simp; done) | (simp; omega) | fail)) (by first | (simp [hne, hf0, hf3, del, Nat.add_assoc, zaa, getK, zab, zac]; done) | fail) (by rfl) (by first | assumption | (simp; done) | fail) (by rfl) (by simp) ?_; rintro ob' ⟨q', rfl⟩; refine ⟨_, Wk.refl _, ?_⟩)
  | fail)
  (refine hpan _ _ (PanG.k ([(i, pOb l q')]) (nx) (by simp [hn, hi, hne, zab, zac, zaa, getK] <;> omega) ?_); try simp)
  exact PPost.zcd (by simp [PR.bind, *])
 | ok v0 q0 =>
  have ha := fun nx' h => zeC (ha nx' h) hr0;refine RetX.runW Tryz.func139 Tryz.ntmps139 rfl (by simp) fun Γ hn hpan => ?_
  repeat' (first
  | (refine zaf rfl ?_; simp [hne, hf0, hf3, del, Nat.add_assoc])
  | (refine CallP.ok1 (hh1 _ (by first | omega | (simp; done) | (simp; omega) | fail)) (by first | (simp [hne, hf0, hf3, del, Nat.add_assoc, zaa, getK, zab, zac]; done) | fail) (by rfl) (by first | assumption | (simp; done) | fail) (by rfl) (by simp) ?_; (try simp [hne, hf0, hf3, del, Nat.add_assoc]))
  | (refine CallP.ok1 (hh2 _ (by first | omega | (simp; done) | (simp; omega) | fail)) (by first | (simp [hne, hf0, hf3, del, Nat.add_assoc, zaa, getK, zab, zac]; done) | fail) (by rfl) (by first | assumption | (simp; done) | fail) (by rfl) (by simp) ?_; (try simp [hne, hf0, hf3, del, Nat.add_assoc]))
  | (refine CallP.ok1 (ha _ (by first | omega | (simp; done) | (simp; omega) | fail)) (by first | (simp [hne, hf0, hf3, del, Nat.add_assoc, zaa, getK, zab, zac]; done) | fail) (by rfl) (by first | assumption | (simp; done) | fail) (by rfl) (by simp) ?_; (try simp [hne, hf0, hf3, del, Nat.add_assoc]))
  | fail)
  (refine EndW.frzN 1 ?_; simp [del, hne, Nat.add_assoc])
  refine EndW.norm ?_;simp [St.norm, zaV, zbt, zbP, zbQ, hne, Nat.add_assoc]
  (refine EndW.z ([(i, pOb l q0)]) (N := nx) Tryz.results139 (by simp [hne, hi] <;> omega) ?_; simp [hne, hi])
  exact PPost.zeE (by simp [PR.bind, *]; rfl) (by simp [Exp.row_eq, Exp.op, Exp.n, Exp.unit, Exp.s, Exp.args]) rfl
theorem zlU {l : List Tok} (hl : TokOK l) {f p : Nat} {form : Int} (hE : zha l f) (hp : p < l.length) (hf : 4 * (l.length - p) + 1 <= f)
  (hf0 : ¬ form = 0) (hf3 : form <= 3) (h2 : isB l p [110, 111, 116] = true) {i nx : Nat} (hi : i < nx) :
  RetX Tryz.prog 139 [.ptr i 0, zqD form] [(i, pOb l p)] nx (PPost l i nx zkN (zcb l (f + 1) p form)) := by
 have hne := zbm hi;have hll := hl.len;rw [zcb];have hp2 := zcN hl h2;have hh2 := fun nx' (h : nx <= nx') => zcr l p [110, 111, 116] i nx' (by omega) hp hl.len;rw [h2] at hh2;simp only [if_true, Bool.false_eq_true, if_false] at hh2;rw [if_neg (by simp [*]), if_pos ⟨hf3, h2⟩];have ha := fun nx' (h : nx <= nx') => hE (p + 1) 3 i nx' (by omega) hp2 (by omega) (by omega) (by omega);cases hr0 : zfj l f (p + 1) 3 with
 | stop pos e =>
  simp only [hr0] at ha;refine RetX.runW Tryz.func139 Tryz.ntmps139 rfl (by simp) fun Γ hn hpan => ?_
  repeat' (first
  | (refine zaf rfl ?_; simp [hne, hf0, hf3, del, Nat.add_assoc])
  | (refine CallP.ok1 (hh2 _ (by first | omega | (simp; done) | (simp; omega) | fail)) (by first | (simp [hne, hf0, hf3, del, Nat.add_assoc, zaa, getK, zab, zac]; done) | fail) (by rfl) (by first | assumption | (simp; done) | fail) (by rfl) (by simp) ?_; (try simp [hne, hf0, hf3, del, Nat.add_assoc]))
  | (refine CallP.zht (ha _ (by first | omega | (simp; done) | (simp; omega) | fail)) (by first | (simp [hne, hf0, hf3, del, Nat.add_assoc, zaa, getK, zab, zac]; done) | fail) (by rfl) (by first | assumption | (simp; done) | fail) (by rfl) (by simp) ?_; rintro ob' ⟨q', rfl⟩; refine ⟨_, Wk.refl _, ?_⟩)
  | fail)
  (refine hpan _ _ (PanG.k ([(i, pOb l q')]) (nx) (by simp [hn, hi, hne, zab, zac, zaa, getK] <;> omega) ?_); try simp)
  exact PPost.zcd (by simp [PR.bind, *])
 | ok v0 q0 =>
  have ha := fun nx' h => zeC (ha nx' h) hr0;refine RetX.runW Tryz.func139 Tryz.ntmps139 rfl (by simp) fun Γ hn hpan => ?_
  repeat' (first
  | (refine zaf rfl ?_; simp [hne, hf0, hf3, del, Nat.add_assoc])
  | (refine CallP.ok1 (hh2 _ (by first | omega | (simp; done) | (simp; omega) | fail)) (by first | (simp [hne, hf0, hf3, del, Nat.add_assoc, zaa, getK, zab, zac]; done) | fail) (by rfl) (by first | assumption | (simp; done) | fail) (by rfl) (by simp) ?_; (try simp [hne, hf0, hf3, del, Nat.add_assoc]))
  | (refine CallP.ok1 (ha _ (by first | omega | (simp; done) | (simp; omega) | fail)) (by first | (simp [hne, hf0, hf3, del, Nat.add_assoc, zaa, getK, zab, zac]; done) | fail) (by rfl) (by first | assumption | (simp; done) | fail) (by rfl) (by simp) ?_; (try simp [hne, hf0, hf3, del, Nat.add_assoc]))
  | fail)
  (refine EndW.frzN 1 ?_; simp [del, hne, Nat.add_assoc])
  refine EndW.norm ?_;simp [St.norm, zaV, zbt, zbP, zbQ, hne, Nat.add_assoc]
  (refine EndW.z ([(i, pOb l q0)]) (N := nx) Tryz.results139 (by simp [hne, hi] <;> omega) ?_; simp [hne, hi])
  exact PPost.zeE (by simp [PR.bind, *]; rfl) (by simp [Exp.row_eq, Exp.op, Exp.n, Exp.unit, Exp.s, Exp.args]) rfl
theorem zkH {l : List Tok} (hl : TokOK l) {f p : Nat} {form : Int} (hP : zja l f) (hp : p < l.length) (hf : 4 * (l.length - p) + 1 <= f)
  (hf0 : form = 0) (hf3 : form <= 3) (h1 : isB l p [105, 102] = false) (h2 : isB l p [110, 111, 116] = false) {i nx : Nat} (hi : i < nx) :
  RetX Tryz.prog 139 [.ptr i 0, zqD form] [(i, pOb l p)] nx (PPost l i nx zkN (zcb l (f + 1) p form)) := by
 have hne := zbm hi;have hll := hl.len;rw [zcb];have hh1 := fun nx' (h : nx <= nx') => zcr l p [105, 102] i nx' (by omega) hp hl.len;rw [h1] at hh1;simp only [if_true, Bool.false_eq_true, if_false] at hh1;have hh2 := fun nx' (h : nx <= nx') => zcr l p [110, 111, 116] i nx' (by omega) hp hl.len;rw [h2] at hh2;simp only [if_true, Bool.false_eq_true, if_false] at hh2;rw [if_neg (by simp [*]), if_neg (by simp [*])];have ha := fun nx' (h : nx <= nx') => hP p i nx' (by omega) hp (by omega);cases hr0 : zbi l f p with
 | stop pos e =>
  simp only [hr0] at ha;refine RetX.runW Tryz.func139 Tryz.ntmps139 rfl (by simp) fun Γ hn hpan => ?_
  repeat' (first
  | (refine zaf rfl ?_; simp [hne, hf0, hf3, del, Nat.add_assoc])
  | (refine CallP.ok1 (hh1 _ (by first | omega | (simp; done) | (simp; omega) | fail)) (by first | (simp [hne, hf0, hf3, del, Nat.add_assoc, zaa, getK, zab, zac]; done) | fail) (by rfl) (by first | assumption | (simp; done) | fail) (by rfl) (by simp) ?_; (try simp [hne, hf0, hf3, del, Nat.add_assoc]))
  | (refine CallP.ok1 (hh2 _ (by first | omega | (simp; done) | (simp; omega) | fail)) (by first | (simp [hne, hf0, hf3, del, Nat.add_assoc, zaa, getK, zab, zac]; done) | fail) (by rfl) (by first | assumption | (simp; done) | fail) (by rfl) (by simp) ?_; (try simp [hne, hf0, hf3, del, Nat.add_assoc]))
  | (refine CallP.zht (ha _ (by first | omega | (simp; done) | (simp; omega) | fail)) (by first | (simp [hne, hf0, hf3, del, Nat.add_assoc, zaa, getK, zab, zac]; done) | fail) (by rfl) (by first | assumption | (simp; done) | fail) (by rfl) (by simp) ?_; rintro ob' ⟨q', rfl⟩; refine ⟨_, Wk.refl _, ?_⟩)
  | fail)
  (refine hpan _ _ (PanG.k ([(i, pOb l q')]) (nx) (by simp [hn, hi, hne, zab, zac, zaa, getK] <;> omega) ?_); try simp)
  exact PPost.zcd (by simp [PR.bind, *])
 | ok v0 q0 =>
  have ha := fun nx' h => zeC (ha nx' h) hr0;refine RetX.runW Tryz.func139 Tryz.ntmps139 rfl (by simp) fun Γ hn hpan => ?_
  repeat' (first
  | (refine zaf rfl ?_; simp [hne, hf0, hf3, del, Nat.add_assoc])
  | (refine CallP.ok1 (hh1 _ (by first | omega | (simp; done) | (simp; omega) | fail)) (by first | (simp [hne, hf0, hf3, del, Nat.add_assoc, zaa, getK, zab, zac]; done) | fail) (by rfl) (by first | assumption | (simp; done) | fail) (by rfl) (by simp) ?_; (try simp [hne, hf0, hf3, del, Nat.add_assoc]))
  | (refine CallP.ok1 (hh2 _ (by first | omega | (simp; done) | (simp; omega) | fail)) (by first | (simp [hne, hf0, hf3, del, Nat.add_assoc, zaa, getK, zab, zac]; done) | fail) (by rfl) (by first | assumption | (simp; done) | fail) (by rfl) (by simp) ?_; (try simp [hne, hf0, hf3, del, Nat.add_assoc]))
  | (refine CallP.ok1 (ha _ (by first | omega | (simp; done) | (simp; omega) | fail)) (by first | (simp [hne, hf0, hf3, del, Nat.add_assoc, zaa, getK, zab, zac]; done) | fail) (by rfl) (by first | assumption | (simp; done) | fail) (by rfl) (by simp) ?_; (try simp [hne, hf0, hf3, del, Nat.add_assoc]))
  | fail)
  refine EndW.norm ?_;simp [St.norm, zaV, zbt, zbP, zbQ, hne, Nat.add_assoc]
  (refine EndW.z ([(i, pOb l q0)]) (N := nx) Tryz.results139 (by simp [hne, hi] <;> omega) ?_; simp [hne, hi])
  exact PPost.zeE (by simp [PR.bind, *]; rfl) (by simp [Exp.row_eq, Exp.op, Exp.n, Exp.unit, Exp.s, Exp.args]) rfl
theorem zkG {l : List Tok} (hl : TokOK l) {f p : Nat} {form : Int} (hP : zja l f) (hp : p < l.length) (hf : 4 * (l.length - p) + 1 <= f)
  (hf0 : ¬ form = 0) (hf3 : form <= 3) (h2 : isB l p [110, 111, 116] = false) {i nx : Nat} (hi : i < nx) :
  RetX Tryz.prog 139 [.ptr i 0, zqD form] [(i, pOb l p)] nx (PPost l i nx zkN (zcb l (f + 1) p form)) := by
 have hne := zbm hi;have hll := hl.len;rw [zcb];have hh2 := fun nx' (h : nx <= nx') => zcr l p [110, 111, 116] i nx' (by omega) hp hl.len;rw [h2] at hh2;simp only [if_true, Bool.false_eq_true, if_false] at hh2;rw [if_neg (by simp [*]), if_neg (by simp [*])];have ha := fun nx' (h : nx <= nx') => hP p i nx' (by omega) hp (by omega);cases hr0 : zbi l f p with
 | stop pos e =>
  simp only [hr0] at ha;refine RetX.runW Tryz.func139 Tryz.ntmps139 rfl (by simp) fun Γ hn hpan => ?_
  repeat' (first
  | (refine zaf rfl ?_; simp [hne, hf0, hf3, del, Nat.add_assoc])
  | (refine CallP.ok1 (hh2 _ (by first | omega | (simp; done) | (simp; omega) | fail)) (by first | (simp [hne, hf0, hf3, del, Nat.add_assoc, zaa, getK, zab, zac]; done) | fail) (by rfl) (by first | assumption | (simp; done) | fail) (by rfl) (by simp) ?_; (try simp [hne, hf0, hf3, del, Nat.add_assoc]))
  | (refine CallP.zht (ha _ (by first | omega | (simp; done) | (simp; omega) | fail)) (by first | (simp [hne, hf0, hf3, del, Nat.add_assoc, zaa, getK, zab, zac]; done) | fail) (by rfl) (by first | assumption | (simp; done) | fail) (by rfl) (by simp) ?_; rintro ob' ⟨q', rfl⟩; refine ⟨_, Wk.refl _, ?_⟩)
  | fail)
  (refine hpan _ _ (PanG.k ([(i, pOb l q')]) (nx) (by simp [hn, hi, hne, zab, zac, zaa, getK] <;> omega) ?_); try simp)
  exact PPost.zcd (by simp [PR.bind, *])
 | ok v0 q0 =>
  have ha := fun nx' h => zeC (ha nx' h) hr0;refine RetX.runW Tryz.func139 Tryz.ntmps139 rfl (by simp) fun Γ hn hpan => ?_
  repeat' (first
  | (refine zaf rfl ?_; simp [hne, hf0, hf3, del, Nat.add_assoc])
  | (refine CallP.ok1 (hh2 _ (by first | omega | (simp; done) | (simp; omega) | fail)) (by first | (simp [hne, hf0, hf3, del, Nat.add_assoc, zaa, getK, zab, zac]; done) | fail) (by rfl) (by first | assumption | (simp; done) | fail) (by rfl) (by simp) ?_; (try simp [hne, hf0, hf3, del, Nat.add_assoc]))
  | (refine CallP.ok1 (ha _ (by first | omega | (simp; done) | (simp; omega) | fail)) (by first | (simp [hne, hf0, hf3, del, Nat.add_assoc, zaa, getK, zab, zac]; done) | fail) (by rfl) (by first | assumption | (simp; done) | fail) (by rfl) (by simp) ?_; (try simp [hne, hf0, hf3, del, Nat.add_assoc]))
  | fail)
  refine EndW.norm ?_;simp [St.norm, zaV, zbt, zbP, zbQ, hne, Nat.add_assoc]
  (refine EndW.z ([(i, pOb l q0)]) (N := nx) Tryz.results139 (by simp [hne, hi] <;> omega) ?_; simp [hne, hi])
  exact PPost.zeE (by simp [PR.bind, *]; rfl) (by simp [Exp.row_eq, Exp.op, Exp.n, Exp.unit, Exp.s, Exp.args]) rfl
theorem zkF {l : List Tok} (hl : TokOK l) {f p : Nat} {form : Int} (hP : zja l f) (hp : p < l.length) (hf : 4 * (l.length - p) + 1 <= f)
  (hf0 : ¬ form = 0) (hf3 : ¬ form <= 3) {i nx : Nat} (hi : i < nx) :
  RetX Tryz.prog 139 [.ptr i 0, zqD form] [(i, pOb l p)] nx (PPost l i nx zkN (zcb l (f + 1) p form)) := by
 have hne := zbm hi;have hll := hl.len;rw [zcb];rw [if_neg (by simp [*]), if_neg (by simp [*])];have ha := fun nx' (h : nx <= nx') => hP p i nx' (by omega) hp (by omega);cases hr0 : zbi l f p with
 | stop pos e =>
  simp only [hr0] at ha;refine RetX.runW Tryz.func139 Tryz.ntmps139 rfl (by simp) fun Γ hn hpan => ?_
  repeat' (first
  | (refine zaf rfl ?_; simp [hne, hf0, hf3, del, Nat.add_assoc])
  | (refine CallP.zht (ha _ (by first | omega | (simp; done) | (simp; omega) | fail)) (by first | (simp [hne, hf0, hf3, del, Nat.add_assoc, zaa, getK, zab, zac]; done) | fail) (by rfl) (by first | assumption | (simp; done) | fail) (by rfl) (by simp) ?_; rintro ob' ⟨q', rfl⟩; refine ⟨_, Wk.refl _, ?_⟩)
  | fail)
  (refine hpan _ _ (PanG.k ([(i, pOb l q')]) (nx) (by simp [hn, hi, hne, zab, zac, zaa, getK] <;> omega) ?_); try simp)
  exact PPost.zcd (by simp [PR.bind, *])
 | ok v0 q0 =>
  have ha := fun nx' h => zeC (ha nx' h) hr0;refine RetX.runW Tryz.func139 Tryz.ntmps139 rfl (by simp) fun Γ hn hpan => ?_
  repeat' (first
  | (refine zaf rfl ?_; simp [hne, hf0, hf3, del, Nat.add_assoc])
  | (refine CallP.ok1 (ha _ (by first | omega | (simp; done) | (simp; omega) | fail)) (by first | (simp [hne, hf0, hf3, del, Nat.add_assoc, zaa, getK, zab, zac]; done) | fail) (by rfl) (by first | assumption | (simp; done) | fail) (by rfl) (by simp) ?_; (try simp [hne, hf0, hf3, del, Nat.add_assoc]))
  | fail)
  refine EndW.norm ?_;simp [St.norm, zaV, zbt, zbP, zbQ, hne, Nat.add_assoc]
  (refine EndW.z ([(i, pOb l q0)]) (N := nx) Tryz.results139 (by simp [hne, hi] <;> omega) ?_; simp [hne, hi])
  exact PPost.zeE (by simp [PR.bind, *]; rfl) (by simp [Exp.row_eq, Exp.op, Exp.n, Exp.unit, Exp.s, Exp.args]) rfl
theorem zlT {l : List Tok} (hl : TokOK l) {f : Nat} (hE : zha l f) (hP : zja l f) : ztQ l (f + 1) := by
 intro p form i nx hi hp hf hm0 hm7;have hf' : 4 * (l.length - p) + 1 <= f := by omega
 by_cases hf0 : form = 0
 ·have hf3 : form <= 3 := by omega
  cases h1 : isB l p [105, 102] with
  | true => exact zpb hl hE hp hf' hf0 h1 hi
  | false =>
   cases h2 : isB l p [110, 111, 116] with
   | true => exact zlV hl hE hp hf' hf0 hf3 h1 h2 hi
   | false => exact zkH hl hP hp hf' hf0 hf3 h1 h2 hi
 ·by_cases hf3 : form <= 3
  ·cases h2 : isB l p [110, 111, 116] with
   | true => exact zlU hl hE hp hf' hf0 hf3 h2 hi
   | false => exact zkG hl hP hp hf' hf0 hf3 h2 hi
  ·exact zkF hl hP hp hf' hf0 hf3 hi
theorem ztj (A B : Code) : Fun Tryz.prog 54 [.u (Vm.inss A), .u (Vm.inss B)] (· = .u (.bool (decide (A = B)))) := by
 simp only [Vm.inss];by_cases hl : A.length = B.length
 ·have hl' : (A.length : Int) = B.length := by omega
  refine Fun.run Tryz.func54 Tryz.ntmps54 Tryz.results54 rfl (by simp) fun Γ hn => ?_; simp only [entry, List.zipIdx_cons, List.zipIdx_nil, List.map_cons, List.map_nil, Nat.zero_add];refine zir (x := 0) rfl fun hll => ?_;simp at hll
  repeat' (first
  | (refine zaf rfl ?_; simp [hl, hl'])
  | fail)
  refine zb8 (α := { i : Nat // i <= A.length /\ A.take i = B.take i }) [0, 1, 11, 12] (fun i => [(13, .u (.int .i64 i.1))]) (fun i => []) 0 (fun i => A.length - i.1) ⟨0, by omega, rfl⟩ ?_ ?_
  ·exact (Wk.zda (by simp [hn, hl] <;> grind))
  rintro ⟨i, hi, hb⟩;simp;rcases hx : A[i]? with _ | a
  ·have hge : A.length <= i := by simpa using hx
   obtain rfl : i = A.length := by omega
   rw [List.take_of_length_le (Nat.le_refl _), List.take_of_length_le (by omega)] at hb;subst hb
   repeat' (first
  | (refine zaf rfl ?_; simp [hx, hl])
  | fail)
   (refine Pst.of ?_; simp)
  ·have hlt : i < A.length := (List.getElem?_eq_some_iff.1 hx).1;have hlt2 : i < B.length := by omega
   obtain ⟨b, hy⟩ : ∃ b, B[i]? = some b := ⟨_, List.getElem?_eq_getElem hlt2⟩;have hi2 : (i : Int) < B.length := by omega
   by_cases hab : a = b
   ·have hsn : A.take (i + 1) = B.take (i + 1) := by
     rw [List.take_succ_eq_append_getElem hlt, List.take_succ_eq_append_getElem hlt2, hb, (List.getElem?_eq_some_iff.1 hx).2, (List.getElem?_eq_some_iff.1 hy).2, hab]
    subst hab;have hax : A[i]'hlt = a := (List.getElem?_eq_some_iff.1 hx).2;have hbx : B[i]'hlt2 = a := (List.getElem?_eq_some_iff.1 hy).2
    repeat' (first
  | (refine zaf rfl ?_; simp [hx, hy, hi2, hax, hbx])
  | (refine And.intro (by omega) ?_)
  | (refine ⟨hC _ (by kernel_rfl), hk _ (zeI 8 _ _ _ ?_)⟩; clear hC hk C k; simp [hx, hy, hi2, hax, hbx])
  | (refine zeH rfl (by kernel_rfl) (by first | (simp [hn]; done) | (simp [hn]; omega) | fail) fun C k hC hk => ?_; simp [hx, hy, hi2, hax, hbx])
  | fail)
    refine LoopW.next ⟨i + 1, by omega, hsn⟩ (by simp; omega) ?_
    exact (Wk.zda (by simp [hn, hl] <;> grind))
   ·have hne : A ≠ B := fun e => by subst e; rw [hx] at hy; cases hy; exact hab rfl
    have hax : A[i]'hlt = a := (List.getElem?_eq_some_iff.1 hx).2;have hbx : B[i]'hlt2 = b := (List.getElem?_eq_some_iff.1 hy).2;rw [decide_eq_false hne];have hfa : ¬ (a.op = b.op /\ a.a = b.a /\ a.s = b.s) := fun ⟨h1, h2, h3⟩ => hab (by cases a; cases b; simp_all)
    repeat' (first
  | (refine Cnd.of (fun hc => ?_) (fun hc => ?_) <;> (try (exfalso; omega)) <;> (try simp [hx, hy, hi2, hax, hbx]))
  | (refine zaf rfl ?_; simp [hx, hy, hi2, hax, hbx])
  | (refine And.intro (by omega) ?_)
  | (refine ⟨hC _ (by kernel_rfl), hk _ (zeI 8 _ _ _ ?_)⟩; clear hC hk C k; simp [hx, hy, hi2, hax, hbx])
  | (refine zeH rfl (by kernel_rfl) (by first | (simp [hn]; done) | (simp [hn]; omega) | fail) fun C k hC hk => ?_; simp [hx, hy, hi2, hax, hbx])
  | fail)
    (refine Pst.of ?_; simp)
    exact absurd (by assumption) hfa
 ·have hl' : ¬ (A.length : Int) = B.length := by omega
  have hne : ¬ A = B := fun e => hl (by rw [e]);refine Fun.run Tryz.func54 Tryz.ntmps54 Tryz.results54 rfl (by simp) fun Γ hn => ?_
  repeat' (first
  | (refine zaf rfl ?_; simp [hl, hl'])
  | fail)
  (refine Pst.of ?_; simp)
  simp [hne]
theorem zh6 (A B : Code) : Fun Tryz.prog 21 [.u (Vm.inss A), .u (Vm.inss B)] (· = .u (.bool (decide (A = B)))) := by
 have h := ztj A B;refine Fun.run Tryz.func21 Tryz.ntmps21 Tryz.results21 rfl (by simp) fun Γ hn => ?_
 repeat' (first
  | (refine zaf rfl ?_; simp)
  | (refine CallP.f2 rfl (h) (by first | simp <;> rfl | fail) ?_; simp)
  | fail)
 (refine Pst.of ?_; simp)
theorem zgw (A B : Code) : Fun Tryz.prog 16 [.u (Vm.inss A), .u (Vm.inss B)] (· = .u (.bool (decide (A = B)))) := by
 simp only [Vm.inss];by_cases hl : A.length = B.length
 ·have hl' : (A.length : Int) = B.length := by omega
  refine Fun.run Tryz.func16 Tryz.ntmps16 Tryz.results16 rfl (by simp) fun Γ hn => ?_; simp only [entry, List.zipIdx_cons, List.zipIdx_nil, List.map_cons, List.map_nil, Nat.zero_add];refine zir (x := 0) rfl fun hll => ?_;simp at hll
  repeat' (first
  | (refine zaf rfl ?_; simp [hl, hl'])
  | fail)
  refine zb8 (α := { i : Nat // i <= A.length /\ A.take i = B.take i }) [0, 1] (fun i => [(5, .u (.int .i64 i.1))]) (fun i => []) 0 (fun i => A.length - i.1) ⟨0, by omega, rfl⟩ ?_ ?_
  ·exact (Wk.zda (by simp [hn, hl] <;> grind))
  rintro ⟨i, hi, hb⟩;simp;rcases hx : A[i]? with _ | a
  ·have hge : A.length <= i := by simpa using hx
   obtain rfl : i = A.length := by omega
   rw [List.take_of_length_le (Nat.le_refl _), List.take_of_length_le (by omega)] at hb;subst hb
   repeat' (first
  | (refine zaf rfl ?_; simp [hx, hl])
  | fail)
   (refine Pst.of ?_; simp)
  ·have hlt : i < A.length := (List.getElem?_eq_some_iff.1 hx).1;have hlt2 : i < B.length := by omega
   obtain ⟨b, hy⟩ : ∃ b, B[i]? = some b := ⟨_, List.getElem?_eq_getElem hlt2⟩;have hi2 : (i : Int) < B.length := by omega
   by_cases hab : a = b
   ·have hsn : A.take (i + 1) = B.take (i + 1) := by
     rw [List.take_succ_eq_append_getElem hlt, List.take_succ_eq_append_getElem hlt2, hb, (List.getElem?_eq_some_iff.1 hx).2, (List.getElem?_eq_some_iff.1 hy).2, hab]
    subst hab;have hax : A[i]'hlt = a := (List.getElem?_eq_some_iff.1 hx).2;have hbx : B[i]'hlt2 = a := (List.getElem?_eq_some_iff.1 hy).2
    repeat' (first
  | (refine Cnd.of (fun hc => ?_) (fun hc => ?_) <;> (try (exfalso; omega)) <;> (try simp [hx, hy, hi2, hax, hbx]))
  | (refine zaf rfl ?_; simp [hx, hy, hi2, hax, hbx])
  | (refine And.intro (by omega) ?_)
  | (refine ⟨hC _ (by kernel_rfl), hk _ (zeI 8 _ _ _ ?_)⟩; clear hC hk C k; simp [hx, hy, hi2, hax, hbx])
  | (refine zeH rfl (by kernel_rfl) (by first | (simp [hn]; done) | (simp [hn]; omega) | fail) fun C k hC hk => ?_; simp [hx, hy, hi2, hax, hbx])
  | fail)
    refine LoopW.next ⟨i + 1, by omega, hsn⟩ (by simp; omega) ?_
    exact (Wk.zda (by simp [hn, hl] <;> grind))
   ·have hne : A ≠ B := fun e => by subst e; rw [hx] at hy; cases hy; exact hab rfl
    have hax : A[i]'hlt = a := (List.getElem?_eq_some_iff.1 hx).2;have hbx : B[i]'hlt2 = b := (List.getElem?_eq_some_iff.1 hy).2;rw [decide_eq_false hne];have hfa : ¬ (a.op = b.op /\ a.a = b.a /\ a.s = b.s) := fun ⟨h1, h2, h3⟩ => hab (by cases a; cases b; simp_all)
    repeat' (first
  | (refine Cnd.of (fun hc => ?_) (fun hc => ?_) <;> (try (exfalso; omega)) <;> (try simp [hx, hy, hi2, hax, hbx]))
  | (refine zaf rfl ?_; simp [hx, hy, hi2, hax, hbx])
  | (refine And.intro (by omega) ?_)
  | (refine ⟨hC _ (by kernel_rfl), hk _ (zeI 8 _ _ _ ?_)⟩; clear hC hk C k; simp [hx, hy, hi2, hax, hbx])
  | (refine zeH rfl (by kernel_rfl) (by first | (simp [hn]; done) | (simp [hn]; omega) | fail) fun C k hC hk => ?_; simp [hx, hy, hi2, hax, hbx])
  | fail)
    (refine Pst.of ?_; simp)
    exact absurd (by assumption) hfa
 ·have hl' : ¬ (A.length : Int) = B.length := by omega
  have hne : ¬ A = B := fun e => hl (by rw [e]);refine Fun.run Tryz.func16 Tryz.ntmps16 Tryz.results16 rfl (by simp) fun Γ hn => ?_
  repeat' (first
  | (refine zaf rfl ?_; simp [hl, hl'])
  | fail)
  (refine Pst.of ?_; simp)
  simp [hne]
theorem zmd (l : Code) : Fun Tryz.prog 11 [.u (Vm.inss l)] (· = .u (.bool (zsB l))) := by
 simp only [Vm.inss];refine Fun.run Tryz.func11 Tryz.ntmps11 Tryz.results11 rfl (by simp) fun Γ hn => ?_; simp only [entry, List.zipIdx_cons, List.zipIdx_nil, List.map_cons, List.map_nil, Nat.zero_add];refine zir (x := 0) rfl fun hll => ?_;simp at hll
 repeat' (first
  | (refine zaf rfl ?_; simp)
  | fail)
 refine zb8 (α := { i : Nat // i <= l.length /\ i <= 101 /\ ∀ j y, j < i -> l[j]? = some y -> y.s.length <= 40 }) [0] (fun i => [(3, .u (.int .i64 i.1))]) (fun i => []) 0 (fun i => l.length - i.1) ⟨0, by omega, by omega, by omega⟩ ?_ ?_
 ·exact (Wk.zda (by simp [hn] <;> grind))
 rintro ⟨i, hi, hi2, hb⟩;simp;have hfin : (¬ i < l.length \/ ¬ i < 101) -> zsB l = decide (l.length <= 100) := fun h => by
  by_cases h1 : l.length <= 100
  ·have : l.all (fun x => decide (x.s.length <= 40)) = true := List.all_eq_true.2 fun x hx => by
    obtain ⟨j, hj⟩ := List.getElem?_of_mem hx;exact decide_eq_true (hb j x (by have := (List.getElem?_eq_some_iff.1 hj).1; omega) hj)
   simp [zsB, this]
  ·simp [zsB, h1]
 rcases hx : l[i]? with _ | x
 ·have hge : l.length <= i := by simpa using hx
  have hlt : ¬ i < l.length := by omega
  have hlt' : ¬ (i : Int) < l.length := by omega
  rw [hfin (.inl hlt)]
  repeat' (first
  | (refine zaf rfl ?_; simp [hx, hlt, hlt'])
  | fail)
  (refine Pst.of ?_; simp)
  omega
 ·have hlt : i < l.length := (List.getElem?_eq_some_iff.1 hx).1;have hxe : l[i]'hlt = x := (List.getElem?_eq_some_iff.1 hx).2;by_cases h1 : i < 101
  ·have h1' : (i : Int) < 101 := by omega
   by_cases h4 : x.s.length <= 40
   ·have h4' : ¬ (40 : Int) < x.s.length := by omega
    have h4'' : ¬ 40 < x.s.length := by omega
    repeat' (first
  | (refine zaf rfl ?_; simp [hx, hlt, h1, h1', hxe, h4', h4''])
  | (refine And.intro (by omega) ?_)
  | fail)
    refine LoopW.next ⟨i + 1, by omega, by omega, fun j y hj hy => by
     by_cases e : j = i
     ·subst e; rw [hx] at hy; cases hy; exact h4
     ·exact hb j y (by omega) hy⟩ (by simp; omega) ?_
    exact (Wk.zda (by simp [hn] <;> grind))
   ·have h4' : (40 : Int) < x.s.length := by omega
    have h4'' : 40 < x.s.length := by omega
    have hf : zsB l = false := by
     have : ¬ l.all (fun x => decide (x.s.length <= 40)) = true := fun e => h4 (by simpa using List.all_eq_true.1 e x (List.mem_of_getElem? hx));simp [zsB, this]
    rw [hf]
    repeat' (first
  | (refine zaf rfl ?_; simp [hx, hlt, h1, h1', hxe, h4', h4''])
  | fail)
    (refine Pst.of ?_; simp)
  ·have h1' : ¬ (i : Int) < 101 := by omega
   rw [hfin (.inr h1)]
   repeat' (first
  | (refine zaf rfl ?_; simp [hx, hlt, h1, h1'])
  | fail)
   (refine Pst.of ?_; simp)
   omega
end Go.Proofs.YtkdhmbhbbciedaaGreatDoor
namespace Go.Proofs.YtkdhmbhbbciedaaGreatDoor
open Go Go.VL Go.Shelf Go.RowKit
def zky (L : Code) (i : Nat) : List (Nat × Ob) := [(0, .box [.vec (i + 4) i]), (i + 4, .vec 44 3 (zb9 (L.take i)))]
theorem ztm (t : W8) : ∃ (w r : W8) (b : Bool), ztn 32 t = .tup [.u (.str w), .u (.str r), .u (.bool b)] /\ zl7 t = (if zjE wordsL w 0 = 1 then ⟨1, 0, r⟩ else ⟨zjE wordsL w 0, zls r, []⟩) /\ r.length <= t.length := by
 cases hc : zfV 32 t with
 | none => exact ⟨t, [], false, by simp [ztn, hc], by simp [zl7, hc], by simp⟩
 | some p => exact ⟨p.1, p.2, true, by simp [ztn, hc], by simp [zl7, hc], Nat.le_of_lt (ztk (p := p.1) hc)⟩
end Go.Proofs.YtkdhmbhbbciedaaGreatDoor
namespace Go.Proofs.YtkdhmbhbbciedaaGreatDoor
open Go Go.VL
theorem zlR {l : List Tok} (hl : TokOK l) {f p : Nat} (hE : zha l f) (hf : 4 * (l.length - p) <= f) {t : Tok} (ht : l[p]? = some t) (hk : ¬ t.kind = 2) (h1 : isB l p [116, 114, 117, 101] = false) (h2 : isB l p [102, 97, 108, 115, 101] = false)
  (h3 : isB l p [109, 105, 110] = true) (h4 : isB l p [109, 97, 120] = false) {i nx : Nat} (hi : i < nx) :
  RetX Tryz.prog 170 [.ptr i 0] [(i, pOb l p)] nx (PPost l i nx zpZ (zbi l (f + 1) p)) := ziD hl hE hf ht hk h1 h2 (.inr ⟨h3, h4⟩) hi
end Go.Proofs.YtkdhmbhbbciedaaGreatDoor
namespace Go.Proofs.YtkdhmbhbbciedaaGreatDoor
open Go Go.VL
attribute [local simp] zba zcP zb4 evPure opd uOf zat St.put St.at getK binD binI binS binB nilD aggD ze5 zfC lookD lookR zbZ rangeS Go.VL.nextD Go.VL.nextS zb1 zfI zfF ze0 zci mkV zbb zcX zaW za9 mapEff zdX zeK Key.kk shiftI arith unD convD zdg loadD cellsAt fieldAddrD fieldD indexAddrD indexSlD arrAddr indexD sliceD cutD lenD minmaxD nilCheckD buildD fillD zbu zcQ zek setAll zcI zed zbU ze3 zbR St.add zaq zbe rowsOf zcY zco zad zac zaa za5 zcH zaS entry za6 zbc valD zb7 zcG ze4 zcV zcW zbz zbv zag zaM za8 delAll effD St.effS zck zaJ zaw zcl zaK zay zbr zax zas zbs zch za7 zbq zaU zbp zai mkD zb3 zbg zbk zag zb6 D.ids Op.operands Call.operands zbj makeIfD makeFuncD typeAssertD zfB zc2 zc4 zfn zb0 IntKind.bits zb5 zam List.take_of_length_le List.range_succ zcA zbJ zcB zcu zbf zbA zbC zcv zbE za0 zbD zbB zgo zbI zcy zaQ zaB zcz zaR zaD zbH zaC zau zcE zcF zfZ zab frzN frz1 zaH zaG St.frz St.frzS frzS fv zbh zbx zbM zaI zar zal frz zbN za1 za2 zbt zbP zbQ zaV St.norm St.lp St.only zaA wkE wkO wkU Ob.under D.under zak zap zcC zbK zcD h4s zdt zao zaY List.zipIdx_cons List.zipIdx_nil List.map_cons List.map_nil Nat.zero_add
attribute [local irreducible] V G H HD HD2 zaX Eff CallP CallV EndOK Fun Ret FinOK LoopI LoopW EndW HR vs2 RN Cnd H4
theorem zpx (s : List UInt8) : Fun Tryz.prog 138 [.u (.str s)] (· = ziN (zpy s)) := by
 unfold zpy;by_cases hlong : 2000 < s.length
 ·have hlong2 : 2000 < (s.length : Int) := by omega
  rw [if_pos hlong];refine Fun.runW Tryz.func138 Tryz.ntmps138 rfl (by simp) fun Γ hn => ?_
  repeat' (first
  | (refine zaf rfl ?_; simp [hlong, hlong2])
  | fail)
  refine EndW.norm (EndW.here ?_)
  (refine EndOK.val (.inr rfl) ?_; simp [Tryz.results138])
  simp [ziN]
 rw [if_neg hlong];have hlong2 : ¬ 2000 < (s.length : Int) := by omega
 obtain ⟨R, hR⟩ : ∃ R, R = zpA (s.length + 1) s 0 := ⟨_, rfl⟩;rw [<- hR];refine Fun.runW Tryz.func138 Tryz.ntmps138 rfl (by simp) fun Γ hn => ?_
 repeat' (first
  | (refine zaf rfl ?_; simp [hlong, hlong2])
  | fail)
 refine zlG _ (Wk.own 5 148 4 (by decide) rfl) ?_;simp [St.own];refine zb8 (α := { x : List Tok × Nat × Nat // x.2.1 <= s.length /\ s.length < x.2.1 + x.2.2 /\ x.1.length <= x.2.1 /\ R = znI x.1 (zpA x.2.2 s x.2.1) }) [0] (fun x => [(5, .vec 0 x.1.1.length), (6, .u (.int .i64 x.1.2.1))]) (fun x => [(0, .vec 148 4 (zke x.1.1))]) 1 (fun x => x.1.2.2) ⟨([], 0, s.length + 1), by simp, by simp, by simp, by rw [zpa, hR]⟩ ?_ ?_
 ·exact (Wk.zda (by simp [hn, zke] <;> grind))
 rintro ⟨⟨acc, p, f⟩, h1, h2, h3, h4⟩;simp only at h1 h2 h3 h4;simp;obtain ⟨f', rfl⟩ : ∃ f', f = f' + 1 := ⟨f - 1, by omega⟩;rw [zpA] at h4;have hsp := zf2 (s.drop p) (by rw [List.length_drop]; omega) 166 zcR (fun c _ => zqm c) (by simp);have hle := zem zcR (s.drop p);rw [List.length_drop] at hle;obtain ⟨b, hb⟩ : ∃ b, b = zdj zcR (s.drop p) := ⟨_, rfl⟩;rw [<- hb] at hsp hle h4;have hp1 : (p : Int) <= s.length := by omega
 have hpb : (p : Int) + b <= s.length := by omega
 rcases hd : s.drop (p + b) with _ | ⟨c, r⟩
 ·have hdl : (s.drop (p + b)).length = 0 := by rw [hd]; rfl
  rw [List.length_drop] at hdl;have hpe : p + b = s.length := by omega
  have hpe2 : (p : Int) + b = s.length := by omega
  rw [hd] at h4;simp only at h4;have hap : zke acc ++ [[D.u (.int .i64 0), D.u (.str []), D.u (.int .i64 0), D.u (.int .i64 (s.length : Int))]] = zke (acc ++ [⟨0, [], 0, s.length⟩]) := by simp [zke]
  have hlr : zj5 4 (zke acc) := fun r hr => by obtain ⟨t, _, rfl⟩ := List.mem_map.1 hr; rfl
  rw [hpe] at h4
  repeat' (first
  | (refine zaf rfl ?_; simp [h1, hp1, hpe2, zd3, hap, hlr])
  | (refine And.intro (by omega) ?_)
  | (refine CallP.f2 rfl (hsp) (by first | simp [h1, hp1, hpe2, zd3, hap, hlr] <;> rfl | fail) ?_; simp [h1, hp1, hpe2, zd3, hap, hlr])
  | fail)
  (refine EndW.frzN 3 ?_; simp [del, zmF, zd3, List.length_append])
  refine EndW.norm (EndW.here ?_)
  (refine EndOK.val (.inr rfl) ?_; simp [Tryz.results138, zmF, zd3, List.length_append])
  rw [h4];simp [znI, ziN]
 ·have hdl : (s.drop (p + b)).length = r.length + 1 := by rw [hd]; rfl
  rw [List.length_drop] at hdl;have hpe : ¬ p + b = s.length := by omega
  have hpe2 : ¬ (p : Int) + b = s.length := by omega
  have hnx := zq8 (s.drop (p + b)) (by rw [hd]; simp) (by rw [List.length_drop]; omega);unfold nextD at hnx;rw [hd] at h4;simp only at h4;rw [hd] at hnx;have hpb2 : ((p : Int) + b).toNat = p + b := by omega
  have hpb3 : p + b <= s.length := by omega
  cases hno : zih (c :: r) with
  | error e =>
   rw [hno] at h4 hnx;have he : e ≠ 0 := by
    unfold zih at hno;simp only at hno;split at hno
    ·split at hno <;> cases hno;omega
    ·split at hno
     ·split at hno <;> cases hno;omega
     ·split at hno <;> cases hno;omega
   repeat' (first
  | (refine zaf rfl ?_; simp [h1, hp1, hpe, hpe2, hd, he, hpb, hpb2, hpb3])
  | (refine And.intro (by omega) ?_)
  | ((first | refine CallP.f2 rfl (hsp) (by first | simp [h1, hp1, hpe, hpe2, hd, he, hpb, hpb2, hpb3] <;> rfl | fail) ?_ | refine CallP.f2 rfl (hnx) (by first | simp [h1, hp1, hpe, hpe2, hd, he, hpb, hpb2, hpb3] <;> rfl | fail) ?_ | fail); simp [h1, hp1, hpe, hpe2, hd, he, hpb, hpb2, hpb3])
  | fail)
   refine EndW.norm (EndW.here ?_)
   (refine EndOK.val (.inr rfl) ?_; simp [Tryz.results138])
   rw [h4];simp [znI, ziN]
  | ok t =>
   rw [hno] at h4 hnx;obtain ⟨ht1, ht2⟩ := zgB hno;simp only [List.length_cons] at ht2;have hap : zke acc ++ [[D.u (.int .i64 t.kind), D.u (.str t.text), D.u (.int .i64 t.n), D.u (.int .i64 ((p : Int) + b))]] = zke (acc ++ [{ t with pos := ((p + b : Nat) : Int) }]) := by simp [zke]
   have hlr : zj5 4 (zke acc) := fun r hr => by obtain ⟨t, _, rfl⟩ := List.mem_map.1 hr; rfl
   repeat' (first
  | (refine zaf rfl ?_; simp [h1, hp1, hpe, hpe2, hd, hpb, hpb2, hpb3, zd3, hap, hlr])
  | (refine And.intro (by omega) ?_)
  | ((first | refine CallP.f2 rfl (hsp) (by first | simp [h1, hp1, hpe, hpe2, hd, hpb, hpb2, hpb3, zd3, hap, hlr] <;> rfl | fail) ?_ | refine CallP.f2 rfl (hnx) (by first | simp [h1, hp1, hpe, hpe2, hd, hpb, hpb2, hpb3, zd3, hap, hlr] <;> rfl | fail) ?_ | fail); simp [h1, hp1, hpe, hpe2, hd, hpb, hpb2, hpb3, zd3, hap, hlr])
  | fail)
   refine LoopW.next ⟨(acc ++ [{ t with pos := ((p + b : Nat) : Int) }], p + b + t.text.length, f'), by simp; omega, by simp; omega, by simp; omega, ?_⟩ (by simp) ?_
   ·rw [h4];simp only;cases zpA f' s (p + b + t.text.length) <;> simp [znI]
   ·skip
    exact (Wk.ren ((fun i => if i = 0 then 3 else i)) rfl (by first | (simp [hn]; done) | (intro i hi; rw [hn] at hi; constructor <;> (try simp) <;> (try (intro _)) <;> omega)) (by simp [zee, St.lp, zaA, zaa, getK, zac, zad, D.under, D.le, D.ren, zhG, zgs] <;> (try (intros; simp_all; done)) <;> (try omega)) (by simp [wkR, St.lp, zaa, getK, zac, zad, obR, leU, zaN, zan, Ob.under, D.under, D.le, D.ren, zhG, zgs] <;> (try (intros; simp_all; done)) <;> (try omega)) (by simp [zhG, zgs]))
theorem znc (lets : List Let) (y z : U) (n : Nat) (s : List UInt8) (hn' : n <= lets.length) (hn2 : n <= 1000) : Fun Tryz.prog 66 [.u (.row [zaz lets, y, z] 0), .u (.int .i64 n), .u (.str s)] (· = .u (.int .i64 (ixO (zfH lets n s)))) := by
 generalize hR : zfH lets n s = R;simp only [zaz];refine Fun.run Tryz.func66 Tryz.ntmps66 Tryz.results66 rfl (by simp) fun Γ hn => ?_
 repeat' (first
  | (refine zaf rfl ?_; simp)
  | (refine And.intro (by omega) ?_)
  | fail)
 refine zcs (α := { i : Nat // i <= n /\ zfH lets i s = R }) [0, 2] (fun i => [(7, .u (.int .i64 ((i.1 : Int) - 1)))]) (fun i => i.1) ⟨n, Nat.le_refl _, hR⟩ ?_ ?_
 ·exact (Wk.zda (by simp [hn] <;> grind))
 rintro ⟨i, hi, hinv⟩;simp;cases i with
 | zero =>
  have hinv2 := hinv;rw [zfH] at hinv2;subst hinv2
  repeat' (first
  | (refine zaf rfl ?_; simp)
  | fail)
  (refine Pst.of ?_; simp)
  rfl
 | succ j =>
  have hj : j < lets.length := by omega
  have hl : lets[j]? = some lets[j] := List.getElem?_eq_getElem hj;have hsub : ((j + 1 : Nat) : Int) - 1 = (j : Int) := by omega
  have hsub2 : (j : Int) + 1 - 1 = (j : Int) := by omega
  generalize lets[j] = l at hl;have hinv2 := hinv;rw [zfH, hl] at hinv2;simp only at hinv2;by_cases hnm : l.name = s
  ·rw [if_pos hnm] at hinv2;subst hinv2
   repeat' (first
  | (refine zaf rfl ?_; simp [hsub, hsub2, hl, hnm])
  | fail)
   (refine Pst.of ?_; simp)
   rfl
  ·rw [if_neg hnm] at hinv2
   repeat' (first
  | (refine zaf rfl ?_; simp [hsub, hsub2, hl, hnm])
  | (refine And.intro (by omega) ?_)
  | fail)
   refine LoopW.next ⟨j, by omega, hinv2⟩ (by simp) ?_
   exact (Wk.zda (by simp [hn] <;> grind))
theorem zds (lets : List Let) (shs : List Bool) (z : U) (n : Nat) (hn' : n <= lets.length) (hn1 : n <= shs.length) (hn2 : n <= 1000) : ∀ (d : Nat) (e : Exp), zaL d e = true -> Fun Tryz.prog 35 [.u (.row [zaz lets, zaE shs, z] 0), .u (.int .i64 n), zce e] (· = .u (.bool (zbY (nmS lets shs n) e)))
 | 0, e, h => by simp [zaL] at h
 | d + 1, e, h => by
  obtain ⟨h1, h2, h3, h4⟩ := zdf h;rw [zkm];by_cases h0 : e.op = 0
  ·rw [if_pos h0];refine Fun.run Tryz.func35 Tryz.ntmps35 Tryz.results35 rfl (by simp) fun Γ hn => ?_; simp only [entry, List.zipIdx_cons, List.zipIdx_nil, List.map_cons, List.map_nil, Nat.zero_add];simp only [zce]
   repeat' (first
  | (refine zaf rfl ?_; simp [h0])
  | fail)
   (refine Pst.of ?_; simp)
  rw [if_neg h0];by_cases hnm : e.op = 1
  ·rw [if_pos hnm];have hlet := znc lets (zaE shs) z n e.s hn' hn2;cases hi : zfH lets n e.s with
   | none =>
    rw [hi] at hlet;simp only [ixO, zaE, zaz] at hlet;refine Fun.run Tryz.func35 Tryz.ntmps35 Tryz.results35 rfl (by simp) fun Γ hn => ?_; simp only [entry, List.zipIdx_cons, List.zipIdx_nil, List.map_cons, List.map_nil, Nat.zero_add];simp only [zce, zaE, zaz]
    repeat' (first
  | (refine zaf rfl ?_; simp [h0, hnm])
  | (refine CallP.f2 rfl (hlet) (by first | simp [h0, hnm] <;> rfl | fail) ?_; simp [h0, hnm])
  | fail)
    (refine Pst.of ?_; simp)
    simp [nmS, hi]
   | some i =>
    rw [hi] at hlet;simp only [ixO, zaE, zaz] at hlet;obtain ⟨q1, _⟩ := zgD hi;have q2 : i < shs.length := by omega
    have q3 : shs[i]? = some shs[i] := List.getElem?_eq_getElem q2;have q4 : shs.getD i false = shs[i] := by rw [List.getD_eq_getElem?_getD, q3]; rfl
    have q5 : (i : Int) < shs.length := by omega
    have q6 : ¬ (i : Int) < 0 := by omega
    refine Fun.run Tryz.func35 Tryz.ntmps35 Tryz.results35 rfl (by simp) fun Γ hn => ?_; simp only [entry, List.zipIdx_cons, List.zipIdx_nil, List.map_cons, List.map_nil, Nat.zero_add];simp only [zce, zaE, zaz]
    repeat' (first
  | (refine zaf rfl ?_; simp [h0, hnm, q2, q6])
  | (refine CallP.f2 rfl (hlet) (by first | simp [h0, hnm, q2, q6] <;> rfl | fail) ?_; simp [h0, hnm, q2, q6])
  | fail)
    (refine Pst.of ?_; simp)
    simp [nmS, hi, q2]
  rw [if_neg hnm];have hr := h4 h0 hnm;by_cases hA : e.op = 2 \/ e.op = 3 \/ e.op = 6 \/ e.op = 7
  ·rw [if_pos hA];have hl : e.args.length = 2 := by
    rcases hA with ha | ha | ha | ha <;> rw [ha] at h1 <;> simp [zaO] at h1 <;> omega
   obtain ⟨a, b, hab⟩ : ∃ a b, e.args = [a, b] := by
    match hq : e.args, hl with
    | [a, b], _ => exact ⟨a, b, rfl⟩
   have h5 := zds lets shs z n hn' hn1 hn2 d a (hr a (by simp [hab]));simp only [zce, zaE, zaz] at h5;rw [hab, zdl];rcases hA with ha | ha | ha | ha
   all_goals
    refine Fun.run Tryz.func35 Tryz.ntmps35 Tryz.results35 rfl (by simp) fun Γ hn => ?_; simp only [entry, List.zipIdx_cons, List.zipIdx_nil, List.map_cons, List.map_nil, Nat.zero_add];simp only [zce, zaE, zaz]
    repeat' (first
  | (refine zaf rfl ?_; simp [ha, hab, a.row_eq, b.row_eq])
  | (refine CallP.f2 rfl (h5) (by first | simp [ha, hab, a.row_eq, b.row_eq] <;> rfl | fail) ?_; simp [ha, hab, a.row_eq, b.row_eq])
  | fail)
    (refine Pst.of ?_; simp)
  rw [if_neg hA];by_cases hB : e.op = 4
  ·rw [if_pos hB];have hl : e.args.length = 2 := by rw [hB] at h1; simp [zaO] at h1; omega
   obtain ⟨a, b, hab⟩ : ∃ a b, e.args = [a, b] := by
    match hq : e.args, hl with
    | [a, b], _ => exact ⟨a, b, rfl⟩
   have h5 := zds lets shs z n hn' hn1 hn2 d a (hr a (by simp [hab]));have h6 := zds lets shs z n hn' hn1 hn2 d b (hr b (by simp [hab]));simp only [zce, zaE, zaz] at h5 h6;rw [hab, zdl, zdl, zdl];generalize zbY (nmS lets shs n) a = x1 at h5 ⊢;generalize zbY (nmS lets shs n) b = x2 at h6 ⊢;refine Fun.run Tryz.func35 Tryz.ntmps35 Tryz.results35 rfl (by simp) fun Γ hn => ?_; simp only [entry, List.zipIdx_cons, List.zipIdx_nil, List.map_cons, List.map_nil, Nat.zero_add];simp only [zce, zaE, zaz]
   repeat' (first
  | (refine Cnd.of (fun hc => ?_) (fun hc => ?_) <;> (try (exfalso; omega)) <;> (try simp [hB, hab, a.row_eq, b.row_eq]))
  | (refine zaf rfl ?_; simp [hB, hab, a.row_eq, b.row_eq])
  | ((first | refine CallP.f2 rfl (h5) (by first | simp [hB, hab, a.row_eq, b.row_eq] <;> rfl | fail) ?_ | refine CallP.f2 rfl (h6) (by first | simp [hB, hab, a.row_eq, b.row_eq] <;> rfl | fail) ?_ | fail); simp [hB, hab, a.row_eq, b.row_eq])
  | fail)
   all_goals
    (refine Pst.of ?_; simp)
   all_goals (simp_all; done)
  rw [if_neg hB];by_cases hC' : e.op = 13
  ·rw [if_pos hC'];have hl : e.args.length = 3 := by rw [hC'] at h1; simp [zaO] at h1; omega
   obtain ⟨a, b, c, hab⟩ : ∃ a b c, e.args = [a, b, c] := by
    match hq : e.args, hl with
    | [a, b, c], _ => exact ⟨a, b, c, rfl⟩
   have h5 := zds lets shs z n hn' hn1 hn2 d b (hr b (by simp [hab]));simp only [zce, zaE, zaz] at h5;rw [hab, zdl, zdl];refine Fun.run Tryz.func35 Tryz.ntmps35 Tryz.results35 rfl (by simp) fun Γ hn => ?_; simp only [entry, List.zipIdx_cons, List.zipIdx_nil, List.map_cons, List.map_nil, Nat.zero_add];simp only [zce, zaE, zaz]
   repeat' (first
  | (refine zaf rfl ?_; simp [hC', hab, a.row_eq, b.row_eq, c.row_eq])
  | (refine CallP.f2 rfl (h5) (by first | simp [hC', hab, a.row_eq, b.row_eq, c.row_eq] <;> rfl | fail) ?_; simp [hC', hab, a.row_eq, b.row_eq, c.row_eq])
  | fail)
   (refine Pst.of ?_; simp)
  rw [if_neg hC'];have hD : ¬ e.op = 2 /\ ¬ e.op = 3 /\ ¬ e.op = 6 /\ ¬ e.op = 7 := by omega
  obtain ⟨g1, g2, g3, g4⟩ := hD;refine Fun.run Tryz.func35 Tryz.ntmps35 Tryz.results35 rfl (by simp) fun Γ hn => ?_; simp only [entry, List.zipIdx_cons, List.zipIdx_nil, List.map_cons, List.map_nil, Nat.zero_add];simp only [zce, zaE, zaz]
  repeat' (first
  | (refine zaf rfl ?_; simp [h0, hnm, g1, g2, g3, g4, hB, hC'])
  | fail)
  (refine Pst.of ?_; simp)
theorem zpc (lets : List Let) (shs : List Bool) (z : U) (n : Nat) (hn' : n <= lets.length) (hn1 : n <= shs.length) (hn2 : n <= 1000) (d : Nat) (e : Exp) (h : zaL (d + 1) e = true) (hop : 2 <= e.op /\ e.op <= 9 \/ e.op = 12) :
  Fun Tryz.prog 68 [.u (.row [zaz lets, zaE shs, z] 0), .u (.int .i64 n), zce e] (· = .u (.int .i64 (zbl (zbY (nmS lets shs n)) e.op e.args))) := by
 obtain ⟨h1, h2, h3, h4⟩ := zdf h;have hr := h4 (by omega) (by omega);by_cases hB : e.op = 4
 ·have hl : e.args.length = 2 := by rw [hB] at h1; simp [zaO] at h1; omega
  obtain ⟨a, b, hab⟩ : ∃ a b, e.args = [a, b] := by
   match hq : e.args, hl with
   | [a, b], _ => exact ⟨a, b, rfl⟩
  have h5 := zds lets shs z n hn' hn1 hn2 d a (hr a (by simp [hab]));have h6 := zds lets shs z n hn' hn1 hn2 d b (hr b (by simp [hab]));simp only [zce, zaE, zaz] at h5 h6;have hp : zbl (zbY (nmS lets shs n)) e.op e.args = if (zbY (nmS lets shs n) a || zbY (nmS lets shs n) b) = true then 6 else 4 := by simp [zbl, hB, hab]
  rw [hp];generalize zbY (nmS lets shs n) a = x1 at h5 ⊢;generalize zbY (nmS lets shs n) b = x2 at h6 ⊢;refine Fun.run Tryz.func68 Tryz.ntmps68 Tryz.results68 rfl (by simp) fun Γ hn => ?_; simp only [entry, List.zipIdx_cons, List.zipIdx_nil, List.map_cons, List.map_nil, Nat.zero_add];simp only [zce, zaE, zaz]
  repeat' (first
  | (refine Cnd.of (fun hc => ?_) (fun hc => ?_) <;> (try (exfalso; omega)) <;> (try simp [hB, hab, a.row_eq, b.row_eq]))
  | (refine zaf rfl ?_; simp [hB, hab, a.row_eq, b.row_eq])
  | ((first | refine CallP.f2 rfl (h5) (by first | simp [hB, hab, a.row_eq, b.row_eq] <;> rfl | fail) ?_ | refine CallP.f2 rfl (h6) (by first | simp [hB, hab, a.row_eq, b.row_eq] <;> rfl | fail) ?_ | fail); simp [hB, hab, a.row_eq, b.row_eq])
  | fail)
  all_goals
   (refine Pst.of ?_; simp)
  all_goals (simp_all; done)
 ·rcases (show e.op = 2 \/ e.op = 3 \/ e.op = 5 \/ e.op = 6 \/ e.op = 7 \/ e.op = 8 \/ e.op = 9 \/ e.op = 12 by omega) with ho | ho | ho | ho | ho | ho | ho | ho
  all_goals
   have hp : ∃ r, zbl (zbY (nmS lets shs n)) e.op e.args = r /\ r = zbl (zbY (nmS lets shs n)) e.op [] := ⟨_, rfl, by simp [zbl, ho]⟩;obtain ⟨r, hp1, hp2⟩ := hp;rw [hp1];rw [ho] at hp2;simp only [zbl, if_true, if_false, if_pos, if_neg, Int.reduceEq] at hp2;subst hp2;refine Fun.run Tryz.func68 Tryz.ntmps68 Tryz.results68 rfl (by simp) fun Γ hn => ?_; simp only [entry, List.zipIdx_cons, List.zipIdx_nil, List.map_cons, List.map_nil, Nat.zero_add];simp only [zce, zaE, zaz]
   repeat' (first
  | (refine zaf rfl ?_; simp [ho])
  | fail)
   (refine Pst.of ?_; simp)
theorem zry (x y : U) (code : Code) : Fun Tryz.prog 37 [.u (.row [x, y, Vm.inss code] 0)] (· = .u (.bool (decide (2000 <= code.length)))) := by
 simp only [Vm.inss];refine Fun.run Tryz.func37 Tryz.ntmps37 Tryz.results37 rfl (by simp) fun Γ hn => ?_
 repeat' (first
  | (refine zaf rfl ?_; simp)
  | fail)
 all_goals
  (refine Pst.of ?_; simp)
 all_goals first | omega | (simp; omega)
theorem zol (op : Int) : Fun Tryz.prog 48 [.u (.int .i64 op)] (· = .tup [.u (.int .i64 (zcM op)), .u (.int .i64 (zbF op))]) := by
 refine Fun.run Tryz.func48 Tryz.ntmps48 Tryz.results48 rfl (by simp) fun Γ hn => ?_
 repeat' (first
  | (refine Cnd.of (fun hc => ?_) (fun hc => ?_) <;> (try (exfalso; omega)) <;> (try simp))
  | (refine zaf rfl ?_; simp)
  | fail)
 all_goals
  (refine Pst.of ?_; simp)
 all_goals (unfold zcM zbF; simp_all)
theorem zoe (l : Code) (i : Nat) (x : Ins) (hx : l[i]? = some x) (hl : l.length <= 1000000) : Fun Tryz.prog 47 [.u (Vm.inss l), .u (.int .i64 i)] (· = .u (.bool (zdn x i l.length))) := by
 have hi := (List.getElem?_eq_some_iff.1 hx).1;have hnam := zjy x.s;unfold zdn;generalize zfa x.s = nm at hnam ⊢;obtain ⟨op, a, s⟩ := x;simp only [Vm.inss] at hnam ⊢;refine Fun.run Tryz.func47 Tryz.ntmps47 Tryz.results47 rfl (by simp) fun Γ hn => ?_
 repeat' (first
  | (refine Cnd.of (fun hc => ?_) (fun hc => ?_) <;> (try (exfalso; omega)) <;> (try simp [hx, Vm.Ins.row]))
  | (refine zaf rfl ?_; simp [hx, Vm.Ins.row])
  | (refine CallP.f2 rfl (hnam) (by first | simp [hx, Vm.Ins.row] <;> rfl | fail) ?_; simp [hx, Vm.Ins.row])
  | fail)
 all_goals
  (refine Pst.of ?_; simp)
 all_goals grind
theorem zec (l : Code) (hll : l.length <= 1000000) : Fun Tryz.prog 17 [.u (Vm.inss l)] (· = .u (.bool (zbO l))) := by
 have hl1 : ((l.length : Int) + 1).toNat = l.length + 1 := by omega
 simp only [Vm.inss];refine Fun.run Tryz.func17 Tryz.ntmps17 Tryz.results17 rfl (by simp) fun Γ hn => ?_; simp only [entry, List.zipIdx_cons, List.zipIdx_nil, List.map_cons, List.map_nil, Nat.zero_add];by_cases h0 : l.length = 0
 ·have h0' : l = [] := by simpa using h0
  subst h0'
  repeat' (first
  | (refine zaf rfl ?_; simp)
  | fail)
  (refine Pst.of ?_; simp)
  simp [zbO]
 have h0' : ¬ l = [] := by simpa using h0
 by_cases h2 : 2000 < l.length
 ·have h2' : (2000 : Int) < l.length := by omega
  repeat' (first
  | (refine zaf rfl ?_; simp [h0', h2, h2'])
  | fail)
  (refine Pst.of ?_; simp)
  unfold zbO;rw [decide_eq_false (show ¬ l.length <= 2000 by omega)];simp
 have h2' : ¬ (2000 : Int) < l.length := by omega
 repeat' (first
  | (refine zaf rfl ?_; simp [h0', h2, h2', hl1])
  | (refine And.intro (by omega) ?_)
  | fail)
 refine zb8 (α := { i : Nat // i <= l.length /\ ∀ j x, j < i -> l[j]? = some x -> zdn x j l.length = true }) [0, 3, 26] (fun i => [(27, .u (.int .i64 i.1))]) (fun i => [(0, .vec 3 1 (zeA (hi1 l.length i.1)))]) 1 (fun i => l.length - i.1) ⟨0, by omega, by omega⟩ ?_ ?_
 ·exact (Wk.zda (by simp [hn, zmZ, zmW, zbV] <;> grind))
 rintro ⟨i, hi, hf⟩;simp;rcases hx : l[i]? with _ | x
 ·have hge : l.length <= i := by simpa using hx
  obtain rfl : i = l.length := by omega
  have hfm : zga l = true := ziW fun j x hj => hf j x (List.getElem?_eq_some_iff.1 hj).1 hj
  repeat' (first
  | (refine zaf rfl ?_; simp [hx])
  | fail)
  refine zb8 (α := HiAt l) [0, 3, 39, 40] (fun s => [(41, .u (.int .i64 s.i))]) (fun s => [(0, .vec 3 1 (zeA s.hi))]) 1 (fun s => l.length - s.i) ⟨0, _, by omega, rfl, by simp, fun z hz => by
   rcases List.mem_cons.1 hz with rfl | hz
   ·omega
   ·rw [List.eq_of_mem_replicate hz]; omega⟩ ?_ ?_
  ·exact (Wk.zda (by simp [hn, zpS, zbV] <;> grind))
  rintro ⟨i, hi, hle, go, len, lo⟩;simp;rcases hy : l[i]? with _ | y
  ·have hge : l.length <= i := by simpa using hy
   obtain rfl : i = l.length := by omega
   obtain ⟨w, hw⟩ : ∃ w, hi[l.length]? = some w := ⟨_, List.getElem?_eq_getElem (by omega)⟩;have hR : zbO l = decide (w < 0) := by
    have : hi.getD l.length (-1) = w := by simp [List.getD, hw]
    unfold zbO;rw [go, hfm, decide_eq_true (show 0 < l.length by omega), decide_eq_true (show l.length <= 2000 by omega)];simp only [this, Bool.true_and]
   rw [hR]
   repeat' (first
  | (refine zaf rfl ?_; simp [hy, zaj, zah, hw])
  | (refine And.intro ?_ (by omega))
  | fail)
   (refine Pst.of ?_; simp)
  have hlt : i < l.length := (List.getElem?_eq_some_iff.1 hy).1;have h5 := zol y.op;obtain ⟨v, hv⟩ : ∃ v, hi[i]? = some v := ⟨_, List.getElem?_eq_getElem (by omega)⟩;have hvb := lo v (List.mem_of_getElem? hv);have hst := zmJ go hy hv;obtain ⟨n1, n2⟩ := zmN y.op;obtain ⟨m1, m2⟩ := ziO y.op;by_cases hv0 : v < 0
  ·rw [if_pos hv0] at hst
   repeat' (first
  | (refine Cnd.of (fun hc => ?_) (fun hc => ?_) <;> (try (exfalso; omega)) <;> (try simp [hy, zaj, zah, hv, hv0]))
  | (refine zaf rfl ?_; simp [hy, zaj, zah, hv, hv0])
  | (refine And.intro (by omega) ?_)
  | (refine And.intro ?_ (by omega))
  | (refine CallP.f2 rfl (h5) (by first | simp [hy, zaj, zah, hv, hv0] <;> rfl | fail) ?_; simp [hy, zaj, zah, hv, hv0])
  | fail)
   refine LoopW.next ⟨i + 1, hi, by omega, hst, len, fun z hz => by have := lo z hz; omega⟩ (by simp; omega) ?_
   exact (Wk.zda (by simp [hn, zbV] <;> grind))
  rw [if_neg hv0] at hst;by_cases hbad : v < zcM y.op \/ (y.op = 14 /\ v ≠ 1)
  ·rw [if_pos hbad] at hst;rw [ziC hst hlt];rcases hbad with hb1 | ⟨hb1, hb2⟩
   ·repeat' (first
  | (refine Cnd.of (fun hc => ?_) (fun hc => ?_) <;> (try (exfalso; omega)) <;> (try simp [hy, zaj, zah, hv, hv0, hb1]))
  | (refine zaf rfl ?_; simp [hy, zaj, zah, hv, hv0, hb1])
  | (refine And.intro (by omega) ?_)
  | (refine And.intro ?_ (by omega))
  | (refine CallP.f2 rfl (h5) (by first | simp [hy, zaj, zah, hv, hv0, hb1] <;> rfl | fail) ?_; simp [hy, zaj, zah, hv, hv0, hb1])
  | fail)
    (refine Pst.of ?_; simp)
   ·repeat' (first
  | (refine Cnd.of (fun hc => ?_) (fun hc => ?_) <;> (try (exfalso; omega)) <;> (try simp [hy, zaj, zah, hv, hv0, hb2, ((propext (iff_true_intro hb1)) : (y.op = 14) = True)]))
  | (refine zaf rfl ?_; simp [hy, zaj, zah, hv, hv0, hb2, ((propext (iff_true_intro hb1)) : (y.op = 14) = True)])
  | (refine And.intro (by omega) ?_)
  | (refine And.intro ?_ (by omega))
  | (refine CallP.f2 rfl (h5) (by first | simp [hy, zaj, zah, hv, hv0, hb2, ((propext (iff_true_intro hb1)) : (y.op = 14) = True)] <;> rfl | fail) ?_; simp [hy, zaj, zah, hv, hv0, hb2, ((propext (iff_true_intro hb1)) : (y.op = 14) = True)])
  | fail)
    all_goals
     (refine Pst.of ?_; simp)
  rw [if_neg hbad] at hst;have hb1 : ¬ v < zcM y.op := fun h => hbad (.inl h);by_cases h14 : y.op = 14
  ·have hv1 : v = 1 := Classical.byContradiction fun h => hbad (.inr ⟨h14, h⟩);have hn14 : zdS y i = [] := by simp [zdS, h14]
   rw [hn14] at hst;simp only [zd4] at hst;subst hv1
   repeat' (first
  | (refine Cnd.of (fun hc => ?_) (fun hc => ?_) <;> (try (exfalso; omega)) <;> (try simp [hy, zaj, zah, hv, hb1, ((propext (iff_true_intro h14)) : (y.op = 14) = True)]))
  | (refine zuD ?_)
  | (refine zaf rfl ?_; simp [hy, zaj, zah, hv, hb1, ((propext (iff_true_intro h14)) : (y.op = 14) = True)])
  | (refine And.intro (by omega) ?_)
  | (refine And.intro ?_ (by omega))
  | (refine CallP.f2 rfl (h5) (by first | simp [hy, zaj, zah, hv, hb1, ((propext (iff_true_intro h14)) : (y.op = 14) = True)] <;> rfl | fail) ?_; simp [hy, zaj, zah, hv, hb1, ((propext (iff_true_intro h14)) : (y.op = 14) = True)])
  | fail)
   refine LoopW.next ⟨i + 1, hi, by omega, hst, len, fun z hz => by have := lo z hz; omega⟩ (by simp; omega) ?_
   exact (Wk.zda (by simp [hn, zbV] <;> grind))
  have hfo := zeU hfm hy;obtain ⟨ks, hks, hcase⟩ : ∃ ks : List Nat, zdS y i = ks /\ (((y.op = 12) = True /\ ((12 : Int) = 13) = False /\ ks = [y.a.toNat] /\ ((y.a.toNat : Nat) : Int) = y.a) \/ ((y.op = 12) = False /\ (y.op = 13) = True /\ ks = [i + 1, y.a.toNat] /\ ((y.a.toNat : Nat) : Int) = y.a) \/
    ((y.op = 12) = False /\ (y.op = 13) = False /\ ks = [i + 1] /\ ((i + 1 : Nat) : Int) = i + 1)) := by
   refine ⟨_, rfl, ?_⟩;unfold zdS;unfold zdn at hfo;by_cases h12 : y.op = 12
   ·simp [h12] at hfo ⊢; omega
   by_cases h13 : y.op = 13
   ·simp [h13] at hfo ⊢; omega
   ·simp [h12, h13, h14]
  rw [hks] at hst;have hk1 : ∀ k ∈ ks, i < k /\ k <= l.length := hks ▸ zs2 hfm hy;have hvi : v <= i := hvb.2;rcases hcase with ⟨hA, hB, hE, hat⟩ | ⟨hA, hB, hE, hat⟩ | ⟨hA, hB, hE, hat⟩
  all_goals
   have hL := congrArg List.length hE;simp at hL
   repeat' (first
  | (refine Cnd.of (fun hc => ?_) (fun hc => ?_) <;> (try (exfalso; omega)) <;> (try simp [hy, zaj, zah, hv, hv0, hb1, (eq_false h14 : (y.op = 14) = False), hA, hB]))
  | (refine zaf rfl ?_; simp [hy, zaj, zah, hv, hv0, hb1, (eq_false h14 : (y.op = 14) = False), hA, hB])
  | (refine And.intro (by omega) ?_)
  | (refine And.intro ?_ (by omega))
  | (refine CallP.f2 rfl (h5) (by first | simp [hy, zaj, zah, hv, hv0, hb1, (eq_false h14 : (y.op = 14) = False), hA, hB] <;> rfl | fail) ?_; simp [hy, zaj, zah, hv, hv0, hb1, (eq_false h14 : (y.op = 14) = False), hA, hB])
  | fail)
   refine zb8 (α := NxAt ks (v - zcM y.op + zbF y.op) hi i) [0, 3, 5, 7, 8, 39, 40, 41, 96, 97] (fun s => [(98, .u (.int .i64 s.j))])
    (fun s => [(0, .vec 3 1 (zeA s.hj)), (2, .vec 3 1 (zeA (ks.map fun k : Nat => (k : Int))))]) 3 (fun s => ks.length - s.j) ⟨0, hi, by omega, by simp, rfl, rfl, fun z hz => by have := lo z hz; omega⟩ ?_ ?_
   ·exact (Wk.zda (by simp [hn, hE, zeA, hat] <;> grind))
   rintro ⟨j, hj, hjle, hgo, hlen, hat2, hjlo⟩;simp;have hvj : hj[i]? = some v := hat2.trans hv;rcases hz : ks[j]? with _ | k
   ·have hge : ks.length <= j := by simpa using hz
    rw [hgo, List.drop_of_length_le hge] at hst;simp only [zd4] at hst
    repeat' (first
  | (refine Cnd.of (fun hc => ?_) (fun hc => ?_) <;> (try (exfalso; omega)) <;> (try simp [hz, zaj, zah]))
  | (refine zaf rfl ?_; simp [hz, zaj, zah])
  | (refine And.intro (by omega) ?_)
  | fail)
    refine LoopW.next ⟨i + 1, hj, by omega, hst, by omega, fun z hz => by have := hjlo z hz; omega⟩ (by simp; omega) ?_
    exact (Wk.zda (by simp [hn, zbV] <;> grind))
   ·have hjl := (List.getElem?_eq_some_iff.1 hz).1;obtain ⟨k1, k2⟩ := hk1 k (List.mem_of_getElem? hz);obtain ⟨w, hw⟩ : ∃ w, hj[k]? = some w := ⟨_, List.getElem?_eq_getElem (by omega)⟩;have hwb := hjlo w (List.mem_of_getElem? hw);have hsH : zny hj k (v - zcM y.op + zbF y.op) = if 0 <= w /\ w ≠ v - zcM y.op + zbF y.op then none else some (hj.set k (v - zcM y.op + zbF y.op)) := by
     unfold zny;simp [List.getD, hw]
    rw [znx hz, hsH] at hgo;by_cases hbd : 0 <= w /\ w ≠ v - zcM y.op + zbF y.op
    ·rw [if_pos hbd] at hgo;rw [hgo] at hst;rw [ziC hst hlt];obtain ⟨hbd1, hbd2⟩ := hbd
     repeat' (first
  | (refine Cnd.of (fun hc => ?_) (fun hc => ?_) <;> (try (exfalso; omega)) <;> (try simp [hz, zaj, zah, hvj, hw, hbd1, hbd2]))
  | (refine zaf rfl ?_; simp [hz, zaj, zah, hvj, hw, hbd1, hbd2])
  | (refine And.intro (by omega) ?_)
  | (refine And.intro ?_ (by omega))
  | fail)
     (refine Pst.of ?_; simp)
    ·rw [if_neg hbd] at hgo
     repeat' (first
  | (refine Cnd.of (fun hc => ?_) (fun hc => ?_) <;> (try (exfalso; omega)) <;> (try simp [hz, zaj, zah, hvj, hw, zbn]))
  | (refine zaf rfl ?_; simp [hz, zaj, zah, hvj, hw, zbn])
  | (refine And.intro (by omega) ?_)
  | (refine And.intro ?_ (by omega))
  | fail)
     all_goals
      refine LoopW.next ⟨j + 1, hj.set k (v - zcM y.op + zbF y.op), by omega, hgo, by simp [hlen], by rw [List.getElem?_set_ne (by omega)]; exact hat2, fun z hz => ?_⟩ (by simp; omega) ?_
      ·rcases List.mem_or_eq_of_mem_set hz with hz | hz
       ·exact hjlo z hz
       ·omega
      exact (Wk.zda (by simp [hn, zbV] <;> grind))
 ·have hlt : i < l.length := (List.getElem?_eq_some_iff.1 hx).1;have h4 := zoe l i x hx (by omega);have ht : ((i : Int) + 1).toNat = i + 1 := by omega
  simp only [Vm.inss] at h4;by_cases hfx : zdn x i l.length = true
  ·rw [hfx] at h4
   repeat' (first
  | (refine zaf rfl ?_; simp [hlt, ht, zdD, zah, zbn, zeT hi, zeS hlt])
  | (refine And.intro (by omega) ?_)
  | (refine CallP.f2 rfl (h4) (by first | simp [hlt, ht, zdD, zah, zbn, zeT hi, zeS hlt] <;> rfl | fail) ?_; simp [hlt, ht, zdD, zah, zbn, zeT hi, zeS hlt])
  | fail)
   refine LoopW.next ⟨i + 1, by omega, fun j y hj hy => ?_⟩ (by simp; omega) ?_
   ·rcases Nat.lt_succ_iff_lt_or_eq.1 hj with h1 | h1
    ·exact hf j y h1 hy
    ·subst h1; rw [hx] at hy; cases hy; exact hfx
   exact (Wk.zda (by simp [hn, zbV] <;> grind))
  ·rw [Bool.not_eq_true] at hfx;rw [hfx] at h4
   repeat' (first
  | (refine zaf rfl ?_; simp [hlt])
  | (refine CallP.f2 rfl (h4) (by first | simp [hlt] <;> rfl | fail) ?_; simp [hlt])
  | fail)
   (refine Pst.of ?_; simp)
   have : zga l = false := by
    rw [<- Bool.not_eq_true];intro h;rw [zeU h hx] at hfx;cases hfx
   simp [zbO, this]
abbrev zuR (o : Opr) : D := .u (.agg [.str o.text, .int .i64 o.op, .int .i64 o.form])
abbrev zpg (l : List Opr) : U := .sl (l.map fun o => [.str o.text, .int .i64 o.op, .int .i64 o.form])
theorem zjt : Fun Tryz.prog 141 [] (· = .u (zpg oprs)) := by
 unfold zpg oprs;refine Fun.runW Tryz.func141 Tryz.ntmps141 rfl (by simp) fun Γ hn => ?_
 repeat' (first
  | (refine zaf rfl ?_; simp [zbc, za6])
  | fail)
 (refine EndW.frzN 1 ?_; simp [del])
 refine EndW.here ?_
 (refine EndOK.val (.inr rfl) ?_; simp [Tryz.results141])
theorem zrC (l : List Tok) (q : Nat) (o : Opr) (hq : q < l.length) (hl : l.length <= 1000000) : Fun Tryz.prog 142 (zuR o :: [U.row [zsv l q] 0].map .u) (· = .u (.bool (isB l q o.text))) := by
 have h1 := zg0 l q o.text hq hl;simp only [List.map_cons, List.map_nil, zuR];refine Fun.run Tryz.func142 Tryz.ntmps142 Tryz.results142 rfl (by simp) fun Γ hn => ?_
 repeat' (first
  | (refine zaf rfl ?_; simp)
  | (refine CallP.f2 rfl (h1) (by first | simp <;> rfl | fail) ?_; simp)
  | fail)
 (refine Pst.of ?_; simp)
theorem zn8 (l : List (Opr)) (f : FuncId) (caps : List U) (p : Opr -> Bool) (hf : ∀ n ∈ l, Fun Tryz.prog f (zuR n :: caps.map .u) (· = .u (.bool (p n)))) (hcl : zae Tryz.prog f = true)
  (hca : ∀ o, zcG o (caps.map .u) = some (caps.map .u, [])) : Fun Tryz.prog 140 [.u (zpg l), .fnc (.func f) (caps.map .u)] (· = .u (.int .i64 (zjF p l 0))) := by
 refine Fun.run Tryz.func140 Tryz.ntmps140 Tryz.results140 rfl (by simp) fun Γ hn => ?_; simp only [entry, List.zipIdx_cons, List.zipIdx_nil, List.map_cons, List.map_nil, Nat.zero_add];simp only [zpg];refine zir (x := 0) rfl fun hl => ?_;simp at hl
 repeat' (first
  | (refine zaf rfl ?_; simp)
  | fail)
 refine zcs (α := { i : Nat // i <= l.length /\ ∀ c ∈ l.take i, p c = false }) [0, 1, 7] (fun i => [(8, .u (.int .i64 i.1))]) (fun i => l.length - i.1) ⟨0, by omega, by simp⟩ ?_ ?_
 ·exact (Wk.env rfl rfl rfl (by simp [wkE, St.lp, zaA, zaa, getK] <;> (try (intros; simp_all; done)) <;> (try (intros; omega)) <;> (try grind)))
 rintro ⟨i, hi, hb⟩;simp;rcases hx : l[i]? with _ | n
 ·have hge : l.length <= i := by simpa using hx
  repeat' (first
  | (refine Cnd.of (fun hc => ?_) (fun hc => ?_) <;> (try (exfalso; omega)) <;> (try simp [hx]))
  | (refine zaf rfl ?_; simp [hx])
  | fail)
  (refine Pst.of ?_; simp)
  rw [List.take_of_length_le hge] at hb;exact (zhY hb).symm
 ·have hlt : i < l.length := (List.getElem?_eq_some_iff.1 hx).1;have h1 := hf n (List.mem_of_getElem? hx);simp only [zuR] at h1;cases hp : p n
  ·rw [hp] at h1
   repeat' (first
  | (refine Cnd.of (fun hc => ?_) (fun hc => ?_) <;> (try (exfalso; omega)) <;> (try simp [hx, hca]))
  | (refine zaf rfl ?_; simp [hx, hca])
  | (refine And.intro (by omega) ?_)
  | (refine CallP.f2 rfl (h1) (by first | simp [hx, hca] <;> rfl | fail) ?_; simp [hx, hca])
  | fail)
   refine LoopW.next ⟨i + 1, by omega, zca hx hb hp⟩ (by simp; omega) ?_
   exact (Wk.env rfl rfl rfl (by simp [wkE, St.lp, zaA, zaa, getK] <;> (try (intros; simp_all; done)) <;> (try (intros; omega)) <;> (try grind)))
  ·rw [hp] at h1
   repeat' (first
  | (refine Cnd.of (fun hc => ?_) (fun hc => ?_) <;> (try (exfalso; omega)) <;> (try simp [hx, hca]))
  | (refine zaf rfl ?_; simp [hx, hca])
  | (refine And.intro (by omega) ?_)
  | (refine CallP.f2 rfl (h1) (by first | simp [hx, hca] <;> rfl | fail) ?_; simp [hx, hca])
  | fail)
   (refine Pst.of ?_; simp)
   rw [zl8 hb hx hp];omega
theorem zhZ {p : Opr -> Bool} : ∀ (L : List Opr) (k : Int), (L.find? p = none -> zjF p L k = -1) /\ ∀ x, L.find? p = some x -> ∃ j : Nat, L[j]? = some x /\ zjF p L k = k + j
 | [], k => ⟨fun _ => rfl, fun x h => by simp at h⟩
 | a :: L, k => by
  by_cases h : p a = true
  ·refine ⟨fun h1 => by simp [h] at h1, fun x h1 => ?_⟩;rw [List.find?_cons, h] at h1;cases h1;exact ⟨0, rfl, by rw [zjF, if_pos h]; simp⟩
  ·have h' : p a = false := by simpa using h
   obtain ⟨h1, h2⟩ := zhZ L (k + 1);refine ⟨fun h3 => ?_, fun x h3 => ?_⟩
   ·rw [List.find?_cons, h'] at h3;rw [zjF, if_neg h];exact h1 h3
   ·rw [List.find?_cons, h'] at h3;obtain ⟨j, h4, h5⟩ := h2 x h3;exact ⟨j + 1, h4, by rw [zjF, if_neg h, h5]; omega⟩
theorem zn7 (l : List Tok) (q : Nat) (hq : q < l.length) (hl : l.length <= 1000000) : Fun Tryz.prog 140 [.u (zpg oprs), .fnc (.func 142) [.u (.row [zsv l q] 0)]]
  (· = .u (.int .i64 (zjF (fun o => isB l q o.text) oprs 0))) :=
 zn8 oprs 142 [U.row [zsv l q] 0] (fun o => isB l q o.text) (fun o _ => zrC l q o hq hl) rfl (fun o => rfl)
end Go.Proofs.YtkdhmbhbbciedaaGreatDoor
namespace Go.Proofs.YtkdhmbhbbciedaaGreatDoor
open Go Go.VL
attribute [local simp] HS zba zcP zb4 evPure opd uOf zat St.put St.at getK binD binI binS binB nilD aggD ze5 zfC lookD lookR zbZ rangeS Go.VL.nextD Go.VL.nextS zb1 zfI zfF ze0 zci mkV zbb zcX zaW za9 mapEff zdX zeK Key.kk shiftI arith unD convD zdg loadD cellsAt fieldAddrD fieldD indexAddrD indexSlD arrAddr indexD sliceD cutD lenD minmaxD nilCheckD buildD fillD zbu zcQ zek setAll zcI zed zbU ze3 zbR St.add zaq zbe rowsOf zcY zco zad zac zaa za5 zcH zaS entry za6 zbc valD zb7 zcG ze4 zcV zcW zbz zbv zag zaM za8 delAll effD St.effS zck zaJ zaw zcl zaK zay zbr zax zas zbs zch za7 zbq zaU zbp zai mkD zb3 zbg zbk zag zb6 D.ids Op.operands Call.operands zbj makeIfD makeFuncD typeAssertD zfB zc2 zc4 zfn zb0 IntKind.bits zb5 zam List.take_of_length_le List.range_succ zcA zbJ zcB zcu zbf zbA zbC zcv zbE za0 zbD zbB zgo zbI zcy zaQ zaB zcz zaR zaD zbH zaC zau zcE zcF zfZ zab frzN frz1 zaH zaG St.frz St.frzS frzS fv zbh zbx zbM zaI zar zal frz zbN za1 za2 zbt zbP zbQ zaV St.norm St.lp St.only zaA wkE wkO wkU Ob.under D.under zak zap zcC zbK zcD h4s zdt zao zaY List.zipIdx_cons List.zipIdx_nil List.map_cons List.map_nil Nat.zero_add
attribute [local irreducible] V G H HD HD2 HD4 zg5 RetX zaX Eff CallP CallV EndOK Fun Ret FinOK LoopI LoopW EndW HR vs2 RN Cnd H4
theorem zhn (lets : List Let) (shs : List Bool) (m n : Nat) (e : Exp) (c : Code) (q nx : Nat) (hm : m < nx) (hq : q < nx) (hmq : m ≠ q) (hl : 2000 < c.length) : RetX Tryz.prog 36 [.ptr m 0, .u (.int .i64 n), zce e] [(m, cOb lets shs q c), (q, kOb c)] nx
  fun r o n' => r = .val (.tup []) /\ o = [(m, cOb lets shs nx c), (nx, kOb c)] /\ n' = nx + 1 := by
 have hne := nef hm;have hne2 := nef hq;have hm1 : m < nx + 1 := by omega
 have hp := zaP c;simp only [zce];refine RetX.runW Tryz.func36 Tryz.ntmps36 rfl (by simp) fun Γ hn hpan => ?_
 repeat' (first
  | (refine Cnd.of (fun hc => ?_) (fun hc => ?_) <;> (try (exfalso; omega)) <;> (try simp [hne, hne2, hmq, Ne.symm hmq, Nat.add_assoc, del, hl, cOb]))
  | (refine zaf rfl ?_; simp [hne, hne2, hmq, Ne.symm hmq, Nat.add_assoc, del, hl, cOb])
  | fail)
 refine EndW.wk { n := _, env := [], obs := [(m, cOb lets shs nx c), (nx, kOb c)], next := nx + 1 } (Wk.ren ((fun i => if i = nx then q else i)) rfl (by first | (simp [hn]; done) | (intro i hi; rw [hn] at hi; constructor <;> (try simp) <;> (try (intro _)) <;> omega)) (by simp [zee, St.lp, zaA, zaa, getK, zac, zad, D.under, D.le, D.ren, hne, hne2, hmq, Ne.symm hmq, hm1, hp, cOb, kOb, zaz] <;> (try (intros; simp_all; done)) <;> (try omega)) (by simp [wkR, St.lp, zaa, getK, zac, zad, obR, leU, zaN, zan, Ob.under, D.under, D.le, D.ren, hne, hne2, hmq, Ne.symm hmq, hm1, hp, cOb, kOb, zaz] <;> (try (intros; simp_all; done)) <;> (try omega)) (by simp [hne, hne2, hmq, Ne.symm hmq, hm1, hp, cOb, kOb, zaz])) ?_
 (refine EndW.h Tryz.results36 ?_; simp)
theorem ztg {lets shs m n e} (h0 : e.op = 0) : ExpX lets shs m n e (fun c => if 2000 < c.length then c else zcg c ⟨0, e.n, []⟩) := by
 intro c q nx hm hq hmq hl;have hne := nef hm;have hne2 := nef hq;have hm1 : m < nx + 1 := by omega
 simp only;by_cases hg : 2000 < c.length
 ·rw [if_pos hg]; exact zhn lets shs m n e c q nx hm hq hmq hg
 rw [if_neg hg];have hp := zaP (zcg c ⟨0, e.n, []⟩);have a1 := zf4 lets shs c ⟨0, e.n, []⟩ m q (nx + 1) (by omega) (by omega) hmq (by omega);generalize zcg c ⟨0, e.n, []⟩ = c1 at *;simp only [zce];refine RetX.runW Tryz.func36 Tryz.ntmps36 rfl (by simp) fun Γ hn hpan => ?_
 repeat' (first
  | (refine Cnd.of (fun hc => ?_) (fun hc => ?_) <;> (try (exfalso; omega)) <;> (try simp [hne, hne2, hmq, Ne.symm hmq, Nat.add_assoc, del, hg, h0, cOb]))
  | (refine zaf rfl ?_; simp [hne, hne2, hmq, Ne.symm hmq, Nat.add_assoc, del, hg, h0, cOb])
  | (refine CallP.okL (a1) (by first | (simp [hne, hne2, hmq, Ne.symm hmq, Nat.add_assoc, del, hg, h0, cOb, zaa, getK, zab, zac, zad, zai, del]; done) | fail) (by rfl) (by first | assumption | (simp; done) | fail) (by rfl) (by simp) ?_; (try simp [hne, hne2, hmq, Ne.symm hmq, Nat.add_assoc, del, hg, h0, cOb, zcx, del]))
  | fail)
 refine EndW.wk { n := _, env := [], obs := [(m, cOb lets shs nx c1), (nx, kOb c1)], next := nx + 1 } (Wk.ren ((fun i => if i = nx then nx + 1 else i)) rfl (by first | (simp [hn]; done) | (intro i hi; rw [hn] at hi; constructor <;> (try simp) <;> (try (intro _)) <;> omega)) (by simp [zee, St.lp, zaA, zaa, getK, zac, zad, D.under, D.le, D.ren, hne, hne2, hmq, Ne.symm hmq, hm1, hp, cOb, kOb, zaz] <;> (try (intros; simp_all; done)) <;> (try omega)) (by simp [wkR, St.lp, zaa, getK, zac, zad, obR, leU, zaN, zan, Ob.under, D.under, D.le, D.ren, hne, hne2, hmq, Ne.symm hmq, hm1, hp, cOb, kOb, zaz] <;> (try (intros; simp_all; done)) <;> (try omega)) (by simp [hne, hne2, hmq, Ne.symm hmq, hm1, hp, cOb, kOb, zaz])) ?_
 (refine EndW.h Tryz.results36 ?_; simp)
theorem zrB (lets : List Let) (shs : List Bool) (m n : Nat) (e : Exp) (h0 : e.op = 1) (hn' : n <= lets.length) (hn2 : n <= 1000) (hB : ∀ i l, i < n -> lets[i]? = some l -> ∃ F, ExpX lets shs m i l.body F /\ F = zf9 (nmC lets (shF lets) i) (shF lets i) l.body) :
  ExpX lets shs m n e (fun c => if 2000 < c.length then c else nmC lets (shF lets) n e.s c) := by
 intro c q nx hm hq hmq hl;have hne := nef hm;have hne2 := nef hq;have hm1 : m < nx + 1 := by omega
 simp only;by_cases hg : 2000 < c.length
 ·rw [if_pos hg]; exact zhn lets shs m n e c q nx hm hq hmq hg
 rw [if_neg hg];have hlet := znc lets (zaE shs) (Vm.inss c) n e.s hn' hn2;have e1 := zbL c;have e2 := zfg c;have e3 := zdQ c;rw [zmM e.s hn'];cases hi : zfH lets n e.s with
 | none =>
  simp only;rw [hi] at hlet;have hp := zaP (zcg c ⟨1, 0, e.s⟩);have a1 := zf4 lets shs c ⟨1, 0, e.s⟩ m q (nx + 1) (by omega) (by omega) hmq (by omega);generalize zcg c ⟨1, 0, e.s⟩ = c1 at *;simp only [ixO, zaE, zaz, Vm.inss] at hlet a1 ⊢;simp only [zce];refine RetX.runW Tryz.func36 Tryz.ntmps36 rfl (by simp) fun Γ hn hpan => ?_
  repeat' (first
  | (refine Cnd.of (fun hc => ?_) (fun hc => ?_) <;> (try (exfalso; omega)) <;> (try simp [hne, hne2, hmq, Ne.symm hmq, Nat.add_assoc, del, hg, h0, cOb, kOb, zaE, zaz, e1, e2, e3]))
  | (refine zaf rfl ?_; simp [hne, hne2, hmq, Ne.symm hmq, Nat.add_assoc, del, hg, h0, cOb, kOb, zaE, zaz, e1, e2, e3])
  | (refine CallP.f2 rfl (hlet) (by first | simp [hne, hne2, hmq, Ne.symm hmq, Nat.add_assoc, del, hg, h0, cOb, kOb, zaE, zaz, e1, e2, e3] <;> rfl | fail) ?_; simp [hne, hne2, hmq, Ne.symm hmq, Nat.add_assoc, del, hg, h0, cOb, kOb, zaE, zaz, e1, e2, e3])
  | (refine CallP.okL (a1) (by first | (simp [hne, hne2, hmq, Ne.symm hmq, Nat.add_assoc, del, hg, h0, cOb, kOb, zaE, zaz, e1, e2, e3, zaa, getK, zab, zac, zad, zai, del]; done) | fail) (by rfl) (by first | assumption | (simp; done) | fail) (by rfl) (by simp) ?_; (try simp [hne, hne2, hmq, Ne.symm hmq, Nat.add_assoc, del, hg, h0, cOb, kOb, zaE, zaz, e1, e2, e3, zcx, del]))
  | fail)
  refine EndW.wk { n := _, env := [], obs := [(m, cOb lets shs nx c1), (nx, kOb c1)], next := nx + 1 } (Wk.ren ((fun i => if i = nx then nx + 1 else i)) rfl (by first | (simp [hn]; done) | (intro i hi; rw [hn] at hi; constructor <;> (try simp) <;> (try (intro _)) <;> omega)) (by simp [zee, St.lp, zaA, zaa, getK, zac, zad, D.under, D.le, D.ren, hne, hne2, hmq, Ne.symm hmq, hm1, hp, cOb, kOb, zaz, zaE] <;> (try (intros; simp_all; done)) <;> (try omega)) (by simp [wkR, St.lp, zaa, getK, zac, zad, obR, leU, zaN, zan, Ob.under, D.under, D.le, D.ren, hne, hne2, hmq, Ne.symm hmq, hm1, hp, cOb, kOb, zaz, zaE] <;> (try (intros; simp_all; done)) <;> (try omega)) (by simp [hne, hne2, hmq, Ne.symm hmq, hm1, hp, cOb, kOb, zaz, zaE])) ?_
  (refine EndW.h Tryz.results36 ?_; simp)
  all_goals simp [zaz, zaE]
 | some i =>
  obtain ⟨w1, l, w2, w3⟩ := zgD hi;obtain ⟨F, hF, hFe⟩ := hB i l w1 w2;simp only [w2];rw [<- hFe];rw [hi] at hlet;have hp := zaP (F c);have a1 := hF c q (nx + 1) (by omega) (by omega) hmq (by omega);generalize F c = c1 at *;have hi0 : ¬ (i : Int) < 0 := by omega
  have hil : i < lets.length := by omega
  simp only [ixO, zaE, zaz, Vm.inss] at hlet;simp only [zce, zaz, zaE] at a1 ⊢;refine RetX.runW Tryz.func36 Tryz.ntmps36 rfl (by simp) fun Γ hn hpan => ?_
  repeat' (first
  | (refine Cnd.of (fun hc => ?_) (fun hc => ?_) <;> (try (exfalso; omega)) <;> (try simp [hne, hne2, hmq, Ne.symm hmq, Nat.add_assoc, del, hg, h0, cOb, kOb, zaE, zaz, e1, e2, e3, w2, hi0]))
  | (refine zaf rfl ?_; simp [hne, hne2, hmq, Ne.symm hmq, Nat.add_assoc, del, hg, h0, cOb, kOb, zaE, zaz, e1, e2, e3, w2, hi0])
  | (refine CallP.f2 rfl (hlet) (by first | simp [hne, hne2, hmq, Ne.symm hmq, Nat.add_assoc, del, hg, h0, cOb, kOb, zaE, zaz, e1, e2, e3, w2, hi0] <;> rfl | fail) ?_; simp [hne, hne2, hmq, Ne.symm hmq, Nat.add_assoc, del, hg, h0, cOb, kOb, zaE, zaz, e1, e2, e3, w2, hi0])
  | (refine CallP.okL (a1) (by first | (simp [hne, hne2, hmq, Ne.symm hmq, Nat.add_assoc, del, hg, h0, cOb, kOb, zaE, zaz, e1, e2, e3, w2, hi0, zaa, getK, zab, zac, zad, zai, del]; done) | fail) (by rfl) (by first | assumption | (simp; done) | fail) (by rfl) (by simp) ?_; (try simp [hne, hne2, hmq, Ne.symm hmq, Nat.add_assoc, del, hg, h0, cOb, kOb, zaE, zaz, e1, e2, e3, w2, hi0, zcx, del]))
  | fail)
  refine EndW.wk { n := _, env := [], obs := [(m, cOb lets shs nx c1), (nx, kOb c1)], next := nx + 1 } (Wk.ren ((fun i => if i = nx then nx + 1 else i)) rfl (by first | (simp [hn]; done) | (intro i hi; rw [hn] at hi; constructor <;> (try simp) <;> (try (intro _)) <;> omega)) (by simp [zee, St.lp, zaA, zaa, getK, zac, zad, D.under, D.le, D.ren, hne, hne2, hmq, Ne.symm hmq, hm1, hp, cOb, kOb, zaz, zaE] <;> (try (intros; simp_all; done)) <;> (try omega)) (by simp [wkR, St.lp, zaa, getK, zac, zad, obR, leU, zaN, zan, Ob.under, D.under, D.le, D.ren, hne, hne2, hmq, Ne.symm hmq, hm1, hp, cOb, kOb, zaz, zaE] <;> (try (intros; simp_all; done)) <;> (try omega)) (by simp [hne, hne2, hmq, Ne.symm hmq, hm1, hp, cOb, kOb, zaz, zaE])) ?_
  (refine EndW.h Tryz.results36 ?_; simp)
  all_goals simp [zaz, zaE]
theorem zgI {lets shs m n e F} (h0 : e.op = 10 \/ e.op = 11 \/ e.op = 13) (hF : zuY lets shs m n e F) : ExpX lets shs m n e (fun c => if 2000 < c.length then c else F c) := by
 intro c q nx hm hq hmq hl;have hne := nef hm;have hne2 := nef hq;have hm1 : m < nx + 1 := by omega
 simp only;by_cases hg : 2000 < c.length
 ·rw [if_pos hg]; exact zhn lets shs m n e c q nx hm hq hmq hg
 rw [if_neg hg];have hp := zaP (F c);have a1 := hF c q (nx + 1) (by omega) (by omega) hmq (by omega);generalize F c = c1 at *;simp only [zce] at a1 ⊢;rcases h0 with h0 | h0 | h0
 all_goals
  rw [h0] at a1;refine RetX.runW Tryz.func36 Tryz.ntmps36 rfl (by simp) fun Γ hn hpan => ?_
  repeat' (first
  | (refine Cnd.of (fun hc => ?_) (fun hc => ?_) <;> (try (exfalso; omega)) <;> (try simp [hne, hne2, hmq, Ne.symm hmq, Nat.add_assoc, del, hg, h0, cOb]))
  | (refine zaf rfl ?_; simp [hne, hne2, hmq, Ne.symm hmq, Nat.add_assoc, del, hg, h0, cOb])
  | (refine CallP.okL (a1) (by first | (simp [hne, hne2, hmq, Ne.symm hmq, Nat.add_assoc, del, hg, h0, cOb, zaa, getK, zab, zac, zad, zai, del]; done) | fail) (by rfl) (by first | assumption | (simp; done) | fail) (by rfl) (by simp) ?_; (try simp [hne, hne2, hmq, Ne.symm hmq, Nat.add_assoc, del, hg, h0, cOb, zcx, del]))
  | fail)
  refine EndW.wk { n := _, env := [], obs := [(m, cOb lets shs nx c1), (nx, kOb c1)], next := nx + 1 } (Wk.ren ((fun i => if i = nx then nx + 1 else i)) rfl (by first | (simp [hn]; done) | (intro i hi; rw [hn] at hi; constructor <;> (try simp) <;> (try (intro _)) <;> omega)) (by simp [zee, St.lp, zaA, zaa, getK, zac, zad, D.under, D.le, D.ren, hne, hne2, hmq, Ne.symm hmq, hm1, hp, cOb, kOb, zaz] <;> (try (intros; simp_all; done)) <;> (try omega)) (by simp [wkR, St.lp, zaa, getK, zac, zad, obR, leU, zaN, zan, Ob.under, D.under, D.le, D.ren, hne, hne2, hmq, Ne.symm hmq, hm1, hp, cOb, kOb, zaz] <;> (try (intros; simp_all; done)) <;> (try omega)) (by simp [hne, hne2, hmq, Ne.symm hmq, hm1, hp, cOb, kOb, zaz])) ?_
  (refine EndW.h Tryz.results36 ?_; simp)
theorem zk7 {nm sh} {x : Exp} : ∀ {l : List Exp} {i : Nat} (c : Code), l[i]? = some x -> zgq nm sh (l.take (i + 1)) c = zf9 nm sh x (zgq nm sh (l.take i) c)
 | [], _, _, h => by simp at h
 | a :: l, 0, c, h => by simp at h; subst h; simp [zgq]
 | a :: l, i + 1, c, h => by
  rw [List.take_succ_cons, List.take_succ_cons, zgq, zgq];exact zk7 (l := l) _ (by simpa using h)
theorem zpX (lets : List Let) (m n d : Nat) (e : Exp) (ho : 2 <= e.op /\ e.op <= 9 \/ e.op = 12) (hn' : n <= lets.length) (hn2 : n <= 1000) (hr : ∀ l ∈ lets, zaL 12 l.body = true) (hll : lets.length <= 20) (he : zaL (d + 1) e = true) (hd : d <= 11)
  (hE : ∀ x ∈ e.args, ExpX lets (zdw lets lets.length) m n x (zf9 (nmC lets (shF lets) n) (shF lets n) x)) :
  ExpX lets (zdw lets lets.length) m n e (fun c => if 2000 < c.length then c else zcg (zgq (nmC lets (shF lets) n) (shF lets n) e.args c) ⟨zbl (shF lets n) e.op e.args, 0, []⟩) := by
 intro c q nx hm hq hmq hl;have hne := nef hm;have hne2 := nef hq;have hm1 : m < nx + 1 := by omega
 simp only;by_cases hg : 2000 < c.length
 ·rw [if_pos hg]; exact zhn lets _ m n e c q nx hm hq hmq hg
 rw [if_neg hg];have hlen3 : e.args.length <= 3 := by
  have h1 := (zdf he).1;unfold zaO at h1
  repeat' split at h1
  all_goals omega
 have hpl := fun z => zpc lets (zdw lets lets.length) z n hn' (by rw [zfp (Nat.le_refl _)]; exact hn') hn2 d e he ho;rw [znL hr hll hn' (Nat.le_refl _) he hd (by omega) (by omega)] at hpl;have hcap : ∀ i, (zgq (nmC lets (shF lets) n) (shF lets n) (e.args.take i) c).length <= 2001 := fun i => zjK (zhN n) _ c hl;have hall : zgq (nmC lets (shF lets) n) (shF lets n) (e.args.take e.args.length) c = zgq (nmC lets (shF lets) n) (shF lets n) e.args c := by rw [List.take_length]
 have hz : zgq (nmC lets (shF lets) n) (shF lets n) (e.args.take 0) c = c := by rw [List.take_zero, zgq]
 have hsn : ∀ i x, e.args[i]? = some x -> zgq (nmC lets (shF lets) n) (shF lets n) (e.args.take (i + 1)) c = zf9 (nmC lets (shF lets) n) (shF lets n) x (zgq (nmC lets (shF lets) n) (shF lets n) (e.args.take i) c) := fun i x h => zk7 c h;rw [<- hall];generalize zbl (shF lets n) e.op e.args = po at *;generalize hCi : (fun i => zgq (nmC lets (shF lets) n) (shF lets n) (e.args.take i) c) = Ci at *;have hCi' : ∀ i, zgq (nmC lets (shF lets) n) (shF lets n) (e.args.take i) c = Ci i := fun i => by rw [<- hCi]
 simp only [hCi'] at hcap hsn hz ⊢;generalize zdw lets lets.length = shs at *;have hp := zaP (zcg (Ci e.args.length) ⟨po, 0, []⟩);have hmb : m < nx + 1 + 1 := by omega
 have hop0 : ¬ e.op = 0 /\ ¬ e.op = 1 /\ ¬ e.op = 10 /\ ¬ e.op = 11 /\ ¬ e.op = 13 := by omega
 obtain ⟨o1, o2, o3, o4, o5⟩ := hop0;simp only [zce, zaz, zaE] at hpl ⊢;refine RetX.runW Tryz.func36 Tryz.ntmps36 rfl (by simp) fun Γ hn hpan => ?_
 repeat' (first
  | (refine Cnd.of (fun hc => ?_) (fun hc => ?_) <;> (try (exfalso; omega)) <;> (try simp [hne, hne2, hmq, Ne.symm hmq, Nat.add_assoc, del, hg, cOb, o1, o2, o3, o4, o5]))
  | (refine zaf rfl ?_; simp [hne, hne2, hmq, Ne.symm hmq, Nat.add_assoc, del, hg, cOb, o1, o2, o3, o4, o5])
  | fail)
 refine zb8 (α := { i : Nat // i <= e.args.length }) [0, 1, 5, 18, 19] (fun i => [(20, .u (.int .i64 i.1))])
  (fun i => [(nx, .box [.u (.int .i64 e.op), .u (.int .i64 e.n), .u (.int .i64 e.unit), .u (.str e.s), .u (.sl (e.args.map Exp.row))]), (m, cOb lets shs (nx + 1) (Ci i.1)), (nx + 1, kOb (Ci i.1))]) (nx + 2) (fun i => e.args.length - i.1) ⟨0, by omega⟩ ?_ ?_
 ·have hp0 := zaP (Ci 0);rw [hz] at hp0;simp only [hz];exact (Wk.ren ((fun i => if i = nx + 1 then q else i)) rfl (by first | (simp [hn]; done) | (intro i hi; rw [hn] at hi; constructor <;> (try simp) <;> (try (intro _)) <;> omega)) (by simp [zee, St.lp, zaA, zaa, getK, zac, zad, D.under, D.le, D.ren, hne, hne2, hmq, Ne.symm hmq, hmb, hp0, cOb, kOb, zaz, zaE] <;> (try (intros; simp_all; done)) <;> (try omega)) (by simp [wkR, St.lp, zaa, getK, zac, zad, obR, leU, zaN, zan, Ob.under, D.under, D.le, D.ren, hne, hne2, hmq, Ne.symm hmq, hmb, hp0, cOb, kOb, zaz, zaE] <;> (try (intros; simp_all; done)) <;> (try omega)) (by simp [hne, hne2, hmq, Ne.symm hmq, hmb, hp0, cOb, kOb, zaz, zaE]))
 rintro ⟨i, hi⟩;simp;by_cases hil : i < e.args.length
 ·have hx : e.args[i]? = some e.args[i] := List.getElem?_eq_getElem hil;have hmem := List.mem_of_getElem? hx;have hs1 := hsn i _ hx;have a1 := hE _ hmem (Ci i) (nx + 1) (nx + 3) (by omega) (by omega) (by omega) (hcap i);rw [<- hs1] at a1;have hp1 := zaP (Ci (i + 1));generalize e.args[i] = x at *;have hxr := x.row_eq;simp only [zce] at a1
  repeat' (first
  | (refine Cnd.of (fun hc => ?_) (fun hc => ?_) <;> (try (exfalso; omega)) <;> (try simp [hne, hne2, hmq, Ne.symm hmq, Nat.add_assoc, del, cOb, hx, hxr]))
  | (refine zaf rfl ?_; simp [hne, hne2, hmq, Ne.symm hmq, Nat.add_assoc, del, cOb, hx, hxr])
  | (refine And.intro (by omega) ?_)
  | (refine CallP.okL (a1) (by first | (simp [hne, hne2, hmq, Ne.symm hmq, Nat.add_assoc, del, cOb, hx, hxr, zaa, getK, zab, zac, zad, zai, del]; done) | fail) (by rfl) (by first | assumption | (simp; done) | fail) (by rfl) (by simp) ?_; (try simp [hne, hne2, hmq, Ne.symm hmq, Nat.add_assoc, del, cOb, hx, hxr, zcx, del]))
  | fail)
  refine LoopW.next ⟨i + 1, by omega⟩ (by simp; omega) ?_
  exact (Wk.ren ((fun i => if i = nx + 1 then nx + 3 else i)) rfl (by first | (simp [hn]; done) | (intro i hi; rw [hn] at hi; constructor <;> (try simp) <;> (try (intro _)) <;> omega)) (by simp [zee, St.lp, zaA, zaa, getK, zac, zad, D.under, D.le, D.ren, hne, hne2, hmq, Ne.symm hmq, hmb, hp1, cOb, kOb, zaz, zaE] <;> (try (intros; simp_all; done)) <;> (try omega)) (by simp [wkR, St.lp, zaa, getK, zac, zad, obR, leU, zaN, zan, Ob.under, D.under, D.le, D.ren, hne, hne2, hmq, Ne.symm hmq, hmb, hp1, cOb, kOb, zaz, zaE] <;> (try (intros; simp_all; done)) <;> (try omega)) (by simp [hne, hne2, hmq, Ne.symm hmq, hmb, hp1, cOb, kOb, zaz, zaE]))
 obtain rfl : i = e.args.length := by omega
 have e1 := zbL (Ci e.args.length);have e2 := zfg (Ci e.args.length);have e3 := zdQ (Ci e.args.length);have h5 := hpl (Vm.inss (Ci e.args.length));have a2 := zf4 lets shs (Ci e.args.length) ⟨po, 0, []⟩ m (nx + 1) (nx + 2) (by omega) (by omega) (by omega) (by have := hcap e.args.length; omega);generalize zcg (Ci e.args.length) ⟨po, 0, []⟩ = c2 at *;generalize Ci e.args.length = c1 at *;simp only [Vm.inss, zaz, zaE] at h5 a2
 repeat' (first
  | (refine zaf rfl ?_; simp [hne, hne2, hmq, Ne.symm hmq, Nat.add_assoc, del, cOb, kOb, zaz, zaE, e1, e2, e3])
  | (refine CallP.f2 rfl (h5) (by first | simp [hne, hne2, hmq, Ne.symm hmq, Nat.add_assoc, del, cOb, kOb, zaz, zaE, e1, e2, e3] <;> rfl | fail) ?_; simp [hne, hne2, hmq, Ne.symm hmq, Nat.add_assoc, del, cOb, kOb, zaz, zaE, e1, e2, e3])
  | (refine CallP.okL (a2) (by first | (simp [hne, hne2, hmq, Ne.symm hmq, Nat.add_assoc, del, cOb, kOb, zaz, zaE, e1, e2, e3, zaa, getK, zab, zac, zad, zai, del]; done) | fail) (by rfl) (by first | assumption | (simp; done) | fail) (by rfl) (by simp) ?_; (try simp [hne, hne2, hmq, Ne.symm hmq, Nat.add_assoc, del, cOb, kOb, zaz, zaE, e1, e2, e3, zcx, del]))
  | fail)
 refine EndW.wk { n := _, env := [], obs := [(m, cOb lets shs nx c2), (nx, kOb c2)], next := nx + 1 } (Wk.ren ((fun i => if i = nx then nx + 2 else i)) rfl (by first | (simp [hn]; done) | (intro i hi; rw [hn] at hi; constructor <;> (try simp) <;> (try (intro _)) <;> omega)) (by simp [zee, St.lp, zaA, zaa, getK, zac, zad, D.under, D.le, D.ren, hne, hne2, hmq, Ne.symm hmq, hm1, hp, cOb, kOb, zaz, zaE] <;> (try (intros; simp_all; done)) <;> (try omega)) (by simp [wkR, St.lp, zaa, getK, zac, zad, obR, leU, zaN, zan, Ob.under, D.under, D.le, D.ren, hne, hne2, hmq, Ne.symm hmq, hm1, hp, cOb, kOb, zaz, zaE] <;> (try (intros; simp_all; done)) <;> (try omega)) (by simp [hne, hne2, hmq, Ne.symm hmq, hm1, hp, cOb, kOb, zaz, zaE])) ?_
 (refine EndW.h Tryz.results36 ?_; simp)
 all_goals simp [zaz, zaE]
theorem zkE {l : List Tok} (hl : TokOK l) {f p : Nat} {t : Tok} (ht : l[p]? = some t) (hk : ¬ t.kind = 2) (h1 : isB l p [116, 114, 117, 101] = false) (h2 : isB l p [102, 97, 108, 115, 101] = false)
  (h3 : isB l p [109, 105, 110] = false) (h4 : isB l p [109, 97, 120] = false) (h5 : isB l p [40] = false) {i nx : Nat} (hi : i < nx) :
  RetX Tryz.prog 170 [.ptr i 0] [(i, pOb l p)] nx (PPost l i nx zpZ (zbi l (f + 1) p)) := by
 have hne := zbm hi;have hp := (List.getElem?_eq_some_iff.1 ht).1;have hnx := zdA l p t ht hl.len;have hll := hl.len;rw [zbi, ht];have hh1 := fun nx' (h : nx <= nx') => zcr l p [116, 114, 117, 101] i nx' (by omega) hp hl.len;have hh2 := fun nx' (h : nx <= nx') => zcr l p [102, 97, 108, 115, 101] i nx' (by omega) hp hl.len;have hm1 := zg0 l p [109, 105, 110] hp hl.len;have hm2 := zg0 l p [109, 97, 120] hp hl.len;have hh3 := fun nx' (h : nx <= nx') => zcr l p [40] i nx' (by omega) hp hl.len;have hnm := zjy t.text;have hc1 := fun nx' (h : nx <= nx') => zhp l p 12 i nx' (by omega);have hc2 := fun nx' (h : nx <= nx') => zgi l p t 12 i nx' (by omega) ht hl.len;simp only [hk, h1, h2, h3, h4, h5, if_false, if_true, Bool.false_eq_true, or_self] at hh1 hh2 hm1 hm2 hh3 ⊢;by_cases hw : t.kind = 1
 ·cases hb : zfa t.text with
  | true =>
   simp only [hb, hw, and_self, if_true] at hnm ⊢;refine RetX.runW Tryz.func170 Tryz.ntmps170 rfl (by simp) fun Γ hn hpan => ?_
   repeat' (first
  | (refine zaf rfl ?_; simp [hne, hk, hw, del, Nat.add_assoc])
  | (refine And.intro (by omega) ?_)
  | ((first | refine CallP.f2 rfl (hnx) (by first | simp [hne, hk, hw, del, Nat.add_assoc] <;> rfl | fail) ?_ | refine CallP.f2 rfl (hm1) (by first | simp [hne, hk, hw, del, Nat.add_assoc] <;> rfl | fail) ?_ | refine CallP.f2 rfl (hm2) (by first | simp [hne, hk, hw, del, Nat.add_assoc] <;> rfl | fail) ?_ | refine CallP.f2 rfl (hnm) (by first | simp [hne, hk, hw, del, Nat.add_assoc] <;> rfl | fail) ?_ | fail); simp [hne, hk, hw, del, Nat.add_assoc])
  | (refine CallP.ok1 (hh1 _ (by first | omega | (simp; done) | (simp; omega) | fail)) (by first | (simp [hne, hk, hw, del, Nat.add_assoc, zaa, getK, zab, zac]; done) | fail) (by rfl) (by first | assumption | (simp; done) | fail) (by rfl) (by simp) ?_; (try simp [hne, hk, hw, del, Nat.add_assoc]))
  | (refine CallP.ok1 (hh2 _ (by first | omega | (simp; done) | (simp; omega) | fail)) (by first | (simp [hne, hk, hw, del, Nat.add_assoc, zaa, getK, zab, zac]; done) | fail) (by rfl) (by first | assumption | (simp; done) | fail) (by rfl) (by simp) ?_; (try simp [hne, hk, hw, del, Nat.add_assoc]))
  | (refine CallP.ok1 (hh3 _ (by first | omega | (simp; done) | (simp; omega) | fail)) (by first | (simp [hne, hk, hw, del, Nat.add_assoc, zaa, getK, zab, zac]; done) | fail) (by rfl) (by first | assumption | (simp; done) | fail) (by rfl) (by simp) ?_; (try simp [hne, hk, hw, del, Nat.add_assoc]))
  | (refine CallP.ok1 (hc1 _ (by first | omega | (simp; done) | (simp; omega) | fail)) (by first | (simp [hne, hk, hw, del, Nat.add_assoc, zaa, getK, zab, zac]; done) | fail) (by rfl) (by first | assumption | (simp; done) | fail) (by rfl) (by simp) ?_; (try simp [hne, hk, hw, del, Nat.add_assoc]))
  | fail)
   refine EndW.norm ?_;simp [St.norm, zaV, zbt, zbP, zbQ, hne]
   (refine EndW.z ([(i, pOb l (p + 1))]) (N := nx) Tryz.results170 (by simp [hne, hi] <;> omega) ?_; simp [hne, hi])
   exact PPost.zeE rfl (by simp [Exp.row]) rfl
  | false =>
   simp only [hb, hw, Bool.false_eq_true, and_false, if_false] at hnm ⊢;refine RetX.runW Tryz.func170 Tryz.ntmps170 rfl (by simp) fun Γ hn hpan => ?_
   repeat' (first
  | (refine zaf rfl ?_; simp [hne, hk, hw, del, Nat.add_assoc])
  | ((first | refine CallP.f2 rfl (hnx) (by first | simp [hne, hk, hw, del, Nat.add_assoc] <;> rfl | fail) ?_ | refine CallP.f2 rfl (hm1) (by first | simp [hne, hk, hw, del, Nat.add_assoc] <;> rfl | fail) ?_ | refine CallP.f2 rfl (hm2) (by first | simp [hne, hk, hw, del, Nat.add_assoc] <;> rfl | fail) ?_ | refine CallP.f2 rfl (hnm) (by first | simp [hne, hk, hw, del, Nat.add_assoc] <;> rfl | fail) ?_ | fail); simp [hne, hk, hw, del, Nat.add_assoc])
  | (refine CallP.ok1 (hh1 _ (by first | omega | (simp; done) | (simp; omega) | fail)) (by first | (simp [hne, hk, hw, del, Nat.add_assoc, zaa, getK, zab, zac]; done) | fail) (by rfl) (by first | assumption | (simp; done) | fail) (by rfl) (by simp) ?_; (try simp [hne, hk, hw, del, Nat.add_assoc]))
  | (refine CallP.ok1 (hh2 _ (by first | omega | (simp; done) | (simp; omega) | fail)) (by first | (simp [hne, hk, hw, del, Nat.add_assoc, zaa, getK, zab, zac]; done) | fail) (by rfl) (by first | assumption | (simp; done) | fail) (by rfl) (by simp) ?_; (try simp [hne, hk, hw, del, Nat.add_assoc]))
  | (refine CallP.ok1 (hh3 _ (by first | omega | (simp; done) | (simp; omega) | fail)) (by first | (simp [hne, hk, hw, del, Nat.add_assoc, zaa, getK, zab, zac]; done) | fail) (by rfl) (by first | assumption | (simp; done) | fail) (by rfl) (by simp) ?_; (try simp [hne, hk, hw, del, Nat.add_assoc]))
  | (refine CallP.zht (hc2 _ (by first | omega | (simp; done) | (simp; omega) | fail)) (by first | (simp [hne, hk, hw, del, Nat.add_assoc, zaa, getK, zab, zac]; done) | fail) (by rfl) (by first | assumption | (simp; done) | fail) (by rfl) (by simp) ?_; rintro ob' ⟨q', rfl⟩; refine ⟨_, Wk.refl _, ?_⟩)
  | fail)
   (refine hpan _ _ (PanG.k ([(i, pOb l q')]) (nx) (by simp [hn, hi, hne, zab, zac, zaa, getK] <;> omega) ?_); try simp)
   exact PPost.zcd rfl
 ·simp only [hw, false_and, if_false];refine RetX.runW Tryz.func170 Tryz.ntmps170 rfl (by simp) fun Γ hn hpan => ?_
  repeat' (first
  | (refine zaf rfl ?_; simp [hne, hk, hw, del, Nat.add_assoc])
  | ((first | refine CallP.f2 rfl (hnx) (by first | simp [hne, hk, hw, del, Nat.add_assoc] <;> rfl | fail) ?_ | refine CallP.f2 rfl (hm1) (by first | simp [hne, hk, hw, del, Nat.add_assoc] <;> rfl | fail) ?_ | refine CallP.f2 rfl (hm2) (by first | simp [hne, hk, hw, del, Nat.add_assoc] <;> rfl | fail) ?_ | refine CallP.f2 rfl (hnm) (by first | simp [hne, hk, hw, del, Nat.add_assoc] <;> rfl | fail) ?_ | fail); simp [hne, hk, hw, del, Nat.add_assoc])
  | (refine CallP.ok1 (hh1 _ (by first | omega | (simp; done) | (simp; omega) | fail)) (by first | (simp [hne, hk, hw, del, Nat.add_assoc, zaa, getK, zab, zac]; done) | fail) (by rfl) (by first | assumption | (simp; done) | fail) (by rfl) (by simp) ?_; (try simp [hne, hk, hw, del, Nat.add_assoc]))
  | (refine CallP.ok1 (hh2 _ (by first | omega | (simp; done) | (simp; omega) | fail)) (by first | (simp [hne, hk, hw, del, Nat.add_assoc, zaa, getK, zab, zac]; done) | fail) (by rfl) (by first | assumption | (simp; done) | fail) (by rfl) (by simp) ?_; (try simp [hne, hk, hw, del, Nat.add_assoc]))
  | (refine CallP.ok1 (hh3 _ (by first | omega | (simp; done) | (simp; omega) | fail)) (by first | (simp [hne, hk, hw, del, Nat.add_assoc, zaa, getK, zab, zac]; done) | fail) (by rfl) (by first | assumption | (simp; done) | fail) (by rfl) (by simp) ?_; (try simp [hne, hk, hw, del, Nat.add_assoc]))
  | (refine CallP.zht (hc2 _ (by first | omega | (simp; done) | (simp; omega) | fail)) (by first | (simp [hne, hk, hw, del, Nat.add_assoc, zaa, getK, zab, zac]; done) | fail) (by rfl) (by first | assumption | (simp; done) | fail) (by rfl) (by simp) ?_; rintro ob' ⟨q', rfl⟩; refine ⟨_, Wk.refl _, ?_⟩)
  | fail)
  (refine hpan _ _ (PanG.k ([(i, pOb l q')]) (nx) (by simp [hn, hi, hne, zab, zac, zaa, getK] <;> omega) ?_); try simp)
  exact PPost.zcd rfl
theorem zmV {l : List Tok} {p : Nat} {w : List UInt8} {t : Tok} (ht : l[p]? = some t) (h : isB l p w = true) : t.text = w := by
 unfold isB at h;rw [ht] at h;simp only [Bool.and_eq_true, decide_eq_true_eq] at h;exact h.2
theorem zkD {l : List Tok} (hl : TokOK l) {f : Nat} (hE : zha l f) : zja l (f + 1) := by
 intro p i nx hi hp hf;obtain ⟨t, ht⟩ : ∃ t, l[p]? = some t := ⟨_, List.getElem?_eq_getElem hp⟩;by_cases hk : t.kind = 2
 ·exact zlQ hl ht hk hi
 cases h1 : isB l p [116, 114, 117, 101] with
 | true => exact zkC hl ht hk h1 hi
 | false =>
 cases h2 : isB l p [102, 97, 108, 115, 101] with
 | true => exact zjp hl ht hk h1 h2 hi
 | false =>
 cases h3 : isB l p [109, 105, 110] with
 | true =>
  cases h4 : isB l p [109, 97, 120] with
  | true => exact absurd ((zmV ht h3).symm.trans (zmV ht h4)) (by decide)
  | false => exact zlR hl hE (by omega) ht hk h1 h2 h3 h4 hi
 | false =>
 cases h4 : isB l p [109, 97, 120] with
 | true => exact zlS hl hE (by omega) ht hk h1 h2 h3 h4 hi
 | false =>
 cases h5 : isB l p [40] with
 | true => exact zjo hl hE (by omega) ht hk h1 h2 h3 h4 h5 hi
 | false => exact zkE hl ht hk h1 h2 h3 h4 h5 hi
theorem zud {l : List Tok} {F : FuncId} {r : PR (Exp × Int)} {e : Exp × Int} {q i nx : Nat} {ds : List D} {obs : List (Nat × Ob)} (h : RetX Tryz.prog F ds obs nx (PPost l i nx zkN r)) (hr : r = .ok e q) :
  RetX Tryz.prog F ds obs nx fun r o n => r = .val (.tup [.u (.agg [.int .i64 e.1.op, .int .i64 e.1.n, .int .i64 e.1.unit, .str e.1.s, .sl (e.1.args.map Exp.row)]), .u (.int .i64 e.2)]) /\ o = [(i, pOb l q)] /\ n = nx := by
 subst hr;rw [<- Exp.row_eq];exact h
abbrev zvo (e : Exp) : Ob := .box [.u (.int .i64 e.op), .u (.int .i64 e.n), .u (.int .i64 e.unit), .u (.str e.s), .u (.sl (e.args.map Exp.row))]
theorem zrA {l : List Tok} (hl : TokOK l) {f : Nat} (hE : ∀ g, g < f -> zha l g) (hP : ztQ l f) : zha l (f + 1) := by
 intro p form i nx hi hp hf hm0 hm7;have hne := zbm hi;have hll := hl.len;rw [zfj];have ha := fun nx' (h : nx <= nx') => hP p form i nx' (by omega) hp (by omega) hm0 hm7;have hop := zjt;cases hr0 : zcb l f p form with
 | stop pos e =>
  simp only [hr0] at ha;refine RetX.runW Tryz.func106 Tryz.ntmps106 rfl (by simp) fun Γ hn hpan => ?_
  repeat' (first
  | (refine zaf rfl ?_; simp [hne, del, Nat.add_assoc])
  | (refine CallP.zht (ha _ (by first | omega | (simp; done) | (simp; omega) | fail)) (by first | (simp [hne, del, Nat.add_assoc, zaa, getK, zab, zac]; done) | fail) (by rfl) (by first | assumption | (simp; done) | fail) (by rfl) (by simp) ?_; rintro ob' ⟨q', rfl⟩; refine ⟨_, Wk.refl _, ?_⟩)
  | fail)
  (refine hpan _ _ (PanG.k ([(i, pOb l q')]) (nx) (by simp [hn, hi, hne, zab, zac, zaa, getK] <;> omega) ?_); try simp)
  exact PPost.zcd (by simp [PR.bind, *])
 | ok v0 q0 =>
  have ha := fun nx' h => zud (ha nx' h) hr0;obtain ⟨g0a, g0b⟩ := (zdB hl f).2.2.1 _ _ _ _ hr0 hp;generalize hR : (PR.ok v0 q0).bind (fun e q => zfG l f form e.1 e.2 q) = R;have hR' : R = zfG l f form v0.1 v0.2 q0 := hR.symm;refine RetX.runW Tryz.func106 Tryz.ntmps106 rfl (by simp) fun Γ hn hpan => ?_
  repeat' (first
  | (refine zaf rfl ?_; simp [hne, del, Nat.add_assoc])
  | (refine CallP.ok1 (ha _ (by first | omega | (simp; done) | (simp; omega) | fail)) (by first | (simp [hne, del, Nat.add_assoc, zaa, getK, zab, zac]; done) | fail) (by rfl) (by first | assumption | (simp; done) | fail) (by rfl) (by simp) ?_; (try simp [hne, del, Nat.add_assoc]))
  | fail)
  refine zb8 (α := { x : Exp × Int × Nat × Nat // x.2.2.1 < l.length /\ 4 * (l.length - x.2.2.1) + 2 <= x.2.2.2 /\ x.2.2.2 <= f /\ R = zfG l x.2.2.2 form x.1 x.2.1 x.2.2.1 }) [0, 1, 2, 4, 5] (fun x => [(6, .u (.int .i64 x.1.2.1))])
   (fun x => [(nx + 2, zvo x.1.1), (nx + 1, .box [.u (.int .i64 0), .u (.int .i64 0), .u (.int .i64 0), .u (.str []), .u .nil]), (nx, .box [.ptr i 0]), (i, pOb l x.1.2.2.1)]) (nx + 3) (fun x => x.1.2.2.2) ⟨(v0.1, v0.2, q0, f), g0b, (by show 4 * (l.length - q0) + 2 <= f; omega), (by show f <= f; omega), hR'⟩ ?_ ?_
  ·have hi3 : i < nx + 3 := by omega
   exact (Wk.zda (by simp [hn, hi, hi3, hne] <;> grind))
  rintro ⟨⟨e, own, q, g⟩, h1, h2, h2b, h3⟩;simp only at h1 h2 h2b h3;simp;obtain ⟨g, rfl⟩ : ∃ g', g = g' + 1 := ⟨g - 1, by omega⟩;rw [zfG] at h3;have hix := zn7 l q h1 hl.len;cases hx : zuf l q with
  | none =>
   rw [(zhZ oprs 0).1 hx] at hix;rw [hx] at h3
   repeat' (first
  | (refine zaf rfl ?_; simp [hne, del, Nat.add_assoc])
  | ((first | refine CallP.f2 rfl (hop) (by first | simp [hne, del, Nat.add_assoc] <;> rfl | fail) ?_ | refine CallP.f2 rfl (hix) (by first | simp [hne, del, Nat.add_assoc] <;> rfl | fail) ?_ | fail); simp [hne, del, Nat.add_assoc])
  | fail)
   refine EndW.norm ?_;simp [St.norm, zaV, zbt, zbP, zbQ, hne, Nat.add_assoc]
   (refine EndW.z ([(i, pOb l q)]) (N := nx) Tryz.results106 (by simp [hne, hi] <;> omega) ?_; simp [hne, hi])
   exact PPost.zeE h3 (by simp [Exp.row_eq]) rfl
  | some x =>
   obtain ⟨k, hk1, hk2⟩ := (zhZ oprs 0).2 x hx;rw [hk2] at hix;rw [hx] at h3;simp only at h3;have hqb := zcN hl (by have := List.find?_some (p := fun o : Opr => isB l q o.text) hx; exact this);have hk0 : ¬ ((k : Int) < 0) := by omega
   have hkl : k < 8 := (List.getElem?_eq_some_iff.1 hk1).1;rw [show (0 : Int) + k = (k : Int) by omega] at hix;have hfm : 0 <= x.form /\ x.form <= 6 := by
    have := List.mem_of_getElem? hk1;simp only [oprs, List.mem_cons, List.not_mem_nil, or_false] at this;rcases this with rfl | rfl | rfl | rfl | rfl | rfl | rfl | rfl <;> decide
   obtain ⟨hf0, hf6⟩ := hfm;generalize hL : oprs = L at hop hix hk1;by_cases c1 : x.form < form
   ·rw [if_pos (Or.inl c1)] at h3
    repeat' (first
  | (refine zaf rfl ?_; simp [hne, del, Nat.add_assoc, hk0, hk1, c1])
  | ((first | refine CallP.f2 rfl (hop) (by first | simp [hne, del, Nat.add_assoc, hk0, hk1, c1] <;> rfl | fail) ?_ | refine CallP.f2 rfl (hix) (by first | simp [hne, del, Nat.add_assoc, hk0, hk1, c1] <;> rfl | fail) ?_ | fail); simp [hne, del, Nat.add_assoc, hk0, hk1, c1])
  | fail)
    refine EndW.norm ?_;simp [St.norm, zaV, zbt, zbP, zbQ, hne, Nat.add_assoc]
    (refine EndW.z ([(i, pOb l q)]) (N := nx) Tryz.results106 (by simp [hne, hi] <;> omega) ?_; simp [hne, hi])
    exact PPost.zeE h3 (by simp [Exp.row_eq]) rfl
   ·by_cases c2 : own < x.form
    ·rw [if_pos (Or.inr (Or.inl c2))] at h3
     repeat' (first
  | (refine zaf rfl ?_; simp [hne, del, Nat.add_assoc, hk0, hk1, c1, c2])
  | ((first | refine CallP.f2 rfl (hop) (by first | simp [hne, del, Nat.add_assoc, hk0, hk1, c1, c2] <;> rfl | fail) ?_ | refine CallP.f2 rfl (hix) (by first | simp [hne, del, Nat.add_assoc, hk0, hk1, c1, c2] <;> rfl | fail) ?_ | fail); simp [hne, del, Nat.add_assoc, hk0, hk1, c1, c2])
  | fail)
     refine EndW.norm ?_;simp [St.norm, zaV, zbt, zbP, zbQ, hne, Nat.add_assoc]
     (refine EndW.z ([(i, pOb l q)]) (N := nx) Tryz.results106 (by simp [hne, hi] <;> omega) ?_; simp [hne, hi])
     exact PPost.zeE h3 (by simp [Exp.row_eq]) rfl
    ·by_cases c3 : own = 4 /\ x.form = 4
     ·rw [if_pos (Or.inr (Or.inr c3))] at h3;obtain ⟨c4, c5⟩ := c3
      repeat' (first
  | (refine Cnd.of (fun hc => ?_) (fun hc => ?_) <;> (try (exfalso; omega)) <;> (try simp [hne, del, Nat.add_assoc, hk0, hk1, c1, c2, c4, c5]))
  | (refine zaf rfl ?_; simp [hne, del, Nat.add_assoc, hk0, hk1, c1, c2, c4, c5])
  | ((first | refine CallP.f2 rfl (hop) (by first | simp [hne, del, Nat.add_assoc, hk0, hk1, c1, c2, c4, c5] <;> rfl | fail) ?_ | refine CallP.f2 rfl (hix) (by first | simp [hne, del, Nat.add_assoc, hk0, hk1, c1, c2, c4, c5] <;> rfl | fail) ?_ | fail); simp [hne, del, Nat.add_assoc, hk0, hk1, c1, c2, c4, c5])
  | fail)
      refine EndW.norm ?_;simp [St.norm, zaV, zbt, zbP, zbQ, hne, Nat.add_assoc]
      (refine EndW.z ([(i, pOb l q)]) (N := nx) Tryz.results106 (by simp [hne, hi] <;> omega) ?_; simp [hne, hi])
      exact PPost.zeE h3 (by simp [Exp.row_eq]) rfl
     ·rw [if_neg (by rintro (h | h | h) <;> contradiction)] at h3;have hb := fun nx' (h : nx <= nx') => hE g (by omega) (q + 1) (x.form + 1) i nx' (by omega) hqb (by omega) (by omega) (by omega);cases hr1 : zfj l g (q + 1) (x.form + 1) with
      | stop pos err =>
       simp only [hr1] at hb;rw [hr1] at h3;by_cases c4 : own = 4
       ·have c5 : ¬ x.form = 4 := fun h => c3 ⟨c4, h⟩
        repeat' (first
  | (refine zhr (fun nx' h' => hb nx' (by simp at h'; omega)) (by first | (simp [hne, del, Nat.add_assoc, hk0, hk1, c1, c2, c4, c5, zaa, getK, zab, zac, zad, zai]; done) | fail) (by rfl) (by first | assumption | simp) (by rfl) (by simp) ?_ ?_; rintro env' ob' n' hn' ⟨q', rfl⟩; refine ⟨_, Wk.refl _, ?_⟩)
  | (refine zgp rfl (by simp) ?_; simp)
  | (refine Cnd.of (fun hc => ?_) (fun hc => ?_) <;> (try (exfalso; omega)) <;> (try simp [hne, del, Nat.add_assoc, hk0, hk1, c1, c2, c4, c5]))
  | (refine zaf rfl ?_; simp [hne, del, Nat.add_assoc, hk0, hk1, c1, c2, c4, c5])
  | (refine And.intro (by omega) ?_)
  | (refine zhs (hC _ (zc0 [i] nx (by simp <;> omega) (by simp <;> omega) (by apply Exists.intro; apply And.intro; (focus (repeat' (first | exact KF.nil | exact KL.nil | apply KF.cons | apply KL.cons 0 rfl | apply KL.cons 1 rfl | apply KL.cons 2 rfl | apply KL.cons 3 rfl | apply KL.cons 4 rfl | apply KL.cons 5 rfl | apply KL.cons 6 rfl | apply KL.cons 7 rfl | apply KL.cons 8 rfl | apply KL.cons 9 rfl))); kernel_rfl))) rfl; done)
  | (refine zeH rfl (by kernel_rfl) (by first | (simp [hn]; done) | (simp [hn]; omega) | fail) fun C k hC hk => ?_; simp [hne, del, Nat.add_assoc, hk0, hk1, c1, c2, c4, c5])
  | ((first | refine CallP.f2 rfl (hop) (by first | simp [hne, del, Nat.add_assoc, hk0, hk1, c1, c2, c4, c5] <;> rfl | fail) ?_ | refine CallP.f2 rfl (hix) (by first | simp [hne, del, Nat.add_assoc, hk0, hk1, c1, c2, c4, c5] <;> rfl | fail) ?_ | fail); simp [hne, del, Nat.add_assoc, hk0, hk1, c1, c2, c4, c5])
  | fail)
        (refine hpan _ _ (PanG.k ([(i, pOb l q')]) (nx) (by simp [hn, hi, hne, zab, zac, zaa, getK] <;> omega) ?_); try simp)
        exact PPost.zcd h3
       ·repeat' (first
  | (refine zhr (fun nx' h' => hb nx' (by simp at h'; omega)) (by first | (simp [hne, del, Nat.add_assoc, hk0, hk1, c1, c2, c4, zaa, getK, zab, zac, zad, zai]; done) | fail) (by rfl) (by first | assumption | simp) (by rfl) (by simp) ?_ ?_; rintro env' ob' n' hn' ⟨q', rfl⟩; refine ⟨_, Wk.refl _, ?_⟩)
  | (refine zgp rfl (by simp) ?_; simp)
  | (refine zaf rfl ?_; simp [hne, del, Nat.add_assoc, hk0, hk1, c1, c2, c4])
  | (refine And.intro (by omega) ?_)
  | (refine zhs (hC _ (zc0 [i] nx (by simp <;> omega) (by simp <;> omega) (by apply Exists.intro; apply And.intro; (focus (repeat' (first | exact KF.nil | exact KL.nil | apply KF.cons | apply KL.cons 0 rfl | apply KL.cons 1 rfl | apply KL.cons 2 rfl | apply KL.cons 3 rfl | apply KL.cons 4 rfl | apply KL.cons 5 rfl | apply KL.cons 6 rfl | apply KL.cons 7 rfl | apply KL.cons 8 rfl | apply KL.cons 9 rfl))); kernel_rfl))) rfl; done)
  | (refine zeH rfl (by kernel_rfl) (by first | (simp [hn]; done) | (simp [hn]; omega) | fail) fun C k hC hk => ?_; simp [hne, del, Nat.add_assoc, hk0, hk1, c1, c2, c4])
  | ((first | refine CallP.f2 rfl (hop) (by first | simp [hne, del, Nat.add_assoc, hk0, hk1, c1, c2, c4] <;> rfl | fail) ?_ | refine CallP.f2 rfl (hix) (by first | simp [hne, del, Nat.add_assoc, hk0, hk1, c1, c2, c4] <;> rfl | fail) ?_ | fail); simp [hne, del, Nat.add_assoc, hk0, hk1, c1, c2, c4])
  | fail)
        (refine hpan _ _ (PanG.k ([(i, pOb l q')]) (nx) (by simp [hn, hi, hne, zab, zac, zaa, getK] <;> omega) ?_); try simp)
        exact PPost.zcd h3
      | ok e2 q2 =>
       have hb := fun nx' h => zeC (hb nx' h) hr1;obtain ⟨g1a, g1b⟩ := (zdB hl g).1 _ _ _ _ hr1 hqb;rw [hr1] at h3;by_cases c4 : own = 4
       ·have c5 : ¬ x.form = 4 := fun h => c3 ⟨c4, h⟩
        repeat' (first
  | (refine zj4 (fun nx' h' => hb nx' (by simp at h'; omega)) (by first | (simp [hne, del, Nat.add_assoc, hk0, hk1, c1, c2, c4, c5, zaa, getK, zab, zac, zad, zai]; done) | fail) (by rfl) (by first | assumption | simp) (by rfl) (by simp [D.under, Ob.under]) (by simp) ?_; (try simp [hne, del, Nat.add_assoc, hk0, hk1, c1, c2, c4, c5]))
  | (refine Cnd.of (fun hc => ?_) (fun hc => ?_) <;> (try (exfalso; omega)) <;> (try simp [hne, del, Nat.add_assoc, hk0, hk1, c1, c2, c4, c5]))
  | (refine zaf rfl ?_; simp [hne, del, Nat.add_assoc, hk0, hk1, c1, c2, c4, c5])
  | (refine And.intro (by omega) ?_)
  | (refine ⟨hC _ (zc0 [i] nx (by simp <;> omega) (by simp <;> omega) (by apply Exists.intro; apply And.intro; (focus (repeat' (first | exact KF.nil | exact KL.nil | apply KF.cons | apply KL.cons 0 rfl | apply KL.cons 1 rfl | apply KL.cons 2 rfl | apply KL.cons 3 rfl | apply KL.cons 4 rfl | apply KL.cons 5 rfl | apply KL.cons 6 rfl | apply KL.cons 7 rfl | apply KL.cons 8 rfl | apply KL.cons 9 rfl))); kernel_rfl)), hk _ (zeI 8 _ _ _ ?_)⟩; clear hC hk C k; simp [hne, del, Nat.add_assoc, hk0, hk1, c1, c2, c4, c5])
  | (refine zeH rfl (by kernel_rfl) (by first | (simp [hn]; done) | (simp [hn]; omega) | fail) fun C k hC hk => ?_; simp [hne, del, Nat.add_assoc, hk0, hk1, c1, c2, c4, c5])
  | (refine zd2 rfl ?_; simp [hne, del, Nat.add_assoc, hk0, hk1, c1, c2, c4, c5])
  | ((first | refine CallP.f2 rfl (hop) (by first | simp [hne, del, Nat.add_assoc, hk0, hk1, c1, c2, c4, c5] <;> rfl | fail) ?_ | refine CallP.f2 rfl (hix) (by first | simp [hne, del, Nat.add_assoc, hk0, hk1, c1, c2, c4, c5] <;> rfl | fail) ?_ | fail); simp [hne, del, Nat.add_assoc, hk0, hk1, c1, c2, c4, c5])
  | fail)
        have hi3 : i < nx + 3 := by omega
        refine LoopW.next ⟨(.mk x.op 0 0 [] [e, e2], x.form, q2, g), g1b, (by show 4 * (l.length - q2) + 2 <= g; omega), (by show g <= f; omega), h3⟩ (by show g < g + 1; omega) ?_
        refine Wk.trans (Wk.frzN 1 _) ?_;simp [hne, Nat.add_assoc, frzN, frz1, zaH, zaG, St.frz, St.frzS, frzS, fv, zbh, zbx, zbM, zaI, zar, zal, del, frz, zbN];exact (Wk.zda (by simp [hn, hi, hi3, hne, Exp.row_eq, Exp.op, Exp.n, Exp.unit, Exp.s, Exp.args] <;> grind))
       ·repeat' (first
  | (refine zj4 (fun nx' h' => hb nx' (by simp at h'; omega)) (by first | (simp [hne, del, Nat.add_assoc, hk0, hk1, c1, c2, c4, zaa, getK, zab, zac, zad, zai]; done) | fail) (by rfl) (by first | assumption | simp) (by rfl) (by simp [D.under, Ob.under]) (by simp) ?_; (try simp [hne, del, Nat.add_assoc, hk0, hk1, c1, c2, c4]))
  | (refine zaf rfl ?_; simp [hne, del, Nat.add_assoc, hk0, hk1, c1, c2, c4])
  | (refine And.intro (by omega) ?_)
  | (refine ⟨hC _ (zc0 [i] nx (by simp <;> omega) (by simp <;> omega) (by apply Exists.intro; apply And.intro; (focus (repeat' (first | exact KF.nil | exact KL.nil | apply KF.cons | apply KL.cons 0 rfl | apply KL.cons 1 rfl | apply KL.cons 2 rfl | apply KL.cons 3 rfl | apply KL.cons 4 rfl | apply KL.cons 5 rfl | apply KL.cons 6 rfl | apply KL.cons 7 rfl | apply KL.cons 8 rfl | apply KL.cons 9 rfl))); kernel_rfl)), hk _ (zeI 8 _ _ _ ?_)⟩; clear hC hk C k; simp [hne, del, Nat.add_assoc, hk0, hk1, c1, c2, c4])
  | (refine zeH rfl (by kernel_rfl) (by first | (simp [hn]; done) | (simp [hn]; omega) | fail) fun C k hC hk => ?_; simp [hne, del, Nat.add_assoc, hk0, hk1, c1, c2, c4])
  | (refine zd2 rfl ?_; simp [hne, del, Nat.add_assoc, hk0, hk1, c1, c2, c4])
  | ((first | refine CallP.f2 rfl (hop) (by first | simp [hne, del, Nat.add_assoc, hk0, hk1, c1, c2, c4] <;> rfl | fail) ?_ | refine CallP.f2 rfl (hix) (by first | simp [hne, del, Nat.add_assoc, hk0, hk1, c1, c2, c4] <;> rfl | fail) ?_ | fail); simp [hne, del, Nat.add_assoc, hk0, hk1, c1, c2, c4])
  | fail)
        have hi3 : i < nx + 3 := by omega
        refine LoopW.next ⟨(.mk x.op 0 0 [] [e, e2], x.form, q2, g), g1b, (by show 4 * (l.length - q2) + 2 <= g; omega), (by show g <= f; omega), h3⟩ (by show g < g + 1; omega) ?_
        refine Wk.trans (Wk.frzN 1 _) ?_;simp [hne, Nat.add_assoc, frzN, frz1, zaH, zaG, St.frz, St.frzS, frzS, fv, zbh, zbx, zbM, zaI, zar, zal, del, frz, zbN];exact (Wk.zda (by simp [hn, hi, hi3, hne, Exp.row_eq, Exp.op, Exp.n, Exp.unit, Exp.s, Exp.args] <;> grind))
theorem zs0 (s : List UInt8) (l : List Tok) (nx : Nat) (h : zpy s = .ok l) :
  RetX Tryz.prog 103 [.u (.str s)] [] nx (fun r o n => r = .val (.tup [.ptr nx 0, .u (.int .i64 0), .u (.int .i64 0)]) /\ o = [(nx, pOb l 0)] /\ n = nx + 1) := by
 have h1 := zpx s;rw [h] at h1;simp only [ziN] at h1;refine RetX.runW Tryz.func103 Tryz.ntmps103 rfl (by simp) fun Γ hn hpan => ?_
 repeat' (first
  | (refine zaf rfl ?_; simp)
  | (refine CallP.f2 rfl (h1) (by first | simp <;> rfl | fail) ?_; simp)
  | fail)
 (refine EndW.h Tryz.results103 ?_; simp)
theorem zq6 (s : List UInt8) (p : Nat) (e : Int) (nx : Nat) (h : zpy s = .error (p, e)) :
  RetX Tryz.prog 103 [.u (.str s)] [] nx (fun r o n => r = .val (.tup [.ptr nx 0, .u (.int .i64 p), .u (.int .i64 e)]) /\ o = [(nx, pOb [] 0)] /\ n = nx + 1) := by
 have h1 := zpx s;rw [h] at h1;simp only [ziN] at h1;refine RetX.runW Tryz.func103 Tryz.ntmps103 rfl (by simp) fun Γ hn hpan => ?_
 repeat' (first
  | (refine zaf rfl ?_; simp)
  | (refine CallP.f2 rfl (h1) (by first | simp <;> rfl | fail) ?_; simp)
  | fail)
 (refine EndW.h Tryz.results103 ?_; simp)
theorem zmk (i j nx : Nat) (hi : i < nx) (hj : j < nx) (hij : i ≠ j) (p e : Int) :
  RetX Tryz.prog 105 [.u (.oth .nilIface), .ptr i 0, .ptr j 0] [(i, .box [.u (.int .i64 p)]), (j, .box [.u (.int .i64 e)])] nx
   (fun r o n => r = .val (.u (.bool false)) /\ o = [(i, .box [.u (.int .i64 p)]), (j, .box [.u (.int .i64 e)])] /\ n = nx) := by
 have hne := zbm hi;have hne2 := zbm hj;refine RetX.runW Tryz.func105 Tryz.ntmps105 rfl (by simp) fun Γ hn hpan => ?_
 repeat' (first
  | (refine zaf rfl ?_; simp [hne, hne2, hij, Ne.symm hij])
  | fail)
 refine ⟨(true, [.int .i64 0, .int .i64 0]), rfl, ?_⟩;simp [hne, hne2, hij, Ne.symm hij]
 repeat' (first | fail)
 (refine EndW.z ([(i, .box [.u (.int .i64 p)]), (j, .box [.u (.int .i64 e)])]) (N := nx) Tryz.results105 (by simp [hne, hne2, hij, Ne.symm hij, hi, hj] <;> omega) ?_; simp [hne, hne2, hij, Ne.symm hij, hi, hj])
theorem zmj (i j nx : Nat) (hi : i < nx) (hj : j < nx) (hij : i ≠ j) (p e pos err : Int) :
  RetX Tryz.prog 105 [.u (.oth (.iface 179 (.agg #[.int .i64 pos, .int .i64 err]))), .ptr i 0, .ptr j 0] [(i, .box [.u (.int .i64 p)]), (j, .box [.u (.int .i64 e)])] nx
   (fun r o n => r = .val (.u (.bool true)) /\ o = [(i, .box [.u (.int .i64 pos)]), (j, .box [.u (.int .i64 err)])] /\ n = nx) := by
 have hne := zbm hi;have hne2 := zbm hj;refine RetX.runW Tryz.func105 Tryz.ntmps105 rfl (by simp) fun Γ hn hpan => ?_
 repeat' (first
  | (refine zaf rfl ?_; simp [hne, hne2, hij, Ne.symm hij])
  | (refine ⟨hC _ (zc0 [i, j] nx (by simp <;> omega) (by simp <;> omega) (by apply Exists.intro; apply And.intro; (focus (repeat' (first | exact KF.nil | exact KL.nil | apply KF.cons | apply KL.cons 0 rfl | apply KL.cons 1 rfl | apply KL.cons 2 rfl | apply KL.cons 3 rfl | apply KL.cons 4 rfl | apply KL.cons 5 rfl | apply KL.cons 6 rfl | apply KL.cons 7 rfl | apply KL.cons 8 rfl | apply KL.cons 9 rfl))); kernel_rfl)), hk _ (zeI 8 _ _ _ ?_)⟩; clear hC hk C k; simp [hne, hne2, hij, Ne.symm hij])
  | (refine zeH rfl (by kernel_rfl) (by first | (simp [hn]; done) | (simp [hn]; omega) | fail) fun C k hC hk => ?_; simp [hne, hne2, hij, Ne.symm hij])
  | fail)
 (refine EndW.z ([(i, .box [.u (.int .i64 pos)]), (j, .box [.u (.int .i64 err)])]) (N := nx) Tryz.results105 (by simp [hne, hne2, hij, Ne.symm hij, hi, hj] <;> omega) ?_; simp [hne, hne2, hij, Ne.symm hij, hi, hj])
theorem zq3 (i j q nx : Nat) (hi : i < nx) (hj : j < nx) (hq : q < nx) (hij : i ≠ j) (hiq : i ≠ q) (hjq : j ≠ q) (p e : Int) (cells : List U) :
  RetDf Tryz.prog 104 [.ptr i 0, .ptr j 0, .ptr q 0] [(i, .box [.u (.int .i64 p)]), (j, .box [.u (.int .i64 e)]), (q, .box (cells.map .u))] nx .returning
   (fun u o n => settle u = .returning /\ n = nx /\ o = [(i, .box [.u (.int .i64 p)]), (j, .box [.u (.int .i64 e)]), (q, .box (cells.map .u))]) := by
 have hne := zbm hi;have hne2 := zbm hj;have hne3 := zbm hq;have hc0 := zmk i j nx hi hj hij p e;refine RetDf.of_body Tryz.func104 rfl (by simp) (by simp) rfl fun Γ hn => ?_;simp [entry, znD, Tryz.ntmps104];refine CallP.x2 hc0 (by simp [getK]) (by simp [getK, hij, Ne.symm hij]) hij rfl rfl (by simp) (by simp) (fun d o1 nx' hnx h => ?_) (fun ch o1 nx' hnx h => by cases h.1);obtain ⟨h1, rfl, h4⟩ := h;have h4 := h4.symm;subst h4;cases h1;simp [del, hij, Ne.symm hij, hiq, hjq, Ne.symm hiq, Ne.symm hjq]
 repeat' (first
  | (refine zaf rfl ?_; simp [hij, hiq, hjq])
  | fail)
 (refine ⟨by simp, { n := _, env := [], obs := [(i, .box [.u (.int .i64 p)]), (j, .box [.u (.int .i64 e)]), (q, .box (cells.map .u))], next := nx }, (Wk.cut rfl (by simp [hn]) (by simp [wkO, zaa, getK, zab, zac, Ob.under, D.under, zak, zap, hi, hj, hq, hne, hne2, hne3, hij, hiq, hjq, Ne.symm hij, Ne.symm hiq, Ne.symm hjq]) (by simp [wkU, zaA, zaa, getK, D.under, hi, hj, hq, hne, hne2, hne3, hij, hiq, hjq, Ne.symm hij, Ne.symm hiq, Ne.symm hjq]) (by simp [wkE, zaA, zaa, getK, hi, hj, hq, hne, hne2, hne3, hij, hiq, hjq, Ne.symm hij, Ne.symm hiq, Ne.symm hjq])), by simp [hn], ?_⟩; try simp)
 all_goals rfl
end Go.Proofs.YtkdhmbhbbciedaaGreatDoor
namespace Go.Proofs.YtkdhmbhbbciedaaGreatDoor
open Go Go.VL
theorem ExpX.cast {lets shs m n e F F'} (h : ExpX lets shs m n e F) (e' : F = F') : ExpX lets shs m n e F' := e' ▸ h
theorem zth {lets : List Let} (hr : ∀ l ∈ lets, zaL 12 l.body = true) (hll : lets.length <= 20) (m : Nat) : ∀ (n : Nat), n <= lets.length -> ∀ (d : Nat), d <= 12 -> ∀ e : Exp, zaL d e = true ->
  ExpX lets (zdw lets lets.length) m n e (zf9 (nmC lets (shF lets) n) (shF lets n) e) := by
 intro n
 induction n using Nat.strongRecOn with
 | ind n ihn =>
 intro hn d
 induction d with
 | zero => intro _ e he; simp [zaL] at he
 | succ d ih =>
  intro hd e he;obtain ⟨h1, h2, h3, h4⟩ := zdf he;have hcap := fun x => zf8 (sh := shF lets n) (zhN (lets := lets) (sh := shF lets) n) x;have hpre := fun x => zhl (sh := shF lets n) (zlX (lets := lets) (sh := shF lets) n) x;by_cases h0 : e.op = 0
  ·refine (ztg h0).cast (funext fun c => ?_);rw [zgF, if_pos h0]
  by_cases hnm : e.op = 1
  ·refine (zrB lets _ m n e hnm hn (by omega) fun i l hi hl => ⟨_, ihn i hi (by omega) 12 (by omega) l.body (hr l (List.mem_of_getElem? hl)), rfl⟩).cast (funext fun c => ?_);rw [zgF, if_neg h0, if_pos hnm]
  have hargs := h4 h0 hnm;have hE : ∀ x ∈ e.args, ExpX lets (zdw lets lets.length) m n x (zf9 (nmC lets (shF lets) n) (shF lets n) x) := fun x hx => ih (by omega) x (hargs x hx);by_cases hA : e.op = 10
  ·obtain ⟨a, b, hab⟩ : ∃ a b, e.args = [a, b] := by
    have hl : e.args.length = 2 := by rw [hA] at h1; simp [zaO] at h1; omega
    match hq : e.args, hl with
    | [a, b], _ => exact ⟨a, b, rfl⟩
   refine (zgI (.inl hA) (zom hA hab (hE a (by simp [hab])) (hcap a) (hpre a) (hE b (by simp [hab])) (hcap b) (hpre b))).cast (funext fun c => ?_);rw [zgF, if_neg h0, if_neg hnm, if_pos hA, hab, zfi (i := 0) (e := a) rfl, zfi (i := 1) (e := b) rfl]
  by_cases hO : e.op = 11
  ·obtain ⟨a, b, hab⟩ : ∃ a b, e.args = [a, b] := by
    have hl : e.args.length = 2 := by rw [hO] at h1; simp [zaO] at h1; omega
    match hq : e.args, hl with
    | [a, b], _ => exact ⟨a, b, rfl⟩
   refine (zgI (.inr (.inl hO)) (zp6 hO hab (hE a (by simp [hab])) (hcap a) (hpre a) (hE b (by simp [hab])) (hcap b) (hpre b))).cast (funext fun c => ?_);rw [zgF, if_neg h0, if_neg hnm, if_neg hA, if_pos hO, hab, zfi (i := 0) (e := a) rfl, zfi (i := 1) (e := b) rfl]
  by_cases hI : e.op = 13
  ·obtain ⟨a, b, z, hab⟩ : ∃ a b z, e.args = [a, b, z] := by
    have hl : e.args.length = 3 := by rw [hI] at h1; simp [zaO] at h1; omega
    match hq : e.args, hl with
    | [a, b, z], _ => exact ⟨a, b, z, rfl⟩
   refine (zgI (.inr (.inr hI)) (zp7 hI hab (hE a (by simp [hab])) (hcap a) (hpre a) (hE b (by simp [hab])) (hcap b) (hpre b) (hE z (by simp [hab])) (hcap z) (hpre z))).cast (funext fun c => ?_);rw [zgF, if_neg h0, if_neg hnm, if_neg hA, if_neg hO, if_pos hI, hab, zfi (i := 0) (e := a) rfl, zfi (i := 1) (e := b) rfl, zfi (i := 2) (e := z) rfl]
  refine (zpX lets m n d e (by omega) hn (by omega) hr hll he (by omega) hE).cast (funext fun c => ?_);rw [zgF, if_neg h0, if_neg hnm, if_neg hA, if_neg hO, if_neg hI]
abbrev zcf (l : List Bool) : List (List D) := l.map fun b => [.u (.bool b)]
theorem zeX (l : List Bool) : zb5 (zcf l) = some (l.map fun b => [.bool b]) := by
 have : zcf l = (l.map fun b => [U.bool b]).map (·.map D.u) := by simp [zcf]
 rw [this, zgl]
theorem zi2 (l : List Bool) : (zcf l).take l.length = zcf l := by have : (zcf l).length = l.length := by simp [zcf]
                                                                  rw [<- this, List.take_length]
theorem zhH (l : List Bool) : zan (zcf l) := by
 induction l with
 | nil => simp [zcf, zan]
 | cons a l ih => simp only [zcf] at ih; simp [zcf, zan, zaN, ih]
theorem zi3 (l : List Bool) : zj5 1 (zcf l) := by intro r hr; obtain ⟨i, _, rfl⟩ := List.mem_map.1 hr; rfl
end Go.Proofs.YtkdhmbhbbciedaaGreatDoor
