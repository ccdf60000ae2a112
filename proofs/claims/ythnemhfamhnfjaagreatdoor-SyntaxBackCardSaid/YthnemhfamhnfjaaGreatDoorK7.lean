/- Texts joined by a program of mine: Zm Zp Zo Zn Zq UV Uv VLA Ly Lx. -/
import Derived.Test.YthnemhfamhnfjaaGreatDoorK6
import Derived.LaidMore
import Derived.LaidLaws
import Derived.LaidHandle
import Derived.MakeChecks
import Derived.Stop.Joined
import Derived.OpenShut
import Derived.Test.YthnemhfamhnfjaaGreatDoorTie
import Derived.Test.YthnemhfamhnfjaaGreatDoorCards
import Derived.Lib.LaidTab
set_option linter.all false
set_option maxRecDepth 100000
set_option maxHeartbeats 8000000
namespace Go.Proofs.YthnemhfamhnfjaaGreatDoor
open Go Go.VL
mutual
def zqX : Exp → Int
 | .mk _ _ _ _ args => znB args + 1
def znB : List Exp → Int
 | [] => 0
 | e :: l => max (zqX e) (znB l)
end
theorem zhC (l : List Int) (a : Int) (ha : 0 ≤ a) : l.foldl max a = max a (l.foldl max 0) := by
 induction l generalizing a with
 | nil => simp; omega
 | cons b l ih => simp only [List.foldl_cons]; rw [ih (max a b) (by omega), ih (max 0 b) (by omega)]; omega
mutual
theorem zkN : ∀ e : Exp, zqX e = e.lev
 | .mk op n u s args => by rw [zqX, Exp.zgi, zlf]; rfl
theorem zlf : ∀ l : List Exp, znB l = (l.map Exp.lev).foldl max 0
 | [] => by rw [znB]; rfl
 | e :: l => by
  have := e.lev_pos
  rw [znB, zkN, zlf, List.map_cons, List.foldl_cons, zhC (l.map Exp.lev) (max 0 e.lev) (by omega)]
  omega
end
/-- The same as zgb, to be computed with. -/
def zjv (s : List UInt8) : Exp × Int × Int := match ziZ s with
 | .error (p, e) => (zd0, p, e)
 | .ok l => match zc6 l (4 * l.length + 3) 0 0 with
  | .stop pos e => (zd0, pos, e)
  | .ok y q => if zlj l q ≠ 0 then (zd0, zc5 l q, 12) else if 12 < zqX y then (zd0, zc5 l q, 6) else (y, 0, 0)
theorem znb (s : List UInt8) : zgb s = zjv s := by
 unfold zgb zjv
 simp only [zkN]
 rfl
def zi1 (l : List Tok) (p : Nat) : PR Exp := (zc6 l (4 * l.length + 3) p 0).bind fun e q =>
 if isB l q [59] = true then if zqX e ≤ 12 then .ok e (q + 1) else .stop (zc5 l q) 6 else .stop (zc5 l q) 12
def zoW (l : List Tok) : Nat → Nat → List Let → PR (List Let)
 | 0, _, _ => .stop 0 0
 | f + 1, p, acc => if isB l p [108, 101, 116] = true then
   if acc.length < 20 then match l[p + 1]? with
    | none => .stop 0 0
    | some t => if t.kind = 1 ∧ zbD t.text = true then
          if (acc.any fun x => decide (x.name = t.text)) = true then .stop t.pos 5
          else (zbu l (p + 2) [[61]]).bind fun _ q => (zi1 l q).bind fun e r => zoW l f r (acc ++ [⟨t.text, e⟩])
     else .stop t.pos 12
   else .stop (zc5 l p) 6
  else .ok acc p
def zf1 (l : List Tok) (p : Nat) (word : W8) : PR Exp := if isB l p word = true then zi1 l (p + 1) else .ok nothingE p
def zrQ (l : List Tok) : PR By :=
 (zgn l 0).bind fun k p => (zhy l p [112, 101, 114, 105, 111, 100]).bind fun _ p => (zdI l p [112, 101, 114, 105, 111, 100] 1 1000 [[100, 97, 121, 115], [59]]).bind fun period p =>
 (zhy l p [108, 97, 115, 116]).bind fun _ p => (zdI l p [108, 97, 115, 116] 1 1000 [[59]]).bind fun last p =>
 (zdI l p [103, 114, 97, 99, 101] 0 1000 [[100, 97, 121, 115], [59]]).bind fun grace p => (zdI l p [119, 97, 105, 116] 0 1000 [[100, 97, 121, 115], [59]]).bind fun wait p =>
 (zew l p).bind fun order p => (zdI l p [98, 97, 99, 107, 115] 0 60 [[59]]).bind fun backs p => (zdI l p [118, 111, 105, 99, 101, 115] 0 1000 [[112, 101, 114], [109, 105, 108, 108, 101], [59]]).bind fun voices p =>
 (zdI l p [106, 117, 114, 121] 0 60 [[59]]).bind fun jury p => (zdI l p [102, 117, 110, 100] 0 1000 [[112, 101, 114], [109, 105, 108, 108, 101], [59]]).bind fun fund p =>
 (zoW l 21 p []).bind fun lets p => (zbu l p [[100, 117, 101]]).bind fun _ p => (zi1 l p).bind fun due p =>
 (zf1 l p [102, 105, 110, 101]).bind fun fine p => (zf1 l p [112, 97, 121]).bind fun pay p => (zf1 l p [99, 111, 118, 101, 114]).bind fun cover p => (zf1 l p [104, 111, 108, 100]).bind fun hold p =>
 (zpe l p).bind fun _ p => .ok ⟨k.1, period, grace, wait, last, order, k.2, backs, voices, jury, fund, lets, due, fine, pay, cover, hold⟩ p
theorem zgH : zdM = zi1 := by
 funext l p
 unfold zdM zi1
 simp only [zkN]
theorem zlg (l : List Tok) : ∀ f p acc, zfo l f p acc = zoW l f p acc
 | 0, p, acc => rfl
 | f + 1, p, acc => by
  rw [zfo, zoW, zgH]
  simp only [zlg l f]
  rfl
theorem zmF : zc7 = zf1 := by
 funext l p w
 unfold zc7 zf1
 rw [zgH]
theorem zqo (l : List Tok) : zob l = zrQ l := by
 unfold zob zrQ
 rw [zgH, zmF]
 simp only [zlg]
def zhO (s : W8) : By × Int × Int := match ziZ s with
 | .error (p, e) => (zeY, p, e)
 | .ok l => match zrQ l with
  | .stop pos e => (zeY, pos, e)
  | .ok b _ => (b, 0, 0)
theorem znc (s : W8) : zfh s = zhO s := by
 unfold zfh zhO
 simp only [zqo]
 rfl
def eA : Exp := .mk 3 0 0 [] [.mk 1 0 0 [112, 111, 116] [], .mk 4 0 0 [] [.mk 1 0 0 [112, 97, 105, 100] [], .mk 0 50 4 [] []]]
def eS : Exp := .mk 2 0 0 [] [.mk 0 5 3 [] [], .mk 1 0 0 [112, 111, 116] []]
def eM : Exp := .mk 4 0 0 [] [.mk 0 3 1 [] [], eS]
def bB : By := ⟨2, 7, 0, 0, 10, 0, false, 0, 0, 0, 0, [], .mk 0 100 3 [] [], nothingE, nothingE, nothingE, nothingE⟩
theorem pv1 : zjv [112, 111, 116, 45, 112, 97, 105, 100, 42, 53, 48, 32, 112, 101, 114, 32, 109, 105, 108, 108, 101] = (eA, 0, 0) := by kernel_rfl
theorem pv2 : (zjv [49, 32, 99, 111, 105, 110, 115, 32, 50]) = (zd0, 8, 12) := by kernel_rfl
theorem pv3 : zhO [99, 105, 114, 99, 108, 101, 32, 115, 97, 118, 105, 110, 103, 59, 112, 101, 114, 105, 111, 100, 32, 55, 32, 100, 97, 121, 115, 59, 108, 97, 115, 116, 32, 49, 48, 59, 103, 114, 97, 99, 101, 32, 48, 32, 100, 97, 121, 115, 59, 100, 117, 101, 32, 49, 48, 48, 32, 99, 111, 105, 110, 115, 59] = (bB, 0, 0) := by kernel_rfl
theorem pv4 : zhO [99, 105, 114, 99, 108, 101, 32, 115, 97, 118, 105, 110, 103, 59, 112, 101, 114, 105, 111, 100, 32, 48, 32, 100, 97, 121, 115, 59] = (zeY, 21, 3) := by kernel_rfl
theorem pv5 : zhO [99, 105, 114, 99, 108, 101, 32, 115, 101, 97, 108, 101, 100, 59] = (zeY, 7, 12) := by kernel_rfl
theorem zqP (n : Nat) (h : n < 10) : Lib.decDigits n = [UInt8.ofNat (48 + n)] := by rw [Lib.decDigits, dif_pos h]
theorem zrp (n : Nat) (h : ¬ n < 10) : Lib.decDigits n = Lib.decDigits (n / 10) ++ [UInt8.ofNat (48 + n % 10)] := by rw [Lib.decDigits, dif_neg h]
theorem it3 : Lib.itoa 3 = [51] := by rw [Lib.itoa, if_neg (by decide)]; show Lib.decDigits 3 = _; rw [zqP 3 (by decide)]; rfl
theorem it5 : Lib.itoa 5 = [53] := by rw [Lib.itoa, if_neg (by decide)]; show Lib.decDigits 5 = _; rw [zqP 5 (by decide)]; rfl
theorem it7 : Lib.itoa 7 = [55] := by rw [Lib.itoa, if_neg (by decide)]; show Lib.decDigits 7 = _; rw [zqP 7 (by decide)]; rfl
theorem zsH : Lib.itoa 10 = [49, 48] := by rw [Lib.itoa, if_neg (by decide)]; show Lib.decDigits 10 = _; rw [zrp 10 (by decide), zqP (10 / 10) (by decide)]; rfl
theorem zsG : Lib.itoa 50 = [53, 48] := by rw [Lib.itoa, if_neg (by decide)]; show Lib.decDigits 50 = _; rw [zrp 50 (by decide), zqP (50 / 10) (by decide)]; rfl
theorem zrw : Lib.itoa 100 = [49, 48, 48] := by rw [Lib.itoa, if_neg (by decide)]; show Lib.decDigits 100 = _; rw [zrp 100 (by decide), zrp (100 / 10) (by decide), zqP (100 / 10 / 10) (by decide)]; rfl
theorem zig (s : W8) {least : Int} (h : least ≤ 7) : txt (.mk 1 0 0 s []) least = s := by
 rw [zdc (by show ¬ (7 : Int) < least; omega), za3, zcV, if_neg (by decide), if_pos rfl, zbd]
theorem zif (n u : Int) {least : Int} (h : least ≤ 7) : txt (.mk 0 n u [] []) least = zbC (zdv n u) := by
 rw [zdc (by show ¬ (7 : Int) < least; omega), za3, zcV, if_pos rfl]
theorem tA : txt eA 0 = [112, 111, 116, 32, 45, 32, 112, 97, 105, 100, 32, 42, 32, 53, 48, 32, 112, 101, 114, 32, 109, 105, 108, 108, 101] := by
 have h1 := zeQ (d := 11) (a := .mk 1 0 0 [112, 97, 105, 100] []) (b := .mk 0 50 4 [] []) (o := ⟨[42], 4, 6⟩) (by simp [oprs]) (by kernel_rfl) (by kernel_rfl)
 have h2 := zeQ (d := 11) (a := .mk 1 0 0 [112, 111, 116] []) (b := .mk 4 0 0 [] [.mk 1 0 0 [112, 97, 105, 100] [], .mk 0 50 4 [] []]) (o := ⟨[45], 3, 5⟩) (by simp [oprs]) (by kernel_rfl) (by kernel_rfl)
 have e : txt eA 0 = zbC (za3 eA) := zdc (by show ¬ (5 : Int) < 0; decide)
 rw [e]
 refine Eq.trans h2 ?_
 rw [zig _ (by decide)]
 have e2 : txt (.mk 4 0 0 [] [.mk 1 0 0 [112, 97, 105, 100] [], .mk 0 50 4 [] []]) (5 + 1) = zbC (za3 (.mk 4 0 0 [] [.mk 1 0 0 [112, 97, 105, 100] [], .mk 0 50 4 [] []])) := zdc (by show ¬ (6 : Int) < 5 + 1; decide)
 rw [e2]
 have e3 : zbC (za3 (.mk 4 0 0 [] [.mk 1 0 0 [112, 97, 105, 100] [], .mk 0 50 4 [] []])) = _ := h1
 rw [e3, zig _ (by decide), zif _ _ (by decide), zdv, if_neg (by decide), if_neg (by decide), if_neg (by decide), if_pos (by decide), zsG]
 rfl
theorem tM : txt eM 0 = [51, 32, 42, 32, 40, 32, 53, 32, 99, 111, 105, 110, 115, 32, 43, 32, 112, 111, 116, 32, 41] := by
 have h1 := zeQ (d := 11) (a := .mk 0 5 3 [] []) (b := .mk 1 0 0 [112, 111, 116] []) (o := ⟨[43], 2, 5⟩) (by simp [oprs]) (by kernel_rfl) (by kernel_rfl)
 have h2 := zeQ (d := 11) (a := .mk 0 3 1 [] []) (b := eS) (o := ⟨[42], 4, 6⟩) (by simp [oprs]) (by kernel_rfl) (by kernel_rfl)
 have e : txt eM 0 = zbC (za3 eM) := zdc (by show ¬ (6 : Int) < 0; decide)
 rw [e]
 refine Eq.trans h2 ?_
 have e2 : txt eS (6 + 1) = [40, 32] ++ zbC (za3 eS) ++ [32, 41] := zgt (d := 11) (by kernel_rfl) (by show (5 : Int) < 6 + 1; decide)
 have e3 : zbC (za3 eS) = _ := h1
 rw [e2, e3, zif _ _ (by decide), zif _ _ (by decide), zig _ (by decide), zdv, if_neg (by decide), if_neg (by decide), if_neg (by decide), if_neg (by decide), zdv, if_neg (by decide), if_pos (by decide), it3, it5]
 rfl
theorem zsA : txt (.mk 0 100 3 [] []) 0 = [49, 48, 48, 32, 99, 111, 105, 110, 115] := by
 rw [zif _ _ (by decide), zdv, if_neg (by decide), if_pos (by decide), zrw]
 rfl
theorem tB : textP bB = [99, 105, 114, 99, 108, 101, 32, 115, 97, 118, 105, 110, 103, 32, 59] ++ [10] ++ [112, 101, 114, 105, 111, 100, 32, 55, 32, 100, 97, 121, 115, 32, 59] ++ [10] ++ [108, 97, 115, 116, 32, 49, 48, 32, 59] ++ [10] ++ [100, 117, 101, 32, 49, 48, 48, 32, 99, 111, 105, 110, 115, 32, 59] ++ [10] := by
 have hk : ziA bB = [99, 105, 114, 99, 108, 101, 32, 115, 97, 118, 105, 110, 103, 32, 59] ++ [10] := by kernel_rfl
 have hd : clauseT [100, 117, 101] bB.due = [100, 117, 101, 32, 49, 48, 48, 32, 99, 111, 105, 110, 115, 32, 59] ++ [10] := by
  rw [clauseT, if_neg (by simp)]
  show zbP [_, txt (.mk 0 100 3 [] []) 0] = _
  rw [zsA]; kernel_rfl
 have hn : ∀ w : W8, w ≠ [100, 117, 101] → clauseT w nothingE = [] := fun w hw => by rw [clauseT, if_pos ⟨ze6 _, hw⟩]
 have h7 : zb7 [112, 101, 114, 105, 111, 100] bB.period [[100, 97, 121, 115]] = [112, 101, 114, 105, 111, 100, 32, 55, 32, 100, 97, 121, 115, 32, 59] ++ [10] := by
  rw [zb7, if_neg (by decide)]; show zbP [_, Lib.itoa 7, _] = _; rw [it7]; kernel_rfl
 have h10 : zb7 [108, 97, 115, 116] bB.last [] = [108, 97, 115, 116, 32, 49, 48, 32, 59] ++ [10] := by
  rw [zb7, if_neg (by decide)]; show zbP [_, Lib.itoa 10] = _; rw [zsH]; kernel_rfl
 have h0 : ∀ w ws, zb7 w 0 ws = [] := fun w ws => by rw [zb7, if_pos rfl]
 rw [textP, hk, h7, h10, hd]
 rw [show bB.grace = 0 from rfl, show bB.wait = 0 from rfl, show bB.order = 0 from rfl, show bB.backs = 0 from rfl, show bB.voices = 0 from rfl, show bB.jury = 0 from rfl, show bB.fund = 0 from rfl, show bB.lets = [] from rfl, show bB.fine = nothingE from rfl, show bB.pay = nothingE from rfl, show bB.cover = nothingE from rfl, show bB.hold = nothingE from rfl]
 rw [h0, h0, h0, h0, h0, h0, hn _ (by decide), hn _ (by decide), hn _ (by decide), hn _ (by decide), show zhP 0 = [] from rfl, show zfn [] = [] from rfl]
 simp
end Go.Proofs.YthnemhfamhnfjaaGreatDoor
namespace Go.Proofs.YthnemhfamhnfjaaGreatDoor
open Go Go.VL
theorem zg6 {ws : List W8} (h : ws ≠ []) (hs : NoSemi ws) : zbP ws = zbJ (zgk (ws ++ [[59]])) := by rw [zfl ws h hs, zbP]
theorem zdj {w : W8} {n : Int} {ws : List W8} (hw : w ≠ [59]) (h0 : 0 ≤ n) (h1 : n ≤ 1099511627776) (hs : NoSemi ws) : zb7 w n ws = zbJ (zgk (zaW w n ws)) := by
 rw [zb7, zaW]
 split
 ·rfl
 ·rw [zg6 (by simp) (((hs.cons (zjO h0 h1))).cons hw)]
  rfl
theorem znN {b : By} : ziA b = zbJ (zgk (ze2 b.kind b.sld)) := by
 rw [ziA, ze2]
 split
 ·exact zg6 (by simp) (by intro w hw; revert w; decide)
 ·refine zg6 (by simp) ?_
  intro w hw
  simp only [List.mem_cons, List.mem_nil_iff, or_false] at hw
  rcases hw with rfl | rfl
  ·decide
  ·split
   ·decide
   ·split <;> decide
theorem zl3 {o : Int} (h0 : 0 ≤ o) (h2 : o ≤ 2) : zhP o = zbJ (zgk (zdJ o)) := by
 obtain rfl | rfl | rfl : o = 0 ∨ o = 1 ∨ o = 2 := by omega
 ·rfl
 ·kernel_rfl
 ·kernel_rfl
theorem zoZ {x : Let} (hn : zbD x.name = true) (he : zaE 12 x.body = true) : zo0 x = zbJ (zgk (zos x)) := by
 rw [zoY hn he, zo0, zbP, zaV, zaV, zaV, zbd, txt]
 simp
theorem zjM : ∀ {L : List Let}, (∀ l ∈ L, zbD l.name = true ∧ zaE 12 l.body = true) → zfn L = zbJ (zgk (zdx L))
 | [], _ => rfl
 | x :: L, h => by
  have ih := zjM (L := L) fun l hl => h l (List.mem_cons_of_mem _ hl)
  have h1 := zoZ (h x (by simp)).1 (h x (by simp)).2
  simp only [zfn, zdx, List.map_cons, List.flatten_cons] at ih ⊢
  rw [zk4, zhe, ← ih, ← h1]
theorem zhk {w : W8} {e : Exp} (hw : w ≠ [59]) (he : zaE 12 e = true) : zbP [w, txt e 0] = zbJ (zgk (zb4 w e)) := by
 rw [zkR hw he, zbP, zaV, zbd, txt]
theorem zfg {w : W8} {e : Exp} (hw : w ≠ [59]) (hd : w ≠ [100, 117, 101]) (he : zaE 12 e = true) : clauseT w e = zbJ (zgk (restW w e)) := by
 rw [clauseT, restW]
 by_cases h : e = nothingE
 ·rw [if_pos ⟨zcg.2 h, hd⟩, if_pos h]; rfl
 ·rw [if_neg (by rw [zcg]; exact fun g => h g.1), if_neg h]
  exact zhk hw he
theorem zoA {b : By} (h : zca b = true) : textP b = textB b := by
 have hh := h
 simp only [zca, zmw, zmB, Bool.and_eq_true, decide_eq_true_eq] at hh
 obtain ⟨⟨⟨⟨⟨⟨⟨⟨i1, i2⟩, i3⟩, i4⟩, i5⟩, hsl⟩, hLn⟩, hLb⟩, ⟨⟨⟨hrdue, hrfine⟩, hrpay⟩, hrcover⟩, hrhold⟩ := hh
 have hLs := zg7 [] b.lets hLb
 simp only [inB, List.any_cons, List.any_nil, Bool.or_false, Bool.not_eq_true', Bool.or_eq_false_iff, decide_eq_false_iff_not, Int.not_lt] at i1 i2 i3 i4 i5
 have ns : ∀ {ws : List W8}, (ws.all fun w => decide (w ≠ [59])) = true → NoSemi ws := fun h w hw => of_decide_eq_true (List.all_eq_true.1 h w hw)
 have hnil : zbJ (zgk []) = [] := rfl
 have hdue : clauseT [100, 117, 101] b.due = zbJ (zgk (zb4 [100, 117, 101] b.due)) := by
  rw [clauseT, if_neg (by simp)]
  exact zhk (by decide) hrdue
 rw [textB, byW, textP, znN, zdj (by decide) (by omega) (by omega) (ns (by decide)), zdj (by decide) (by omega) (by omega) (ns (by decide)), zdj (by decide) (by omega) (by omega) (ns (by decide)), zdj (by decide) (by omega) (by omega) (ns (by decide)),
  zl3 (by omega) (by omega), zdj (by decide) (by omega) (by omega) (ns (by decide)), zdj (by decide) (by omega) (by omega) (ns (by decide)), zdj (by decide) (by omega) (by omega) (ns (by decide)), zdj (by decide) (by omega) (by omega) (ns (by decide)),
  zjM hLs, hdue, zfg (by decide) (by decide) hrfine, zfg (by decide) (by decide) hrpay, zfg (by decide) (by decide) hrcover, zfg (by decide) (by decide) hrhold]
 simp only [zk4, zhe, List.append_assoc, hnil, List.append_nil]
theorem zkw {b : By} (h : zca b = true) (hl : ¬ 2000 < (textP b).length) : zfh (textP b) = (b, 0, 0) := by
 rw [zoA h] at hl ⊢
 obtain ⟨ts, h1, h2, h3⟩ := zlX h (by omega)
 unfold zfh
 rw [h1]
 simp only [h3]
end Go.Proofs.YthnemhfamhnfjaaGreatDoor
namespace Go.Proofs.YthnemhfamhnfjaaGreatDoor
open Go Go.VL
/-- A value whose slices of nothing are all told as empty zes. -/
def zeH : Nat → U → U
 | 0, x => x
 | _ + 1, .nil => .sl []
 | n + 1, .sl rows => .sl (rows.map fun r => r.map (zeH n))
 | n + 1, .agg cs => .agg (cs.map (zeH n))
 | _ + 1, x => x
theorem ziL {m : Mem} : ∀ (n : Nat) {x : U} {v : Value}, RepU m x v → RepU m (zeH n x) v
 | 0, x, v, h => by rw [zeH]; exact h
 | n + 1, x, v, h => by
  cases h with
  | map kk ag es0 es hp b ents clock f h1 h2 h3 h4 => exact .map kk ag es0 es hp b ents clock f h1 h2 h3 h4
  | nil => rw [zeH]; exact .slE none 0 fun _ => rfl
  | int k n => exact .int k n
  | bool b => exact .bool b
  | str l => exact .str l
  | oth v => cases x' : U.oth v <;> first | (cases x'; rw [zeH] <;> first | exact .oth _ | (intros; contradiction)) | cases x'
  | slE a c h => rw [zeH]; exact .slE a c h
  | row cells off b o f h1 h2 => exact .row cells off b o f h1 h2
  | sl rows b o sz c f h1 h2 h3 h4 h5 =>
   rw [zeH]
   have := RepU.sl (m := m) (rows.map fun r => r.map (zeH n)) b o sz c f (by simpa using h1) h2 (fun r hr => by
    obtain ⟨r0, hr0, rfl⟩ := List.mem_map.1 hr
    simpa using h3 r0 hr0) (fun i hi => h4 i (by simpa using hi)) (fun i r hi j u hj => by
    rw [List.getElem?_map] at hi
    cases hc : rows[i]? with
    | none => rw [hc] at hi; cases hi
    | some r0 =>
     rw [hc] at hi; cases hi
     rw [List.getElem?_map] at hj
     cases hd : r0[j]? with
     | none => rw [hd] at hj; cases hj
     | some u0 => rw [hd] at hj; cases hj; exact ziL n (h5 i r0 hc j u0 hd))
   simpa using this
  | agg cells vs h1 h2 =>
   rw [zeH]
   refine .agg _ vs (by simpa using h1) fun j u hj => ?_
   rw [List.getElem?_map] at hj
   cases hc : cells[j]? with
   | none => rw [hc] at hj; cases hj
   | some e => rw [hc] at hj; cases hj; exact ziL n (h2 j e hc)
theorem Fun.zrj {P : Program} {f : FuncId} {us : List U} {post : D → Prop} (n : Nat) (h : Fun P f (us.map fun u => .u (zeH n u)) post) : Fun P f (us.map .u) post := by
 intro k own w vs hsat hhdr hown hrep
 refine h k own w vs hsat hhdr hown ⟨by simpa using hrep.1, fun j d hj => ?_⟩
 rw [List.getElem?_map] at hj
 cases hc : us[j]? with
 | none => rw [hc] at hj; cases hj
 | some u =>
  rw [hc] at hj; cases hj
  have h1 := hrep.2 j (.u u) (by rw [List.getElem?_map, hc]; rfl)
  generalize vs.getD j undef = v at h1
  cases h1 with
  | u _ _ h1 => exact .u _ _ (ziL n h1)
theorem rA : zaE 12 eA = true := by kernel_rfl
theorem rM : zaE 12 eM = true := by kernel_rfl
theorem rS : zaE 12 eS = true := by kernel_rfl
theorem rZ : zaE 12 (.mk 1 0 0 [] []) = false := by kernel_rfl
theorem rB : zca bB = true := by kernel_rfl
theorem rz : zca zeY = false := by kernel_rfl
theorem nP : zbD [112, 101, 114, 105, 111, 100] = true := by kernel_rfl
theorem nC : zbD [99, 111, 105, 110, 115] = false := by kernel_rfl
attribute [local simp] HS zcR zb0 evPure opd uOf zaH St.put St.at getK binD binI binS binB nilD aggD zgp zhi lookD lookR zcm Go.VL.nextD zcq zhv zhu zfX zcs mkV zdb zbj zbr mapEff zd1 zfM Key.kk shiftI arith unD convD zdH loadD cellsAt fieldAddrD fieldD indexAddrD indexD sliceD cutD lenD minmaxD nilCheckD buildD fillD zbH zcW zes setAll zcE zeJ zch zgC zcd St.add zaM zbB rowsOf zdw zcA zak zac zaa zba zcz zaR entry zbo zbq valD zb5 zcu zgh zc8 zda zbO zbG zau za2 zbm delAll effD St.effS zcM za6 zaY zcN za7 za0 zbY zaZ zaS zbZ zcH zbv zbV zbi zbT zbU zaJ mkD zbI zbs zbF zau zcf D.ids Op.operands Call.operands zbx makeIfD makeFuncD typeAssertD zhh zds zdt zgK zcn IntKind.bits zcG List.take_of_length_le List.range_succ
attribute [local irreducible] V G H HD HD2 HD4 zkk RetX zao Eff CallP CallV EndOK Fun Ret FinOK LoopI LoopW EndW
theorem ziq {s : W8} {b : By} {p e : Int} (h : zhO s = (b, p, e)) : Fun Tryz.prog 10 [.u (.str s)] (· = .tup [byD b, .u (.int .i64 p), .u (.int .i64 e)]) := by
 have h1 := zjt s
 rw [znc, h] at h1
 exact h1
theorem zjy {s : W8} {b : Exp} {p e : Int} (h : zjv s = (b, p, e)) : Fun Tryz.prog 12 [.u (.str s)] (· = .tup [zhF b, .u (.int .i64 p), .u (.int .i64 e)]) := by
 have h1 := zjx s
 rw [znb, h] at h1
 exact h1
theorem zjl {e : Exp} {s : W8} (h : zaE 12 e = true) (ht : txt e 0 = s) (hs : s.length ≤ 2000) : Fun Tryz.prog 21 [.u (.agg e.row)] (· = .tup [.u (.str s), .u (.int .i64 0)]) := by
 have h1 := zjk e
 rw [show zjj e = (s, 0) by unfold zjj; rw [if_pos h, ht, if_neg (by omega)]] at h1
 exact h1
theorem dM : zeH 9 (.agg [.int .i64 4, .int .i64 0, .int .i64 0, .str [], .sl [[.int .i64 0, .int .i64 3, .int .i64 1, .str [], .nil], [.int .i64 2, .int .i64 0, .int .i64 0, .str [], .sl [[.int .i64 0, .int .i64 5, .int .i64 3, .str [], .nil], [.int .i64 1, .int .i64 0, .int .i64 0, .str [112, 111, 116], .nil]]]]]) = .agg eM.row := by simp [zeH, Exp.row_eq, eM, eS, Exp.op, Exp.n, Exp.unit, Exp.s, Exp.args]
theorem dS : zeH 9 (.agg [.int .i64 2, .int .i64 0, .int .i64 0, .str [], .sl [[.int .i64 0, .int .i64 5, .int .i64 3, .str [], .nil], [.int .i64 1, .int .i64 0, .int .i64 0, .str [112, 111, 116], .nil]]]) = .agg eS.row := by simp [zeH, Exp.row_eq, eM, eS, Exp.op, Exp.n, Exp.unit, Exp.s, Exp.args]
theorem dZ : zeH 9 (.agg [.int .i64 1, .int .i64 0, .int .i64 0, .str [], .nil]) = .agg (Exp.mk 1 0 0 [] []).row := by simp [zeH, Exp.row_eq, eM, eS, Exp.op, Exp.n, Exp.unit, Exp.s, Exp.args]
theorem zm0 : Fun Tryz.prog 9 [] (· = .u (.bool true)) := by
 have h1 := zjy pv1
 have h2 := zjl rA tA (by decide)
 have h3 : Fun Tryz.prog 21 ([.agg [.int .i64 4, .int .i64 0, .int .i64 0, .str [], .sl [[.int .i64 0, .int .i64 3, .int .i64 1, .str [], .nil], [.int .i64 2, .int .i64 0, .int .i64 0, .str [], .sl [[.int .i64 0, .int .i64 5, .int .i64 3, .str [], .nil], [.int .i64 1, .int .i64 0, .int .i64 0, .str [112, 111, 116], .nil]]]]]].map .u) (· = .tup [.u (.str [51, 32, 42, 32, 40, 32, 53, 32, 99, 111, 105, 110, 115, 32, 43, 32, 112, 111, 116, 32, 41]), .u (.int .i64 0)]) := Fun.zrj 9 (by simp only [List.map_cons, List.map_nil, dM]; exact zjl rM tM (by decide))
 have h4 := ziq pv3
 have h5 : Fun Tryz.prog 19 [.u (.agg (zbc bB))] (· = .tup [.u (.str [99, 105, 114, 99, 108, 101, 32, 115, 97, 118, 105, 110, 103, 32, 59, 10, 112, 101, 114, 105, 111, 100, 32, 55, 32, 100, 97, 121, 115, 32, 59, 10, 108, 97, 115, 116, 32, 49, 48, 32, 59, 10, 100, 117, 101, 32, 49, 48, 48, 32, 99, 111, 105, 110, 115, 32, 59, 10]), .u (.int .i64 0)]) := by
  have h := zji bB
  have e : textP bB = [99, 105, 114, 99, 108, 101, 32, 115, 97, 118, 105, 110, 103, 32, 59, 10, 112, 101, 114, 105, 111, 100, 32, 55, 32, 100, 97, 121, 115, 32, 59, 10, 108, 97, 115, 116, 32, 49, 48, 32, 59, 10, 100, 117, 101, 32, 49, 48, 48, 32, 99, 111, 105, 110, 115, 32, 59, 10] := tB
  rw [show printB bB = ([99, 105, 114, 99, 108, 101, 32, 115, 97, 118, 105, 110, 103, 32, 59, 10, 112, 101, 114, 105, 111, 100, 32, 55, 32, 100, 97, 121, 115, 32, 59, 10, 108, 97, 115, 116, 32, 49, 48, 32, 59, 10, 100, 117, 101, 32, 49, 48, 48, 32, 99, 111, 105, 110, 115, 32, 59, 10], 0) by unfold printB; rw [if_pos rB, e, if_neg (by decide)]] at h
  exact h
 have h6 := ziq pv4
 have h7 := ziq pv5
 have h8 := zjy pv2
 have h9 := zdG bB
 rw [rB] at h9
 have h10 : Fun Tryz.prog 23 ([.agg [.int .i64 0, .int .i64 0, .int .i64 0, .int .i64 0, .int .i64 0, .int .i64 0, .bool false, .int .i64 0, .int .i64 0, .int .i64 0, .int .i64 0, .nil, .int .i64 0, .int .i64 0, .int .i64 0, .str [], .nil, .int .i64 0, .int .i64 0, .int .i64 0, .str [], .nil, .int .i64 0, .int .i64 0, .int .i64 0, .str [], .nil, .int .i64 0, .int .i64 0, .int .i64 0, .str [], .nil, .int .i64 0, .int .i64 0, .int .i64 0, .str [], .nil]].map .u) (· = .u (.bool false)) := Fun.zrj 9 (by have h := zdG zeY; rw [rz] at h; exact h)
 have h11 : Fun Tryz.prog 25 ([.agg [.int .i64 2, .int .i64 0, .int .i64 0, .str [], .sl [[.int .i64 0, .int .i64 5, .int .i64 3, .str [], .nil], [.int .i64 1, .int .i64 0, .int .i64 0, .str [112, 111, 116], .nil]]]].map .u) (· = .u (.bool true)) := Fun.zrj 9 (by have h := zdO eS; rw [rS, zhF, ← Exp.row_eq] at h; simp only [List.map_cons, List.map_nil, dS]; exact h)
 have h12 : Fun Tryz.prog 25 ([.agg [.int .i64 1, .int .i64 0, .int .i64 0, .str [], .nil]].map .u) (· = .u (.bool false)) := Fun.zrj 9 (by have h := zdO (.mk 1 0 0 [] []); rw [rZ, zhF, ← Exp.row_eq] at h; simp only [List.map_cons, List.map_nil, dZ]; exact h)
 have h13 := zeN [112, 101, 114, 105, 111, 100]
 rw [nP] at h13
 have h14 := zeN [99, 111, 105, 110, 115]
 rw [nC] at h14
 have h15 := zjb bB
 have h16 : Fun Tryz.prog 28 ([.agg [.int .i64 2, .int .i64 0, .int .i64 0, .str [], .sl [[.int .i64 0, .int .i64 5, .int .i64 3, .str [], .nil], [.int .i64 1, .int .i64 0, .int .i64 0, .str [112, 111, 116], .nil]]], .agg [.int .i64 2, .int .i64 0, .int .i64 0, .str [], .sl [[.int .i64 0, .int .i64 5, .int .i64 3, .str [], .nil], [.int .i64 1, .int .i64 0, .int .i64 0, .str [112, 111, 116], .nil]]]].map .u) (· = .u (.bool true)) := Fun.zrj 9 (by have h := zck eS eS; rw [zdu, ze6] at h; simp only [List.map_cons, List.map_nil, dS]; exact h)
 rw [Exp.row_eq] at h2
 simp only [zhF, byD, zbc, List.map_cons, List.map_nil] at h1 h3 h4 h6 h7 h8 h10 h11 h12 h15 h16 h5 h9
 generalize eA = e1 at *
 generalize bB = b1 at *
 (refine Fun.of_bodyW Tryz.func9 rfl (by simp) fun Γ hn => ?_); simp only [entry, List.zipIdx_cons, List.zipIdx_nil, List.map_cons, List.map_nil, Nat.zero_add, Tryz.ntmps9]
 repeat' (first
  | (refine zaf ?_; simp)
  | (refine zal ?_; simp)
  | (refine zah ?_; simp)
  | (refine CallP.fE (h1) (by first | rfl | fail) (by first | (simp; done) | (simp; rfl) | fail) ?_; (try simp))
  | (refine CallP.fE (h2) (by first | rfl | fail) (by first | (simp; done) | (simp; rfl) | fail) ?_; (try simp))
  | fail)
 refine ziY (Wk.frzN 1 _) ?_
 simp [frzN, frz1, zay, zax, St.frz, St.frzS, frzS, fv, zaz, za5, za8, zaF, zat, zaj, del, frz, za9]
 refine ziY (Wk.frzN 1 _) ?_
 simp [frzN, frz1, zay, zax, St.frz, St.frzS, frzS, fv, zaz, za5, za8, zaF, zat, zaj, del, frz, za9]
 repeat' (first
  | (refine zaf ?_; simp)
  | (refine zal ?_; simp)
  | (refine zah ?_; simp)
  | (refine zar ?_; simp only [zao])
  | (refine CallP.fE (h3) (by first | rfl | fail) (by first | (simp; done) | (simp; rfl) | fail) ?_; (try simp))
  | (refine CallP.fE (h4) (by first | rfl | fail) (by first | (simp; done) | (simp; rfl) | fail) ?_; (try simp))
  | (refine CallP.fE (h5) (by first | rfl | fail) (by first | (simp; done) | (simp; rfl) | fail) ?_; (try simp))
  | (refine CallP.fE (h6) (by first | rfl | fail) (by first | (simp; done) | (simp; rfl) | fail) ?_; (try simp))
  | (refine CallP.fE (h7) (by first | rfl | fail) (by first | (simp; done) | (simp; rfl) | fail) ?_; (try simp))
  | (refine CallP.fE (h8) (by first | rfl | fail) (by first | (simp; done) | (simp; rfl) | fail) ?_; (try simp))
  | (refine CallP.fE (h9) (by first | rfl | fail) (by first | (simp; done) | (simp; rfl) | fail) ?_; (try simp))
  | (refine CallP.fE (h10) (by first | rfl | fail) (by first | (simp; done) | (simp; rfl) | fail) ?_; (try simp))
  | (refine CallP.fE (h11) (by first | rfl | fail) (by first | (simp; done) | (simp; rfl) | fail) ?_; (try simp))
  | (refine CallP.fE (h12) (by first | rfl | fail) (by first | (simp; done) | (simp; rfl) | fail) ?_; (try simp))
  | (refine CallP.fE (h13) (by first | rfl | fail) (by first | (simp; done) | (simp; rfl) | fail) ?_; (try simp))
  | (refine CallP.fE (h14) (by first | rfl | fail) (by first | (simp; done) | (simp; rfl) | fail) ?_; (try simp))
  | (refine CallP.fE (h15) (by first | rfl | fail) (by first | (simp; done) | (simp; rfl) | fail) ?_; (try simp))
  | (refine CallP.fE (h16) (by first | rfl | fail) (by first | (simp; done) | (simp; rfl) | fail) ?_; (try simp))
  | fail)
 refine EndW.here ?_
 (refine EndOK.val (.inr rfl) ?_; simp [zaL, zag, zas, Tryz.results9])
end Go.Proofs.YthnemhfamhnfjaaGreatDoor
namespace Go.Proofs.YthnemhfamhnfjaaGreatDoor
open Go Go.VL
attribute [local simp] zcR zb0 evPure opd uOf zaH St.put St.at getK binD binI binS binB nilD aggD zgp zhi lookD lookR zcm Go.VL.nextD zcq zhv zhu zfX zcs mkV zdb zbj zbr mapEff zd1 zfM Key.kk shiftI arith unD convD zdH loadD cellsAt fieldAddrD fieldD indexAddrD indexD sliceD cutD lenD minmaxD nilCheckD buildD fillD zbH zcW zes setAll zcE zeJ zch zgC zcd St.add zaM zbB rowsOf zdw zcA zak zac zaa zba zcz zaR entry zbo zbq valD zb5 zcu zgh zc8 zda zbO zbG zau za2 zbm delAll effD St.effS zcM za6 zaY zcN za7 za0 zbY zaZ zaS zbZ zcH zbv zbV zbi zbT zbU zaJ mkD zbI zbs zbF zau zcf D.ids Op.operands Call.operands zbx makeIfD makeFuncD typeAssertD zhh zds zdt zgK zcn IntKind.bits zcG List.take_of_length_le List.range_succ
attribute [local irreducible] V G H HD HD2 zao Eff CallP CallV EndOK Fun Ret FinOK LoopI LoopW EndW
def zcX : Nat → Exp → Int → Int
 | 0, _, most => most + 1
 | L + 1, e, most => if 40 < e.s.length then most + 1 else e.args.foldl (fun n x => if n ≤ most then n + zcX L x (most - n) else n) 1
theorem zkF (L : Nat) (e : Exp) (most : Int) : zcX (L + 1) e most = if 40 < e.s.length then most + 1 else e.args.foldl (fun n x => if n ≤ most then n + zcX L x (most - n) else n) 1 := by rw [zcX]
theorem zg1 : ∀ (L : Nat) (e : Exp) (most : Int), 0 ≤ most → 1 ≤ zcX L e most ∧ zcX L e most ≤ most + 1
 | 0, e, most, h => by rw [zcX]; omega
 | L + 1, e, most, h => by
  rw [zcX]
  split
  ·omega
  ·have : ∀ (l : List Exp) (n : Int), 1 ≤ n → n ≤ most + 1 → 1 ≤ l.foldl (fun n x => if n ≤ most then n + zcX L x (most - n) else n) n ∧ l.foldl (fun n x => if n ≤ most then n + zcX L x (most - n) else n) n ≤ most + 1 := by
    intro l
    induction l with
    | nil => intro n h1 h2; exact ⟨h1, h2⟩
    | cons a l ih =>
     intro n h1 h2
     rw [List.foldl_cons]
     split
     ·rename_i hn
      have := zg1 L a (most - n) (by omega)
      exact ih _ (by omega) (by omega)
     ·exact ih n h1 h2
   exact this _ 1 (by omega) (by omega)
theorem zh2 {L : Nat} {most : Int} : ∀ (l : List Exp) (n : Int), ¬ n ≤ most → l.foldl (fun n x => if n ≤ most then n + zcX L x (most - n) else n) n = n
 | [], _, _ => rfl
 | a :: l, n, h => by rw [List.foldl_cons, if_neg h]; exact zh2 l n h
theorem zjD : ∀ (L : Nat) (e : Exp) (most : Int), 0 ≤ most → most ≤ 1000 → (L : Int) ≤ 100 → Fun Tryz.prog 74 [zhF e, .u (.int .i64 most), .u (.int .i64 L)] (· = .u (.int .i64 (zcX L e most)))
 | 0, e, most, _, _, _ => by
  rw [zcX]
  (refine Fun.of_body Tryz.func74 rfl (by simp) fun Γ hn => ?_); simp only [entry, List.zipIdx_cons, List.zipIdx_nil, List.map_cons, List.map_nil, Nat.zero_add, Tryz.ntmps74]
  simp only [zhF]
  repeat' (first
  | (refine zaf ?_; simp)
  | (refine zal ?_; simp)
  | (refine ⟨by omega, ?_⟩)
  | (refine zah ?_; simp)
  | (refine zai ?_; simp)
  | (refine zar ?_; simp only [zao])
  | fail)
  (refine EndOK.val (.inr rfl) ?_; simp [zaL, zag, zas, Tryz.results74])
 | L + 1, e, most, h0, h1, hL => by
  rw [zkF]
  by_cases hs : 40 < e.s.length
  ·rw [if_pos hs]
   (refine Fun.of_body Tryz.func74 rfl (by simp) fun Γ hn => ?_); simp only [entry, List.zipIdx_cons, List.zipIdx_nil, List.map_cons, List.map_nil, Nat.zero_add, Tryz.ntmps74]
   simp only [zhF]
   repeat' (first
  | (refine zaf ?_; simp)
  | (refine zal ?_; simp)
  | (refine ⟨by omega, ?_⟩)
  | (refine zah ?_; simp)
  | (refine zai ?_; simp)
  | (refine zar ?_; simp only [zao])
  | (refine ⟨?_, by omega⟩)
  | (intro hc <;> (try (exfalso; omega)))
  | fail)
   all_goals first
    | (exfalso; omega)
    | ((refine EndOK.val (.inr rfl) ?_; simp [zaL, zag, zas, Tryz.results74]); done)
  rw [if_neg hs]
  generalize hg : (e.args.foldl (fun n x => if n ≤ most then n + zcX L x (most - n) else n) 1) = g
  (refine Fun.of_body Tryz.func74 rfl (by simp) fun Γ hn => ?_); simp only [entry, List.zipIdx_cons, List.zipIdx_nil, List.map_cons, List.map_nil, Nat.zero_add, Tryz.ntmps74]
  simp only [zhF]
  refine zol (x := 0) (j := 4) rfl rfl fun hl => ?_
  simp only [List.length_map] at hl
  repeat' (first
  | (refine zaf ?_; simp)
  | (refine zal ?_; simp)
  | (refine ⟨by omega, ?_⟩)
  | (refine zah ?_; simp)
  | (refine zai ?_; simp)
  | (refine zaA ?_; simp)
  | (refine zap ?_; simp only [zao])
  | (refine ⟨?_, by omega⟩)
  | (intro hc <;> (try (exfalso; omega)))
  | fail)
  refine zcT (α := { p : Nat × Int // p.1 ≤ e.args.length ∧ 1 ≤ p.2 ∧ p.2 ≤ most + 1 ∧ g = (e.args.drop p.1).foldl (fun n x => if n ≤ most then n + zcX L x (most - n) else n) p.2 }) [1, 2, 3] (fun p => [(7, .u (.int .i64 p.1.2)), (8, .u (.int .i64 p.1.1))]) (fun p => e.args.length - p.1.1) ⟨(0, 1), by simp, by simp, by simp; omega, by simp [hg]⟩ ?_ ?_
  ·exact (Wk.cut rfl (by simp [hn, St.lp]) (by simp [wkO, St.lp, zaa, getK, Ob.under, D.under, zad, zae]) (by simp [wkU, St.lp, zan, zaa, getK, D.under]) (by simp [wkE, St.lp, zan, zaa, getK] <;> (try (intros; simp_all; done)) <;> (try (intros; omega)) <;> (try grind)))
  rintro ⟨⟨i, n⟩, hi, hn1, hn2, hgn⟩
  simp only at hi hn1 hn2 hgn
  simp [St.lp, St.only, zan, zaa, getK]
  rcases hx : e.args[i]? with _ | x
  ·have hge : e.args.length ≤ i := by simpa using hx
   rw [List.drop_of_length_le hge] at hgn
   repeat' (first
  | (refine zaf ?_; simp [hx])
  | (refine zal ?_; simp [hx])
  | (refine ⟨by omega, ?_⟩)
  | (refine zah ?_; simp [hx])
  | (refine zai ?_; simp [hx])
  | (refine zar ?_; simp only [zao])
  | (refine zbR ?_; simp [zao])
  | (intro hc <;> (try (exfalso; omega)))
  | fail)
   (refine EndOK.val (.inr rfl) ?_; simp [zaL, zag, zas, Tryz.results74])
   rw [hgn]; rfl
  ·have hlt : i < e.args.length := (List.getElem?_eq_some_iff.1 hx).1
   by_cases hm : n ≤ most
   ·have h5 := zjD L x (most - n) (by omega) (by omega) (by omega)
    have hb := zg1 L x (most - n) (by omega)
    simp only [zhF] at h5
    rw [List.drop_eq_getElem_cons hlt, List.foldl_cons, if_pos hm, (List.getElem?_eq_some_iff.1 hx).2] at hgn
    generalize zcX L x (most - n) = y at h5 hb hgn
    repeat' (first
  | (refine zaf ?_; simp [hx, x.row_eq])
  | (refine zal ?_; simp [hx, x.row_eq])
  | (refine ⟨by omega, ?_⟩)
  | (refine zah ?_; simp [hx, x.row_eq])
  | (refine zai ?_; simp [hx, x.row_eq])
  | (refine zaC ?_; simp [hx, x.row_eq])
  | (refine zap ?_; simp only [zao])
  | (refine ⟨?_, by omega⟩)
  | (intro hc <;> (try (exfalso; omega)))
  | (refine CallP.fE (h5) (by first | rfl | fail) (by first | (simp [hx, x.row_eq]; done) | (simp [hx, x.row_eq]; rfl) | fail) ?_; (try simp [hx, x.row_eq]))
  | fail)
    refine LoopW.next ⟨(i + 1, n + y), (by omega : i + 1 ≤ e.args.length), (by omega : 1 ≤ n + y), (by omega : n + y ≤ most + 1), hgn⟩ (by simp; omega) ?_
    exact (Wk.cut rfl (by simp [hn, St.lp]) (by simp [wkO, St.lp, zaa, getK, Ob.under, D.under, zad, zae]) (by simp [wkU, St.lp, zan, zaa, getK, D.under]) (by simp [wkE, St.lp, zan, zaa, getK] <;> (try (intros; simp_all; done)) <;> (try (intros; omega)) <;> (try grind)))
   ·rw [zh2 _ _ hm] at hgn
    repeat' (first
  | (refine zaf ?_; simp [hx])
  | (refine zal ?_; simp [hx])
  | (refine ⟨by omega, ?_⟩)
  | (refine zah ?_; simp [hx])
  | (refine zai ?_; simp [hx])
  | (refine zar ?_; simp only [zao])
  | (refine zbR ?_; simp [zao])
  | (refine ⟨?_, by omega⟩)
  | (intro hc <;> (try (exfalso; omega)))
  | fail)
    (refine EndOK.val (.inr rfl) ?_; simp [zaL, zag, zas, Tryz.results74])
    rw [hgn]
def zkn (e : Exp) : Bool := decide (zcX 16 e 60 ≤ 60)
theorem zmA (e : Exp) : Fun Tryz.prog 31 [.u (.agg e.row)] (· = .u (.bool (zkn e))) := by
 have h2 := zjD 16 e 60 (by omega) (by omega) (by omega)
 unfold zkn
 rw [Exp.row_eq]
 simp only [zhF] at h2 ⊢
 generalize zcX 16 e 60 = y at h2 ⊢
 (refine Fun.of_body Tryz.func31 rfl (by simp) fun Γ hn => ?_); simp only [entry, List.zipIdx_cons, List.zipIdx_nil, List.map_cons, List.map_nil, Nat.zero_add, Tryz.ntmps31]
 repeat' (first
  | (refine zaf ?_; simp)
  | (refine zal ?_; simp)
  | (refine zah ?_; simp)
  | (refine zar ?_; simp only [zao])
  | (refine CallP.fE (h2) (by first | rfl | fail) (by first | (simp; done) | (simp; rfl) | fail) ?_; (try simp))
  | fail)
 (refine EndOK.val (.inr rfl) ?_; simp [zaL, zag, zas, Tryz.results31])
theorem zqi (b : By) : ∃ B : Bool, Fun Tryz.prog 18 [.u (.agg (zbc b))] (· = .u (.bool B)) := by
 have hf : ∀ e : Exp, Fun Tryz.prog 31 [.u (.agg [.int .i64 e.op, .int .i64 e.n, .int .i64 e.unit, .str e.s, .sl (e.args.map Exp.row)])] (· = .u (.bool (zkn e))) := fun e => by
  have := zmA e
  rwa [Exp.row_eq] at this
 have f1 := hf b.due
 have f2 := hf b.fine
 have f3 := hf b.pay
 have f4 := hf b.cover
 have f5 := hf b.hold
 let ok : Let → Bool := fun l => decide (l.name.length ≤ 40) && zkn l.body
 refine ⟨(b.lets.take 23).all ok && (decide ((b.lets.length : Int) ≤ 22) && zkn b.due && zkn b.fine && zkn b.pay && zkn b.cover && zkn b.hold), ?_⟩
 generalize hC : ((b.lets.take 23).all ok) = C
 generalize zkn b.due = y1 at *
 generalize zkn b.fine = y2 at *
 generalize zkn b.pay = y3 at *
 generalize zkn b.cover = y4 at *
 generalize zkn b.hold = y5 at *
 (refine Fun.of_body Tryz.func18 rfl (by simp) fun Γ hn => ?_); simp only [entry, List.zipIdx_cons, List.zipIdx_nil, List.map_cons, List.map_nil, Nat.zero_add, Tryz.ntmps18]
 simp only [zbc]
 repeat' (first
  | (refine zaf ?_; simp)
  | (refine zal ?_; simp)
  | (refine zah ?_; simp)
  | (refine zaA ?_; simp)
  | fail)
 refine zcT (α := { i : Nat // i ≤ b.lets.length ∧ (i : Int) ≤ 23 ∧ ∀ l ∈ b.lets.take i, ok l = true }) [1, 2] (fun i => [(3, .u (.int .i64 i.1))]) (fun i => b.lets.length - i.1) ⟨0, by omega, by omega, by simp⟩ ?_ ?_
 ·exact (Wk.env rfl rfl rfl (by simp [wkE, St.lp, zan, zaa, getK] <;> (try (intros; simp_all; done)) <;> (try (intros; omega)) <;> (try grind)))
 rintro ⟨i, hi, hin, hb⟩
 simp [St.lp, St.only, zan, zaa, getK]
 have fin : (i = b.lets.length ∨ (i : Int) = 23) → C = true := fun h => by
  rw [← hC, List.all_eq_true]
  intro l hl
  refine hb l ?_
  rcases h with h | h
  ·rw [h, List.take_length]; exact List.mem_of_mem_take hl
  ·rw [show i = 23 by omega]; exact hl
 rcases hx : b.lets[i]? with _ | l
 ·have hge : b.lets.length ≤ i := by simpa using hx
  obtain rfl : i = b.lets.length := by omega
  have := fin (.inl rfl)
  subst this
  repeat' (first
  | (refine zaf ?_; simp [hx])
  | (refine zal ?_; simp [hx])
  | (refine zah ?_; simp [hx])
  | (refine zai ?_; simp [hx])
  | (refine zar ?_; simp only [zao])
  | (refine zbR ?_; simp [zao])
  | (refine ⟨fun hc => ?_, fun hc => ?_⟩ <;> (try (exfalso; omega)))
  | (refine CallP.fE (f1) (by first | rfl | fail) (by first | (simp [hx]; done) | (simp [hx]; rfl) | fail) ?_; (try simp [hx]))
  | (refine CallP.fE (f2) (by first | rfl | fail) (by first | (simp [hx]; done) | (simp [hx]; rfl) | fail) ?_; (try simp [hx]))
  | (refine CallP.fE (f3) (by first | rfl | fail) (by first | (simp [hx]; done) | (simp [hx]; rfl) | fail) ?_; (try simp [hx]))
  | (refine CallP.fE (f4) (by first | rfl | fail) (by first | (simp [hx]; done) | (simp [hx]; rfl) | fail) ?_; (try simp [hx]))
  | (refine CallP.fE (f5) (by first | rfl | fail) (by first | (simp [hx]; done) | (simp [hx]; rfl) | fail) ?_; (try simp [hx]))
  | fail)
  all_goals
   (refine EndOK.val (.inr rfl) ?_; simp [zaL, zag, zas, Tryz.results18])
  all_goals (clear hC fin hf f1 f2 f3 f4 f5; simp_all <;> (try (intros; omega)))
 ·have hlt : i < b.lets.length := (List.getElem?_eq_some_iff.1 hx).1
  have f6 := hf l.body
  by_cases hm : (i : Int) < 23
  ·by_cases hnv : 40 < l.name.length
   ·have hnv1 : 40 < (l.name.length : Int) := by omega
    repeat' (first
  | (refine zaf ?_; simp [hx, hm, hnv, hnv1])
  | (refine zal ?_; simp [hx, hm, hnv, hnv1])
  | (refine zah ?_; simp [hx, hm, hnv, hnv1])
  | (refine zai ?_; simp [hx, hm, hnv, hnv1])
  | (refine zar ?_; simp only [zao])
  | (refine zap ?_; simp only [zao])
  | (refine ⟨?_, by omega⟩)
  | (intro hc <;> (try (exfalso; omega)))
  | fail)
    (refine EndOK.val (.inr rfl) ?_; simp [zaL, zag, zas, Tryz.results18])
    have : C = false := by
     rw [← hC, List.all_eq_false]
     exact ⟨l, List.mem_of_getElem? (i := i) (by rw [List.getElem?_take, if_pos (by omega)]; exact hx), by simp [ok]; omega⟩
    simp [this]
   ·have hnv1 : ¬ 40 < (l.name.length : Int) := by omega
    have hok : ok l = zkn l.body := by simp [ok]; omega
    generalize zkn l.body = y6 at f6 hok
    cases y6 with
    | false =>
     repeat' (first
  | (refine zaf ?_; simp [hx, hm, hnv, hnv1])
  | (refine zal ?_; simp [hx, hm, hnv, hnv1])
  | (refine zah ?_; simp [hx, hm, hnv, hnv1])
  | (refine zai ?_; simp [hx, hm, hnv, hnv1])
  | (refine zar ?_; simp only [zao])
  | (refine zap ?_; simp only [zao])
  | (refine ⟨?_, by omega⟩)
  | (intro hc <;> (try (exfalso; omega)))
  | (refine CallP.fE (f6) (by first | rfl | fail) (by first | (simp [hx, hm, hnv, hnv1]; done) | (simp [hx, hm, hnv, hnv1]; rfl) | fail) ?_; (try simp [hx, hm, hnv, hnv1]))
  | fail)
     (refine EndOK.val (.inr rfl) ?_; simp [zaL, zag, zas, Tryz.results18])
     have : C = false := by
      rw [← hC, List.all_eq_false]
      exact ⟨l, List.mem_of_getElem? (i := i) (by rw [List.getElem?_take, if_pos (by omega)]; exact hx), by simp [hok]⟩
     simp [this]
    | true =>
     repeat' (first
  | (refine zaf ?_; simp [hx, hm, hnv, hnv1])
  | (refine zal ?_; simp [hx, hm, hnv, hnv1])
  | (refine ⟨by omega, ?_⟩)
  | (refine zah ?_; simp [hx, hm, hnv, hnv1])
  | (refine zai ?_; simp [hx, hm, hnv, hnv1])
  | (refine zaC ?_; simp [hx, hm, hnv, hnv1])
  | (refine zap ?_; simp only [zao])
  | (refine ⟨?_, by omega⟩)
  | (intro hc <;> (try (exfalso; omega)))
  | (refine CallP.fE (f6) (by first | rfl | fail) (by first | (simp [hx, hm, hnv, hnv1]; done) | (simp [hx, hm, hnv, hnv1]; rfl) | fail) ?_; (try simp [hx, hm, hnv, hnv1]))
  | fail)
     refine LoopW.next ⟨i + 1, by omega, by omega, zby hx hb hok⟩ (by simp; omega) ?_
     exact (Wk.env rfl rfl rfl (by simp [wkE, St.lp, zan, zaa, getK] <;> (try (intros; simp_all; done)) <;> (try (intros; omega)) <;> (try grind)))
  ·have := fin (.inr (by omega))
   subst this
   repeat' (first
  | (refine zaf ?_; simp [hx, hm])
  | (refine zal ?_; simp [hx, hm])
  | (refine ⟨by omega, ?_⟩)
  | (refine zah ?_; simp [hx, hm])
  | (refine zai ?_; simp [hx, hm])
  | (refine zar ?_; simp only [zao])
  | (refine zbR ?_; simp [zao])
  | (refine ⟨?_, by omega⟩)
  | (intro hc <;> (try (exfalso; omega)))
  | fail)
   all_goals
    (refine EndOK.val (.inr rfl) ?_; simp [zaL, zag, zas, Tryz.results18])
   all_goals (clear hC fin hf f1 f2 f3 f4 f5; simp_all <;> (try (intros; omega)))
abbrev zfI (a b : Exp) : Prop := Fun Tryz.prog 15 [.u (.agg a.row), .u (.agg b.row)] (· = .u (.bool (eqB a b)))
theorem zm2 : ∀ (n : Nat) (a b : Exp), SizeOf.sizeOf a ≤ n → zfI a b := by
 intro n
 induction n with
 | zero =>
  intro a b h
  cases a with
  | mk op n u s args => simp only [Exp.mk.sizeOf_spec] at h; omega
 | succ n ih =>
  intro a b hs
  have hch : ∀ x ∈ a.args, ∀ y, zfI x y := fun x hx y => ih x y (by have := Exp.zfb hx; omega)
  unfold zfI
  have key : ∀ B : Bool, (B = true ↔ a = b) → eqB a b = B := fun B h => by
   cases B with
   | true => exact zcg.2 (h.1 rfl)
   | false => exact zd8 fun e => by have := h.2 e; cases this
  have hmk : a = b ↔ a.op = b.op ∧ a.n = b.n ∧ a.unit = b.unit ∧ a.s = b.s ∧ a.args = b.args := by
   cases a; cases b
   simp only [Exp.op, Exp.n, Exp.unit, Exp.s, Exp.args, Exp.mk.injEq]
  rw [Exp.row_eq, Exp.row_eq b]
  by_cases c1 : a.op = b.op
  ·by_cases c2 : a.n = b.n
   ·by_cases c3 : a.unit = b.unit
    ·by_cases c4 : a.s = b.s
     ·by_cases c5 : a.args.length = b.args.length
      ·have c5' : (a.args.length : Int) = b.args.length := by omega
       rw [key (eqB a.args b.args) (by rw [zcg, hmk]; exact ⟨fun h => ⟨c1, c2, c3, c4, h⟩, fun h => h.2.2.2.2⟩)]
       clear key hmk
       (refine Fun.of_body Tryz.func15 rfl (by simp) fun Γ hn => ?_); simp only [entry, List.zipIdx_cons, List.zipIdx_nil, List.map_cons, List.map_nil, Nat.zero_add, Tryz.ntmps15]
       refine zol (x := 0) (j := 4) rfl rfl fun hll => ?_
       simp only [List.length_map] at hll
       repeat' (first
  | (refine zaf ?_; simp [c1, c2, c3, c4, c5, c5'])
  | (refine zal ?_; simp [c1, c2, c3, c4, c5, c5'])
  | (refine zah ?_; simp [c1, c2, c3, c4, c5, c5'])
  | (refine zai ?_; simp [c1, c2, c3, c4, c5, c5'])
  | (refine zaA ?_; simp [c1, c2, c3, c4, c5, c5'])
  | (refine zap ?_; simp only [zao])
  | fail)
       refine zdY (α := { i : Nat // i ≤ a.args.length ∧ a.args.take i = b.args.take i }) [2, 3, 4] (fun x => [(5, .u (.int .i64 x.1))]) (fun x => [(1, .box [.u (.int .i64 b.op), .u (.int .i64 b.n), .u (.int .i64 b.unit), .u (.str b.s), .u (.sl (b.args.map Exp.row))]), (0, .box [.u (.int .i64 a.op), .u (.int .i64 a.n), .u (.int .i64 a.unit), .u (.str a.s), .u (.sl (a.args.map Exp.row))])]) 2 (fun x => a.args.length - x.1) ⟨0, by omega, by simp⟩ ?_ ?_
       ·exact (Wk.cut rfl (by simp [hn, St.lp]) (by simp [wkO, St.lp, zaa, getK, Ob.under, D.under, zad, zae, c1, c2, c3, c4, c5]) (by simp [wkU, St.lp, zan, zaa, getK, D.under, c1, c2, c3, c4, c5]) (by simp [wkE, St.lp, zan, zaa, getK, c1, c2, c3, c4, c5] <;> (try (intros; simp_all; done)) <;> (try (intros; omega)) <;> (try grind)))
       rintro ⟨i, hi, hb⟩
       simp [St.lp, St.only, zan, zaa, getK]
       rcases hx : a.args[i]? with _ | x
       ·have hge : a.args.length ≤ i := by simpa using hx
        obtain rfl : i = a.args.length := by omega
        rw [List.take_of_length_le (Nat.le_refl _), List.take_of_length_le (by omega)] at hb
        rw [zcg.2 hb]
        repeat' (first
  | (refine zaf ?_; simp [hx, c5])
  | (refine zal ?_; simp [hx, c5])
  | (refine zah ?_; simp [hx, c5])
  | (refine zai ?_; simp [hx, c5])
  | (refine zar ?_; simp only [zao])
  | (refine zbR ?_; simp [zao])
  | fail)
        (refine EndOK.val (.inr rfl) ?_; simp [zaL, zag, zas, Tryz.results15])
       ·have hlt : i < a.args.length := (List.getElem?_eq_some_iff.1 hx).1
        have hlt2 : i < b.args.length := by omega
        obtain ⟨y, hy⟩ : ∃ y, b.args[i]? = some y := ⟨_, List.getElem?_eq_getElem hlt2⟩
        have hi2 : (i : Int) < b.args.length := by omega
        have hi1 : (i : Int) < a.args.length := by omega
        have h1 : zfI x y := hch x (List.mem_of_getElem? hx) y
        unfold zfI at h1
        by_cases hab : x = y
        ·rw [zcg.2 hab] at h1
         rw [Exp.row_eq, Exp.row_eq] at h1
         have hsn : a.args.take (i + 1) = b.args.take (i + 1) := by
          rw [List.take_succ_eq_append_getElem hlt, List.take_succ_eq_append_getElem hlt2, hb, (List.getElem?_eq_some_iff.1 hx).2, (List.getElem?_eq_some_iff.1 hy).2, hab]
         repeat' (first
  | (refine zaf ?_; simp [hx, hy, hi1, hi2, c5, Exp.row_eq])
  | (refine zeo ?_; simp [hx, hy, hi1, hi2, c5, Exp.row_eq])
  | (refine zal ?_; simp [hx, hy, hi1, hi2, c5, Exp.row_eq])
  | (refine ⟨by omega, ?_⟩)
  | (refine zah ?_; simp [hx, hy, hi1, hi2, c5, Exp.row_eq])
  | (refine zai ?_; simp [hx, hy, hi1, hi2, c5, Exp.row_eq])
  | (refine zfJ ?_)
  | (refine hk _ ?_; clear hk k; simp only [zao])
  | (refine zek rfl (by kernel_rfl) (by kernel_rfl) fun k hk => ?_; simp [hx, hy, hi1, hi2, c5, Exp.row_eq])
  | (refine zaC ?_; simp [hx, hy, hi1, hi2, c5, Exp.row_eq])
  | (refine zap ?_; simp only [zao])
  | (refine CallV.fun_ (h1) (by first | rfl | fail) (by first | (simp [hx, hy, hi1, hi2, c5, Exp.row_eq]; done) | (simp [hx, hy, hi1, hi2, c5, Exp.row_eq]; rfl) | fail) ?_ <;> (try simp [hx, hy, hi1, hi2, c5, Exp.row_eq]))
  | fail)
         refine LoopW.next ⟨i + 1, by omega, hsn⟩ (by simp; omega) ?_
         exact (Wk.cut rfl (by simp [hn, St.lp]) (by simp [wkO, St.lp, zaa, getK, Ob.under, D.under, zad, zae, c5]) (by simp [wkU, St.lp, zan, zaa, getK, D.under, c5]) (by simp [wkE, St.lp, zan, zaa, getK, c5] <;> (try (intros; simp_all; done)) <;> (try (intros; omega)) <;> (try grind)))
        ·rw [zd8 hab] at h1
         rw [Exp.row_eq, Exp.row_eq] at h1
         have hne : a.args ≠ b.args := fun e => by rw [e] at hx; rw [hx] at hy; cases hy; exact hab rfl
         rw [zd8 hne]
         repeat' (first
  | (refine zaf ?_; simp [hx, hy, hi1, hi2, c5, Exp.row_eq])
  | (refine zeo ?_; simp [hx, hy, hi1, hi2, c5, Exp.row_eq])
  | (refine zal ?_; simp [hx, hy, hi1, hi2, c5, Exp.row_eq])
  | (refine zah ?_; simp [hx, hy, hi1, hi2, c5, Exp.row_eq])
  | (refine zai ?_; simp [hx, hy, hi1, hi2, c5, Exp.row_eq])
  | (refine zfJ ?_)
  | (refine hk _ ?_; clear hk k; simp only [zao])
  | (refine zek rfl (by kernel_rfl) (by kernel_rfl) fun k hk => ?_; simp [hx, hy, hi1, hi2, c5, Exp.row_eq])
  | (refine zar ?_; simp only [zao])
  | (refine zap ?_; simp only [zao])
  | (refine CallV.fun_ (h1) (by first | rfl | fail) (by first | (simp [hx, hy, hi1, hi2, c5, Exp.row_eq]; done) | (simp [hx, hy, hi1, hi2, c5, Exp.row_eq]; rfl) | fail) ?_ <;> (try simp [hx, hy, hi1, hi2, c5, Exp.row_eq]))
  | fail)
         (refine EndOK.val (.inr rfl) ?_; simp [zaL, zag, zas, Tryz.results15])
      ·have c5' : ¬ (a.args.length : Int) = b.args.length := by omega
       rw [key false (by rw [hmk]; simp; intro _ _ _ _ h; exact c5 (by rw [h]))]
       (refine Fun.of_body Tryz.func15 rfl (by simp) fun Γ hn => ?_); simp only [entry, List.zipIdx_cons, List.zipIdx_nil, List.map_cons, List.map_nil, Nat.zero_add, Tryz.ntmps15]
       repeat' (first
  | (refine zaf ?_; simp [c1, c2, c3, c4, c5, c5'])
  | (refine zal ?_; simp [c1, c2, c3, c4, c5, c5'])
  | (refine zah ?_; simp [c1, c2, c3, c4, c5, c5'])
  | (refine zai ?_; simp [c1, c2, c3, c4, c5, c5'])
  | (refine zar ?_; simp only [zao])
  | fail)
       (refine EndOK.val (.inr rfl) ?_; simp [zaL, zag, zas, Tryz.results15])
     ·rw [key false (by rw [hmk]; simp [c4])]
      (refine Fun.of_body Tryz.func15 rfl (by simp) fun Γ hn => ?_); simp only [entry, List.zipIdx_cons, List.zipIdx_nil, List.map_cons, List.map_nil, Nat.zero_add, Tryz.ntmps15]
      repeat' (first
  | (refine zaf ?_; simp [c1, c2, c3, c4])
  | (refine zal ?_; simp [c1, c2, c3, c4])
  | (refine zah ?_; simp [c1, c2, c3, c4])
  | (refine zai ?_; simp [c1, c2, c3, c4])
  | (refine zar ?_; simp only [zao])
  | fail)
      (refine EndOK.val (.inr rfl) ?_; simp [zaL, zag, zas, Tryz.results15])
    ·rw [key false (by rw [hmk]; simp [c3])]
     (refine Fun.of_body Tryz.func15 rfl (by simp) fun Γ hn => ?_); simp only [entry, List.zipIdx_cons, List.zipIdx_nil, List.map_cons, List.map_nil, Nat.zero_add, Tryz.ntmps15]
     repeat' (first
  | (refine zaf ?_; simp [c1, c2, c3])
  | (refine zal ?_; simp [c1, c2, c3])
  | (refine zah ?_; simp [c1, c2, c3])
  | (refine zai ?_; simp [c1, c2, c3])
  | (refine zar ?_; simp only [zao])
  | fail)
     (refine EndOK.val (.inr rfl) ?_; simp [zaL, zag, zas, Tryz.results15])
   ·rw [key false (by rw [hmk]; simp [c2])]
    (refine Fun.of_body Tryz.func15 rfl (by simp) fun Γ hn => ?_); simp only [entry, List.zipIdx_cons, List.zipIdx_nil, List.map_cons, List.map_nil, Nat.zero_add, Tryz.ntmps15]
    repeat' (first
  | (refine zaf ?_; simp [c1, c2])
  | (refine zal ?_; simp [c1, c2])
  | (refine zah ?_; simp [c1, c2])
  | (refine zai ?_; simp [c1, c2])
  | (refine zar ?_; simp only [zao])
  | fail)
    (refine EndOK.val (.inr rfl) ?_; simp [zaL, zag, zas, Tryz.results15])
  ·rw [key false (by rw [hmk]; simp [c1])]
   (refine Fun.of_body Tryz.func15 rfl (by simp) fun Γ hn => ?_); simp only [entry, List.zipIdx_cons, List.zipIdx_nil, List.map_cons, List.map_nil, Nat.zero_add, Tryz.ntmps15]
   repeat' (first
  | (refine zaf ?_; simp [c1])
  | (refine zal ?_; simp [c1])
  | (refine zah ?_; simp [c1])
  | (refine zai ?_; simp [c1])
  | (refine zar ?_; simp only [zao])
  | fail)
   (refine EndOK.val (.inr rfl) ?_; simp [zaL, zag, zas, Tryz.results15])
theorem zcI (a b : Exp) : zfI a b := zm2 (SizeOf.sizeOf a) a b (Nat.le_refl _)
theorem zhx (A : List Let) : Fun Tryz.prog 46 [.u (zfm A), .u (zfm A)] (· = .u (.bool true)) := by
 simp only [zfm]
 (refine Fun.of_body Tryz.func46 rfl (by simp) fun Γ hn => ?_); simp only [entry, List.zipIdx_cons, List.zipIdx_nil, List.map_cons, List.map_nil, Nat.zero_add, Tryz.ntmps46]
 refine ziV (x := 0) rfl fun hll => ?_
 simp at hll
 repeat' (first
  | (refine zaf ?_; simp)
  | (refine zal ?_; simp)
  | (refine zah ?_; simp)
  | (refine zai ?_; simp)
  | (refine zaA ?_; simp)
  | (refine zap ?_; simp only [zao])
  | fail)
 refine zcT (α := { i : Nat // i ≤ A.length }) [0, 1, 4] (fun x => [(5, .u (.int .i64 x.1))]) (fun x => A.length - x.1) ⟨0, by omega⟩ ?_ ?_
 ·exact (Wk.env rfl rfl rfl (by simp [wkE, St.lp, zan, zaa, getK] <;> (try (intros; simp_all; done)) <;> (try (intros; omega)) <;> (try grind)))
 rintro ⟨i, hi⟩
 simp [St.lp, St.only, zan, zaa, getK]
 rcases hx : A[i]? with _ | x
 ·have hge : A.length ≤ i := by simpa using hx
  obtain rfl : i = A.length := by omega
  repeat' (first
  | (refine zaf ?_; simp [hx])
  | (refine zal ?_; simp [hx])
  | (refine zah ?_; simp [hx])
  | (refine zai ?_; simp [hx])
  | (refine zar ?_; simp only [zao])
  | (refine zbR ?_; simp [zao])
  | fail)
  (refine EndOK.val (.inr rfl) ?_; simp [zaL, zag, zas, Tryz.results46])
 ·have hlt : i < A.length := (List.getElem?_eq_some_iff.1 hx).1
  have hi1 : (i : Int) < A.length := by omega
  have h1 : zfI x.body x.body := zcI _ _
  unfold zfI at h1
  rw [ze6] at h1
  rw [Exp.row_eq] at h1
  repeat' (first
  | (refine zaf ?_; simp [hx, hi1])
  | (refine zeo ?_; simp [hx, hi1])
  | (refine zal ?_; simp [hx, hi1])
  | (refine ⟨by omega, ?_⟩)
  | (refine zah ?_; simp [hx, hi1])
  | (refine zai ?_; simp [hx, hi1])
  | (refine zfJ ?_)
  | (refine hk _ ?_; clear hk k; simp only [zao])
  | (refine zek rfl (by kernel_rfl) (by kernel_rfl) fun k hk => ?_; simp [hx, hi1])
  | (refine zen rfl (by simp [hx, hi1]) (fun hc => ?_) (fun hc => ?_) <;> (try simp [hx, hi1] at hc) <;> (try (exfalso; omega)) <;> (try simp [hx, hi1]))
  | (refine zaC ?_; simp [hx, hi1])
  | (refine zap ?_; simp only [zao])
  | (refine CallV.fun_ (h1) (by first | rfl | fail) (by first | (simp [hx, hi1]; done) | (simp [hx, hi1]; rfl) | fail) ?_ <;> (try simp [hx, hi1]))
  | fail)
  refine LoopW.next ⟨i + 1, by omega⟩ (by simp; omega) ?_
  exact (Wk.env rfl rfl rfl (by simp [wkE, St.lp, zan, zaa, getK] <;> (try (intros; simp_all; done)) <;> (try (intros; omega)) <;> (try grind)))
theorem zlU (b : By) : Fun Tryz.prog 14 [.u (.agg (zbc b)), .u (.agg (zbc b))] (· = .u (.bool true)) := by
 have e0 := zhx b.lets
 have e1 : zfI b.due b.due := zcI _ _
 have e2 : zfI b.fine b.fine := zcI _ _
 have e3 : zfI b.pay b.pay := zcI _ _
 have e4 : zfI b.cover b.cover := zcI _ _
 have e5 : zfI b.hold b.hold := zcI _ _
 unfold zfI at e1 e2 e3 e4 e5
 rw [Exp.row_eq] at e1 e2 e3 e4 e5
 rw [ze6] at e1 e2 e3 e4 e5
 simp only [zfm] at e0
 unfold zbc
 (refine Fun.of_body Tryz.func14 rfl (by simp) fun Γ hn => ?_); simp only [entry, List.zipIdx_cons, List.zipIdx_nil, List.map_cons, List.map_nil, Nat.zero_add, Tryz.ntmps14]
 repeat' (first
  | (refine zaf ?_; simp)
  | (refine zal ?_; simp)
  | (refine zah ?_; simp)
  | (refine zar ?_; simp only [zao])
  | (refine CallP.fE (e0) (by first | rfl | fail) (by first | (simp; done) | (simp; rfl) | fail) ?_; (try simp))
  | (refine CallP.fE (e1) (by first | rfl | fail) (by first | (simp; done) | (simp; rfl) | fail) ?_; (try simp))
  | (refine CallP.fE (e2) (by first | rfl | fail) (by first | (simp; done) | (simp; rfl) | fail) ?_; (try simp))
  | (refine CallP.fE (e3) (by first | rfl | fail) (by first | (simp; done) | (simp; rfl) | fail) ?_; (try simp))
  | (refine CallP.fE (e4) (by first | rfl | fail) (by first | (simp; done) | (simp; rfl) | fail) ?_; (try simp))
  | (refine CallP.fE (e5) (by first | rfl | fail) (by first | (simp; done) | (simp; rfl) | fail) ?_; (try simp))
  | fail)
 (refine EndOK.val (.inr rfl) ?_; simp [zaL, zag, zas, Tryz.results14])
end Go.Proofs.YthnemhfamhnfjaaGreatDoor
namespace Go.Proofs.YthnemhfamhnfjaaGreatDoor
open Go Go.VL
attribute [local simp] HS zcR zb0 evPure opd uOf zaH St.put St.at getK binD binI binS binB nilD aggD zgp zhi lookD lookR zcm Go.VL.nextD zcq zhv zhu zfX zcs mkV zdb zbj zbr mapEff zd1 zfM Key.kk shiftI arith unD convD zdH loadD cellsAt fieldAddrD fieldD indexAddrD indexD sliceD cutD lenD minmaxD nilCheckD buildD fillD zbH zcW zes setAll zcE zeJ zch zgC zcd St.add zaM zbB rowsOf zdw zcA zak zac zaa zba zcz zaR entry zbo zbq valD zb5 zcu zgh zc8 zda zbO zbG zau za2 zbm delAll effD St.effS zcM za6 zaY zcN za7 za0 zbY zaZ zaS zbZ zcH zbv zbV zbi zbT zbU zaJ mkD zbI zbs zbF zau zcf D.ids Op.operands Call.operands zbx makeIfD makeFuncD typeAssertD zhh zds zdt zgK zcn IntKind.bits zcG List.take_of_length_le List.range_succ
attribute [local irreducible] V G H HD HD2 HD4 zkk RetX zao Eff CallP CallV EndOK Fun Ret FinOK LoopI LoopW EndW
theorem zpy (b : By) : Fun Tryz.prog 5 [.u (.agg (zbc b))] (· = .u (.bool true)) := by
 obtain ⟨B, hB⟩ := zqi b
 have hs := zm0
 have hp := zji b
 have hr := zdG b
 have hq := zlU b
 cases B with
 | false =>
  unfold zbc at hB ⊢
  (refine Fun.of_bodyW Tryz.func5 rfl (by simp) fun Γ hn => ?_); simp only [entry, List.zipIdx_cons, List.zipIdx_nil, List.map_cons, List.map_nil, Nat.zero_add, Tryz.ntmps5]
  repeat' (first
  | (refine zaf ?_; simp)
  | (refine zal ?_; simp)
  | (refine zah ?_; simp)
  | (refine zai ?_; simp)
  | (refine zar ?_; simp only [zao])
  | (refine CallP.fE (hs) (by first | rfl | fail) (by first | (simp; done) | (simp; rfl) | fail) ?_; (try simp))
  | (refine CallP.fE (hB) (by first | rfl | fail) (by first | (simp; done) | (simp; rfl) | fail) ?_; (try simp))
  | fail)
  refine EndW.here ?_
  (refine EndOK.val (.inr rfl) ?_; simp [zaL, zag, zas, Tryz.results5])
 | true =>
  cases hb : zca b with
  | false =>
   have e : printB b = ([], 1) := by unfold printB; rw [if_neg (by simp [hb])]
   rw [e] at hp
   rw [hb] at hr
   unfold zbc at hB hp hr ⊢
   (refine Fun.of_bodyW Tryz.func5 rfl (by simp) fun Γ hn => ?_); simp only [entry, List.zipIdx_cons, List.zipIdx_nil, List.map_cons, List.map_nil, Nat.zero_add, Tryz.ntmps5]
   repeat' (first
  | (refine zaf ?_; simp)
  | (refine zal ?_; simp)
  | (refine zah ?_; simp)
  | (refine zai ?_; simp)
  | (refine zar ?_; simp only [zao])
  | (refine zap ?_; simp only [zao])
  | (refine CallP.fE (hs) (by first | rfl | fail) (by first | (simp; done) | (simp; rfl) | fail) ?_; (try simp))
  | (refine CallP.fE (hB) (by first | rfl | fail) (by first | (simp; done) | (simp; rfl) | fail) ?_; (try simp))
  | (refine CallP.fE (hp) (by first | rfl | fail) (by first | (simp; done) | (simp; rfl) | fail) ?_; (try simp))
  | (refine CallP.fE (hr) (by first | rfl | fail) (by first | (simp; done) | (simp; rfl) | fail) ?_; (try simp))
  | fail)
   refine EndW.here ?_
   (refine EndOK.val (.inr rfl) ?_; simp [zaL, zag, zas, Tryz.results5])
  | true =>
   rw [hb] at hr
   by_cases hl : 2000 < (textP b).length
   ·have e : printB b = ([], 6) := by unfold printB; rw [if_pos hb, if_pos hl]
    rw [e] at hp
    unfold zbc at hB hp hr ⊢
    (refine Fun.of_bodyW Tryz.func5 rfl (by simp) fun Γ hn => ?_); simp only [entry, List.zipIdx_cons, List.zipIdx_nil, List.map_cons, List.map_nil, Nat.zero_add, Tryz.ntmps5]
    repeat' (first
  | (refine zaf ?_; simp)
  | (refine zal ?_; simp)
  | (refine zah ?_; simp)
  | (refine zai ?_; simp)
  | (refine zar ?_; simp only [zao])
  | (refine zap ?_; simp only [zao])
  | (refine CallP.fE (hs) (by first | rfl | fail) (by first | (simp; done) | (simp; rfl) | fail) ?_; (try simp))
  | (refine CallP.fE (hB) (by first | rfl | fail) (by first | (simp; done) | (simp; rfl) | fail) ?_; (try simp))
  | (refine CallP.fE (hp) (by first | rfl | fail) (by first | (simp; done) | (simp; rfl) | fail) ?_; (try simp))
  | (refine CallP.fE (hr) (by first | rfl | fail) (by first | (simp; done) | (simp; rfl) | fail) ?_; (try simp))
  | fail)
    refine EndW.here ?_
    (refine EndOK.val (.inr rfl) ?_; simp [zaL, zag, zas, Tryz.results5])
   ·have e : printB b = (textP b, 0) := by unfold printB; rw [if_pos hb, if_neg hl]
    have hpa := zjt (textP b)
    rw [zkw hb hl] at hpa
    rw [e] at hp
    unfold byD at hpa
    generalize textP b = T at *
    unfold zbc at hB hp hr hpa hq ⊢
    (refine Fun.of_bodyW Tryz.func5 rfl (by simp) fun Γ hn => ?_); simp only [entry, List.zipIdx_cons, List.zipIdx_nil, List.map_cons, List.map_nil, Nat.zero_add, Tryz.ntmps5]
    repeat' (first
  | (refine zaf ?_; simp)
  | (refine zal ?_; simp)
  | (refine zah ?_; simp)
  | (refine zai ?_; simp)
  | (refine zar ?_; simp only [zao])
  | (refine zap ?_; simp only [zao])
  | (refine CallP.fE (hs) (by first | rfl | fail) (by first | (simp; done) | (simp; rfl) | fail) ?_; (try simp))
  | (refine CallP.fE (hB) (by first | rfl | fail) (by first | (simp; done) | (simp; rfl) | fail) ?_; (try simp))
  | (refine CallP.fE (hp) (by first | rfl | fail) (by first | (simp; done) | (simp; rfl) | fail) ?_; (try simp))
  | (refine CallP.fE (hr) (by first | rfl | fail) (by first | (simp; done) | (simp; rfl) | fail) ?_; (try simp))
  | (refine CallP.fE (hpa) (by first | rfl | fail) (by first | (simp; done) | (simp; rfl) | fail) ?_; (try simp))
  | (refine CallP.fE (hq) (by first | rfl | fail) (by first | (simp; done) | (simp; rfl) | fail) ?_; (try simp))
  | fail)
    refine EndW.here ?_
    (refine EndOK.val (.inr rfl) ?_; simp [zaL, zag, zas, Tryz.results5])
    omega
end Go.Proofs.YthnemhfamhnfjaaGreatDoor
namespace Go.Proofs.YthnemhfamhnfjaaGreatDoor
open Go Go.VL Go.ChangeShapes Go.WideShapes Go.ChangeAt Go.RowKit
theorem Tryz.own : ownKnob Tryz.prog.godebug = none := by kernel_rfl
theorem Tryz.zqy : laidOutB Tryz.prog = true := by kernel_rfl
theorem Tryz.ztl : zhM Tryz.prog = true := by kernel_rfl
theorem zpY : ∀ (m : Nat) (r : List U), SizeOf.sizeOf r ≤ m → HasRow Tryz.prog 26 r → ∃ e : Exp, r = e.row
 | 0, r, hm, _ => by cases r <;> simp at hm
 | m + 1, r, hm, h => by
  obtain ⟨rs, hr, h⟩ := h.of_struct zsC
  match rs, h with
  | [a, b, c, d, f], h =>
   obtain ⟨h1, h2, h3, h4, h5, _⟩ := h
   obtain ⟨x, rfl, _⟩ := h1.of_int io3
   obtain ⟨y, rfl, _⟩ := h2.of_int io3
   obtain ⟨z, rfl, _⟩ := h3.of_int io3
   obtain ⟨s, rfl, _⟩ := h4.of_str (by simp)
   obtain ⟨rows, rfl, _, h6⟩ := h5.of_slice zsI
   have hsz : ∀ q ∈ rows, SizeOf.sizeOf q ≤ m := fun q hq => by
    have := List.sizeOf_lt_of_mem hq
    rw [hr] at hm
    simp at hm
    omega
   obtain ⟨l, rfl, _⟩ := rows_list Exp.row (fun _ => True) (rows := rows) fun q hq => by
    obtain ⟨e, he⟩ := zpY m q (hsz q hq) (h6 q hq)
    exact ⟨e, he, trivial⟩
   exact ⟨.mk x y z s l, by rw [hr, Exp.row_eq]; rfl⟩
theorem zf0 {r : List U} (h : HasRow Tryz.prog 26 r) : ∃ e : Exp, r = [.int .i64 e.op, .int .i64 e.n, .int .i64 e.unit, .str e.s, .sl (e.args.map Exp.row)] := by
 obtain ⟨e, rfl⟩ := zpY _ r (Nat.le_refl _) h
 exact ⟨e, e.row_eq⟩
theorem zqY {r : List U} (h : HasRow Tryz.prog 45 r) : ∃ l : Let, r = [.str l.name, .int .i64 l.body.op, .int .i64 l.body.n, .int .i64 l.body.unit, .str l.body.s, .sl (l.body.args.map Exp.row)] ∧ True := by
 obtain ⟨rs, hr, h⟩ := h.of_struct zsB
 match rs, h with
 | [a, b], h =>
  obtain ⟨h1, h2, _⟩ := h
  obtain ⟨x, rfl, _⟩ := h1.of_str (by simp)
  obtain ⟨e, rfl⟩ := zf0 h2
  exact ⟨⟨x, e⟩, by rw [hr]; rfl, trivial⟩
end Go.Proofs.YthnemhfamhnfjaaGreatDoor
namespace Go.Proofs.YthnemhfamhnfjaaGreatDoor
open Go Go.VL Go.ChangeShapes Go.WideShapes Go.ChangeAt Go.RowKit
theorem zrR {r : List U} (h : HasRow Tryz.prog 28 r) : ∃ b : By, r = zbc b := by
 obtain ⟨rs, hr, h⟩ := h.of_struct zr2
 match rs, h with
 | [a1, a2, a3, a4, a5, a6, a7, a8, a9, a10, a11, a12, a13, a14, a15, a16, a17], h =>
  obtain ⟨h1, h2, h3, h4, h5, h6, h7, h8, h9, h10, h11, h12, h13, h14, h15, h16, h17, _⟩ := h
  obtain ⟨x1, rfl, _⟩ := h1.of_int io3
  obtain ⟨x2, rfl, _⟩ := h2.of_int io3
  obtain ⟨x3, rfl, _⟩ := h3.of_int io3
  obtain ⟨x4, rfl, _⟩ := h4.of_int io3
  obtain ⟨x5, rfl, _⟩ := h5.of_int io3
  obtain ⟨x6, rfl, _⟩ := h6.of_int io3
  obtain ⟨x7, rfl⟩ := h7.of_bool (by simp)
  obtain ⟨x8, rfl, _⟩ := h8.of_int io3
  obtain ⟨x9, rfl, _⟩ := h9.of_int io3
  obtain ⟨x10, rfl, _⟩ := h10.of_int io3
  obtain ⟨x11, rfl, _⟩ := h11.of_int io3
  obtain ⟨rows, rfl, _, h12⟩ := h12.of_slice zsJ
  obtain ⟨l, rfl, _⟩ := rows_list (fun l : Let => [.str l.name, .int .i64 l.body.op, .int .i64 l.body.n, .int .i64 l.body.unit, .str l.body.s, .sl (l.body.args.map Exp.row)]) (fun _ => True) (rows := rows) fun r hr => zqY (h12 r hr)
  obtain ⟨e1, rfl⟩ := zf0 h13
  obtain ⟨e2, rfl⟩ := zf0 h14
  obtain ⟨e3, rfl⟩ := zf0 h15
  obtain ⟨e4, rfl⟩ := zf0 h16
  obtain ⟨e5, rfl⟩ := zf0 h17
  exact ⟨⟨x1, x2, x3, x4, x5, x6, x7, x8, x9, x10, x11, l, e1, e2, e3, e4, e5⟩, by rw [hr]; rfl⟩
end Go.Proofs.YthnemhfamhnfjaaGreatDoor
namespace Go.VL
open Go
open Go.ChangeShapes Go.WideShapes Go.ChangeAt Go.WideMaps Go.WideElems Go.RowKit
theorem zo3 {H : Type} {enc : TypeId × Value → H} {C : Checked} {os : Os} {f : FuncId} {fn : Func} {s : ChangeSpec} {conds : List PathCond} {apart fresh handsOn again : Bool} {tb : TypeId} {laid : List (String × DataW Unit)}
  (own : ownKnob C.prog.godebug = none) (started : os.Started) (noInit : C.prog.inits.idxOf? f = none) (hfn : C.prog.funcs[f]? = some fn)
  (witness : ∃ (w : World) (tape : Tape) (i : Input), w.os = os ∧ (w.forCall tape i).Shaped C.prog ∧ i.vars = [] ∧ Input.okWide C.prog (w.forCall tape i) .any w.heap.size f i ∧
    ((s.pre enc C.prog fn conds apart (w.forCall tape i).memory i.args ∧ laidMetH C.prog laid (w.forCall tape i).memory) ∧ sizedMet enc C.prog fn (OpenSpec.ofChange s) apart (w.forCall tape i).memory i.args) ∧ (({} : Assume)).holds C.prog (lone (Frame.enter C.prog f i.args .normal) [] (w.forCall tape i)))
  (hl : laidOutB C.prog = true) (hseq : zhM C.prog = true) (hpar : (fn.params.toList.all fun t => C.prog.readableRec t && decide (t < C.prog.types.size)) = true)
  (hvars : s.vars = []) (hspec : ∀ ds : List (DataW H), ds.length = fn.params.size → s.fn H ds = { results := [.lit (.bool true)], args := ds })
  (hres : fn.resultTypes = #[tb]) (htb : C.prog.underlying tb = some .bool)
  (hfun : ∀ us : List U, zpM C.prog fn.params.toList us → Fun C.prog f (us.map .u) (· = .u (.bool true))) (hglob : ∀ W : World, laidMetH C.prog laid W → GlobIn (zi0 W)) :
  ReturnsInHanded {} C os f .any (fun w args => (s.pre enc C.prog fn conds apart w args ∧ laidMetH C.prog laid w) ∧ sizedMet enc C.prog fn (OpenSpec.ofChange s) apart w args) (s.post enc C.prog fn apart fresh handsOn again) := by
 refine returnsInHanded_of_change_and (X := fun w _ => laidMetH C.prog laid w) (fun _ _ _ hh h => h.of_heap hh) own started noInit hfn witness ?_
 intro W base args ds gs before hval hW _ _ hL _
 have hpar' : ∀ t ∈ fn.params.toList, C.prog.readableRec t = true ∧ t < C.prog.types.size := by
  intro t ht
  have := List.all_eq_true.1 hpar t ht
  simpa using this
 have hW' := hW
 obtain ⟨p, q, hA, hV, rfl, hfz, hnd⟩ := hW
 rw [hvars] at hV
 obtain ⟨rfl, rfl⟩ := trodVars_none hV
 have hlt : ∀ x ∈ p, x.block < W.heap.size := fun x hx => hW'.lt x (by simp [hx])
 obtain ⟨us, h1, h2, _⟩ := zlI hseq hA (fun t ht => (hpar' t ht).2) (fun j t v ht hv => hval j t v (by simpa using ht) (by simpa using hv))
 refine (zj7 (hfun us h1) (hglob W hL) h2).mono ?_
 rintro e W' ⟨rfl, hb⟩
 have hdl : ds.length = fn.params.size := by
  have : ∀ {ts : List TypeId} {vs : List Value} {ds : List (DataW H)} {p : List MemPlace}, DataW.TrodAll enc C.prog W 0 (fun _ => true) true ts vs ds p → ds.length = ts.length := by
   intro ts
   induction ts with
   | nil => intro vs ds p h; cases vs <;> cases ds <;> simp_all [DataW.TrodAll]
   | cons t ts ih =>
    intro vs ds p h
    cases vs <;> cases ds <;> simp only [DataW.TrodAll] at h
    obtain ⟨p, q, _, h2, _⟩ := h
    simp [ih h2]
  simpa using this hA
 have hs := hspec ds hdl
 refine ⟨_, rfl, zl0 (pa := p) (pv := []) hW' (fun b sp hd => ?_) (fun sp hsp => ?_) (fun sp _ => ?_) rfl hb (fun j t r ht hr => ?_)⟩
 ·rw [List.append_nil, hs, hres]
  exact trodAll_mk1 ⟨1, by simp [DataW.trod, Value.cells, htb]⟩
 ·rw [List.append_nil, hs]
  exact zfc hl hb hpar' hA hlt fun x hx => hsp x (by simp [hx])
 ·rw [List.append_nil, hs, hvars]
  try rfl
 ·rw [hres] at ht hr
  cases j with
  | zero =>
   simp at ht
   subst ht
   simp [Value.resultList] at hr
   subst hr
   simp [Value.okWide, htb, Cell.okWide, Cell.ok]
  | succ j => simp at ht
/-- The cells of a listed array of strings. -/
theorem ziR {P : Program} {w : World} {n : String} {g : Nat} {t e : TypeId} {cs : Array Value} {L : List (List UInt8)} {fuel : Nat} {H : Type} {enc : TypeId × Value → H} {base : Nat} {spare : Nat → Bool} {held : Bool} {q : List MemPlace}
  (hg : P.globalNamed n = some g) (hv : w.var? P n = some cs) (ht : P.underlying t = some (.array L.length e)) (he : P.underlying e = some .string) (hc : P.cellsOf e = 1)
  (hd : DataW.trod enc P w base spare held fuel t cs.toList = some (.agg (L.map fun b => .lit (.string b)), q)) : ∀ (j : Nat) (b : List UInt8), L[j]? = some b → w.cell? ⟨g, j, none⟩ = some (.string ⟨b.toArray⟩) := by
 intro j b hj
 obtain ⟨xs, m1, rfl, hx1, hlen, hn3, hel⟩ := DataW.trod_array ht hd
 have hjl := (List.getElem?_eq_some_iff.1 hj).1
 have h := hel j hjl
 rw [hc, Nat.mul_one] at h
 simp only [Prod.mk.injEq, DataW.agg.injEq] at hx1
 obtain ⟨x, hx⟩ : ∃ x, xs[j]? = some x := ⟨_, List.getElem?_eq_getElem (by omega)⟩
 rw [hx] at h
 obtain ⟨s, h1, h2, _⟩ := DataW.trod_string he h
 have h3 : (L.map fun b => (DataW.lit (.string b) : DataW H))[j]? = (xs.map (·.1))[j]? := by rw [hx1.1]
 rw [List.getElem?_map, List.getElem?_map, hj, hx, h2] at h3
 simp only [Option.map_some, Option.some.injEq, DataW.lit.injEq, Lit.string.injEq] at h3
 have h4 : (cs.toList.drop j)[0]? = some (.string s) := by
  have : ((cs.toList.drop j).take 1)[0]? = some (.string s) := by rw [h1]; rfl
  simpa [List.getElem?_take] using this
 rw [List.getElem?_drop, Nat.add_zero] at h4
 rw [World.var?_cell hg hv j]
 rw [Array.getElem?_toList] at h4
 rw [h4, h3]
end Go.VL
namespace Go.Proofs.YthnemhfamhnfjaaGreatDoor
open Go Go.VL
abbrev znK : List (String × DataW Unit) := [("math/bits.deBruijn32tab", Rows.laid_math_bits_deBruijn32tab), ("math/bits.deBruijn64tab", Rows.laid_math_bits_deBruijn64tab), ("internal/strconv.uint64pow10", Rows.laid_internal_strconv_uint64pow10), ("stokvel/lex.signs", Rows.laid_stokvel_lex_signs)]
theorem zpg (os : Os) (args : Array Value) : laidMetH Tryz.prog znK ((World.doorLaid Tryz.prog 400 os).forCall (fun _ _ => 0) ⟨#[], args, []⟩).memory :=
 laidMetH_of_parts3 (fuel := 8) (laidMet_of_run' 8 (by kernel_rfl) (by kernel_rfl)) (by kernel_rfl) (by kernel_rfl)
/-- The cells of a listed variable, and its end. -/
theorem ziG {P : Program} {w : World} {n : String} {g : Nat} {cs : Array Value} (hg : P.globalNamed n = some g) (hv : w.var? P n = some cs) :
  (∀ j, j < cs.toList.length → VL.look w g j = some (.val (cs.toList.getD j undef))) ∧ VL.look w g cs.toList.length = some .fin := by
 unfold World.var? at hv
 rw [hg, Option.bind_some] at hv
 split at hv
 ·rename_i cs0 t fr hh
  cases hv
  refine ⟨fun j hj => zd4 ?_, ?_⟩
  ·have hj' : j < cs.size := by simpa using hj
   simp [World.cell?, hh, hj', List.getD]
  ·have := zoV hh
   simpa using this
 ·cases hv
theorem zp8 {P : Program} {w : World} {n : String} {g : Nat} {t e : TypeId} {cs : Array Value} {L : List (List UInt8)} {fuel : Nat} {H : Type} {enc : TypeId × Value → H} {base : Nat} {spare : Nat → Bool} {held : Bool} {q : List MemPlace}
  (hg : P.globalNamed n = some g) (hv : w.var? P n = some cs) (ht : P.underlying t = some (.array L.length e)) (he : P.underlying e = some .string) (hc : P.cellsOf e = 1) (hct : P.cellsOf t = L.length)
  (hd : DataW.trod enc P w base spare held fuel t cs.toList = some (.agg (L.map fun b => .lit (.string b)), q)) : cs.toList = L.map fun b => .string ⟨b.toArray⟩ := by
 obtain ⟨xs, m1, rfl, hx1, hlen, hn3, hel⟩ := DataW.trod_array ht hd
 have hcell := ziR hg hv ht he hc hd
 apply List.ext_getElem?
 intro j
 cases hb : L[j]? with
 | none =>
  have := List.getElem?_eq_none_iff.1 hb
  rw [List.getElem?_eq_none (by omega), List.getElem?_map, hb]; rfl
 | some b =>
  have h := hcell j b hb
  rw [World.var?_cell hg hv j] at h
  rw [List.getElem?_map, hb, Array.getElem?_toList, h]; rfl
def zqS : List (List UInt8) := [[61, 61], [59], [44], [61], [60], [43], [45], [42], [47], [40], [41]]
theorem znV (W : World) (h : laidMetH Tryz.prog znK W) : GlobIn (zi0 W) := by
 rw [MakeChecks.laidMetH_plain _ _ _ (by kernel_rfl)] at h
 obtain ⟨ps, ⟨ga, ta, ca, fa, pa, qa, hga, hta, hva, hda, ⟨gb, tb, cb, fb, pb, qb, hgb, htb, hvb, hdb, ⟨gc, tc, cc, fc, pc, qc, hgc, htc, hvc, hdc, ⟨gd, td, cd, fd, pd, qd, hgd, htd, hvd, hdd, _⟩, _⟩, _⟩, _⟩, _⟩ := h
 obtain rfl : ga = 3 := Option.some.inj (hga.symm.trans (by kernel_rfl))
 obtain rfl : gb = 4 := Option.some.inj (hgb.symm.trans (by kernel_rfl))
 obtain rfl : gc = 2 := Option.some.inj (hgc.symm.trans (by kernel_rfl))
 obtain rfl : gd = 0 := Option.some.inj (hgd.symm.trans (by kernel_rfl))
 obtain rfl : ta = 164 := Option.some.inj (hta.symm.trans (by kernel_rfl))
 obtain rfl : tb = 165 := Option.some.inj (htb.symm.trans (by kernel_rfl))
 obtain rfl : tc = 158 := Option.some.inj (htc.symm.trans (by kernel_rfl))
 obtain rfl : td = 138 := Option.some.inj (htd.symm.trans (by kernel_rfl))
 have ea := Lib.cells_of_tab (p := pa) (n := 32) (e := 5) (k := .u8) (zs := (globs[1]!.2.map fun v => match v with | .int _ z => z | _ => 0)) (by kernel_rfl) (by kernel_rfl) (by kernel_rfl) (by kernel_rfl) (hda.trans (by kernel_rfl))
 have eb := Lib.cells_of_tab (p := pb) (n := 64) (e := 5) (k := .u8) (zs := (globs[2]!.2.map fun v => match v with | .int _ z => z | _ => 0)) (by kernel_rfl) (by kernel_rfl) (by kernel_rfl) (by kernel_rfl) (hdb.trans (by kernel_rfl))
 have ec := Lib.cells_of_tab (p := pc) (n := 20) (e := 152) (k := .u64) (zs := (globs[0]!.2.map fun v => match v with | .int _ z => z | _ => 0)) (by kernel_rfl) (by kernel_rfl) (by kernel_rfl) (by kernel_rfl) (hdc.trans (by kernel_rfl))
 have ed := zp8 (q := pd) (L := zqS) hgd hvd (by kernel_rfl) (e := 9) (by kernel_rfl) (by kernel_rfl) (by kernel_rfl) (hdd.trans (by kernel_rfl))
 have fa := ziG hga hva
 have fb := ziG hgb hvb
 have fc := ziG hgc hvc
 have fd := ziG hgd hvd
 rw [ea] at fa
 rw [eb] at fb
 rw [ec] at fc
 rw [ed] at fd
 intro p hp
 unfold globs at hp
 simp only [List.mem_cons, List.not_mem_nil, or_false] at hp
 rcases hp with rfl | rfl | rfl | rfl
 ·exact fc
 ·exact fa
 ·exact fb
 ·exact fd
end Go.Proofs.YthnemhfamhnfjaaGreatDoor
namespace Go.Proofs.YthnemhfamhnfjaaGreatDoor
open Go Go.VL Go.ChangeShapes Go.WideShapes Go.ChangeAt Go.RowKit
theorem zkU (os : Os) (started : os.Started) (H : Type) (enc : TypeId × Value → H) :
  ReturnsInHanded {} Tryz.checked os 5 .any (fun w args => (Rows.syntaxBackSpec.pre enc Tryz.prog Tryz.f5 [] false w args ∧ laidMetH Tryz.prog znK w) ∧ sizedMet enc Tryz.prog Tryz.f5 (OpenSpec.ofChange Rows.syntaxBackSpec) false w args)
   (Rows.syntaxBackSpec.post enc Tryz.prog Tryz.f5 false true false false) := by
 refine zo3 (C := Tryz.checked) (laid := znK) (tb := 4) Tryz.own started (by kernel_rfl) Tryz.func5
  (ChangeSpec.witness_shaped (enc := enc) (C := Tryz.checked) (os := os) (X := fun w _ => laidMetH Tryz.prog znK w) false (World.doorLaid Tryz.prog 400 os) #[.agg #[.int .i64 0, .int .i64 0, .int .i64 0, .int .i64 0, .int .i64 0, .int .i64 0, .bool false, .int .i64 0, .int .i64 0, .int .i64 0, .int .i64 0, .slice none 0 0, .int .i64 0, .int .i64 0, .int .i64 0, .string ⟨#[]⟩, .slice none 0 0, .int .i64 0, .int .i64 0, .int .i64 0, .string ⟨#[]⟩, .slice none 0 0, .int .i64 0, .int .i64 0, .int .i64 0, .string ⟨#[]⟩, .slice none 0 0, .int .i64 0, .int .i64 0, .int .i64 0, .string ⟨#[]⟩, .slice none 0 0, .int .i64 0, .int .i64 0, .int .i64 0, .string ⟨#[]⟩, .slice none 0 0]] 8 rfl (World.shaped_of_RefB (by kernel_rfl) (by kernel_rfl)) (by kernel_rfl) (by kernel_rfl) (by kernel_rfl) (zpg os _))
  Tryz.zqy Tryz.ztl (by kernel_rfl) rfl (fun ds h => ?_) (by kernel_rfl) (by kernel_rfl) (fun us h => ?_) znV
 ·match ds, h with
  | [_], _ => rfl
 ·match us, h with
  | [a0], h =>
   obtain ⟨h0, _⟩ := h
   obtain ⟨r, rfl, h0r⟩ := h0.agg zr2
   obtain ⟨x0, rfl⟩ := zrR h0r
   exact zpy x0
theorem back_row : Rows.SyntaxBackSaid :=
 OpenClaim.holds_of_wide 5 Tryz.f5 rfl rfl rfl rfl rfl rfl rfl ⟨rfl, rfl, rfl, rfl, rfl⟩ rfl rfl rfl rfl rfl (by kernel_rfl) Tryz.func5 (by kernel_rfl)
  (of_decide_eq_true (by kernel_rfl)) (by unfold Func.isWrapper; first | (rw [if_pos (by decide +kernel)]; kernel_rfl) | (rw [if_neg (by decide +kernel)]; exact ⟨rfl, rfl⟩))
  (fun os started H enc _ => zkU os started H enc)
theorem back_holds : Rows.SyntaxBackCardSaid :=
 Claim7.holds_tied_plain_at .later [] [.data, .data, .data, .data] true (true, "c04b2ee704424c70beb65cd5ce32dac8ef7fe7043d4747e1bb58507771a90867") true
  back_row (fun _ h => by cases h) (by kernel_rfl) (fun _ h => by cases h) syntaxBack_row_tie rfl ⟨rfl, rfl⟩ (by kernel_rfl) rfl
  (fun f fn hf hfn => by
    obtain rfl : f = 5 := Option.some.inj ((show Tryz.prog.funcNamed "stokvel/stokvellaw15.SyntaxBack" = some 5 by kernel_rfl).symm.trans hf) |>.symm
    obtain rfl : fn = Tryz.f5 := (Option.some.inj (Tryz.func5.symm.trans hfn)).symm
    exact ⟨by kernel_rfl, fun j t ht => by
     have hm : t ∈ Tryz.f5.params.toList := by simpa using Array.mem_of_getElem? ht
     have hall : (Tryz.f5.params.toList.all fun u => !Tryz.prog.wantsStandIn u) = true := by kernel_rfl
     exact (show Tryz.prog.wantsStandIn t = false by simpa using List.all_eq_true.1 hall t hm)⟩)
  (by kernel_rfl)
end Go.Proofs.YthnemhfamhnfjaaGreatDoor
