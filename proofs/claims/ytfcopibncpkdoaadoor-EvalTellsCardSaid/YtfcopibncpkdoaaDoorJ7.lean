/- Texts joined by a program of mine: Gb Gf Gg Fs Ft Fz Gh Uv VLA La. -/
import Derived.Test.YtfcopibncpkdoaaDoorJ6
import Derived.LaidMore
import Derived.LaidLaws
import Derived.LaidHandle
import Derived.MakeChecks
import Derived.Stop.Joined
import Derived.OpenShut
import Derived.Test.YtfcopibncpkdoaaDoorTie
import Derived.Test.YtfcopibncpkdoaaDoorCards
set_option linter.all false
set_option maxRecDepth 100000
set_option maxHeartbeats 8000000
namespace Go.Proofs.YtfcopibncpkdoaaDoor
open Go Go.VL
def zfH {β : Type} : List (List UInt8 × β) → List UInt8 → Option β
 | [], _ => none
 | p :: l, n => match zfH l n with | some r => some r | none => if p.1 = n then some p.2 else none
theorem zg7 {β : Type} {l : List (List UInt8 × β)} {n : List UInt8} (h : ∀ x ∈ l, ¬ x.1 = n) : zfH l n = none := by
 induction l with
 | nil => rfl
 | cons a l ih => rw [zfH, ih fun x hx => h x (by simp [hx])]; simp only; rw [if_neg (h a (by simp))]
theorem znr {β : Type} {l : List (List UInt8 × β)} {i : Nat} {p : List UInt8 × β} {n : List UInt8} (h : ∀ x ∈ l.drop (i + 1), ¬ x.1 = n) (hx : l[i]? = some p) (hn : p.1 = n) : zfH l n = some p.2 := by
 induction l generalizing i with
 | nil => simp at hx
 | cons a l ih =>
  cases i with
  | zero =>
   simp at hx; subst hx
   rw [zfH, zg7 (by simpa using h)]
   simp [hn]
  | succ i => rw [zfH, ih (i := i) (by simpa using h) (by simpa using hx)]
theorem zmC {α : Type} {p : α → Prop} {l : List α} {k : Nat} {x : α} (hx : l[k]? = some x) (h : ∀ c ∈ l.drop (k + 1), p c) (hp : p x) : ∀ c ∈ l.drop k, p c := by
 obtain ⟨hi, rfl⟩ := List.getElem?_eq_some_iff.1 hx
 rw [List.drop_eq_getElem_cons hi]
 intro c hc
 rcases List.mem_cons.1 hc with rfl | hc
 ·exact hp
 ·exact h c hc
attribute [local simp] zcp zbN evPure opd uOf zaB St.put St.at getK binD binI binS binB nilD aggD zeJ ze8 lookD lookR zbT Go.VL.nextD zbY zfe zfd zev zbM mkV zaW zaP zaO zaN zcm zaM za1 zbc mapEff zcS zek Key.kk shiftI arith unD convD zcP loadD cellsAt fieldAddrD fieldD indexAddrD indexD sliceD cutD lenD minmaxD nilCheckD buildD fillD zbt zcq zdR setAll zcg zdy zbQ zeN zbO St.add zaC zbj rowsOf zcM zce zaj zac zaa za5 zcl zaH entry za4 za6 valD zbS zb7 zez zct zcu zbx zbs zav zaT za7 delAll effD St.effS zb9 zaQ zaI zca zaR zaK zby zaJ zaD zbz zb8 zbb zbw zaZ zbu zbv zat mkD zbk zbd zbB zav zbP D.ids Op.operands Call.operands za8 makeIfD typeAssertD ze6 zcH zcI zeR zbV IntKind.bits zch List.take_of_length_le List.range_succ
attribute [local irreducible] V G H HD HD2 zal Eff CallP CallV EndOK Fun Ret FinOK LoopI LoopW EndW
theorem zkL (lets : List Let) (e : Exp) : Fun Tryd.prog 82 [.u (zaw lets), za3 e] (· = .u (.bool (zbL lets e))) := by
 have h1 := zcN e
 simp only [za3] at h1 ⊢
 unfold zbL
 generalize hre : zax 12 e = re at h1 ⊢
 generalize hrl : (lets.any fun l => !zax 12 l.body) = rl
 (refine Fun.of_body Tryd.func82 rfl (by simp) fun Γ hn => ?_); simp only [entry, List.zipIdx_cons, List.zipIdx_nil, List.map_cons, List.map_nil, Nat.zero_add, Tryd.ntmps82]
 simp only [zaw]
 repeat' (first
  | (refine zah ?_; simp)
  | (refine zak ?_; simp)
  | (refine zai ?_; simp)
  | (refine zag ?_; simp)
  | (refine zam ?_; simp)
  | (refine zar ?_; simp only [zal])
  | (refine zaq ?_; simp only [zal])
  | (refine ⟨fun hc => ?_, fun hc => ?_⟩ <;> (try (exfalso; omega)))
  | fail)
 all_goals try ((refine EndOK.val (.inr rfl) ?_; simp [zay, zae, zau, Tryd.results82]); have h20 : ¬ lets.length ≤ 20 := (by first | omega | fail); simp [h20]; done)
 refine zbG (α := { i : Nat // i ≤ lets.length ∧ ∀ x ∈ lets.take i, zax 12 x.body = true }) [0, 3] (fun i => [(5, .u (.int .i64 i.1))]) (fun i => lets.length - i.1) ⟨0, by omega, by simp⟩ ?_ ?_
 ·exact (Wk.cut rfl (by simp [hn, St.lp]) (by simp [wkO, St.lp, zaa, getK, Ob.under, D.under, zad, zaf]) (by simp [wkU, St.lp, zap, zaa, getK, D.under]) (by simp [wkE, St.lp, zap, zaa, getK] <;> (try (intros; simp_all; done)) <;> (try (intros; omega)) <;> (try grind)))
 rintro ⟨i, hi, hb⟩
 simp [St.lp, St.only, zap, zaa, getK]
 rcases hx : lets[i]? with _ | l
 ·have hge : lets.length ≤ i := by simpa using hx
  obtain rfl : i = lets.length := by omega
  rw [List.take_length] at hb
  have hall : rl = false := by
   rw [← hrl, List.any_eq_false]
   intro x hx
   simp [hb x hx]
  have h20 : lets.length ≤ 20 := by omega
  repeat' (first
  | (refine zah ?_; simp [hx])
  | (refine zak ?_; simp [hx])
  | (refine zai ?_; simp [hx])
  | (refine zag ?_; simp [hx])
  | (refine zar ?_; simp only [zal])
  | (refine zba ?_; simp [zal])
  | (refine CallP.fun_ (h1) (by first | rfl | fail) (by first | assumption | (simp; done) | fail) (by first | (simp [hx]; done) | (simp [hx]; rfl) | fail) (by first | (simp; done) | fail) (fun d hd => ?_); subst hd; (try simp [hx]))
  | fail)
  (refine EndOK.val (.inr rfl) ?_; simp [zay, zae, zau, Tryd.results82])
  simp [hall, h20]
 ·have hlt : i < lets.length := (List.getElem?_eq_some_iff.1 hx).1
  have h5 := zcN l.body
  simp only [za3] at h5
  cases hrx : zax 12 l.body
  ·rw [hrx] at h5
   have hall : rl = true := by
    rw [← hrl, List.any_eq_true]
    exact ⟨l, List.mem_of_getElem? hx, by simp [hrx]⟩
   repeat' (first
  | (refine zah ?_; simp [hx])
  | (refine zak ?_; simp [hx])
  | (refine zai ?_; simp [hx])
  | (refine zag ?_; simp [hx])
  | (refine zar ?_; simp only [zal])
  | (refine zaq ?_; simp only [zal])
  | (refine ⟨?_, by omega⟩)
  | (intro hc <;> (try (exfalso; omega)))
  | (refine CallP.fun_ (h5) (by first | rfl | fail) (by first | assumption | (simp; done) | fail) (by first | (simp [hx]; done) | (simp [hx]; rfl) | fail) (by first | (simp; done) | fail) (fun d hd => ?_); subst hd; (try simp [hx]))
  | fail)
   (refine EndOK.val (.inr rfl) ?_; simp [zay, zae, zau, Tryd.results82])
   simp [hall]
  ·rw [hrx] at h5
   repeat' (first
  | (refine zah ?_; simp [hx])
  | (refine zak ?_; simp [hx])
  | (refine ⟨by omega, ?_⟩)
  | (refine zai ?_; simp [hx])
  | (refine zag ?_; simp [hx])
  | (refine zas ?_; simp [hx])
  | (refine zaq ?_; simp only [zal])
  | (refine ⟨?_, by omega⟩)
  | (intro hc <;> (try (exfalso; omega)))
  | (refine CallP.fun_ (h5) (by first | rfl | fail) (by first | assumption | (simp; done) | fail) (by first | (simp [hx]; done) | (simp [hx]; rfl) | fail) (by first | (simp; done) | fail) (fun d hd => ?_); subst hd; (try simp [hx]))
  | fail)
   refine LoopW.next ⟨i + 1, by omega, zaG hx hb hrx⟩ (by simp; omega) ?_
   exact (Wk.cut rfl (by simp [hn, St.lp]) (by simp [wkO, St.lp, zaa, getK, Ob.under, D.under, zad, zaf]) (by simp [wkU, St.lp, zap, zaa, getK, D.under]) (by simp [wkE, St.lp, zap, zaa, getK] <;> (try (intros; simp_all; done)) <;> (try (intros; omega)) <;> (try grind)))
abbrev SB := List (List UInt8 × Bool)
def bF (sh : SB) : List UInt8 → Bool := fun n => (zfH sh n).getD false
theorem zdl (sh : SB) (hlen : sh.length ≤ 1000) : ∀ (d : Nat) (e : Exp), zax d e = true → Fun Tryd.prog 83 [.u (.sl (sh.map fun p => [.str p.1])), .u (.sl (sh.map fun p => [.bool p.2])), za3 e] (· = .u (.bool (zcK (bF sh) e)))
 | 0, e, h => by simp [zax] at h
 | d + 1, e, h => by
  obtain ⟨h1, h2, h3, h4⟩ := zcc h
  rw [zik]
  by_cases h0 : e.op = 0
  ·rw [if_pos h0]
   (refine Fun.of_body Tryd.func83 rfl (by simp) fun Γ hn => ?_); simp only [entry, List.zipIdx_cons, List.zipIdx_nil, List.map_cons, List.map_nil, Nat.zero_add, Tryd.ntmps83]
   simp only [za3]
   repeat' (first
  | (refine zah ?_; simp [h0])
  | (refine zak ?_; simp [h0])
  | (refine zai ?_; simp [h0])
  | (refine zag ?_; simp [h0])
  | (refine zam ?_; simp [h0])
  | (refine zar ?_; simp only [zal])
  | fail)
   (refine EndOK.val (.inr rfl) ?_; simp [zay, zae, zau, Tryd.results83])
  rw [if_neg h0]
  by_cases hnm : e.op = 1
  ·rw [if_pos hnm]
   (refine Fun.of_body Tryd.func83 rfl (by simp) fun Γ hn => ?_); simp only [entry, List.zipIdx_cons, List.zipIdx_nil, List.map_cons, List.map_nil, Nat.zero_add, Tryd.ntmps83]
   simp only [za3]
   repeat' (first
  | (refine zah ?_; simp [h0, hnm])
  | (refine zak ?_; simp [h0, hnm])
  | (refine ⟨by omega, ?_⟩)
  | (refine zai ?_; simp [h0, hnm])
  | (refine zag ?_; simp [h0, hnm])
  | (refine zam ?_; simp [h0, hnm])
  | fail)
   refine zbG (α := { k : Nat // k ≤ sh.length ∧ ∀ x ∈ sh.drop k, ¬ x.1 = e.s }) [0, 1, 5, 13] (fun k => [(7, .u (.int .i64 ((k.1 : Int) - 1)))]) (fun k => k.1) ⟨sh.length, by omega, by simp⟩ ?_ ?_
   ·exact (Wk.cut rfl (by simp [hn, St.lp]) (by simp [wkO, St.lp, zaa, getK, Ob.under, D.under, zad, zaf]) (by simp [wkU, St.lp, zap, zaa, getK, D.under]) (by simp [wkE, St.lp, zap, zaa, getK] <;> (try (intros; simp_all; done)) <;> (try (intros; omega)) <;> (try grind)))
   rintro ⟨k, hk, hd⟩
   simp [St.lp, St.only, zap, zaa, getK]
   cases k with
   | zero =>
    rw [List.drop_zero] at hd
    have hl := zg7 hd
    repeat' (first
  | (refine zah ?_; simp)
  | (refine zak ?_; simp)
  | (refine zai ?_; simp)
  | (refine zag ?_; simp)
  | (refine zar ?_; simp only [zal])
  | (refine zba ?_; simp [zal])
  | fail)
    (refine EndOK.val (.inr rfl) ?_; simp [zay, zae, zau, Tryd.results83])
    simp [bF, hl]
   | succ k =>
    obtain ⟨p, hp⟩ : ∃ p, sh[k]? = some p := ⟨sh[k], List.getElem?_eq_getElem (by omega)⟩
    have ek : ((k + 1 : Nat) : Int) - 1 = k := by omega
    rw [ek]
    by_cases hpn : p.1 = e.s
    ·have hl := znr hd hp hpn
     repeat' (first
  | (refine zah ?_; simp [hp, hpn])
  | (refine zcj ?_; simp [hp, hpn])
  | (refine zak ?_; simp [hp, hpn])
  | (refine zai ?_; simp [hp, hpn])
  | (refine zag ?_; simp [hp, hpn])
  | (refine zcV ?_)
  | (refine hk _ ?_; clear hk k; simp only [zal])
  | (refine zci rfl (by kernel_rfl) (by kernel_rfl) fun k hk => ?_; simp [hp, hpn])
  | (refine zar ?_; simp only [zal])
  | (refine zaq ?_; simp only [zal])
  | fail)
     (refine EndOK.val (.inr rfl) ?_; simp [zay, zae, zau, Tryd.results83])
     simp [bF, hl]
    ·repeat' (first
  | (refine zah ?_; simp [hp, hpn])
  | (refine zcj ?_; simp [hp, hpn])
  | (refine zak ?_; simp [hp, hpn])
  | (refine ⟨by omega, ?_⟩)
  | (refine zai ?_; simp [hp, hpn])
  | (refine zag ?_; simp [hp, hpn])
  | (refine zcV ?_)
  | (refine hk _ ?_; clear hk k; simp only [zal])
  | (refine zci rfl (by kernel_rfl) (by kernel_rfl) fun k hk => ?_; simp [hp, hpn])
  | (refine zas ?_; simp [hp, hpn])
  | (refine zaq ?_; simp only [zal])
  | fail)
     refine LoopW.next ⟨k, by omega, zmC hp hd hpn⟩ (by simp) ?_
     exact (Wk.cut rfl (by simp [hn, St.lp]) (by simp [wkO, St.lp, zaa, getK, Ob.under, D.under, zad, zaf]) (by simp [wkU, St.lp, zap, zaa, getK, D.under]) (by simp [wkE, St.lp, zap, zaa, getK] <;> (try (intros; simp_all; done)) <;> (try (intros; omega)) <;> (try grind)))
  rw [if_neg hnm]
  have hr := h4 h0 hnm
  by_cases hA : e.op = 2 ∨ e.op = 3 ∨ e.op = 6 ∨ e.op = 7
  ·rw [if_pos hA]
   have hl : e.args.length = 2 := by
    rcases hA with ha | ha | ha | ha <;> rw [ha] at h1 <;> simp [zaE] at h1 <;> omega
   obtain ⟨a, b, hab⟩ : ∃ a b, e.args = [a, b] := by
    match hq : e.args, hl with
    | [a, b], _ => exact ⟨a, b, rfl⟩
   have h5 := zdl sh hlen d a (hr a (by simp [hab]))
   simp only [za3] at h5
   rw [hab, zcv]
   rcases hA with ha | ha | ha | ha
   all_goals
    (refine Fun.of_body Tryd.func83 rfl (by simp) fun Γ hn => ?_); simp only [entry, List.zipIdx_cons, List.zipIdx_nil, List.map_cons, List.map_nil, Nat.zero_add, Tryd.ntmps83]
    simp only [za3]
    repeat' (first
  | (refine zah ?_; simp [ha, hab, a.row_eq, b.row_eq])
  | (refine zak ?_; simp [ha, hab, a.row_eq, b.row_eq])
  | (refine zai ?_; simp [ha, hab, a.row_eq, b.row_eq])
  | (refine zag ?_; simp [ha, hab, a.row_eq, b.row_eq])
  | (refine zam ?_; simp [ha, hab, a.row_eq, b.row_eq])
  | (refine zas ?_; simp [ha, hab, a.row_eq, b.row_eq])
  | (refine zar ?_; simp only [zal])
  | (refine zaq ?_; simp only [zal])
  | (refine CallP.fun_ (h5) (by first | rfl | fail) (by first | assumption | (simp; done) | fail) (by first | (simp [ha, hab, a.row_eq, b.row_eq]; done) | (simp [ha, hab, a.row_eq, b.row_eq]; rfl) | fail) (by first | (simp; done) | fail) (fun d hd => ?_); subst hd; (try simp [ha, hab, a.row_eq, b.row_eq]))
  | fail)
    (refine EndOK.val (.inr rfl) ?_; simp [zay, zae, zau, Tryd.results83])
  rw [if_neg hA]
  by_cases hB : e.op = 4
  ·rw [if_pos hB]
   have hl : e.args.length = 2 := by rw [hB] at h1; simp [zaE] at h1; omega
   obtain ⟨a, b, hab⟩ : ∃ a b, e.args = [a, b] := by
    match hq : e.args, hl with
    | [a, b], _ => exact ⟨a, b, rfl⟩
   have h5 := zdl sh hlen d a (hr a (by simp [hab]))
   have h6 := zdl sh hlen d b (hr b (by simp [hab]))
   simp only [za3] at h5 h6
   rw [hab, zcv, zcv, zcv]
   generalize zcK (bF sh) a = x1 at h5 ⊢
   generalize zcK (bF sh) b = x2 at h6 ⊢
   (refine Fun.of_body Tryd.func83 rfl (by simp) fun Γ hn => ?_); simp only [entry, List.zipIdx_cons, List.zipIdx_nil, List.map_cons, List.map_nil, Nat.zero_add, Tryd.ntmps83]
   simp only [za3]
   repeat' (first
  | (refine zah ?_; simp [hB, hab, a.row_eq, b.row_eq])
  | (refine zak ?_; simp [hB, hab, a.row_eq, b.row_eq])
  | (refine zai ?_; simp [hB, hab, a.row_eq, b.row_eq])
  | (refine zag ?_; simp [hB, hab, a.row_eq, b.row_eq])
  | (refine zam ?_; simp [hB, hab, a.row_eq, b.row_eq])
  | (refine zas ?_; simp [hB, hab, a.row_eq, b.row_eq])
  | (refine zar ?_; simp only [zal])
  | (refine ⟨fun hc => ?_, fun hc => ?_⟩ <;> (try (exfalso; omega)))
  | (refine CallP.fun_ (h5) (by first | rfl | fail) (by first | assumption | (simp; done) | fail) (by first | (simp [hB, hab, a.row_eq, b.row_eq]; done) | (simp [hB, hab, a.row_eq, b.row_eq]; rfl) | fail) (by first | (simp; done) | fail) (fun d hd => ?_); subst hd; (try simp [hB, hab, a.row_eq, b.row_eq]))
  | (refine CallP.fun_ (h6) (by first | rfl | fail) (by first | assumption | (simp; done) | fail) (by first | (simp [hB, hab, a.row_eq, b.row_eq]; done) | (simp [hB, hab, a.row_eq, b.row_eq]; rfl) | fail) (by first | (simp; done) | fail) (fun d hd => ?_); subst hd; (try simp [hB, hab, a.row_eq, b.row_eq]))
  | fail)
   all_goals
    (refine EndOK.val (.inr rfl) ?_; simp [zay, zae, zau, Tryd.results83])
   all_goals (simp_all; done)
  rw [if_neg hB]
  by_cases hC : e.op = 13
  ·rw [if_pos hC]
   have hl : e.args.length = 3 := by rw [hC] at h1; simp [zaE] at h1; omega
   obtain ⟨a, b, c, hab⟩ : ∃ a b c, e.args = [a, b, c] := by
    match hq : e.args, hl with
    | [a, b, c], _ => exact ⟨a, b, c, rfl⟩
   have h5 := zdl sh hlen d b (hr b (by simp [hab]))
   simp only [za3] at h5
   rw [hab, zcv, zcv]
   (refine Fun.of_body Tryd.func83 rfl (by simp) fun Γ hn => ?_); simp only [entry, List.zipIdx_cons, List.zipIdx_nil, List.map_cons, List.map_nil, Nat.zero_add, Tryd.ntmps83]
   simp only [za3]
   repeat' (first
  | (refine zah ?_; simp [hC, hab, a.row_eq, b.row_eq, c.row_eq])
  | (refine zak ?_; simp [hC, hab, a.row_eq, b.row_eq, c.row_eq])
  | (refine zai ?_; simp [hC, hab, a.row_eq, b.row_eq, c.row_eq])
  | (refine zag ?_; simp [hC, hab, a.row_eq, b.row_eq, c.row_eq])
  | (refine zam ?_; simp [hC, hab, a.row_eq, b.row_eq, c.row_eq])
  | (refine zas ?_; simp [hC, hab, a.row_eq, b.row_eq, c.row_eq])
  | (refine zar ?_; simp only [zal])
  | (refine CallP.fun_ (h5) (by first | rfl | fail) (by first | assumption | (simp; done) | fail) (by first | (simp [hC, hab, a.row_eq, b.row_eq, c.row_eq]; done) | (simp [hC, hab, a.row_eq, b.row_eq, c.row_eq]; rfl) | fail) (by first | (simp; done) | fail) (fun d hd => ?_); subst hd; (try simp [hC, hab, a.row_eq, b.row_eq, c.row_eq]))
  | fail)
   (refine EndOK.val (.inr rfl) ?_; simp [zay, zae, zau, Tryd.results83])
  rw [if_neg hC]
  have hD : ¬ e.op = 2 ∧ ¬ e.op = 3 ∧ ¬ e.op = 6 ∧ ¬ e.op = 7 := by omega
  (refine Fun.of_body Tryd.func83 rfl (by simp) fun Γ hn => ?_); simp only [entry, List.zipIdx_cons, List.zipIdx_nil, List.map_cons, List.map_nil, Nat.zero_add, Tryd.ntmps83]
  simp only [za3]
  repeat' (first
  | (refine zah ?_; simp [h0, hnm, hB, hC, hD.1, hD.2.1, hD.2.2.1, hD.2.2.2])
  | (refine zak ?_; simp [h0, hnm, hB, hC, hD.1, hD.2.1, hD.2.2.1, hD.2.2.2])
  | (refine zai ?_; simp [h0, hnm, hB, hC, hD.1, hD.2.1, hD.2.2.1, hD.2.2.2])
  | (refine zag ?_; simp [h0, hnm, hB, hC, hD.1, hD.2.1, hD.2.2.1, hD.2.2.2])
  | (refine zam ?_; simp [h0, hnm, hB, hC, hD.1, hD.2.1, hD.2.2.1, hD.2.2.2])
  | (refine zas ?_; simp [h0, hnm, hB, hC, hD.1, hD.2.1, hD.2.2.1, hD.2.2.2])
  | (refine zar ?_; simp only [zal])
  | (refine zaq ?_; simp only [zal])
  | fail)
  (refine EndOK.val (.inr rfl) ?_; simp [zay, zae, zau, Tryd.results83])
def zjl (lets : List Let) : SB := lets.foldl (fun sh l => sh ++ [(l.name, zcK (bF sh) l.body)]) []
theorem zlH {lets : List Let} {i : Nat} {l : Let} (h : lets[i]? = some l) : zjl (lets.take (i + 1)) = zjl (lets.take i) ++ [(l.name, zcK (bF (zjl (lets.take i))) l.body)] := zer _ _ h
theorem zj8 (lets : List Let) : (zjl lets).length = lets.length := by
 unfold zjl
 have : ∀ (l : List Let) (s : SB), (l.foldl (fun sh l => sh ++ [(l.name, zcK (bF sh) l.body)]) s).length = s.length + l.length := by
  intro l
  induction l with
  | nil => intro s; simp
  | cons a l ih => intro s; rw [List.foldl_cons, ih]; simp; omega
 simpa using this lets []
def zj7 (lets : List Let) (e : Exp) : Bool := zbL lets e && zcK (bF (zjl lets)) e
theorem zgY (lets : List Let) (e : Exp) : Fun Tryd.prog 56 [.u (zaw lets), za3 e] (· = .u (.bool (zj7 lets e))) := by
 have h1 := zkL lets e
 have hra := zgX (lets := lets) (e := e)
 simp only [za3, zaw] at h1 ⊢
 unfold zj7
 generalize zbL lets e = ra at h1 hra ⊢
 (refine Fun.of_body Tryd.func56 rfl (by simp) fun Γ hn => ?_); simp only [entry, List.zipIdx_cons, List.zipIdx_nil, List.map_cons, List.map_nil, Nat.zero_add, Tryd.ntmps56]
 cases ra
 ·repeat' (first
  | (refine zah ?_; simp)
  | (refine zak ?_; simp)
  | (refine zai ?_; simp)
  | (refine zag ?_; simp)
  | (refine zar ?_; simp only [zal])
  | (refine CallP.fun_ (h1) (by first | rfl | fail) (by first | assumption | (simp; done) | fail) (by first | (simp; done) | (simp; rfl) | fail) (by first | (simp; done) | fail) (fun d hd => ?_); subst hd; (try simp))
  | fail)
  (refine EndOK.val (.inr rfl) ?_; simp [zay, zae, zau, Tryd.results56])
 obtain ⟨h20, hre, hrl⟩ := hra rfl
 repeat' (first
  | (refine zah ?_; simp)
  | (refine zak ?_; simp)
  | (refine zai ?_; simp)
  | (refine zag ?_; simp)
  | (refine zam ?_; simp)
  | (refine zaq ?_; simp only [zal])
  | (refine CallP.fun_ (h1) (by first | rfl | fail) (by first | assumption | (simp; done) | fail) (by first | (simp; done) | (simp; rfl) | fail) (by first | (simp; done) | fail) (fun d hd => ?_); subst hd; (try simp))
  | fail)
 refine zpS _ (Wk.own 5 9 1 (by decide) rfl) ?_
 simp [St.own]
 refine zpS _ (Wk.own 6 4 1 (by decide) rfl) ?_
 simp [St.own]
 refine zcR (α := { i : Nat // i ≤ lets.length }) [0, 3] (fun i => [(5, .vec 1 i.1), (6, .vec 2 i.1), (7, .u (.int .i64 i.1))])
  (fun i => [(1, .vec 9 1 (rowsD ((zjl (lets.take i.1)).map fun p => [U.str p.1]))), (2, .vec 4 1 (rowsD ((zjl (lets.take i.1)).map fun p => [U.bool p.2]))), (0, .box [.u (.int .i64 e.op), .u (.int .i64 e.n), .u (.int .i64 e.unit), .u (.str e.s), .u (.sl (e.args.map Exp.row))])]) 3
  (fun i => lets.length - i.1) ⟨0, by omega⟩ ?_ ?_
 ·exact (Wk.ren ((fun i => i)) rfl (by first | (simp [hn]; done) | (intro i hi; rw [hn] at hi; constructor <;> (try simp) <;> (try (intro _)) <;> omega)) (by simp [zoh, St.lp, zap, zaa, getK, zac, zaj, D.under, D.le, D.ren, zjl] <;> (try (intros; simp_all; done)) <;> (try omega)) (by simp [wkR, St.lp, zaa, getK, zac, zaj, obR, leU, zdp, zbU, Ob.under, D.under, D.le, D.ren, zjl] <;> (try (intros; simp_all; done)) <;> (try omega)) (by simp [zjl]))
 rintro ⟨k, hk⟩
 simp [St.lp, St.only, zap, zaa, getK]
 have hsl := zj8 (lets.take k)
 rw [List.length_take, Nat.min_eq_left hk] at hsl
 rcases hy : lets[k]? with _ | l
 ·have hgk : lets.length ≤ k := by simpa using hy
  obtain rfl : k = lets.length := by omega
  have h5 := zdl (zjl lets) (by rw [zj8]; omega) 12 e hre
  simp only [za3] at h5
  rw [List.take_length] at hsl
  repeat' (first
  | (refine zah ?_; simp [hy, hsl])
  | (refine zak ?_; simp [hy, hsl])
  | (refine zai ?_; simp [hy, hsl])
  | (refine zag ?_; simp [hy, hsl])
  | (refine zar ?_; simp only [zal])
  | (refine zba ?_; simp [zal])
  | (refine CallP.fun_ (h5) (by first | rfl | fail) (by first | assumption | (simp; done) | fail) (by first | (simp [hy, hsl]; done) | (simp [hy, hsl]; rfl) | fail) (by first | (simp; done) | fail) (fun d hd => ?_); subst hd; (try simp [hy, hsl]))
  | fail)
  (refine EndOK.val (.inr rfl) ?_; simp [zay, zae, zau, Tryd.results56])
 ·have hlk : k < lets.length := (List.getElem?_eq_some_iff.1 hy).1
  have hsu := zlH hy
  have h5 := zdl (zjl (lets.take k)) (by rw [hsl]; omega) 12 l.body (hrl l (List.mem_of_getElem? hy))
  simp only [za3] at h5
  generalize zcK (bF (zjl (lets.take k))) l.body = r at h5 hsu
  repeat' (first
  | (refine zah ?_; simp [hy, hsl])
  | (refine zak ?_; simp [hy, hsl])
  | (refine ⟨by omega, ?_⟩)
  | (refine zai ?_; simp [hy, hsl])
  | (refine zag ?_; simp [hy, hsl])
  | (refine zas ?_; simp [hy, hsl])
  | (refine zaq ?_; simp only [zal])
  | (refine ⟨?_, by omega⟩)
  | (intro hc <;> (try (exfalso; omega)))
  | (refine CallP.fun_ (h5) (by first | rfl | fail) (by first | assumption | (simp; done) | fail) (by first | (simp [hy, hsl]; done) | (simp [hy, hsl]; rfl) | fail) (by first | (simp; done) | fail) (fun d hd => ?_); subst hd; (try simp [hy, hsl]))
  | fail)
  refine LoopW.next ⟨k + 1, by omega⟩ (by simp; omega) ?_
  exact (Wk.ren ((fun i => if i = 1 then 4 else if i = 2 then 6 else i)) rfl (by first | (simp [hn]; done) | (intro i hi; rw [hn] at hi; constructor <;> (try simp) <;> (try (intro _)) <;> omega)) (by simp [zoh, St.lp, zap, zaa, getK, zac, zaj, D.under, D.le, D.ren, hsu] <;> (try (intros; simp_all; done)) <;> (try omega)) (by simp [wkR, St.lp, zaa, getK, zac, zaj, obR, leU, zdp, zbU, Ob.under, D.under, D.le, D.ren, hsu] <;> (try (intros; simp_all; done)) <;> (try omega)) (by simp [hsu]))
theorem ziO {β : Type} (sc : List (List UInt8 × β)) (k : List UInt8) (r : β) (n : List UInt8) : zfH (sc ++ [(k, r)]) n = if k = n then some r else zfH sc n := by
 induction sc with
 | nil => simp [zfH]
 | cons p l ih =>
  rw [List.cons_append, zfH, ih, zfH]
  by_cases h : k = n
  ·simp [h]
  ·simp [h]
theorem zj9 (g : GM) : ∀ (l : List Let) (m : LM) (sh : SB), sF m = bF sh →
  sF (l.foldl (fun m l => zdb m l.name ((zdC (gF g) (mF m) l.body).1, (zdC (gF g) (mF m) l.body).2, zcK (sF m) l.body)) m) = bF (l.foldl (fun sh l => sh ++ [(l.name, zcK (bF sh) l.body)]) sh)
 | [], m, sh, h => h
 | a :: l, m, sh, h => by
  rw [List.foldl_cons, List.foldl_cons]
  refine zj9 g l _ _ (funext fun n => ?_)
  rw [h]
  unfold sF bF
  rw [zgt, ziO]
  by_cases hn : n = a.name
  ·subst hn; simp [bF]
  ·rw [if_neg hn, if_neg (Ne.symm hn)]
   exact congrFun h n
theorem zlG (lets : List Let) (e : Exp) : zbC lets e = zj7 lets e := by
 unfold zbC zj7 mOf zjl
 rw [zj9 [] lets [] [] (funext fun n => rfl)]
end Go.Proofs.YtfcopibncpkdoaaDoor
namespace Go.Proofs.YtfcopibncpkdoaaDoor
open Go Go.VL
def zmS (lets : List Let) (vars : List Var) (n : Nat) : Prop := ∀ (s : List UInt8) (t : Tab) (nx : Nat), 4 < nx → TO lets (gX vars) t →
 RetX Tryd.prog 53 [.ptr 4 0, .u (.str s), .u (.int .i64 n)] (evO lets vars t) nx
  (fun o obs n' => o = .val (zgD (nmT lets (gX vars) n s t).1) ∧ obs = evO lets vars (nmT lets (gX vars) n s t).2 ∧ n' = nx)
attribute [local simp] HS zcp zbN evPure opd uOf zaB St.put St.at getK binD binI binS binB nilD aggD zeJ ze8 lookD lookR zbT Go.VL.nextD zbY zfe zfd zev zbM mkV zaW zaP zaO zaN zcm zaM za1 zbc mapEff zcS zek Key.kk shiftI arith unD convD zcP loadD cellsAt fieldAddrD fieldD indexAddrD indexD sliceD cutD lenD minmaxD nilCheckD buildD fillD zbt zcq zdR setAll zcg zdy zbQ zeN zbO St.add zaC zbj rowsOf zcM zce zaj zac zaa za5 zcl zaH entry za4 za6 valD zbS zb7 zez zct zcu zbx zbs zav zaT za7 delAll effD St.effS zb9 zaQ zaI zca zaR zaK zby zaJ zaD zbz zb8 zbb zbw zaZ zbu zbv zat mkD zbk zbd zbB zav zbP D.ids Op.operands Call.operands za8 makeIfD typeAssertD ze6 zcH zcI zeR zbV IntKind.bits zch List.take_of_length_le List.range_succ
attribute [local irreducible] V G H HD HD2 HD4 zhn RetX zal Eff CallP CallV EndOK Fun Ret FinOK LoopI LoopW EndW
theorem zpp {lets : List Let} {vars : List Var} {n : Nat} {e : Exp} (h0 : e.op = 0) : zh4 lets vars n e := by
 intro t nx hm hto
 have hne := nef hm
 have hne3 := nef (show 3 < nx by omega)
 have hne2 := nef (show 2 < nx by omega)
 have hne1 := nef (show 1 < nx by omega)
 have hm3 : 3 < nx := by omega
 have hm2 : 2 < nx := by omega
 have hm1 : 1 < nx := by omega
 unfold za3
 obtain ⟨T, rfl⟩ : ∃ T, T = t := ⟨_, rfl⟩
 rw [zjY h0]
 have hc1 := zeo e.n
 generalize zcG e.n = res at hc1 ⊢
 unfold zgD at hc1 ⊢
 generalize zcT res = q at hc1 ⊢
 obtain ⟨v1, e1, d1⟩ := q
 simp only [za3] at hc1 ⊢
 (refine RetX.of_bodyW Tryd.func30 rfl (by simp) fun Γ hn hpan => ?_); simp only [entry, List.zipIdx_cons, List.zipIdx_nil, List.map_cons, List.map_nil, Nat.zero_add, Tryd.ntmps30]
 repeat' (first
  | (refine zah ?_; simp [hne, hne3, hne2, hne1, h0, Nat.add_assoc, del])
  | (refine zak ?_; simp [hne, hne3, hne2, hne1, h0, Nat.add_assoc, del])
  | (refine zai ?_; simp [hne, hne3, hne2, hne1, h0, Nat.add_assoc, del])
  | (refine zag ?_; simp [hne, hne3, hne2, hne1, h0, Nat.add_assoc, del])
  | (refine zam ?_; simp [hne, hne3, hne2, hne1, h0, Nat.add_assoc, del])
  | (refine zar ?_; simp only [zal])
  | (refine CallP.fun_ (hc1) (by first | rfl | fail) (by first | assumption | (simp; done) | fail) (by first | (simp [hne, hne3, hne2, hne1, h0, Nat.add_assoc, del]; done) | (simp [hne, hne3, hne2, hne1, h0, Nat.add_assoc, del]; rfl) | fail) (by first | (simp; done) | fail) (fun d hd => ?_); subst hd; (try simp [hne, hne3, hne2, hne1, h0, Nat.add_assoc, del]))
  | fail)
 (refine EndW.here ?_; (first | (refine EndOK.fin (.inr rfl) ?_) | (refine EndOK.fin (.inl rfl) ?_)); simp [zay, zae, Tryd.results30, hm, hm1, hm2, hm3, hne, hne3, hne2, hne1, zab, zac, zaa, getK]; refine FinOK.cut (evO lets vars T) (nx) (by simp [zaa, getK, zab, zac, Ob.under, D.under, zad, zaf, hm, hm1, hm2, hm3, hne, hne3, hne2, hne1, zab, zac, zaa, getK] <;> omega) (by simp [D.under]) (by simp [hn]) ?_; try simp)
theorem zoL {lets : List Let} {vars : List Var} {n : Nat} {e : Exp} (h0 : e.op = 1) (hN : zmS lets vars n) : zh4 lets vars n e := by
 intro t nx hm hto
 have hne := nef hm
 have hne3 := nef (show 3 < nx by omega)
 have hne2 := nef (show 2 < nx by omega)
 have hne1 := nef (show 1 < nx by omega)
 have hm3 : 3 < nx := by omega
 have hm2 : 2 < nx := by omega
 have hm1 : 1 < nx := by omega
 unfold za3
 rw [zh8 h0]
 have hc1 := fun nx' (h : nx ≤ nx') => hN e.s t nx' (by omega) hto
 generalize nmT lets (gX vars) n e.s t = w at hc1 ⊢
 obtain ⟨res, T⟩ := w
 simp only at hc1 ⊢
 unfold zgD at hc1 ⊢
 generalize zcT res = q at hc1 ⊢
 obtain ⟨v1, e1, d1⟩ := q
 simp only [za3] at hc1 ⊢
 (refine RetX.of_bodyW Tryd.func30 rfl (by simp) fun Γ hn hpan => ?_); simp only [entry, List.zipIdx_cons, List.zipIdx_nil, List.map_cons, List.map_nil, Nat.zero_add, Tryd.ntmps30]
 repeat' (first
  | (refine zah ?_; simp [hne, hne3, hne2, hne1, h0, Nat.add_assoc, del])
  | (refine zak ?_; simp [hne, hne3, hne2, hne1, h0, Nat.add_assoc, del])
  | (refine zai ?_; simp [hne, hne3, hne2, hne1, h0, Nat.add_assoc, del])
  | (refine zag ?_; simp [hne, hne3, hne2, hne1, h0, Nat.add_assoc, del])
  | (refine zam ?_; simp [hne, hne3, hne2, hne1, h0, Nat.add_assoc, del])
  | (refine zar ?_; simp only [zal])
  | (refine CallP.okL (hc1 _ (by first | omega | (simp; done) | (simp; omega) | fail)) (by first | (simp [hne, hne3, hne2, hne1, h0, Nat.add_assoc, del, zaa, getK, zab, zac, zaj, zat, del]; done) | fail) (by rfl) (by first | assumption | (simp; done) | fail) (by rfl) (by simp) ?_; (try simp [hne, hne3, hne2, hne1, h0, Nat.add_assoc, del, zbe, del]))
  | fail)
 (refine EndW.here ?_; (first | (refine EndOK.fin (.inr rfl) ?_) | (refine EndOK.fin (.inl rfl) ?_)); simp [zay, zae, Tryd.results30, hm, hm1, hm2, hm3, hne, hne3, hne2, hne1, zab, zac, zaa, getK]; refine FinOK.cut (evO lets vars T) (nx) (by simp [zaa, getK, zab, zac, Ob.under, D.under, zad, zaf, hm, hm1, hm2, hm3, hne, hne3, hne2, hne1, zab, zac, zaa, getK] <;> omega) (by simp [D.under]) (by simp [hn]) ?_; try simp)
theorem zjJ {lets : List Let} {vars : List Var} {n : Nat} {e : Exp} (h0 : e.op = 10 ∨ e.op = 11 ∨ e.op = 13) (hS : zpT lets vars n e) : zh4 lets vars n e := by
 intro t nx hm hto
 have hne := nef hm
 have hne3 := nef (show 3 < nx by omega)
 have hne2 := nef (show 2 < nx by omega)
 have hne1 := nef (show 1 < nx by omega)
 have hm3 : 3 < nx := by omega
 have hm2 : 2 < nx := by omega
 have hm1 : 1 < nx := by omega
 unfold za3
 have hc1 := fun nx' (h : nx ≤ nx') => hS t nx' (by omega) hto
 generalize zbp lets (gX vars) n e t = w at hc1 ⊢
 obtain ⟨res, T⟩ := w
 simp only at hc1 ⊢
 unfold zgD at hc1 ⊢
 generalize zcT res = q at hc1 ⊢
 obtain ⟨v1, e1, d1⟩ := q
 simp only [za3] at hc1 ⊢
 rcases h0 with h0 | h0 | h0
 all_goals
  simp only [h0] at hc1
  (refine RetX.of_bodyW Tryd.func30 rfl (by simp) fun Γ hn hpan => ?_); simp only [entry, List.zipIdx_cons, List.zipIdx_nil, List.map_cons, List.map_nil, Nat.zero_add, Tryd.ntmps30]
  repeat' (first
  | (refine zah ?_; simp [hne, hne3, hne2, hne1, h0, Nat.add_assoc, del])
  | (refine zak ?_; simp [hne, hne3, hne2, hne1, h0, Nat.add_assoc, del])
  | (refine zai ?_; simp [hne, hne3, hne2, hne1, h0, Nat.add_assoc, del])
  | (refine zag ?_; simp [hne, hne3, hne2, hne1, h0, Nat.add_assoc, del])
  | (refine zam ?_; simp [hne, hne3, hne2, hne1, h0, Nat.add_assoc, del])
  | (refine zas ?_; simp [hne, hne3, hne2, hne1, h0, Nat.add_assoc, del])
  | (refine zar ?_; simp only [zal])
  | (refine zaq ?_; simp only [zal])
  | (refine CallP.okL (hc1 _ (by first | omega | (simp; done) | (simp; omega) | fail)) (by first | (simp [hne, hne3, hne2, hne1, h0, Nat.add_assoc, del, zaa, getK, zab, zac, zaj, zat, del]; done) | fail) (by rfl) (by first | assumption | (simp; done) | fail) (by rfl) (by simp) ?_; (try simp [hne, hne3, hne2, hne1, h0, Nat.add_assoc, del, zbe, del]))
  | fail)
  (refine EndW.here ?_; (first | (refine EndOK.fin (.inr rfl) ?_) | (refine EndOK.fin (.inl rfl) ?_)); simp [zay, zae, Tryd.results30, hm, hm1, hm2, hm3, hne, hne3, hne2, hne1, zab, zac, zaa, getK]; refine FinOK.cut (evO lets vars T) (nx) (by simp [zaa, getK, zab, zac, Ob.under, D.under, zad, zaf, hm, hm1, hm2, hm3, hne, hne3, hne2, hne1, zab, zac, zaa, getK] <;> omega) (by simp [D.under]) (by simp [hn]) ?_; try simp)
theorem zpq {lets : List Let} {vars : List Var} {n : Nat} {e x : Exp} (h0 : e.op = 12) (he : e.args = [x]) (hVx : zh4 lets vars n x) (hTx : zmZ lets vars n x) : zh4 lets vars n e := by
 intro t nx hm hto
 have hne := nef hm
 have hne3 := nef (show 3 < nx by omega)
 have hne2 := nef (show 2 < nx by omega)
 have hne1 := nef (show 1 < nx by omega)
 have hm3 : 3 < nx := by omega
 have hm2 : 2 < nx := by omega
 have hm1 : 1 < nx := by omega
 unfold za3
 have hx := fun nx' (h : nx ≤ nx') => hVx t nx' (by omega) hto
 obtain ⟨hto1, hin1, hne0⟩ := hTx t hto
 rcases hvx : zbp lets (gX vars) n x t with ⟨er | a, t1⟩
 ·obtain ⟨T, rfl⟩ : ∃ T, T = t1 := ⟨_, rfl⟩
  rw [hvx] at hne0 hx
  have her := hne0 er rfl
  rw [zc5 (by omega) (by omega) he hvx]
  simp only [zde, za3] at hx ⊢
  (refine RetX.of_bodyW Tryd.func30 rfl (by simp) fun Γ hn hpan => ?_); simp only [entry, List.zipIdx_cons, List.zipIdx_nil, List.map_cons, List.map_nil, Nat.zero_add, Tryd.ntmps30]
  repeat' (first
  | (refine zah ?_; simp [hne, hne3, hne2, hne1, h0, he, her, x.row_eq, Nat.add_assoc, del])
  | (refine zak ?_; simp [hne, hne3, hne2, hne1, h0, he, her, x.row_eq, Nat.add_assoc, del])
  | (refine zai ?_; simp [hne, hne3, hne2, hne1, h0, he, her, x.row_eq, Nat.add_assoc, del])
  | (refine zag ?_; simp [hne, hne3, hne2, hne1, h0, he, her, x.row_eq, Nat.add_assoc, del])
  | (refine zam ?_; simp [hne, hne3, hne2, hne1, h0, he, her, x.row_eq, Nat.add_assoc, del])
  | (refine zas ?_; simp [hne, hne3, hne2, hne1, h0, he, her, x.row_eq, Nat.add_assoc, del])
  | (refine zar ?_; simp only [zal])
  | (refine zaq ?_; simp only [zal])
  | (refine CallP.okL (hx _ (by first | omega | (simp; done) | (simp; omega) | fail)) (by first | (simp [hne, hne3, hne2, hne1, h0, he, her, x.row_eq, Nat.add_assoc, del, zaa, getK, zab, zac, zaj, zat, del]; done) | fail) (by rfl) (by first | assumption | (simp; done) | fail) (by rfl) (by simp) ?_; (try simp [hne, hne3, hne2, hne1, h0, he, her, x.row_eq, Nat.add_assoc, del, zbe, del]))
  | fail)
  (refine EndW.here ?_; (first | (refine EndOK.fin (.inr rfl) ?_) | (refine EndOK.fin (.inl rfl) ?_)); simp [zay, zae, Tryd.results30, hm, hm1, hm2, hm3, hne, hne3, hne2, hne1, zab, zac, zaa, getK]; refine FinOK.cut (evO lets vars T) (nx) (by simp [zaa, getK, zab, zac, Ob.under, D.under, zad, zaf, hm, hm1, hm2, hm3, hne, hne3, hne2, hne1, zab, zac, zaa, getK] <;> omega) (by simp [D.under]) (by simp [hn]) ?_; try simp)
 ·obtain ⟨T, rfl⟩ : ∃ T, T = t1 := ⟨_, rfl⟩
  rw [hvx] at hx
  rw [zjZ h0 he hvx]
  simp only [zcO, za3] at hx ⊢
  have hb := zd4 (decide (a = 0))
  generalize zbI (decide (a = 0)) = w at hb ⊢
  (refine RetX.of_bodyW Tryd.func30 rfl (by simp) fun Γ hn hpan => ?_); simp only [entry, List.zipIdx_cons, List.zipIdx_nil, List.map_cons, List.map_nil, Nat.zero_add, Tryd.ntmps30]
  repeat' (first
  | (refine zah ?_; simp [hne, hne3, hne2, hne1, h0, he, x.row_eq, Nat.add_assoc, del])
  | (refine zak ?_; simp [hne, hne3, hne2, hne1, h0, he, x.row_eq, Nat.add_assoc, del])
  | (refine zai ?_; simp [hne, hne3, hne2, hne1, h0, he, x.row_eq, Nat.add_assoc, del])
  | (refine zag ?_; simp [hne, hne3, hne2, hne1, h0, he, x.row_eq, Nat.add_assoc, del])
  | (refine zam ?_; simp [hne, hne3, hne2, hne1, h0, he, x.row_eq, Nat.add_assoc, del])
  | (refine zas ?_; simp [hne, hne3, hne2, hne1, h0, he, x.row_eq, Nat.add_assoc, del])
  | (refine zar ?_; simp only [zal])
  | (refine zaq ?_; simp only [zal])
  | (refine CallP.fun_ (hb) (by first | rfl | fail) (by first | assumption | (simp; done) | fail) (by first | (simp [hne, hne3, hne2, hne1, h0, he, x.row_eq, Nat.add_assoc, del]; done) | (simp [hne, hne3, hne2, hne1, h0, he, x.row_eq, Nat.add_assoc, del]; rfl) | fail) (by first | (simp; done) | fail) (fun d hd => ?_); subst hd; (try simp [hne, hne3, hne2, hne1, h0, he, x.row_eq, Nat.add_assoc, del]))
  | (refine CallP.okL (hx _ (by first | omega | (simp; done) | (simp; omega) | fail)) (by first | (simp [hne, hne3, hne2, hne1, h0, he, x.row_eq, Nat.add_assoc, del, zaa, getK, zab, zac, zaj, zat, del]; done) | fail) (by rfl) (by first | assumption | (simp; done) | fail) (by rfl) (by simp) ?_; (try simp [hne, hne3, hne2, hne1, h0, he, x.row_eq, Nat.add_assoc, del, zbe, del]))
  | fail)
  (refine EndW.here ?_; (first | (refine EndOK.fin (.inr rfl) ?_) | (refine EndOK.fin (.inl rfl) ?_)); simp [zay, zae, Tryd.results30, hm, hm1, hm2, hm3, hne, hne3, hne2, hne1, zab, zac, zaa, getK]; refine FinOK.cut (evO lets vars T) (nx) (by simp [zaa, getK, zab, zac, Ob.under, D.under, zad, zaf, hm, hm1, hm2, hm3, hne, hne3, hne2, hne1, zab, zac, zaa, getK] <;> omega) (by simp [D.under]) (by simp [hn]) ?_; try simp)
theorem zpr {lets : List Let} {vars : List Var} {n : Nat} {e x y : Exp} (h0 : 2 ≤ e.op ∧ e.op ≤ 9) (hl : lets.length ≤ 20) (hnl : n ≤ lets.length) (he : e.args = [x, y]) (hVx : zh4 lets vars n x) (hTx : zmZ lets vars n x) (hVy : zh4 lets vars n y) (hTy : zmZ lets vars n y) : zh4 lets vars n e := by
 intro t nx hm hto
 have hne := nef hm
 have hne3 := nef (show 3 < nx by omega)
 have hne2 := nef (show 2 < nx by omega)
 have hne1 := nef (show 1 < nx by omega)
 have hm3 : 3 < nx := by omega
 have hm2 : 2 < nx := by omega
 have hm1 : 1 < nx := by omega
 unfold za3
 have n0 : ¬ e.op = 0 := by omega
 have n1 : ¬ e.op = 1 := by omega
 have n10 : ¬ e.op = 10 := by omega
 have n11 : ¬ e.op = 11 := by omega
 have n12 : ¬ e.op = 12 := by omega
 have n13 : ¬ e.op = 13 := by omega
 have hx := fun nx' (h : nx ≤ nx') => hVx t nx' (by omega) hto
 obtain ⟨hto1, hin1, hne0⟩ := hTx t hto
 rcases hvx : zbp lets (gX vars) n x t with ⟨er | a, t1⟩
 ·obtain ⟨T, rfl⟩ : ∃ T, T = t1 := ⟨_, rfl⟩
  rw [hvx] at hne0 hx
  have her := hne0 er rfl
  rw [zc5 (by omega) (by omega) he hvx]
  simp only [zde, za3] at hx ⊢
  (refine RetX.of_bodyW Tryd.func30 rfl (by simp) fun Γ hn hpan => ?_); simp only [entry, List.zipIdx_cons, List.zipIdx_nil, List.map_cons, List.map_nil, Nat.zero_add, Tryd.ntmps30]
  repeat' (first
  | (refine zah ?_; simp [hne, hne3, hne2, hne1, n0, n1, n10, n11, n12, n13, he, her, x.row_eq, y.row_eq, Nat.add_assoc, del])
  | (refine zak ?_; simp [hne, hne3, hne2, hne1, n0, n1, n10, n11, n12, n13, he, her, x.row_eq, y.row_eq, Nat.add_assoc, del])
  | (refine zai ?_; simp [hne, hne3, hne2, hne1, n0, n1, n10, n11, n12, n13, he, her, x.row_eq, y.row_eq, Nat.add_assoc, del])
  | (refine zag ?_; simp [hne, hne3, hne2, hne1, n0, n1, n10, n11, n12, n13, he, her, x.row_eq, y.row_eq, Nat.add_assoc, del])
  | (refine zam ?_; simp [hne, hne3, hne2, hne1, n0, n1, n10, n11, n12, n13, he, her, x.row_eq, y.row_eq, Nat.add_assoc, del])
  | (refine zas ?_; simp [hne, hne3, hne2, hne1, n0, n1, n10, n11, n12, n13, he, her, x.row_eq, y.row_eq, Nat.add_assoc, del])
  | (refine zar ?_; simp only [zal])
  | (refine zaq ?_; simp only [zal])
  | (refine CallP.okL (hx _ (by first | omega | (simp; done) | (simp; omega) | fail)) (by first | (simp [hne, hne3, hne2, hne1, n0, n1, n10, n11, n12, n13, he, her, x.row_eq, y.row_eq, Nat.add_assoc, del, zaa, getK, zab, zac, zaj, zat, del]; done) | fail) (by rfl) (by first | assumption | (simp; done) | fail) (by rfl) (by simp) ?_; (try simp [hne, hne3, hne2, hne1, n0, n1, n10, n11, n12, n13, he, her, x.row_eq, y.row_eq, Nat.add_assoc, del, zbe, del]))
  | fail)
  (refine EndW.here ?_; (first | (refine EndOK.fin (.inr rfl) ?_) | (refine EndOK.fin (.inl rfl) ?_)); simp [zay, zae, Tryd.results30, hm, hm1, hm2, hm3, hne, hne3, hne2, hne1, zab, zac, zaa, getK]; refine FinOK.cut (evO lets vars T) (nx) (by simp [zaa, getK, zab, zac, Ob.under, D.under, zad, zaf, hm, hm1, hm2, hm3, hne, hne3, hne2, hne1, zab, zac, zaa, getK] <;> omega) (by simp [D.under]) (by simp [hn]) ?_; try simp)
 rw [hvx] at hto1 hx hin1
 simp only [zcO, za3] at hx hto1
 have hina := hin1 a rfl
 have hy := fun nx' (h : nx ≤ nx') => hVy t1 nx' (by omega) hto1
 obtain ⟨hto2, hin2, hne0y⟩ := hTy t1 hto1
 rcases hvy : zbp lets (gX vars) n y t1 with ⟨er | b, T⟩
 ·rw [hvy] at hne0y hy
  have her := hne0y er rfl
  rw [zh9 h0 he hvx hvy]
  simp only [zde, za3] at hy ⊢
  (refine RetX.of_bodyW Tryd.func30 rfl (by simp) fun Γ hn hpan => ?_); simp only [entry, List.zipIdx_cons, List.zipIdx_nil, List.map_cons, List.map_nil, Nat.zero_add, Tryd.ntmps30]
  repeat' (first
  | (refine zah ?_; simp [hne, hne3, hne2, hne1, n0, n1, n10, n11, n12, n13, he, her, x.row_eq, y.row_eq, Nat.add_assoc, del])
  | (refine zak ?_; simp [hne, hne3, hne2, hne1, n0, n1, n10, n11, n12, n13, he, her, x.row_eq, y.row_eq, Nat.add_assoc, del])
  | (refine zai ?_; simp [hne, hne3, hne2, hne1, n0, n1, n10, n11, n12, n13, he, her, x.row_eq, y.row_eq, Nat.add_assoc, del])
  | (refine zag ?_; simp [hne, hne3, hne2, hne1, n0, n1, n10, n11, n12, n13, he, her, x.row_eq, y.row_eq, Nat.add_assoc, del])
  | (refine zam ?_; simp [hne, hne3, hne2, hne1, n0, n1, n10, n11, n12, n13, he, her, x.row_eq, y.row_eq, Nat.add_assoc, del])
  | (refine zas ?_; simp [hne, hne3, hne2, hne1, n0, n1, n10, n11, n12, n13, he, her, x.row_eq, y.row_eq, Nat.add_assoc, del])
  | (refine zar ?_; simp only [zal])
  | (refine zaq ?_; simp only [zal])
  | (refine CallP.okL (hx _ (by first | omega | (simp; done) | (simp; omega) | fail)) (by first | (simp [hne, hne3, hne2, hne1, n0, n1, n10, n11, n12, n13, he, her, x.row_eq, y.row_eq, Nat.add_assoc, del, zaa, getK, zab, zac, zaj, zat, del]; done) | fail) (by rfl) (by first | assumption | (simp; done) | fail) (by rfl) (by simp) ?_; (try simp [hne, hne3, hne2, hne1, n0, n1, n10, n11, n12, n13, he, her, x.row_eq, y.row_eq, Nat.add_assoc, del, zbe, del]))
  | (refine CallP.okL (hy _ (by first | omega | (simp; done) | (simp; omega) | fail)) (by first | (simp [hne, hne3, hne2, hne1, n0, n1, n10, n11, n12, n13, he, her, x.row_eq, y.row_eq, Nat.add_assoc, del, zaa, getK, zab, zac, zaj, zat, del]; done) | fail) (by rfl) (by first | assumption | (simp; done) | fail) (by rfl) (by simp) ?_; (try simp [hne, hne3, hne2, hne1, n0, n1, n10, n11, n12, n13, he, her, x.row_eq, y.row_eq, Nat.add_assoc, del, zbe, del]))
  | fail)
  (refine EndW.here ?_; (first | (refine EndOK.fin (.inr rfl) ?_) | (refine EndOK.fin (.inl rfl) ?_)); simp [zay, zae, Tryd.results30, hm, hm1, hm2, hm3, hne, hne3, hne2, hne1, zab, zac, zaa, getK]; refine FinOK.cut (evO lets vars T) (nx) (by simp [zaa, getK, zab, zac, Ob.under, D.under, zad, zaf, hm, hm1, hm2, hm3, hne, hne3, hne2, hne1, zab, zac, zaa, getK] <;> omega) (by simp [D.under]) (by simp [hn]) ?_; try simp)
 rw [hvy] at hy hin2
 have hinb := hin2 b rfl
 rw [zj2 h0 he hvx hvy]
 simp only [zcO, za3] at hy
 unfold inC at hina hinb
 have hops : e.op = 2 ∨ e.op = 3 ∨ e.op = 4 ∨ e.op = 5 ∨ e.op = 6 ∨ e.op = 7 ∨ e.op = 8 ∨ e.op = 9 := by omega
 simp only
 rcases hops with hop | hop | hop | hop | hop | hop | hop | hop
 ·have hc1 := zeo (a + b)
  rw [show ∀ s, zd5 e.op s a b = zcG (a + b) from fun s => by unfold zd5; rw [hop, if_pos rfl]]
  generalize zcG (a + b) = res at hc1 ⊢
  unfold zgD at hc1 ⊢
  generalize zcT res = q at hc1 ⊢
  obtain ⟨v1, e1, d1⟩ := q
  simp only [za3] at hc1 ⊢
  (refine RetX.of_bodyW Tryd.func30 rfl (by simp) fun Γ hn hpan => ?_); simp only [entry, List.zipIdx_cons, List.zipIdx_nil, List.map_cons, List.map_nil, Nat.zero_add, Tryd.ntmps30]
  repeat' (first
  | (refine zah ?_; simp [hne, hne3, hne2, hne1, n0, n1, n10, n11, n12, n13, he, hop, x.row_eq, y.row_eq, Nat.add_assoc, del])
  | (refine zak ?_; simp [hne, hne3, hne2, hne1, n0, n1, n10, n11, n12, n13, he, hop, x.row_eq, y.row_eq, Nat.add_assoc, del])
  | (refine ⟨by omega, ?_⟩)
  | (refine zai ?_; simp [hne, hne3, hne2, hne1, n0, n1, n10, n11, n12, n13, he, hop, x.row_eq, y.row_eq, Nat.add_assoc, del])
  | (refine zag ?_; simp [hne, hne3, hne2, hne1, n0, n1, n10, n11, n12, n13, he, hop, x.row_eq, y.row_eq, Nat.add_assoc, del])
  | (refine zam ?_; simp [hne, hne3, hne2, hne1, n0, n1, n10, n11, n12, n13, he, hop, x.row_eq, y.row_eq, Nat.add_assoc, del])
  | (refine zas ?_; simp [hne, hne3, hne2, hne1, n0, n1, n10, n11, n12, n13, he, hop, x.row_eq, y.row_eq, Nat.add_assoc, del])
  | (refine zar ?_; simp only [zal])
  | (refine zaq ?_; simp only [zal])
  | (refine CallP.fun_ (hc1) (by first | rfl | fail) (by first | assumption | (simp; done) | fail) (by first | (simp [hne, hne3, hne2, hne1, n0, n1, n10, n11, n12, n13, he, hop, x.row_eq, y.row_eq, Nat.add_assoc, del]; done) | (simp [hne, hne3, hne2, hne1, n0, n1, n10, n11, n12, n13, he, hop, x.row_eq, y.row_eq, Nat.add_assoc, del]; rfl) | fail) (by first | (simp; done) | fail) (fun d hd => ?_); subst hd; (try simp [hne, hne3, hne2, hne1, n0, n1, n10, n11, n12, n13, he, hop, x.row_eq, y.row_eq, Nat.add_assoc, del]))
  | (refine CallP.okL (hx _ (by first | omega | (simp; done) | (simp; omega) | fail)) (by first | (simp [hne, hne3, hne2, hne1, n0, n1, n10, n11, n12, n13, he, hop, x.row_eq, y.row_eq, Nat.add_assoc, del, zaa, getK, zab, zac, zaj, zat, del]; done) | fail) (by rfl) (by first | assumption | (simp; done) | fail) (by rfl) (by simp) ?_; (try simp [hne, hne3, hne2, hne1, n0, n1, n10, n11, n12, n13, he, hop, x.row_eq, y.row_eq, Nat.add_assoc, del, zbe, del]))
  | (refine CallP.okL (hy _ (by first | omega | (simp; done) | (simp; omega) | fail)) (by first | (simp [hne, hne3, hne2, hne1, n0, n1, n10, n11, n12, n13, he, hop, x.row_eq, y.row_eq, Nat.add_assoc, del, zaa, getK, zab, zac, zaj, zat, del]; done) | fail) (by rfl) (by first | assumption | (simp; done) | fail) (by rfl) (by simp) ?_; (try simp [hne, hne3, hne2, hne1, n0, n1, n10, n11, n12, n13, he, hop, x.row_eq, y.row_eq, Nat.add_assoc, del, zbe, del]))
  | fail)
  (refine EndW.here ?_; (first | (refine EndOK.fin (.inr rfl) ?_) | (refine EndOK.fin (.inl rfl) ?_)); simp [zay, zae, Tryd.results30, hm, hm1, hm2, hm3, hne, hne3, hne2, hne1, zab, zac, zaa, getK]; refine FinOK.cut (evO lets vars T) (nx) (by simp [zaa, getK, zab, zac, Ob.under, D.under, zad, zaf, hm, hm1, hm2, hm3, hne, hne3, hne2, hne1, zab, zac, zaa, getK] <;> omega) (by simp [D.under]) (by simp [hn]) ?_; try simp)
 ·have hc1 := zeo (a - b)
  rw [show ∀ s, zd5 e.op s a b = zcG (a - b) from fun s => by unfold zd5; rw [hop]; rfl]
  generalize zcG (a - b) = res at hc1 ⊢
  unfold zgD at hc1 ⊢
  generalize zcT res = q at hc1 ⊢
  obtain ⟨v1, e1, d1⟩ := q
  simp only [za3] at hc1 ⊢
  (refine RetX.of_bodyW Tryd.func30 rfl (by simp) fun Γ hn hpan => ?_); simp only [entry, List.zipIdx_cons, List.zipIdx_nil, List.map_cons, List.map_nil, Nat.zero_add, Tryd.ntmps30]
  repeat' (first
  | (refine zah ?_; simp [hne, hne3, hne2, hne1, n0, n1, n10, n11, n12, n13, he, hop, x.row_eq, y.row_eq, Nat.add_assoc, del])
  | (refine zak ?_; simp [hne, hne3, hne2, hne1, n0, n1, n10, n11, n12, n13, he, hop, x.row_eq, y.row_eq, Nat.add_assoc, del])
  | (refine ⟨by omega, ?_⟩)
  | (refine zai ?_; simp [hne, hne3, hne2, hne1, n0, n1, n10, n11, n12, n13, he, hop, x.row_eq, y.row_eq, Nat.add_assoc, del])
  | (refine zag ?_; simp [hne, hne3, hne2, hne1, n0, n1, n10, n11, n12, n13, he, hop, x.row_eq, y.row_eq, Nat.add_assoc, del])
  | (refine zam ?_; simp [hne, hne3, hne2, hne1, n0, n1, n10, n11, n12, n13, he, hop, x.row_eq, y.row_eq, Nat.add_assoc, del])
  | (refine zas ?_; simp [hne, hne3, hne2, hne1, n0, n1, n10, n11, n12, n13, he, hop, x.row_eq, y.row_eq, Nat.add_assoc, del])
  | (refine zar ?_; simp only [zal])
  | (refine zaq ?_; simp only [zal])
  | (refine CallP.fun_ (hc1) (by first | rfl | fail) (by first | assumption | (simp; done) | fail) (by first | (simp [hne, hne3, hne2, hne1, n0, n1, n10, n11, n12, n13, he, hop, x.row_eq, y.row_eq, Nat.add_assoc, del]; done) | (simp [hne, hne3, hne2, hne1, n0, n1, n10, n11, n12, n13, he, hop, x.row_eq, y.row_eq, Nat.add_assoc, del]; rfl) | fail) (by first | (simp; done) | fail) (fun d hd => ?_); subst hd; (try simp [hne, hne3, hne2, hne1, n0, n1, n10, n11, n12, n13, he, hop, x.row_eq, y.row_eq, Nat.add_assoc, del]))
  | (refine CallP.okL (hx _ (by first | omega | (simp; done) | (simp; omega) | fail)) (by first | (simp [hne, hne3, hne2, hne1, n0, n1, n10, n11, n12, n13, he, hop, x.row_eq, y.row_eq, Nat.add_assoc, del, zaa, getK, zab, zac, zaj, zat, del]; done) | fail) (by rfl) (by first | assumption | (simp; done) | fail) (by rfl) (by simp) ?_; (try simp [hne, hne3, hne2, hne1, n0, n1, n10, n11, n12, n13, he, hop, x.row_eq, y.row_eq, Nat.add_assoc, del, zbe, del]))
  | (refine CallP.okL (hy _ (by first | omega | (simp; done) | (simp; omega) | fail)) (by first | (simp [hne, hne3, hne2, hne1, n0, n1, n10, n11, n12, n13, he, hop, x.row_eq, y.row_eq, Nat.add_assoc, del, zaa, getK, zab, zac, zaj, zat, del]; done) | fail) (by rfl) (by first | assumption | (simp; done) | fail) (by rfl) (by simp) ?_; (try simp [hne, hne3, hne2, hne1, n0, n1, n10, n11, n12, n13, he, hop, x.row_eq, y.row_eq, Nat.add_assoc, del, zbe, del]))
  | fail)
  (refine EndW.here ?_; (first | (refine EndOK.fin (.inr rfl) ?_) | (refine EndOK.fin (.inl rfl) ?_)); simp [zay, zae, Tryd.results30, hm, hm1, hm2, hm3, hne, hne3, hne2, hne1, zab, zac, zaa, getK]; refine FinOK.cut (evO lets vars T) (nx) (by simp [zaa, getK, zab, zac, Ob.under, D.under, zad, zaf, hm, hm1, hm2, hm3, hne, hne3, hne2, hne1, zab, zac, zaa, getK] <;> omega) (by simp [D.under]) (by simp [hn]) ?_; try simp)
 ·have h1 := zgY (lets.take n) x
  have h2 := zgY (lets.take n) y
  rw [← zlG] at h1 h2
  generalize zbC (lets.take n) x = sx at h1 ⊢
  generalize zbC (lets.take n) y = sy at h2 ⊢
  have hc1 := zlC a b (if (sx || sy) = true then 1000 else 1) (by unfold inC; omega) (by unfold inC; omega) (by split <;> omega)
  rw [show zd5 e.op (sx || sy) a b = zeb a b (if (sx || sy) = true then 1000 else 1) from by unfold zd5; rw [hop]; rfl]
  generalize zeb a b (if (sx || sy) = true then 1000 else 1) = res at hc1 ⊢
  unfold zgD at hc1 ⊢
  generalize zcT res = q at hc1 ⊢
  obtain ⟨v1, e1, d1⟩ := q
  simp only [za3] at hc1 ⊢
  simp only [za3, zaw, List.map_take] at h1 h2
  cases sx <;> cases sy
  all_goals
   simp only [Bool.or_self, Bool.or_true, Bool.true_or, Bool.or_false, Bool.false_or, Bool.false_eq_true, if_true, if_false] at hc1
   (refine RetX.of_bodyW Tryd.func30 rfl (by simp) fun Γ hn hpan => ?_); simp only [entry, List.zipIdx_cons, List.zipIdx_nil, List.map_cons, List.map_nil, Nat.zero_add, Tryd.ntmps30]
   repeat' (first
  | (refine zah ?_; simp [hne, hne3, hne2, hne1, n0, n1, n10, n11, n12, n13, he, hop, x.row_eq, y.row_eq, Nat.add_assoc, del])
  | (refine zbo rfl ?_; simp [hne, hne3, hne2, hne1, n0, n1, n10, n11, n12, n13, he, hop, x.row_eq, y.row_eq, Nat.add_assoc, del])
  | (refine zeu rfl ?_; simp [hne, hne3, hne2, hne1, n0, n1, n10, n11, n12, n13, he, hop, x.row_eq, y.row_eq, Nat.add_assoc, del])
  | (refine zak ?_; simp [hne, hne3, hne2, hne1, n0, n1, n10, n11, n12, n13, he, hop, x.row_eq, y.row_eq, Nat.add_assoc, del])
  | (refine ⟨by omega, ?_⟩)
  | (refine zai ?_; simp [hne, hne3, hne2, hne1, n0, n1, n10, n11, n12, n13, he, hop, x.row_eq, y.row_eq, Nat.add_assoc, del])
  | (refine zag ?_; simp [hne, hne3, hne2, hne1, n0, n1, n10, n11, n12, n13, he, hop, x.row_eq, y.row_eq, Nat.add_assoc, del])
  | (refine zb1 (hC _ (zbg [4, 3, 2, 1] nx (by simp <;> omega) (by simp <;> omega) (by apply Exists.intro; apply And.intro; (focus (repeat' (first | exact KF.nil | exact KL.nil | apply KF.cons | apply KL.cons 0 rfl | apply KL.cons 1 rfl | apply KL.cons 2 rfl | apply KL.cons 3 rfl | apply KL.cons 4 rfl | apply KL.cons 5 rfl | apply KL.cons 6 rfl | apply KL.cons 7 rfl | apply KL.cons 8 rfl | apply KL.cons 9 rfl))); kernel_rfl))) (hk _ ?_); clear hC hk C k; simp only [zal])
  | (refine zbm rfl (by kernel_rfl) (by first | (simp [hn]; done) | (simp [hn]; omega) | fail) fun C k hC hk => ?_; simp [hne, hne3, hne2, hne1, n0, n1, n10, n11, n12, n13, he, hop, x.row_eq, y.row_eq, Nat.add_assoc, del])
  | (refine zdu rfl (by simp [hne, hne3, hne2, hne1, n0, n1, n10, n11, n12, n13, he, hop, x.row_eq, y.row_eq, Nat.add_assoc, del]) (fun hc => ?_) (fun hc => ?_) <;> (try simp [hne, hne3, hne2, hne1, n0, n1, n10, n11, n12, n13, he, hop, x.row_eq, y.row_eq, Nat.add_assoc, del] at hc) <;> (try (exfalso; omega)) <;> (try simp [hne, hne3, hne2, hne1, n0, n1, n10, n11, n12, n13, he, hop, x.row_eq, y.row_eq, Nat.add_assoc, del]))
  | (refine zam ?_; simp [hne, hne3, hne2, hne1, n0, n1, n10, n11, n12, n13, he, hop, x.row_eq, y.row_eq, Nat.add_assoc, del])
  | (refine zas ?_; simp [hne, hne3, hne2, hne1, n0, n1, n10, n11, n12, n13, he, hop, x.row_eq, y.row_eq, Nat.add_assoc, del])
  | (refine zar ?_; simp only [zal])
  | (refine zaq ?_; simp only [zal])
  | (refine CallP.fun_ (hc1) (by first | rfl | fail) (by first | assumption | (simp; done) | fail) (by first | (simp [hne, hne3, hne2, hne1, n0, n1, n10, n11, n12, n13, he, hop, x.row_eq, y.row_eq, Nat.add_assoc, del]; done) | (simp [hne, hne3, hne2, hne1, n0, n1, n10, n11, n12, n13, he, hop, x.row_eq, y.row_eq, Nat.add_assoc, del]; rfl) | fail) (by first | (simp; done) | fail) (fun d hd => ?_); subst hd; (try simp [hne, hne3, hne2, hne1, n0, n1, n10, n11, n12, n13, he, hop, x.row_eq, y.row_eq, Nat.add_assoc, del]))
  | (refine CallV.fun_ (h1) (by first | rfl | fail) (by first | assumption | (simp; done) | fail) (by first | (simp [hne, hne3, hne2, hne1, n0, n1, n10, n11, n12, n13, he, hop, x.row_eq, y.row_eq, Nat.add_assoc, del]; done) | (simp [hne, hne3, hne2, hne1, n0, n1, n10, n11, n12, n13, he, hop, x.row_eq, y.row_eq, Nat.add_assoc, del]; rfl) | fail) (by first | (simp; done) | fail) ?_ <;> (try simp [hne, hne3, hne2, hne1, n0, n1, n10, n11, n12, n13, he, hop, x.row_eq, y.row_eq, Nat.add_assoc, del]))
  | (refine CallV.fun_ (h2) (by first | rfl | fail) (by first | assumption | (simp; done) | fail) (by first | (simp [hne, hne3, hne2, hne1, n0, n1, n10, n11, n12, n13, he, hop, x.row_eq, y.row_eq, Nat.add_assoc, del]; done) | (simp [hne, hne3, hne2, hne1, n0, n1, n10, n11, n12, n13, he, hop, x.row_eq, y.row_eq, Nat.add_assoc, del]; rfl) | fail) (by first | (simp; done) | fail) ?_ <;> (try simp [hne, hne3, hne2, hne1, n0, n1, n10, n11, n12, n13, he, hop, x.row_eq, y.row_eq, Nat.add_assoc, del]))
  | (refine CallP.okL (hx _ (by first | omega | (simp; done) | (simp; omega) | fail)) (by first | (simp [hne, hne3, hne2, hne1, n0, n1, n10, n11, n12, n13, he, hop, x.row_eq, y.row_eq, Nat.add_assoc, del, zaa, getK, zab, zac, zaj, zat, del]; done) | fail) (by rfl) (by first | assumption | (simp; done) | fail) (by rfl) (by simp) ?_; (try simp [hne, hne3, hne2, hne1, n0, n1, n10, n11, n12, n13, he, hop, x.row_eq, y.row_eq, Nat.add_assoc, del, zbe, del]))
  | (refine CallP.okL (hy _ (by first | omega | (simp; done) | (simp; omega) | fail)) (by first | (simp [hne, hne3, hne2, hne1, n0, n1, n10, n11, n12, n13, he, hop, x.row_eq, y.row_eq, Nat.add_assoc, del, zaa, getK, zab, zac, zaj, zat, del]; done) | fail) (by rfl) (by first | assumption | (simp; done) | fail) (by rfl) (by simp) ?_; (try simp [hne, hne3, hne2, hne1, n0, n1, n10, n11, n12, n13, he, hop, x.row_eq, y.row_eq, Nat.add_assoc, del, zbe, del]))
  | fail)
   (refine EndW.here ?_; (first | (refine EndOK.fin (.inr rfl) ?_) | (refine EndOK.fin (.inl rfl) ?_)); simp [zay, zae, Tryd.results30, hm, hm1, hm2, hm3, hne, hne3, hne2, hne1, zab, zac, zaa, getK]; refine FinOK.cut (evO lets vars T) (nx) (by simp [zaa, getK, zab, zac, Ob.under, D.under, zad, zaf, hm, hm1, hm2, hm3, hne, hne3, hne2, hne1, zab, zac, zaa, getK] <;> omega) (by simp [D.under]) (by simp [hn]) ?_; try simp)
 ·by_cases hb0 : b = 0
  ·rw [show ∀ s, zd5 e.op s a b = .error 15 from fun s => by unfold zd5; rw [hop]; simp [hb0]]
   simp only [zde]
   simp only [hb0] at hy
   (refine RetX.of_bodyW Tryd.func30 rfl (by simp) fun Γ hn hpan => ?_); simp only [entry, List.zipIdx_cons, List.zipIdx_nil, List.map_cons, List.map_nil, Nat.zero_add, Tryd.ntmps30]
   repeat' (first
  | (refine zah ?_; simp [hne, hne3, hne2, hne1, n0, n1, n10, n11, n12, n13, he, hop, x.row_eq, y.row_eq, Nat.add_assoc, del])
  | (refine zak ?_; simp [hne, hne3, hne2, hne1, n0, n1, n10, n11, n12, n13, he, hop, x.row_eq, y.row_eq, Nat.add_assoc, del])
  | (refine zai ?_; simp [hne, hne3, hne2, hne1, n0, n1, n10, n11, n12, n13, he, hop, x.row_eq, y.row_eq, Nat.add_assoc, del])
  | (refine zag ?_; simp [hne, hne3, hne2, hne1, n0, n1, n10, n11, n12, n13, he, hop, x.row_eq, y.row_eq, Nat.add_assoc, del])
  | (refine zam ?_; simp [hne, hne3, hne2, hne1, n0, n1, n10, n11, n12, n13, he, hop, x.row_eq, y.row_eq, Nat.add_assoc, del])
  | (refine zas ?_; simp [hne, hne3, hne2, hne1, n0, n1, n10, n11, n12, n13, he, hop, x.row_eq, y.row_eq, Nat.add_assoc, del])
  | (refine zar ?_; simp only [zal])
  | (refine zaq ?_; simp only [zal])
  | (refine CallP.okL (hx _ (by first | omega | (simp; done) | (simp; omega) | fail)) (by first | (simp [hne, hne3, hne2, hne1, n0, n1, n10, n11, n12, n13, he, hop, x.row_eq, y.row_eq, Nat.add_assoc, del, zaa, getK, zab, zac, zaj, zat, del]; done) | fail) (by rfl) (by first | assumption | (simp; done) | fail) (by rfl) (by simp) ?_; (try simp [hne, hne3, hne2, hne1, n0, n1, n10, n11, n12, n13, he, hop, x.row_eq, y.row_eq, Nat.add_assoc, del, zbe, del]))
  | (refine CallP.okL (hy _ (by first | omega | (simp; done) | (simp; omega) | fail)) (by first | (simp [hne, hne3, hne2, hne1, n0, n1, n10, n11, n12, n13, he, hop, x.row_eq, y.row_eq, Nat.add_assoc, del, zaa, getK, zab, zac, zaj, zat, del]; done) | fail) (by rfl) (by first | assumption | (simp; done) | fail) (by rfl) (by simp) ?_; (try simp [hne, hne3, hne2, hne1, n0, n1, n10, n11, n12, n13, he, hop, x.row_eq, y.row_eq, Nat.add_assoc, del, zbe, del]))
  | fail)
   (refine EndW.here ?_; (first | (refine EndOK.fin (.inr rfl) ?_) | (refine EndOK.fin (.inl rfl) ?_)); simp [zay, zae, Tryd.results30, hm, hm1, hm2, hm3, hne, hne3, hne2, hne1, zab, zac, zaa, getK]; refine FinOK.cut (evO lets vars T) (nx) (by simp [zaa, getK, zab, zac, Ob.under, D.under, zad, zaf, hm, hm1, hm2, hm3, hne, hne3, hne2, hne1, zab, zac, zaa, getK] <;> omega) (by simp [D.under]) (by simp [hn]) ?_; try simp)
  ·have hd := zhW a b (by omega) hb0 (by omega)
   have hc1 := zeo (zdd a b)
   rw [show ∀ s, zd5 e.op s a b = zcG (zdd a b) from fun s => by unfold zd5; rw [hop]; simp [hb0]]
   generalize zdd a b = fl at hd hc1 ⊢
   generalize zcG fl = res at hc1 ⊢
   unfold zgD at hc1 ⊢
   generalize zcT res = q at hc1 ⊢
   obtain ⟨v1, e1, d1⟩ := q
   simp only [za3] at hc1 ⊢
   (refine RetX.of_bodyW Tryd.func30 rfl (by simp) fun Γ hn hpan => ?_); simp only [entry, List.zipIdx_cons, List.zipIdx_nil, List.map_cons, List.map_nil, Nat.zero_add, Tryd.ntmps30]
   repeat' (first
  | (refine zah ?_; simp [hne, hne3, hne2, hne1, n0, n1, n10, n11, n12, n13, he, hop, x.row_eq, y.row_eq, Nat.add_assoc, del, hb0])
  | (refine zak ?_; simp [hne, hne3, hne2, hne1, n0, n1, n10, n11, n12, n13, he, hop, x.row_eq, y.row_eq, Nat.add_assoc, del, hb0])
  | (refine zai ?_; simp [hne, hne3, hne2, hne1, n0, n1, n10, n11, n12, n13, he, hop, x.row_eq, y.row_eq, Nat.add_assoc, del, hb0])
  | (refine zag ?_; simp [hne, hne3, hne2, hne1, n0, n1, n10, n11, n12, n13, he, hop, x.row_eq, y.row_eq, Nat.add_assoc, del, hb0])
  | (refine zam ?_; simp [hne, hne3, hne2, hne1, n0, n1, n10, n11, n12, n13, he, hop, x.row_eq, y.row_eq, Nat.add_assoc, del, hb0])
  | (refine zas ?_; simp [hne, hne3, hne2, hne1, n0, n1, n10, n11, n12, n13, he, hop, x.row_eq, y.row_eq, Nat.add_assoc, del, hb0])
  | (refine zar ?_; simp only [zal])
  | (refine zaq ?_; simp only [zal])
  | (refine CallP.fun_ (hd) (by first | rfl | fail) (by first | assumption | (simp; done) | fail) (by first | (simp [hne, hne3, hne2, hne1, n0, n1, n10, n11, n12, n13, he, hop, x.row_eq, y.row_eq, Nat.add_assoc, del, hb0]; done) | (simp [hne, hne3, hne2, hne1, n0, n1, n10, n11, n12, n13, he, hop, x.row_eq, y.row_eq, Nat.add_assoc, del, hb0]; rfl) | fail) (by first | (simp; done) | fail) (fun d hd => ?_); subst hd; (try simp [hne, hne3, hne2, hne1, n0, n1, n10, n11, n12, n13, he, hop, x.row_eq, y.row_eq, Nat.add_assoc, del, hb0]))
  | (refine CallP.fun_ (hc1) (by first | rfl | fail) (by first | assumption | (simp; done) | fail) (by first | (simp [hne, hne3, hne2, hne1, n0, n1, n10, n11, n12, n13, he, hop, x.row_eq, y.row_eq, Nat.add_assoc, del, hb0]; done) | (simp [hne, hne3, hne2, hne1, n0, n1, n10, n11, n12, n13, he, hop, x.row_eq, y.row_eq, Nat.add_assoc, del, hb0]; rfl) | fail) (by first | (simp; done) | fail) (fun d hd => ?_); subst hd; (try simp [hne, hne3, hne2, hne1, n0, n1, n10, n11, n12, n13, he, hop, x.row_eq, y.row_eq, Nat.add_assoc, del, hb0]))
  | (refine CallP.okL (hx _ (by first | omega | (simp; done) | (simp; omega) | fail)) (by first | (simp [hne, hne3, hne2, hne1, n0, n1, n10, n11, n12, n13, he, hop, x.row_eq, y.row_eq, Nat.add_assoc, del, hb0, zaa, getK, zab, zac, zaj, zat, del]; done) | fail) (by rfl) (by first | assumption | (simp; done) | fail) (by rfl) (by simp) ?_; (try simp [hne, hne3, hne2, hne1, n0, n1, n10, n11, n12, n13, he, hop, x.row_eq, y.row_eq, Nat.add_assoc, del, hb0, zbe, del]))
  | (refine CallP.okL (hy _ (by first | omega | (simp; done) | (simp; omega) | fail)) (by first | (simp [hne, hne3, hne2, hne1, n0, n1, n10, n11, n12, n13, he, hop, x.row_eq, y.row_eq, Nat.add_assoc, del, hb0, zaa, getK, zab, zac, zaj, zat, del]; done) | fail) (by rfl) (by first | assumption | (simp; done) | fail) (by rfl) (by simp) ?_; (try simp [hne, hne3, hne2, hne1, n0, n1, n10, n11, n12, n13, he, hop, x.row_eq, y.row_eq, Nat.add_assoc, del, hb0, zbe, del]))
  | fail)
   (refine EndW.here ?_; (first | (refine EndOK.fin (.inr rfl) ?_) | (refine EndOK.fin (.inl rfl) ?_)); simp [zay, zae, Tryd.results30, hm, hm1, hm2, hm3, hne, hne3, hne2, hne1, zab, zac, zaa, getK]; refine FinOK.cut (evO lets vars T) (nx) (by simp [zaa, getK, zab, zac, Ob.under, D.under, zad, zaf, hm, hm1, hm2, hm3, hne, hne3, hne2, hne1, zab, zac, zaa, getK] <;> omega) (by simp [D.under]) (by simp [hn]) ?_; try simp)
 ·rw [show ∀ s, zd5 e.op s a b = .ok (min a b) from fun s => by unfold zd5; rw [hop]; rfl]
  simp only [zcO]
  (refine RetX.of_bodyW Tryd.func30 rfl (by simp) fun Γ hn hpan => ?_); simp only [entry, List.zipIdx_cons, List.zipIdx_nil, List.map_cons, List.map_nil, Nat.zero_add, Tryd.ntmps30]
  repeat' (first
  | (refine zah ?_; simp [hne, hne3, hne2, hne1, n0, n1, n10, n11, n12, n13, he, hop, x.row_eq, y.row_eq, Nat.add_assoc, del])
  | (refine zak ?_; simp [hne, hne3, hne2, hne1, n0, n1, n10, n11, n12, n13, he, hop, x.row_eq, y.row_eq, Nat.add_assoc, del])
  | (refine zai ?_; simp [hne, hne3, hne2, hne1, n0, n1, n10, n11, n12, n13, he, hop, x.row_eq, y.row_eq, Nat.add_assoc, del])
  | (refine zag ?_; simp [hne, hne3, hne2, hne1, n0, n1, n10, n11, n12, n13, he, hop, x.row_eq, y.row_eq, Nat.add_assoc, del])
  | (refine zam ?_; simp [hne, hne3, hne2, hne1, n0, n1, n10, n11, n12, n13, he, hop, x.row_eq, y.row_eq, Nat.add_assoc, del])
  | (refine zas ?_; simp [hne, hne3, hne2, hne1, n0, n1, n10, n11, n12, n13, he, hop, x.row_eq, y.row_eq, Nat.add_assoc, del])
  | (refine zar ?_; simp only [zal])
  | (refine zaq ?_; simp only [zal])
  | (refine CallP.okL (hx _ (by first | omega | (simp; done) | (simp; omega) | fail)) (by first | (simp [hne, hne3, hne2, hne1, n0, n1, n10, n11, n12, n13, he, hop, x.row_eq, y.row_eq, Nat.add_assoc, del, zaa, getK, zab, zac, zaj, zat, del]; done) | fail) (by rfl) (by first | assumption | (simp; done) | fail) (by rfl) (by simp) ?_; (try simp [hne, hne3, hne2, hne1, n0, n1, n10, n11, n12, n13, he, hop, x.row_eq, y.row_eq, Nat.add_assoc, del, zbe, del]))
  | (refine CallP.okL (hy _ (by first | omega | (simp; done) | (simp; omega) | fail)) (by first | (simp [hne, hne3, hne2, hne1, n0, n1, n10, n11, n12, n13, he, hop, x.row_eq, y.row_eq, Nat.add_assoc, del, zaa, getK, zab, zac, zaj, zat, del]; done) | fail) (by rfl) (by first | assumption | (simp; done) | fail) (by rfl) (by simp) ?_; (try simp [hne, hne3, hne2, hne1, n0, n1, n10, n11, n12, n13, he, hop, x.row_eq, y.row_eq, Nat.add_assoc, del, zbe, del]))
  | fail)
  (refine EndW.here ?_; (first | (refine EndOK.fin (.inr rfl) ?_) | (refine EndOK.fin (.inl rfl) ?_)); simp [zay, zae, Tryd.results30, hm, hm1, hm2, hm3, hne, hne3, hne2, hne1, zab, zac, zaa, getK]; refine FinOK.cut (evO lets vars T) (nx) (by simp [zaa, getK, zab, zac, Ob.under, D.under, zad, zaf, hm, hm1, hm2, hm3, hne, hne3, hne2, hne1, zab, zac, zaa, getK] <;> omega) (by simp [D.under]) (by simp [hn]) ?_; try simp)
 ·rw [show ∀ s, zd5 e.op s a b = .ok (max a b) from fun s => by unfold zd5; rw [hop]; rfl]
  simp only [zcO]
  (refine RetX.of_bodyW Tryd.func30 rfl (by simp) fun Γ hn hpan => ?_); simp only [entry, List.zipIdx_cons, List.zipIdx_nil, List.map_cons, List.map_nil, Nat.zero_add, Tryd.ntmps30]
  repeat' (first
  | (refine zah ?_; simp [hne, hne3, hne2, hne1, n0, n1, n10, n11, n12, n13, he, hop, x.row_eq, y.row_eq, Nat.add_assoc, del])
  | (refine zak ?_; simp [hne, hne3, hne2, hne1, n0, n1, n10, n11, n12, n13, he, hop, x.row_eq, y.row_eq, Nat.add_assoc, del])
  | (refine zai ?_; simp [hne, hne3, hne2, hne1, n0, n1, n10, n11, n12, n13, he, hop, x.row_eq, y.row_eq, Nat.add_assoc, del])
  | (refine zag ?_; simp [hne, hne3, hne2, hne1, n0, n1, n10, n11, n12, n13, he, hop, x.row_eq, y.row_eq, Nat.add_assoc, del])
  | (refine zam ?_; simp [hne, hne3, hne2, hne1, n0, n1, n10, n11, n12, n13, he, hop, x.row_eq, y.row_eq, Nat.add_assoc, del])
  | (refine zas ?_; simp [hne, hne3, hne2, hne1, n0, n1, n10, n11, n12, n13, he, hop, x.row_eq, y.row_eq, Nat.add_assoc, del])
  | (refine zar ?_; simp only [zal])
  | (refine zaq ?_; simp only [zal])
  | (refine CallP.okL (hx _ (by first | omega | (simp; done) | (simp; omega) | fail)) (by first | (simp [hne, hne3, hne2, hne1, n0, n1, n10, n11, n12, n13, he, hop, x.row_eq, y.row_eq, Nat.add_assoc, del, zaa, getK, zab, zac, zaj, zat, del]; done) | fail) (by rfl) (by first | assumption | (simp; done) | fail) (by rfl) (by simp) ?_; (try simp [hne, hne3, hne2, hne1, n0, n1, n10, n11, n12, n13, he, hop, x.row_eq, y.row_eq, Nat.add_assoc, del, zbe, del]))
  | (refine CallP.okL (hy _ (by first | omega | (simp; done) | (simp; omega) | fail)) (by first | (simp [hne, hne3, hne2, hne1, n0, n1, n10, n11, n12, n13, he, hop, x.row_eq, y.row_eq, Nat.add_assoc, del, zaa, getK, zab, zac, zaj, zat, del]; done) | fail) (by rfl) (by first | assumption | (simp; done) | fail) (by rfl) (by simp) ?_; (try simp [hne, hne3, hne2, hne1, n0, n1, n10, n11, n12, n13, he, hop, x.row_eq, y.row_eq, Nat.add_assoc, del, zbe, del]))
  | fail)
  (refine EndW.here ?_; (first | (refine EndOK.fin (.inr rfl) ?_) | (refine EndOK.fin (.inl rfl) ?_)); simp [zay, zae, Tryd.results30, hm, hm1, hm2, hm3, hne, hne3, hne2, hne1, zab, zac, zaa, getK]; refine FinOK.cut (evO lets vars T) (nx) (by simp [zaa, getK, zab, zac, Ob.under, D.under, zad, zaf, hm, hm1, hm2, hm3, hne, hne3, hne2, hne1, zab, zac, zaa, getK] <;> omega) (by simp [D.under]) (by simp [hn]) ?_; try simp)
 ·have hc1 := zd4 (decide (a < b))
  rw [show ∀ s, zd5 e.op s a b = .ok (zbI (decide (a < b))) from fun s => by unfold zd5; rw [hop]; rfl]
  simp only [zcO]
  generalize zbI (decide (a < b)) = w at hc1 ⊢
  (refine RetX.of_bodyW Tryd.func30 rfl (by simp) fun Γ hn hpan => ?_); simp only [entry, List.zipIdx_cons, List.zipIdx_nil, List.map_cons, List.map_nil, Nat.zero_add, Tryd.ntmps30]
  repeat' (first
  | (refine zah ?_; simp [hne, hne3, hne2, hne1, n0, n1, n10, n11, n12, n13, he, hop, x.row_eq, y.row_eq, Nat.add_assoc, del])
  | (refine zak ?_; simp [hne, hne3, hne2, hne1, n0, n1, n10, n11, n12, n13, he, hop, x.row_eq, y.row_eq, Nat.add_assoc, del])
  | (refine zai ?_; simp [hne, hne3, hne2, hne1, n0, n1, n10, n11, n12, n13, he, hop, x.row_eq, y.row_eq, Nat.add_assoc, del])
  | (refine zag ?_; simp [hne, hne3, hne2, hne1, n0, n1, n10, n11, n12, n13, he, hop, x.row_eq, y.row_eq, Nat.add_assoc, del])
  | (refine zam ?_; simp [hne, hne3, hne2, hne1, n0, n1, n10, n11, n12, n13, he, hop, x.row_eq, y.row_eq, Nat.add_assoc, del])
  | (refine zas ?_; simp [hne, hne3, hne2, hne1, n0, n1, n10, n11, n12, n13, he, hop, x.row_eq, y.row_eq, Nat.add_assoc, del])
  | (refine zar ?_; simp only [zal])
  | (refine zaq ?_; simp only [zal])
  | (refine CallP.fun_ (hc1) (by first | rfl | fail) (by first | assumption | (simp; done) | fail) (by first | (simp [hne, hne3, hne2, hne1, n0, n1, n10, n11, n12, n13, he, hop, x.row_eq, y.row_eq, Nat.add_assoc, del]; done) | (simp [hne, hne3, hne2, hne1, n0, n1, n10, n11, n12, n13, he, hop, x.row_eq, y.row_eq, Nat.add_assoc, del]; rfl) | fail) (by first | (simp; done) | fail) (fun d hd => ?_); subst hd; (try simp [hne, hne3, hne2, hne1, n0, n1, n10, n11, n12, n13, he, hop, x.row_eq, y.row_eq, Nat.add_assoc, del]))
  | (refine CallP.okL (hx _ (by first | omega | (simp; done) | (simp; omega) | fail)) (by first | (simp [hne, hne3, hne2, hne1, n0, n1, n10, n11, n12, n13, he, hop, x.row_eq, y.row_eq, Nat.add_assoc, del, zaa, getK, zab, zac, zaj, zat, del]; done) | fail) (by rfl) (by first | assumption | (simp; done) | fail) (by rfl) (by simp) ?_; (try simp [hne, hne3, hne2, hne1, n0, n1, n10, n11, n12, n13, he, hop, x.row_eq, y.row_eq, Nat.add_assoc, del, zbe, del]))
  | (refine CallP.okL (hy _ (by first | omega | (simp; done) | (simp; omega) | fail)) (by first | (simp [hne, hne3, hne2, hne1, n0, n1, n10, n11, n12, n13, he, hop, x.row_eq, y.row_eq, Nat.add_assoc, del, zaa, getK, zab, zac, zaj, zat, del]; done) | fail) (by rfl) (by first | assumption | (simp; done) | fail) (by rfl) (by simp) ?_; (try simp [hne, hne3, hne2, hne1, n0, n1, n10, n11, n12, n13, he, hop, x.row_eq, y.row_eq, Nat.add_assoc, del, zbe, del]))
  | fail)
  (refine EndW.here ?_; (first | (refine EndOK.fin (.inr rfl) ?_) | (refine EndOK.fin (.inl rfl) ?_)); simp [zay, zae, Tryd.results30, hm, hm1, hm2, hm3, hne, hne3, hne2, hne1, zab, zac, zaa, getK]; refine FinOK.cut (evO lets vars T) (nx) (by simp [zaa, getK, zab, zac, Ob.under, D.under, zad, zaf, hm, hm1, hm2, hm3, hne, hne3, hne2, hne1, zab, zac, zaa, getK] <;> omega) (by simp [D.under]) (by simp [hn]) ?_; try simp)
 ·have hc1 := zd4 (decide (a = b))
  rw [show ∀ s, zd5 e.op s a b = .ok (zbI (decide (a = b))) from fun s => by unfold zd5; rw [hop]; rfl]
  simp only [zcO]
  generalize zbI (decide (a = b)) = w at hc1 ⊢
  (refine RetX.of_bodyW Tryd.func30 rfl (by simp) fun Γ hn hpan => ?_); simp only [entry, List.zipIdx_cons, List.zipIdx_nil, List.map_cons, List.map_nil, Nat.zero_add, Tryd.ntmps30]
  repeat' (first
  | (refine zah ?_; simp [hne, hne3, hne2, hne1, n0, n1, n10, n11, n12, n13, he, hop, x.row_eq, y.row_eq, Nat.add_assoc, del])
  | (refine zak ?_; simp [hne, hne3, hne2, hne1, n0, n1, n10, n11, n12, n13, he, hop, x.row_eq, y.row_eq, Nat.add_assoc, del])
  | (refine zai ?_; simp [hne, hne3, hne2, hne1, n0, n1, n10, n11, n12, n13, he, hop, x.row_eq, y.row_eq, Nat.add_assoc, del])
  | (refine zag ?_; simp [hne, hne3, hne2, hne1, n0, n1, n10, n11, n12, n13, he, hop, x.row_eq, y.row_eq, Nat.add_assoc, del])
  | (refine zam ?_; simp [hne, hne3, hne2, hne1, n0, n1, n10, n11, n12, n13, he, hop, x.row_eq, y.row_eq, Nat.add_assoc, del])
  | (refine zas ?_; simp [hne, hne3, hne2, hne1, n0, n1, n10, n11, n12, n13, he, hop, x.row_eq, y.row_eq, Nat.add_assoc, del])
  | (refine zar ?_; simp only [zal])
  | (refine zaq ?_; simp only [zal])
  | (refine CallP.fun_ (hc1) (by first | rfl | fail) (by first | assumption | (simp; done) | fail) (by first | (simp [hne, hne3, hne2, hne1, n0, n1, n10, n11, n12, n13, he, hop, x.row_eq, y.row_eq, Nat.add_assoc, del]; done) | (simp [hne, hne3, hne2, hne1, n0, n1, n10, n11, n12, n13, he, hop, x.row_eq, y.row_eq, Nat.add_assoc, del]; rfl) | fail) (by first | (simp; done) | fail) (fun d hd => ?_); subst hd; (try simp [hne, hne3, hne2, hne1, n0, n1, n10, n11, n12, n13, he, hop, x.row_eq, y.row_eq, Nat.add_assoc, del]))
  | (refine CallP.okL (hx _ (by first | omega | (simp; done) | (simp; omega) | fail)) (by first | (simp [hne, hne3, hne2, hne1, n0, n1, n10, n11, n12, n13, he, hop, x.row_eq, y.row_eq, Nat.add_assoc, del, zaa, getK, zab, zac, zaj, zat, del]; done) | fail) (by rfl) (by first | assumption | (simp; done) | fail) (by rfl) (by simp) ?_; (try simp [hne, hne3, hne2, hne1, n0, n1, n10, n11, n12, n13, he, hop, x.row_eq, y.row_eq, Nat.add_assoc, del, zbe, del]))
  | (refine CallP.okL (hy _ (by first | omega | (simp; done) | (simp; omega) | fail)) (by first | (simp [hne, hne3, hne2, hne1, n0, n1, n10, n11, n12, n13, he, hop, x.row_eq, y.row_eq, Nat.add_assoc, del, zaa, getK, zab, zac, zaj, zat, del]; done) | fail) (by rfl) (by first | assumption | (simp; done) | fail) (by rfl) (by simp) ?_; (try simp [hne, hne3, hne2, hne1, n0, n1, n10, n11, n12, n13, he, hop, x.row_eq, y.row_eq, Nat.add_assoc, del, zbe, del]))
  | fail)
  (refine EndW.here ?_; (first | (refine EndOK.fin (.inr rfl) ?_) | (refine EndOK.fin (.inl rfl) ?_)); simp [zay, zae, Tryd.results30, hm, hm1, hm2, hm3, hne, hne3, hne2, hne1, zab, zac, zaa, getK]; refine FinOK.cut (evO lets vars T) (nx) (by simp [zaa, getK, zab, zac, Ob.under, D.under, zad, zaf, hm, hm1, hm2, hm3, hne, hne3, hne2, hne1, zab, zac, zaa, getK] <;> omega) (by simp [D.under]) (by simp [hn]) ?_; try simp)
theorem zmx {lets : List Let} {vars : List Var} {n : Nat} (hgs : ∀ s v, gX vars s = some v → inC v) (hrb : ∀ l ∈ lets, zax 12 l.body = true) (hl : lets.length ≤ 20) (hnl : n ≤ lets.length) (hN : zmS lets vars n) : ∀ (d : Nat) (e : Exp), zax d e = true → zh4 lets vars n e
 | 0, e, h => by simp [zax] at h
 | d + 1, e, h => by
  obtain ⟨h1, h2, h3, h4⟩ := zcc h
  by_cases c0 : e.op = 0
  ·exact zpp c0
  by_cases c1 : e.op = 1
  ·exact zoL c1 hN
  have hV : ∀ x ∈ e.args, zh4 lets vars n x := fun x hx => zmx hgs hrb hl hnl hN d x (h4 c0 c1 x hx)
  have hT : ∀ x ∈ e.args, zmZ lets vars n x := fun x hx => zpX hrb hgs (h4 c0 c1 x hx)
  by_cases c2 : e.op = 10
  ·obtain ⟨x, y, he⟩ := zhh h (by rw [c2]; rfl)
   rw [he] at hV hT
   exact zjJ (.inl c2) (zm9 c2 he (hV x (by simp)) (hT x (by simp)) (hV y (by simp)) (hT y (by simp)))
  by_cases c3 : e.op = 11
  ·obtain ⟨x, y, he⟩ := zhh h (by rw [c3]; rfl)
   rw [he] at hV hT
   exact zjJ (.inr (.inl c3)) (zol c3 he (hV x (by simp)) (hT x (by simp)) (hV y (by simp)) (hT y (by simp)))
  by_cases c4 : e.op = 12
  ·obtain ⟨x, he⟩ := zoa h (by rw [c4]; rfl)
   rw [he] at hV hT
   exact zpq c4 he (hV x (by simp)) (hT x (by simp))
  by_cases c5 : e.op = 13
  ·obtain ⟨x, y, z, he⟩ := zn9 h (by rw [c5]; rfl)
   rw [he] at hV hT
   exact zjJ (.inr (.inr c5)) (zom c5 he (hV x (by simp)) (hT x (by simp)) (hV y (by simp)) (hV z (by simp)))
  obtain ⟨x, y, he⟩ := zhh h (by unfold zaE; split <;> first | omega | (split <;> first | omega | (split <;> first | omega | (split <;> omega))))
  rw [he] at hV hT
  exact zpr (by omega) hl hnl he (hV x (by simp)) (hT x (by simp)) (hV y (by simp)) (hT y (by simp))
theorem zps {lets : List Let} {vars : List Var} (hgs : ∀ s v, gX vars s = some v → inC v) (hrb : ∀ l ∈ lets, zax 12 l.body = true) (hl : lets.length ≤ 20) (hvars : vars.length ≤ 1000000) :
  ∀ n, n ≤ lets.length → ∀ (d : Nat) (e : Exp), zax d e = true → zh4 lets vars n e := by
 intro n
 induction n using Nat.strongRecOn with
 | _ n ih =>
  intro hnl
  refine zmx hgs hrb hl hnl fun s t nx hm ht => ?_
  exact zlK (fun i l hi hx => zoz hrb hgs hl hx (ih i hi (by omega) 12 l.body (hrb l (List.mem_of_getElem? hx)))) hl hnl hvars s t nx hm ht
end Go.Proofs.YtfcopibncpkdoaaDoor
namespace Go.Proofs.YtfcopibncpkdoaaDoor
open Go Go.VL
attribute [local simp] zcp zbN evPure opd uOf zaB St.put St.at getK binD binI binS binB nilD aggD zeJ ze8 lookD lookR zbT Go.VL.nextD zbY zfe zfd zev zbM mkV zaW zaP zaO zaN zcm zaM za1 zbc mapEff zcS zek Key.kk shiftI arith unD convD zcP loadD cellsAt fieldAddrD fieldD indexAddrD indexD sliceD cutD lenD minmaxD nilCheckD buildD fillD zbt zcq zdR setAll zcg zdy zbQ zeN zbO St.add zaC zbj rowsOf zcM zce zaj zac zaa za5 zcl zaH entry za4 za6 valD zbS zb7 zez zct zcu zbx zbs zav zaT za7 delAll effD St.effS zb9 zaQ zaI zca zaR zaK zby zaJ zaD zbz zb8 zbb zbw zaZ zbu zbv zat mkD zbk zbd zbB zav zbP D.ids Op.operands Call.operands za8 makeIfD typeAssertD ze6 zcH zcI zeR zbV IntKind.bits zch List.take_of_length_le List.range_succ
attribute [local irreducible] V G H HD HD2 zal Eff CallP CallV EndOK Fun Ret FinOK LoopI LoopW EndW
theorem zgU (lets : List Let) (vars : List Var) (e : Exp) (hvl : vars.length ≤ 1000000) : Fun Tryd.prog 18 [.u (zaw lets), .u (zcF vars), za3 e] (· = .tup [.u (.int .i64 (zdG lets vars e).1), .u (.int .i64 (zdG lets vars e).2)]) := by
 have h1 := zcN e
 generalize hK : zdG lets vars e = K
 unfold zdG zbL at hK
 by_cases hre : zax 12 e = true
 case neg =>
  have hre2 : zax 12 e = false := by simpa using hre
  rw [if_neg (by simp [hre2])] at hK
  subst hK
  rw [hre2] at h1
  simp only [zaw, zcF, za3] at h1 ⊢
  (refine Fun.of_bodyW Tryd.func18 rfl (by simp) fun Γ hn => ?_); simp only [entry, List.zipIdx_cons, List.zipIdx_nil, List.map_cons, List.map_nil, Nat.zero_add, Tryd.ntmps18]
  repeat' (first
  | (refine zah ?_; simp)
  | (refine zak ?_; simp)
  | (refine zai ?_; simp)
  | (refine zag ?_; simp)
  | (refine zar ?_; simp only [zal])
  | (refine ⟨fun hc => ?_, fun hc => ?_⟩ <;> (try (exfalso; omega)))
  | (refine CallP.fun_ (h1) (by first | rfl | fail) (by first | assumption | (simp; done) | fail) (by first | (simp; done) | (simp; rfl) | fail) (by first | (simp; done) | fail) (fun d hd => ?_); subst hd; (try simp))
  | fail)
  all_goals
   refine EndW.here ?_
   (refine EndOK.val (.inr rfl) ?_; simp [zay, zae, zau, Tryd.results18])
 by_cases hll : lets.length ≤ 20
 case neg =>
  have hll2 : 20 < (lets.length : Int) := by omega
  rw [if_neg (by simp [hll])] at hK
  subst hK
  rw [hre] at h1
  simp only [zaw, zcF, za3] at h1 ⊢
  (refine Fun.of_bodyW Tryd.func18 rfl (by simp) fun Γ hn => ?_); simp only [entry, List.zipIdx_cons, List.zipIdx_nil, List.map_cons, List.map_nil, Nat.zero_add, Tryd.ntmps18]
  repeat' (first
  | (refine zah ?_; simp [hll2])
  | (refine zak ?_; simp [hll2])
  | (refine zai ?_; simp [hll2])
  | (refine zag ?_; simp [hll2])
  | (refine zar ?_; simp only [zal])
  | fail)
  refine EndW.here ?_
  (refine EndOK.val (.inr rfl) ?_; simp [zay, zae, zau, Tryd.results18])
 have hll2 : ¬ 20 < (lets.length : Int) := by omega
 rw [hre] at h1
 simp only [zaw, zcF, za3] at h1 ⊢
 (refine Fun.of_bodyW Tryd.func18 rfl (by simp) fun Γ hn => ?_); simp only [entry, List.zipIdx_cons, List.zipIdx_nil, List.map_cons, List.map_nil, Nat.zero_add, Tryd.ntmps18]
 refine zfJ (x := 1) rfl fun hl1 => ?_
 simp only [List.length_map] at hl1
 repeat' (first
  | (refine zah ?_; simp [hll2])
  | (refine zak ?_; simp [hll2])
  | (refine zai ?_; simp [hll2])
  | (refine zag ?_; simp [hll2])
  | (refine zam ?_; simp [hll2])
  | (refine zaq ?_; simp only [zal])
  | (refine CallP.fun_ (h1) (by first | rfl | fail) (by first | assumption | (simp; done) | fail) (by first | (simp [hll2]; done) | (simp [hll2]; rfl) | fail) (by first | (simp; done) | fail) (fun d hd => ?_); subst hd; (try simp [hll2]))
  | fail)
 refine zcR (α := { i : Nat // i ≤ lets.length ∧ ∀ l ∈ lets.take i, zax 12 l.body = true }) [0, 1, 5] (fun i => [(8, .u (.int .i64 i.1))])
  (fun i => [(0, .box [.u (.int .i64 e.op), .u (.int .i64 e.n), .u (.int .i64 e.unit), .u (.str e.s), .u (.sl (e.args.map Exp.row))])]) 1
  (fun i => lets.length - i.1) ⟨0, by omega, by simp⟩ ?_ ?_
 ·exact (Wk.cut rfl (by simp [hn, St.lp]) (by simp [wkO, St.lp, zaa, getK, Ob.under, D.under, zad, zaf, Ob.under]) (by simp [wkU, St.lp, zap, zaa, getK, D.under, Ob.under]) (by simp [wkE, St.lp, zap, zaa, getK, Ob.under] <;> (try (intros; simp_all; done)) <;> (try (intros; omega)) <;> (try grind)))
 rintro ⟨i, hi, hb⟩
 simp [St.lp, St.only, zap, zaa, getK]
 rcases hx : lets[i]? with _ | l
 ·have hge : lets.length ≤ i := by simpa using hx
  obtain rfl : i = lets.length := by omega
  rw [List.take_length] at hb
  repeat' (first
  | (refine zah ?_; simp [hx])
  | (refine zak ?_; simp [hx])
  | (refine zai ?_; simp [hx])
  | (refine zag ?_; simp [hx])
  | (refine zam ?_; simp [hx])
  | (refine zba ?_; simp [zal])
  | fail)
  have hrg : zbL lets e = true := by
   simp only [zbL, Bool.and_eq_true, decide_eq_true_eq, Bool.not_eq_true', List.any_eq_false]
   exact ⟨⟨hll, hre⟩, fun l hl => by simp [hb l hl]⟩
  refine zcR (α := { i : Nat // i ≤ vars.length ∧ ∀ v ∈ vars.take i, zla v = true }) [0, 1, 5] (fun i => [(9, .u (.int .i64 i.1))])
   (fun i => [(0, .box [.u (.int .i64 e.op), .u (.int .i64 e.n), .u (.int .i64 e.unit), .u (.str e.s), .u (.sl (e.args.map Exp.row))])]) 1
   (fun i => vars.length - i.1) ⟨0, by omega, by simp⟩ ?_ ?_
  ·exact (Wk.cut rfl (by simp [hn, St.lp]) (by simp [wkO, St.lp, zaa, getK, Ob.under, D.under, zad, zaf, Ob.under]) (by simp [wkU, St.lp, zap, zaa, getK, D.under, Ob.under]) (by simp [wkE, St.lp, zap, zaa, getK, Ob.under] <;> (try (intros; simp_all; done)) <;> (try (intros; omega)) <;> (try grind)))
  rintro ⟨j, hj, hvb⟩
  simp [St.lp, St.only, zap, zaa, getK]
  rcases hy : vars[j]? with _ | v
  ·have hge : vars.length ≤ j := by simpa using hy
   obtain rfl : j = vars.length := by omega
   rw [List.take_length] at hvb
   have hva : vars.all zla = true := by simpa [List.all_eq_true] using hvb
   have hgs : ∀ s v, gF (gV vars) s = some v → inC v := zoG vars [] (fun s v h => by simp [asc] at h) hvb
   rw [if_pos ⟨hrg, hva⟩] at hK
   subst hK
   have hgo := fun nx' (h : 5 ≤ nx') => zps (vars := vars) hgs hb hll hvl lets.length (Nat.le_refl _) 12 e hre (zhx lets) nx' (by omega) ⟨zok lets, zpe lets _⟩
   have z1 : rR (zhx lets) = List.replicate lets.length [.int .i64 0] := by simp [rR, zhx]
   have z2 : vR (zhx lets) = List.replicate lets.length [.int .i64 0] := by simp [vR, zhx]
   have z3 : dR (zhx lets) = List.replicate lets.length [.bool false] := by simp [dR, zhx]
   unfold zgD evO at hgo
   rw [z1, z2, z3] at hgo
   have hRR : rowsD (List.replicate lets.length [U.int .i64 0]) = List.replicate lets.length [.u (.int .i64 0)] := by simp [rowsD]
   have hRB : rowsD (List.replicate lets.length [U.bool false]) = List.replicate lets.length [.u (.bool false)] := by simp [rowsD]
   rw [hRR, hRB] at hgo
   unfold gX at hgo
   generalize zcT (zbp lets (gF (gV vars)) lets.length e (zhx lets)).1 = q at hgo ⊢
   obtain ⟨v1, e1, d1⟩ := q
   simp only [za3] at hgo ⊢
   repeat' (first
  | (refine zah ?_; simp [hy, del])
  | (refine zgy rfl ?_; simp [hy, del])
  | (refine zgA rfl ?_; simp [hy, del])
  | (refine zak ?_; simp [hy, del])
  | (refine ⟨by omega, ?_⟩)
  | (refine zai ?_; simp [hy, del])
  | (refine zag ?_; simp [hy, del])
  | (refine zgz (hC _ (by kernel_rfl)) (hk _ ?_); clear hC hk C k; simp only [zal])
  | (refine zgw rfl (by kernel_rfl) (by kernel_rfl) (by simp [hn]) fun C k hC hk => ?_; simp [hy, del])
  | (refine zar ?_; simp only [zal])
  | (refine zba ?_; simp [zal])
  | (refine CallP.okL (hgo _ (by first | omega | (simp; done) | (simp; omega) | fail)) (by first | (simp [hy, del, zaa, getK, zab, zac, zaj, zat, del]; done) | fail) (by rfl) (by first | assumption | (simp; done) | fail) (by rfl) (by simp) ?_; (try simp [hy, del, zbe, del]))
  | fail)
   refine EndW.here ?_
   (refine EndOK.val (.inr rfl) ?_; simp [zay, zae, zau, Tryd.results18])
  ·have hlt : j < vars.length := (List.getElem?_eq_some_iff.1 hy).1
   by_cases hv : zla v = true
   ·have hv1 := hv
    simp only [zla, Bool.and_eq_true, decide_eq_true_eq] at hv1
    have hv2 : ¬ 1099511627776 < v.n := by omega
    have hv3 : ¬ v.n < -1099511627776 := by omega
    repeat' (first
  | (refine zah ?_; simp [hy, hv2, hv3])
  | (refine zak ?_; simp [hy, hv2, hv3])
  | (refine ⟨by omega, ?_⟩)
  | (refine zai ?_; simp [hy, hv2, hv3])
  | (refine zag ?_; simp [hy, hv2, hv3])
  | (refine zas ?_; simp [hy, hv2, hv3])
  | (refine zaq ?_; simp only [zal])
  | (refine ⟨?_, by omega⟩)
  | (intro hc <;> (try (exfalso; omega)))
  | fail)
    refine LoopW.next ⟨j + 1, by omega, zaG hy hvb hv⟩ (by simp; omega) ?_
    exact (Wk.cut rfl (by simp [hn, St.lp]) (by simp [wkO, St.lp, zaa, getK, Ob.under, D.under, zad, zaf, Ob.under]) (by simp [wkU, St.lp, zap, zaa, getK, D.under, Ob.under]) (by simp [wkE, St.lp, zap, zaa, getK, Ob.under] <;> (try (intros; simp_all; done)) <;> (try (intros; omega)) <;> (try grind)))
   ·rw [if_neg (by
     intro h
     rw [List.all_eq_true] at h
     exact hv (h.2 v (List.mem_of_getElem? hy)))] at hK
    subst hK
    have hv2 : 1099511627776 < v.n ∨ v.n < -1099511627776 := by
     simp only [zla, Bool.and_eq_true, decide_eq_true_eq] at hv
     omega
    repeat' (first
  | (refine zah ?_; simp [hy])
  | (refine zak ?_; simp [hy])
  | (refine zai ?_; simp [hy])
  | (refine zag ?_; simp [hy])
  | (refine zar ?_; simp only [zal])
  | (refine zaq ?_; simp only [zal])
  | (refine ⟨?_, by omega⟩)
  | (refine ⟨fun hc => ?_, fun hc => ?_⟩ <;> (try (exfalso; omega)))
  | (intro hc <;> (try (exfalso; omega)))
  | fail)
    all_goals first
     | (exfalso; omega)
     | (refine EndW.here ?_; (refine EndOK.val (.inr rfl) ?_; simp [zay, zae, zau, Tryd.results18]); done)
 ·have hlt : i < lets.length := (List.getElem?_eq_some_iff.1 hx).1
  have h5 := zcN l.body
  simp only [za3] at h5
  cases hrx : zax 12 l.body
  ·rw [hrx] at h5
   rw [if_neg (by
    simp only [Bool.and_eq_true, Bool.not_eq_true', List.any_eq_false]
    intro h
    have := h.1.2 l (List.mem_of_getElem? hx)
    simp [hrx] at this)] at hK
   subst hK
   repeat' (first
  | (refine zah ?_; simp [hx])
  | (refine zak ?_; simp [hx])
  | (refine zai ?_; simp [hx])
  | (refine zag ?_; simp [hx])
  | (refine zar ?_; simp only [zal])
  | (refine zaq ?_; simp only [zal])
  | (refine ⟨?_, by omega⟩)
  | (intro hc <;> (try (exfalso; omega)))
  | (refine CallP.fun_ (h5) (by first | rfl | fail) (by first | assumption | (simp; done) | fail) (by first | (simp [hx]; done) | (simp [hx]; rfl) | fail) (by first | (simp; done) | fail) (fun d hd => ?_); subst hd; (try simp [hx]))
  | fail)
   refine EndW.here ?_
   (refine EndOK.val (.inr rfl) ?_; simp [zay, zae, zau, Tryd.results18])
  ·rw [hrx] at h5
   repeat' (first
  | (refine zah ?_; simp [hx])
  | (refine zak ?_; simp [hx])
  | (refine ⟨by omega, ?_⟩)
  | (refine zai ?_; simp [hx])
  | (refine zag ?_; simp [hx])
  | (refine zas ?_; simp [hx])
  | (refine zaq ?_; simp only [zal])
  | (refine ⟨?_, by omega⟩)
  | (intro hc <;> (try (exfalso; omega)))
  | (refine CallP.fun_ (h5) (by first | rfl | fail) (by first | assumption | (simp; done) | fail) (by first | (simp [hx]; done) | (simp [hx]; rfl) | fail) (by first | (simp; done) | fail) (fun d hd => ?_); subst hd; (try simp [hx]))
  | fail)
   refine LoopW.next ⟨i + 1, by omega, zaG hx hb hrx⟩ (by simp; omega) ?_
   exact (Wk.cut rfl (by simp [hn, St.lp]) (by simp [wkO, St.lp, zaa, getK, Ob.under, D.under, zad, zaf, Ob.under]) (by simp [wkU, St.lp, zap, zaa, getK, D.under, Ob.under]) (by simp [wkE, St.lp, zap, zaa, getK, Ob.under] <;> (try (intros; simp_all; done)) <;> (try (intros; omega)) <;> (try grind)))
end Go.Proofs.YtfcopibncpkdoaaDoor
namespace Go.Proofs.YtfcopibncpkdoaaDoor
open Go Go.VL
def zoo : List UInt8 := [100, 117, 101]
def zjo : List UInt8 := [102, 105, 110, 101]
def zon : List UInt8 := [112, 97, 121]
def zf4 : List UInt8 := [99, 111, 118, 101, 114]
def zjn : List UInt8 := [104, 111, 108, 100]
def zeL (b : By) (c : List UInt8) : Option Exp :=
 if c = zoo then some b.due else if c = zjo then some b.fine else if c = zon then some b.pay else if c = zf4 then some b.cover else if c = zjn then some b.hold else none
/-- What Clause returns. -/
def zd3 (b : By) (c : List UInt8) (vars : List Var) : Int × Int := match zeL b c with
 | some e => if zeB b = true then zdG b.lets vars e else (0, 1)
 | none => (0, 1)
attribute [local simp] HS zcp zbN evPure opd uOf zaB St.put St.at getK binD binI binS binB nilD aggD zeJ ze8 lookD lookR zbT Go.VL.nextD zbY zfe zfd zev zbM mkV zaW zaP zaO zaN zcm zaM za1 zbc mapEff zcS zek Key.kk shiftI arith unD convD zcP loadD cellsAt fieldAddrD fieldD indexAddrD indexD sliceD cutD lenD minmaxD nilCheckD buildD fillD zbt zcq zdR setAll zcg zdy zbQ zeN zbO St.add zaC zbj rowsOf zcM zce zaj zac zaa za5 zcl zaH entry za4 za6 valD zbS zb7 zez zct zcu zbx zbs zav zaT za7 delAll effD St.effS zb9 zaQ zaI zca zaR zaK zby zaJ zaD zbz zb8 zbb zbw zaZ zbu zbv zat mkD zbk zbd zbB zav zbP D.ids Op.operands Call.operands za8 makeIfD typeAssertD ze6 zcH zcI zeR zbV IntKind.bits zch List.take_of_length_le List.range_succ
attribute [local irreducible] V G H HD HD2 HD4 zhn RetX zal Eff CallP CallV EndOK Fun Ret FinOK LoopI LoopW EndW
theorem zlh (b : By) (c : List UInt8) (vars : List Var) : Fun Tryd.prog 19 [.u (.agg (zb0 b)), .u (.str c), .u (zcF vars)] (· = .tup [.u (.int .i64 (zd3 b c vars).1), .u (.int .i64 (zd3 b c vars).2)]) := by
 have h1 := zjp b
 generalize hW : zd3 b c vars = W
 unfold zd3 at hW
 cases hE : zeL b c with
 | none =>
  rw [hE] at hW
  unfold zeL at hE
  by_cases c1 : c = zoo
  ·rw [if_pos c1] at hE; cases hE
  by_cases c2 : c = zjo
  ·rw [if_neg c1, if_pos c2] at hE; cases hE
  by_cases c3 : c = zon
  ·rw [if_neg c1, if_neg c2, if_pos c3] at hE; cases hE
  by_cases c4 : c = zf4
  ·rw [if_neg c1, if_neg c2, if_neg c3, if_pos c4] at hE; cases hE
  by_cases c5 : c = zjn
  ·rw [if_neg c1, if_neg c2, if_neg c3, if_neg c4, if_pos c5] at hE; cases hE
  clear hE
  have d1 := Ne.symm c1
  have d2 := Ne.symm c2
  have d3 := Ne.symm c3
  have d4 := Ne.symm c4
  have d5 := Ne.symm c5
  subst hW
  unfold zoo zjo zon zf4 zjn at *
  unfold zb0 zcF
  (refine Fun.of_bodyW Tryd.func19 rfl (by simp) fun Γ hn => ?_); simp only [entry, List.zipIdx_cons, List.zipIdx_nil, List.map_cons, List.map_nil, Nat.zero_add, Tryd.ntmps19]
  repeat' (first
  | (refine zah ?_; simp [c1, c2, c3, c4, c5, d1, d2, d3, d4, d5])
  | (refine zak ?_; simp [c1, c2, c3, c4, c5, d1, d2, d3, d4, d5])
  | (refine zai ?_; simp [c1, c2, c3, c4, c5, d1, d2, d3, d4, d5])
  | (refine zag ?_; simp [c1, c2, c3, c4, c5, d1, d2, d3, d4, d5])
  | (refine zar ?_; simp only [zal])
  | fail)
  refine EndW.here ?_
  (refine EndOK.val (.inr rfl) ?_; simp [zay, zae, zau, Tryd.results19])
 | some e =>
  rw [hE] at hW
  simp only at hW
  have hc : (c = zoo ∧ e = b.due) ∨ (c = zjo ∧ e = b.fine) ∨ (c = zon ∧ e = b.pay) ∨ (c = zf4 ∧ e = b.cover) ∨ (c = zjn ∧ e = b.hold) := by
   unfold zeL at hE
   repeat' split at hE
   all_goals first | (cases hE; done) | (cases hE; simp_all; done)
  clear hE
  have h2 := zeP b.lets vars e
  cases hr : zeB b
  ·rw [hr] at h1
   rw [hr, if_neg (by simp)] at hW
   subst hW
   clear h2
   unfold zoo zjo zon zf4 zjn at *
   unfold zb0 zcF
   unfold zb0 at h1
   rcases hc with ⟨rfl, rfl⟩ | ⟨rfl, rfl⟩ | ⟨rfl, rfl⟩ | ⟨rfl, rfl⟩ | ⟨rfl, rfl⟩
   all_goals
    (refine Fun.of_bodyW Tryd.func19 rfl (by simp) fun Γ hn => ?_); simp only [entry, List.zipIdx_cons, List.zipIdx_nil, List.map_cons, List.map_nil, Nat.zero_add, Tryd.ntmps19]
    repeat' (first
  | (refine zah ?_; simp)
  | (refine zak ?_; simp)
  | (refine zai ?_; simp)
  | (refine zag ?_; simp)
  | (refine zar ?_; simp only [zal])
  | (refine CallP.fun_ (h1) (by first | rfl | fail) (by first | assumption | (simp; done) | fail) (by first | (simp; done) | (simp; rfl) | fail) (by first | (simp; done) | fail) (fun d hd => ?_); subst hd; (try simp))
  | fail)
    refine EndW.here ?_
    (refine EndOK.val (.inr rfl) ?_; simp [zay, zae, zau, Tryd.results19])
  ·rw [hr] at h1
   rw [hr, if_pos rfl] at hW
   rw [hW] at h2
   clear hW
   unfold zoo zjo zon zf4 zjn at *
   unfold zb0 zcF
   unfold zb0 at h1
   unfold zaw zcF za3 at h2
   rcases hc with ⟨rfl, rfl⟩ | ⟨rfl, rfl⟩ | ⟨rfl, rfl⟩ | ⟨rfl, rfl⟩ | ⟨rfl, rfl⟩
   all_goals
    (refine Fun.of_bodyW Tryd.func19 rfl (by simp) fun Γ hn => ?_); simp only [entry, List.zipIdx_cons, List.zipIdx_nil, List.map_cons, List.map_nil, Nat.zero_add, Tryd.ntmps19]
    repeat' (first
  | (refine zah ?_; simp)
  | (refine zak ?_; simp)
  | (refine zai ?_; simp)
  | (refine zag ?_; simp)
  | (refine zar ?_; simp only [zal])
  | (refine zaq ?_; simp only [zal])
  | (refine CallP.fun_ (h1) (by first | rfl | fail) (by first | assumption | (simp; done) | fail) (by first | (simp; done) | (simp; rfl) | fail) (by first | (simp; done) | fail) (fun d hd => ?_); subst hd; (try simp))
  | (refine CallP.fun_ (h2) (by first | rfl | fail) (by first | assumption | (simp; done) | fail) (by first | (simp; done) | (simp; rfl) | fail) (by first | (simp; done) | fail) (fun d hd => ?_); subst hd; (try simp))
  | fail)
    refine EndW.here ?_
    (refine EndOK.val (.inr rfl) ?_; simp [zay, zae, zau, Tryd.results19])
end Go.Proofs.YtfcopibncpkdoaaDoor
namespace Go.Proofs.YtfcopibncpkdoaaDoor
open Go Go.VL
attribute [local simp] zcp zbN evPure opd uOf zaB St.put St.at getK binD binI binS binB nilD aggD zeJ ze8 lookD lookR zbT Go.VL.nextD zbY zfe zfd zev zbM mkV zaW zaP zaO zaN zcm zaM za1 zbc mapEff zcS zek Key.kk shiftI arith unD convD zcP loadD cellsAt fieldAddrD fieldD indexAddrD indexD sliceD cutD lenD minmaxD nilCheckD buildD fillD zbt zcq zdR setAll zcg zdy zbQ zeN zbO St.add zaC zbj rowsOf zcM zce zaj zac zaa za5 zcl zaH entry za4 za6 valD zbS zb7 zez zct zcu zbx zbs zav zaT za7 delAll effD St.effS zb9 zaQ zaI zca zaR zaK zby zaJ zaD zbz zb8 zbb zbw zaZ zbu zbv zat mkD zbk zbd zbB zav zbP D.ids Op.operands Call.operands za8 makeIfD typeAssertD ze6 zcH zcI zeR zbV IntKind.bits zch List.take_of_length_le List.range_succ
attribute [local irreducible] V G H HD HD2 zal Eff CallP CallV EndOK Fun Ret FinOK LoopI LoopW EndW
def zoI (b : By) : Bool := zjI b.lets [] && zjh b.due && zjh b.fine && zjh b.pay && zjh b.cover && zjh b.hold
theorem zjH (b : By) : Fun Tryd.prog 17 [.u (.agg (zb0 b))] (· = .u (.bool (zoI b))) := by
 have e0 := zmw b.lets []
 have e1 := zc2 b.due
 have e2 := zc2 b.fine
 have e3 := zc2 b.pay
 have e4 := zc2 b.cover
 have e5 := zc2 b.hold
 simp only [za3, zaw, zcF, List.map_nil] at e0 e1 e2 e3 e4 e5
 unfold zoI
 generalize zjI b.lets [] = x0 at e0 ⊢
 generalize zjh b.due = x1 at e1 ⊢
 generalize zjh b.fine = x2 at e2 ⊢
 generalize zjh b.pay = x3 at e3 ⊢
 generalize zjh b.cover = x4 at e4 ⊢
 generalize zjh b.hold = x5 at e5 ⊢
 (refine Fun.of_bodyW Tryd.func17 rfl (by simp) fun Γ hn => ?_); simp only [entry, List.zipIdx_cons, List.zipIdx_nil, List.map_cons, List.map_nil, Nat.zero_add, Tryd.ntmps17]
 simp only [zb0]
 repeat' (first
  | (refine zah ?_; simp)
  | (refine zak ?_; simp)
  | (refine zai ?_; simp)
  | (refine zar ?_; simp only [zal])
  | (refine ⟨fun hc => ?_, fun hc => ?_⟩ <;> (try (exfalso; omega)))
  | (refine CallP.fun_ (e0) (by first | rfl | fail) (by first | assumption | (simp; done) | fail) (by first | (simp; done) | (simp; rfl) | fail) (by first | (simp; done) | fail) (fun d hd => ?_); subst hd; (try simp))
  | (refine CallP.fun_ (e1) (by first | rfl | fail) (by first | assumption | (simp; done) | fail) (by first | (simp; done) | (simp; rfl) | fail) (by first | (simp; done) | fail) (fun d hd => ?_); subst hd; (try simp))
  | (refine CallP.fun_ (e2) (by first | rfl | fail) (by first | assumption | (simp; done) | fail) (by first | (simp; done) | (simp; rfl) | fail) (by first | (simp; done) | fail) (fun d hd => ?_); subst hd; (try simp))
  | (refine CallP.fun_ (e3) (by first | rfl | fail) (by first | assumption | (simp; done) | fail) (by first | (simp; done) | (simp; rfl) | fail) (by first | (simp; done) | fail) (fun d hd => ?_); subst hd; (try simp))
  | (refine CallP.fun_ (e4) (by first | rfl | fail) (by first | assumption | (simp; done) | fail) (by first | (simp; done) | (simp; rfl) | fail) (by first | (simp; done) | fail) (fun d hd => ?_); subst hd; (try simp))
  | (refine CallP.fun_ (e5) (by first | rfl | fail) (by first | assumption | (simp; done) | fail) (by first | (simp; done) | (simp; rfl) | fail) (by first | (simp; done) | fail) (fun d hd => ?_); subst hd; (try simp))
  | fail)
 all_goals
  refine EndW.here ?_
  (refine EndOK.val (.inr rfl) ?_; simp [zay, zae, zau, Tryd.results17])
 all_goals (clear e0 e1 e2 e3 e4 e5; simp_all; done)
def ofD : Option Exp → D
 | some e => .tup [za3 e, .u (.bool true)]
 | none => .tup [.u (.agg [.int .i64 0, .int .i64 0, .int .i64 0, .str [], .sl []]), .u (.bool false)]
theorem zop (b : By) (c : List UInt8) : Fun Tryd.prog 32 [.u (.agg (zb0 b)), .u (.str c)] (· = ofD (zeL b c)) := by
 unfold zeL zoo zjo zon zf4 zjn
 unfold zb0
 by_cases c1 : c = [100, 117, 101]
 ·rw [if_pos c1]
  (refine Fun.of_bodyW Tryd.func32 rfl (by simp) fun Γ hn => ?_); simp only [entry, List.zipIdx_cons, List.zipIdx_nil, List.map_cons, List.map_nil, Nat.zero_add, Tryd.ntmps32]
  repeat' (first
  | (refine zah ?_; simp [c1])
  | (refine zak ?_; simp [c1])
  | (refine zai ?_; simp [c1])
  | (refine zag ?_; simp [c1])
  | (refine zam ?_; simp [c1])
  | (refine zar ?_; simp only [zal])
  | fail)
  refine EndW.norm (EndW.here ?_)
  (refine EndOK.val (.inr rfl) ?_; simp [zay, zae, zau, Tryd.results32, zaU, zaV, zdf, zdg, frz, zb2, frzS, fv, zbH, zbJ, zbK, zaY, zaF, zaA, zcf, zcy, zcz, zbq])
  all_goals try rfl
 rw [if_neg c1]
 by_cases c2 : c = [102, 105, 110, 101]
 ·rw [if_pos c2]
  (refine Fun.of_bodyW Tryd.func32 rfl (by simp) fun Γ hn => ?_); simp only [entry, List.zipIdx_cons, List.zipIdx_nil, List.map_cons, List.map_nil, Nat.zero_add, Tryd.ntmps32]
  repeat' (first
  | (refine zah ?_; simp [c2])
  | (refine zak ?_; simp [c2])
  | (refine zai ?_; simp [c2])
  | (refine zag ?_; simp [c2])
  | (refine zam ?_; simp [c2])
  | (refine zar ?_; simp only [zal])
  | fail)
  refine EndW.norm (EndW.here ?_)
  (refine EndOK.val (.inr rfl) ?_; simp [zay, zae, zau, Tryd.results32, zaU, zaV, zdf, zdg, frz, zb2, frzS, fv, zbH, zbJ, zbK, zaY, zaF, zaA, zcf, zcy, zcz, zbq])
  all_goals try rfl
 rw [if_neg c2]
 by_cases c3 : c = [112, 97, 121]
 ·rw [if_pos c3]
  (refine Fun.of_bodyW Tryd.func32 rfl (by simp) fun Γ hn => ?_); simp only [entry, List.zipIdx_cons, List.zipIdx_nil, List.map_cons, List.map_nil, Nat.zero_add, Tryd.ntmps32]
  repeat' (first
  | (refine zah ?_; simp [c3])
  | (refine zak ?_; simp [c3])
  | (refine zai ?_; simp [c3])
  | (refine zag ?_; simp [c3])
  | (refine zam ?_; simp [c3])
  | (refine zar ?_; simp only [zal])
  | fail)
  refine EndW.norm (EndW.here ?_)
  (refine EndOK.val (.inr rfl) ?_; simp [zay, zae, zau, Tryd.results32, zaU, zaV, zdf, zdg, frz, zb2, frzS, fv, zbH, zbJ, zbK, zaY, zaF, zaA, zcf, zcy, zcz, zbq])
  all_goals try rfl
 rw [if_neg c3]
 by_cases c4 : c = [99, 111, 118, 101, 114]
 ·rw [if_pos c4]
  (refine Fun.of_bodyW Tryd.func32 rfl (by simp) fun Γ hn => ?_); simp only [entry, List.zipIdx_cons, List.zipIdx_nil, List.map_cons, List.map_nil, Nat.zero_add, Tryd.ntmps32]
  repeat' (first
  | (refine zah ?_; simp [c4])
  | (refine zak ?_; simp [c4])
  | (refine zai ?_; simp [c4])
  | (refine zag ?_; simp [c4])
  | (refine zam ?_; simp [c4])
  | (refine zar ?_; simp only [zal])
  | fail)
  refine EndW.norm (EndW.here ?_)
  (refine EndOK.val (.inr rfl) ?_; simp [zay, zae, zau, Tryd.results32, zaU, zaV, zdf, zdg, frz, zb2, frzS, fv, zbH, zbJ, zbK, zaY, zaF, zaA, zcf, zcy, zcz, zbq])
  all_goals try rfl
 rw [if_neg c4]
 by_cases c5 : c = [104, 111, 108, 100]
 ·rw [if_pos c5]
  (refine Fun.of_bodyW Tryd.func32 rfl (by simp) fun Γ hn => ?_); simp only [entry, List.zipIdx_cons, List.zipIdx_nil, List.map_cons, List.map_nil, Nat.zero_add, Tryd.ntmps32]
  repeat' (first
  | (refine zah ?_; simp [c5])
  | (refine zak ?_; simp [c5])
  | (refine zai ?_; simp [c5])
  | (refine zag ?_; simp [c5])
  | (refine zam ?_; simp [c5])
  | (refine zar ?_; simp only [zal])
  | fail)
  refine EndW.norm (EndW.here ?_)
  (refine EndOK.val (.inr rfl) ?_; simp [zay, zae, zau, Tryd.results32, zaU, zaV, zdf, zdg, frz, zb2, frzS, fv, zbH, zbJ, zbK, zaY, zaF, zaA, zcf, zcy, zcz, zbq])
  all_goals try rfl
 rw [if_neg c5]
 (refine Fun.of_bodyW Tryd.func32 rfl (by simp) fun Γ hn => ?_); simp only [entry, List.zipIdx_cons, List.zipIdx_nil, List.map_cons, List.map_nil, Nat.zero_add, Tryd.ntmps32]
 repeat' (first
  | (refine zah ?_; simp [c1, c2, c3, c4, c5])
  | (refine zak ?_; simp [c1, c2, c3, c4, c5])
  | (refine zai ?_; simp [c1, c2, c3, c4, c5])
  | (refine zag ?_; simp [c1, c2, c3, c4, c5])
  | (refine zam ?_; simp [c1, c2, c3, c4, c5])
  | (refine zar ?_; simp only [zal])
  | (refine zaq ?_; simp only [zal])
  | fail)
 refine EndW.norm (EndW.here ?_)
 (refine EndOK.val (.inr rfl) ?_; simp [zay, zae, zau, Tryd.results32, zaU, zaV, zdf, zdg, frz, zb2, frzS, fv, zbH, zbJ, zbK, zaY, zaF, zaA, zcf, zcy, zcz, zbq])
 all_goals try rfl
theorem zjr (b : By) (c : List UInt8) (vars : List Var) (hvl : vars.length ≤ 1000000) : Fun Tryd.prog 20 [.u (.agg (zb0 b)), .u (.str c), .u (zcF vars)] (· = .tup [.u (.int .i64 (zd3 b c vars).1), .u (.int .i64 (zd3 b c vars).2)]) := by
 have h1 := zop b c
 have h2 := zim b
 generalize hW : zd3 b c vars = W
 unfold zd3 at hW
 cases hE : zeL b c with
 | none =>
  rw [hE] at hW h1
  subst hW
  unfold ofD at h1
  unfold zb0 zcF at *
  (refine Fun.of_bodyW Tryd.func20 rfl (by simp) fun Γ hn => ?_); simp only [entry, List.zipIdx_cons, List.zipIdx_nil, List.map_cons, List.map_nil, Nat.zero_add, Tryd.ntmps20]
  repeat' (first
  | (refine zah ?_; simp)
  | (refine zak ?_; simp)
  | (refine zai ?_; simp)
  | (refine zag ?_; simp)
  | (refine zar ?_; simp only [zal])
  | (refine CallP.fun_ (h1) (by first | rfl | fail) (by first | assumption | (simp; done) | fail) (by first | (simp; done) | (simp; rfl) | fail) (by first | (simp; done) | fail) (fun d hd => ?_); subst hd; (try simp))
  | fail)
  refine EndW.here ?_
  (refine EndOK.val (.inr rfl) ?_; simp [zay, zae, zau, Tryd.results20])
 | some e =>
  rw [hE] at hW h1
  simp only at hW
  have h3 := zgU b.lets vars e hvl
  unfold ofD za3 at h1
  cases hr : zeB b
  ·rw [hr] at h2
   rw [hr, if_neg (by simp)] at hW
   subst hW
   unfold zb0 zcF at *
   (refine Fun.of_bodyW Tryd.func20 rfl (by simp) fun Γ hn => ?_); simp only [entry, List.zipIdx_cons, List.zipIdx_nil, List.map_cons, List.map_nil, Nat.zero_add, Tryd.ntmps20]
   repeat' (first
  | (refine zah ?_; simp)
  | (refine zak ?_; simp)
  | (refine zai ?_; simp)
  | (refine zag ?_; simp)
  | (refine zar ?_; simp only [zal])
  | (refine CallP.fun_ (h1) (by first | rfl | fail) (by first | assumption | (simp; done) | fail) (by first | (simp; done) | (simp; rfl) | fail) (by first | (simp; done) | fail) (fun d hd => ?_); subst hd; (try simp))
  | (refine CallP.fun_ (h2) (by first | rfl | fail) (by first | assumption | (simp; done) | fail) (by first | (simp; done) | (simp; rfl) | fail) (by first | (simp; done) | fail) (fun d hd => ?_); subst hd; (try simp))
  | fail)
   refine EndW.here ?_
   (refine EndOK.val (.inr rfl) ?_; simp [zay, zae, zau, Tryd.results20])
  ·rw [hr] at h2
   rw [hr, if_pos rfl] at hW
   rw [hW] at h3
   clear hW
   unfold zaw zcF za3 at h3
   unfold zb0 zcF at *
   (refine Fun.of_bodyW Tryd.func20 rfl (by simp) fun Γ hn => ?_); simp only [entry, List.zipIdx_cons, List.zipIdx_nil, List.map_cons, List.map_nil, Nat.zero_add, Tryd.ntmps20]
   repeat' (first
  | (refine zah ?_; simp)
  | (refine zak ?_; simp)
  | (refine zai ?_; simp)
  | (refine zag ?_; simp)
  | (refine zar ?_; simp only [zal])
  | (refine zaq ?_; simp only [zal])
  | (refine CallP.fun_ (h1) (by first | rfl | fail) (by first | assumption | (simp; done) | fail) (by first | (simp; done) | (simp; rfl) | fail) (by first | (simp; done) | fail) (fun d hd => ?_); subst hd; (try simp))
  | (refine CallP.fun_ (h2) (by first | rfl | fail) (by first | assumption | (simp; done) | fail) (by first | (simp; done) | (simp; rfl) | fail) (by first | (simp; done) | fail) (fun d hd => ?_); subst hd; (try simp))
  | (refine CallP.fun_ (h3) (by first | rfl | fail) (by first | assumption | (simp; done) | fail) (by first | (simp; done) | (simp; rfl) | fail) (by first | (simp; done) | fail) (fun d hd => ?_); subst hd; (try simp))
  | fail)
   refine EndW.here ?_
   (refine EndOK.val (.inr rfl) ?_; simp [zay, zae, zau, Tryd.results20])
theorem zhc {l : List Let} {vars : List Var} (h : zjI l vars = true) : vars.length ≤ 1000000 := by
 unfold zjI at h
 simp only [Bool.and_eq_true, decide_eq_true_eq] at h
 omega
theorem zlD (lets : List Let) (vars : List Var) (e : Exp) (b : By) (c : List UInt8) : Fun Tryd.prog 7 [.u (zaw lets), .u (zcF vars), za3 e, .u (.agg (zb0 b)), .u (.str c)] (· = .u (.bool true)) := by
 have h0 := zlF
 have h1 := zmw lets vars
 have h2 := zc2 e
 have h3 := zjH b
 have h4 := zeP lets vars e
 have h5 := zlh b c vars
 have h6 := fun h => zgU lets vars e h
 have h7 := fun h => zjr b c vars h
 simp only [za3, zaw, zcF, zb0] at h1 h2 h3 h4 h5 h6 h7 ⊢
 cases hf1 : zjI lets vars with
 | false =>
  rw [hf1] at h1
  (refine Fun.of_bodyW Tryd.func7 rfl (by simp) fun Γ hn => ?_); simp only [entry, List.zipIdx_cons, List.zipIdx_nil, List.map_cons, List.map_nil, Nat.zero_add, Tryd.ntmps7]
  repeat' (first
  | (refine zah ?_; simp)
  | (refine zak ?_; simp)
  | (refine zai ?_; simp)
  | (refine zag ?_; simp)
  | (refine zar ?_; simp only [zal])
  | (refine CallP.fun_ (h0) (by first | rfl | fail) (by first | assumption | (simp; done) | fail) (by first | (simp; done) | (simp; rfl) | fail) (by first | (simp; done) | fail) (fun d hd => ?_); subst hd; (try simp))
  | (refine CallP.fun_ (h1) (by first | rfl | fail) (by first | assumption | (simp; done) | fail) (by first | (simp; done) | (simp; rfl) | fail) (by first | (simp; done) | fail) (fun d hd => ?_); subst hd; (try simp))
  | fail)
  refine EndW.here ?_
  (refine EndOK.val (.inr rfl) ?_; simp [zay, zae, zau, Tryd.results7])
 | true =>
 cases hf2 : zjh e with
 | false =>
  rw [hf1] at h1
  rw [hf2] at h2
  (refine Fun.of_bodyW Tryd.func7 rfl (by simp) fun Γ hn => ?_); simp only [entry, List.zipIdx_cons, List.zipIdx_nil, List.map_cons, List.map_nil, Nat.zero_add, Tryd.ntmps7]
  repeat' (first
  | (refine zah ?_; simp)
  | (refine zak ?_; simp)
  | (refine zai ?_; simp)
  | (refine zag ?_; simp)
  | (refine zar ?_; simp only [zal])
  | (refine CallP.fun_ (h0) (by first | rfl | fail) (by first | assumption | (simp; done) | fail) (by first | (simp; done) | (simp; rfl) | fail) (by first | (simp; done) | fail) (fun d hd => ?_); subst hd; (try simp))
  | (refine CallP.fun_ (h1) (by first | rfl | fail) (by first | assumption | (simp; done) | fail) (by first | (simp; done) | (simp; rfl) | fail) (by first | (simp; done) | fail) (fun d hd => ?_); subst hd; (try simp))
  | (refine CallP.fun_ (h2) (by first | rfl | fail) (by first | assumption | (simp; done) | fail) (by first | (simp; done) | (simp; rfl) | fail) (by first | (simp; done) | fail) (fun d hd => ?_); subst hd; (try simp))
  | fail)
  refine EndW.here ?_
  (refine EndOK.val (.inr rfl) ?_; simp [zay, zae, zau, Tryd.results7])
 | true =>
 cases hf3 : zoI b with
 | false =>
  rw [hf1] at h1
  rw [hf2] at h2
  rw [hf3] at h3
  (refine Fun.of_bodyW Tryd.func7 rfl (by simp) fun Γ hn => ?_); simp only [entry, List.zipIdx_cons, List.zipIdx_nil, List.map_cons, List.map_nil, Nat.zero_add, Tryd.ntmps7]
  repeat' (first
  | (refine zah ?_; simp)
  | (refine zak ?_; simp)
  | (refine zai ?_; simp)
  | (refine zag ?_; simp)
  | (refine zar ?_; simp only [zal])
  | (refine CallP.fun_ (h0) (by first | rfl | fail) (by first | assumption | (simp; done) | fail) (by first | (simp; done) | (simp; rfl) | fail) (by first | (simp; done) | fail) (fun d hd => ?_); subst hd; (try simp))
  | (refine CallP.fun_ (h1) (by first | rfl | fail) (by first | assumption | (simp; done) | fail) (by first | (simp; done) | (simp; rfl) | fail) (by first | (simp; done) | fail) (fun d hd => ?_); subst hd; (try simp))
  | (refine CallP.fun_ (h2) (by first | rfl | fail) (by first | assumption | (simp; done) | fail) (by first | (simp; done) | (simp; rfl) | fail) (by first | (simp; done) | fail) (fun d hd => ?_); subst hd; (try simp))
  | (refine CallP.fun_ (h3) (by first | rfl | fail) (by first | assumption | (simp; done) | fail) (by first | (simp; done) | (simp; rfl) | fail) (by first | (simp; done) | fail) (fun d hd => ?_); subst hd; (try simp))
  | fail)
  refine EndW.here ?_
  (refine EndOK.val (.inr rfl) ?_; simp [zay, zae, zau, Tryd.results7])
 | true =>
 rw [hf1] at h1
 rw [hf2] at h2
 rw [hf3] at h3
 have h6 := h6 (zhc hf1)
 have h7 := h7 (zhc hf1)
 generalize zdG lets vars e = r1 at h4 h6
 generalize zd3 b c vars = r2 at h5 h7
 obtain ⟨n1, e1⟩ := r1
 obtain ⟨n2, e2⟩ := r2
 simp only at h4 h5 h6 h7
 by_cases hn40 : 40 < (c.length : Int)
 ·(refine Fun.of_bodyW Tryd.func7 rfl (by simp) fun Γ hn => ?_); simp only [entry, List.zipIdx_cons, List.zipIdx_nil, List.map_cons, List.map_nil, Nat.zero_add, Tryd.ntmps7]
  repeat' (first
  | (refine zah ?_; simp [hn40])
  | (refine zak ?_; simp [hn40])
  | (refine zai ?_; simp [hn40])
  | (refine zag ?_; simp [hn40])
  | (refine zar ?_; simp only [zal])
  | (refine CallP.fun_ (h0) (by first | rfl | fail) (by first | assumption | (simp; done) | fail) (by first | (simp [hn40]; done) | (simp [hn40]; rfl) | fail) (by first | (simp; done) | fail) (fun d hd => ?_); subst hd; (try simp [hn40]))
  | (refine CallP.fun_ (h1) (by first | rfl | fail) (by first | assumption | (simp; done) | fail) (by first | (simp [hn40]; done) | (simp [hn40]; rfl) | fail) (by first | (simp; done) | fail) (fun d hd => ?_); subst hd; (try simp [hn40]))
  | (refine CallP.fun_ (h2) (by first | rfl | fail) (by first | assumption | (simp; done) | fail) (by first | (simp [hn40]; done) | (simp [hn40]; rfl) | fail) (by first | (simp; done) | fail) (fun d hd => ?_); subst hd; (try simp [hn40]))
  | (refine CallP.fun_ (h3) (by first | rfl | fail) (by first | assumption | (simp; done) | fail) (by first | (simp [hn40]; done) | (simp [hn40]; rfl) | fail) (by first | (simp; done) | fail) (fun d hd => ?_); subst hd; (try simp [hn40]))
  | fail)
  refine EndW.here ?_
  (refine EndOK.val (.inr rfl) ?_; simp [zay, zae, zau, Tryd.results7])
 (refine Fun.of_bodyW Tryd.func7 rfl (by simp) fun Γ hn => ?_); simp only [entry, List.zipIdx_cons, List.zipIdx_nil, List.map_cons, List.map_nil, Nat.zero_add, Tryd.ntmps7]
 repeat' (first
  | (refine zah ?_; simp [hn40])
  | (refine zak ?_; simp [hn40])
  | (refine zai ?_; simp [hn40])
  | (refine zag ?_; simp [hn40])
  | (refine zar ?_; simp only [zal])
  | (refine zaq ?_; simp only [zal])
  | (refine CallP.fun_ (h0) (by first | rfl | fail) (by first | assumption | (simp; done) | fail) (by first | (simp [hn40]; done) | (simp [hn40]; rfl) | fail) (by first | (simp; done) | fail) (fun d hd => ?_); subst hd; (try simp [hn40]))
  | (refine CallP.fun_ (h1) (by first | rfl | fail) (by first | assumption | (simp; done) | fail) (by first | (simp [hn40]; done) | (simp [hn40]; rfl) | fail) (by first | (simp; done) | fail) (fun d hd => ?_); subst hd; (try simp [hn40]))
  | (refine CallP.fun_ (h2) (by first | rfl | fail) (by first | assumption | (simp; done) | fail) (by first | (simp [hn40]; done) | (simp [hn40]; rfl) | fail) (by first | (simp; done) | fail) (fun d hd => ?_); subst hd; (try simp [hn40]))
  | (refine CallP.fun_ (h3) (by first | rfl | fail) (by first | assumption | (simp; done) | fail) (by first | (simp [hn40]; done) | (simp [hn40]; rfl) | fail) (by first | (simp; done) | fail) (fun d hd => ?_); subst hd; (try simp [hn40]))
  | (refine CallP.fun_ (h4) (by first | rfl | fail) (by first | assumption | (simp; done) | fail) (by first | (simp [hn40]; done) | (simp [hn40]; rfl) | fail) (by first | (simp; done) | fail) (fun d hd => ?_); subst hd; (try simp [hn40]))
  | (refine CallP.fun_ (h5) (by first | rfl | fail) (by first | assumption | (simp; done) | fail) (by first | (simp [hn40]; done) | (simp [hn40]; rfl) | fail) (by first | (simp; done) | fail) (fun d hd => ?_); subst hd; (try simp [hn40]))
  | (refine CallP.fun_ (h6) (by first | rfl | fail) (by first | assumption | (simp; done) | fail) (by first | (simp [hn40]; done) | (simp [hn40]; rfl) | fail) (by first | (simp; done) | fail) (fun d hd => ?_); subst hd; (try simp [hn40]))
  | (refine CallP.fun_ (h7) (by first | rfl | fail) (by first | assumption | (simp; done) | fail) (by first | (simp [hn40]; done) | (simp [hn40]; rfl) | fail) (by first | (simp; done) | fail) (fun d hd => ?_); subst hd; (try simp [hn40]))
  | fail)
 refine EndW.here ?_
 (refine EndOK.val (.inr rfl) ?_; simp [zay, zae, zau, Tryd.results7])
end Go.Proofs.YtfcopibncpkdoaaDoor
namespace Go.Proofs.YtfcopibncpkdoaaDoor
open Go Go.VL Go.ChangeShapes Go.WideShapes Go.ChangeAt Go.RowKit
theorem Tryd.own : ownKnob Tryd.prog.godebug = none := by kernel_rfl
theorem Tryd.zoV : laidOutB Tryd.prog = true := by kernel_rfl
theorem Tryd.zr8 : zgT Tryd.prog = true := by kernel_rfl
theorem zn6 : ∀ (m : Nat) (r : List U), SizeOf.sizeOf r ≤ m → HasRow Tryd.prog 24 r → ∃ e : Exp, r = e.row
 | 0, r, hm, _ => by cases r <;> simp at hm
 | m + 1, r, hm, h => by
  obtain ⟨rs, hr, h⟩ := h.of_struct zqD
  match rs, h with
  | [a, b, c, d, f], h =>
   obtain ⟨h1, h2, h3, h4, h5, _⟩ := h
   obtain ⟨x, rfl, _⟩ := h1.of_int io3
   obtain ⟨y, rfl, _⟩ := h2.of_int io3
   obtain ⟨z, rfl, _⟩ := h3.of_int io3
   obtain ⟨s, rfl, _⟩ := h4.of_str (by simp)
   obtain ⟨rows, rfl, _, h6⟩ := h5.of_slice zrE
   have hsz : ∀ q ∈ rows, SizeOf.sizeOf q ≤ m := fun q hq => by
    have := List.sizeOf_lt_of_mem hq
    rw [hr] at hm
    simp at hm
    omega
   obtain ⟨l, rfl, _⟩ := rows_list Exp.row (fun _ => True) (rows := rows) fun q hq => by
    obtain ⟨e, he⟩ := zn6 m q (hsz q hq) (h6 q hq)
    exact ⟨e, he, trivial⟩
   exact ⟨.mk x y z s l, by rw [hr, Exp.row_eq]; rfl⟩
theorem zeH {r : List U} (h : HasRow Tryd.prog 24 r) : ∃ e : Exp, r = [.int .i64 e.op, .int .i64 e.n, .int .i64 e.unit, .str e.s, .sl (e.args.map Exp.row)] := by
 obtain ⟨e, rfl⟩ := zn6 _ r (Nat.le_refl _) h
 exact ⟨e, e.row_eq⟩
theorem zn1 {r : List U} (h : HasRow Tryd.prog 27 r) : ∃ l : Let, r = [.str l.name, .int .i64 l.body.op, .int .i64 l.body.n, .int .i64 l.body.unit, .str l.body.s, .sl (l.body.args.map Exp.row)] ∧ True := by
 obtain ⟨rs, hr, h⟩ := h.of_struct zrt
 match rs, h with
 | [a, b], h =>
  obtain ⟨h1, h2, _⟩ := h
  obtain ⟨x, rfl, _⟩ := h1.of_str (by simp)
  obtain ⟨e, rfl⟩ := zeH h2
  exact ⟨⟨x, e⟩, by rw [hr]; rfl, trivial⟩
theorem zpc {r : List U} (h : HasRow Tryd.prog 33 r) : ∃ c : Var, r = [.str c.name, .int .i64 c.unit, .int .i64 c.n] ∧ True := by
 obtain ⟨rs, hr, h⟩ := h.of_struct zrs
 match rs, h with
 | [a, b, c], h =>
  obtain ⟨h1, h2, h3, _⟩ := h
  obtain ⟨x, rfl, _⟩ := h1.of_str (by simp)
  obtain ⟨y, rfl, _⟩ := h2.of_int io3
  obtain ⟨z, rfl, _⟩ := h3.of_int io3
  exact ⟨⟨x, y, z⟩, hr, trivial⟩
theorem zoy {u : U} (h : ArgU Tryd.prog 30 u) : ∃ l, u = zaw l := by
 obtain ⟨rows, h1, _, h2⟩ := (h.one (by simp) (by simp)).of_slice zrc
 obtain ⟨l, rfl, _⟩ := rows_list (fun l : Let => [.str l.name, .int .i64 l.body.op, .int .i64 l.body.n, .int .i64 l.body.unit, .str l.body.s, .sl (l.body.args.map Exp.row)]) (fun _ => True) fun r hr => zn1 (h2 r hr)
 exact ⟨l, by simp at h1; exact h1⟩
theorem zoi {u : U} (h : ArgU Tryd.prog 25 u) : ∃ l : List Var, u = .sl (l.map fun v => [.str v.name, .int .i64 v.unit, .int .i64 v.n]) := by
 obtain ⟨rows, h1, _, h2⟩ := (h.one (by simp) (by simp)).of_slice zrD
 obtain ⟨l, rfl, _⟩ := rows_list (fun v : Var => [.str v.name, .int .i64 v.unit, .int .i64 v.n]) (fun _ => True) fun r hr => zpc (h2 r hr)
 exact ⟨l, by simp at h1; exact h1⟩
theorem zpf {u : U} (h : ArgU Tryd.prog 9 u) : ∃ n, u = .str n := by
 obtain ⟨n, h1, _⟩ := (h.one (by simp) (by simp)).of_str (by simp)
 exact ⟨n, by simpa using h1⟩
theorem zqt {r : List U} (h : HasRow Tryd.prog 46 r) : ∃ b : By, r = zb0 b := by
 obtain ⟨rs, hr, h⟩ := h.of_struct zqC
 match rs, h with
 | [a1, a2, a3, a4, a5, a6, a7, a8, a9, a10, a11, a12, a13, a14, a15, a16, a17], h =>
  obtain ⟨h1, h2, h3, h4, h5, h6, h7, h8, h9, h10, h11, h12, h13, h14, h15, h16, h17, _⟩ := h
  obtain ⟨x1, rfl, _⟩ := h1.of_int io3
  obtain ⟨x2, rfl, _⟩ := h2.of_int io3
  obtain ⟨x3, rfl, _⟩ := h3.of_int io3
  obtain ⟨x4, rfl, _⟩ := h4.of_int io3
  obtain ⟨x5, rfl, _⟩ := h5.of_int io3
  obtain ⟨x6, rfl, _⟩ := h6.of_int io3
  obtain ⟨x7, rfl⟩ := h7.of_bool (by simp)
  obtain ⟨x8, rfl, _⟩ := h8.of_int io3
  obtain ⟨x9, rfl, _⟩ := h9.of_int io3
  obtain ⟨x10, rfl, _⟩ := h10.of_int io3
  obtain ⟨x11, rfl, _⟩ := h11.of_int io3
  obtain ⟨rows, rfl, _, h12⟩ := h12.of_slice zrc
  obtain ⟨l, rfl, _⟩ := rows_list (fun l : Let => [.str l.name, .int .i64 l.body.op, .int .i64 l.body.n, .int .i64 l.body.unit, .str l.body.s, .sl (l.body.args.map Exp.row)]) (fun _ => True) (rows := rows) fun r hr => zn1 (h12 r hr)
  obtain ⟨e1, rfl⟩ := zeH h13
  obtain ⟨e2, rfl⟩ := zeH h14
  obtain ⟨e3, rfl⟩ := zeH h15
  obtain ⟨e4, rfl⟩ := zeH h16
  obtain ⟨e5, rfl⟩ := zeH h17
  exact ⟨⟨x1, x2, x3, x4, x5, x6, x7, x8, x9, x10, x11, l, e1, e2, e3, e4, e5⟩, by rw [hr]; rfl⟩
end Go.Proofs.YtfcopibncpkdoaaDoor
namespace Go.VL
open Go
open Go.ChangeShapes Go.WideShapes Go.ChangeAt Go.WideMaps Go.WideElems Go.RowKit
theorem znq {H : Type} {enc : TypeId × Value → H} {C : Checked} {os : Os} {f : FuncId} {fn : Func} {s : ChangeSpec} {conds : List PathCond} {apart fresh handsOn again : Bool} {tb : TypeId} {laid : List (String × DataW Unit)}
  (own : ownKnob C.prog.godebug = none) (started : os.Started) (noInit : C.prog.inits.idxOf? f = none) (hfn : C.prog.funcs[f]? = some fn)
  (witness : ∃ (w : World) (tape : Tape) (i : Input), w.os = os ∧ (w.forCall tape i).Shaped C.prog ∧ i.vars = [] ∧ Input.okWide C.prog (w.forCall tape i) .any w.heap.size f i ∧
    ((s.pre enc C.prog fn conds apart (w.forCall tape i).memory i.args ∧ laidMetH C.prog laid (w.forCall tape i).memory) ∧ sizedMet enc C.prog fn (OpenSpec.ofChange s) apart (w.forCall tape i).memory i.args) ∧ (({} : Assume)).holds C.prog (lone (Frame.enter C.prog f i.args .normal) [] (w.forCall tape i)))
  (hl : laidOutB C.prog = true) (hseq : zgT C.prog = true) (hpar : (fn.params.toList.all fun t => C.prog.readableRec t && decide (t < C.prog.types.size)) = true)
  (hvars : s.vars = []) (hspec : ∀ ds : List (DataW H), ds.length = fn.params.size → s.fn H ds = { results := [.lit (.bool true)], args := ds })
  (hres : fn.resultTypes = #[tb]) (htb : C.prog.underlying tb = some .bool)
  (hfun : ∀ us : List U, znU C.prog fn.params.toList us → Fun C.prog f (us.map .u) (· = .u (.bool true))) (hglob : ∀ W : World, laidMetH C.prog laid W → GlobIn (zh6 W)) :
  ReturnsInHanded {} C os f .any (fun w args => (s.pre enc C.prog fn conds apart w args ∧ laidMetH C.prog laid w) ∧ sizedMet enc C.prog fn (OpenSpec.ofChange s) apart w args) (s.post enc C.prog fn apart fresh handsOn again) := by
 refine returnsInHanded_of_change_and (X := fun w _ => laidMetH C.prog laid w) (fun _ _ _ hh h => h.of_heap hh) own started noInit hfn witness ?_
 intro W base args ds gs before hval hW _ _ hL _
 have hpar' : ∀ t ∈ fn.params.toList, C.prog.readableRec t = true ∧ t < C.prog.types.size := by
  intro t ht
  have := List.all_eq_true.1 hpar t ht
  simpa using this
 have hW' := hW
 obtain ⟨p, q, hA, hV, rfl, hfz, hnd⟩ := hW
 rw [hvars] at hV
 obtain ⟨rfl, rfl⟩ := trodVars_none hV
 have hlt : ∀ x ∈ p, x.block < W.heap.size := fun x hx => hW'.lt x (by simp [hx])
 obtain ⟨us, h1, h2⟩ := zkx hseq hA (fun t ht => (hpar' t ht).2) (fun j t v ht hv => hval j t v (by simpa using ht) (by simpa using hv))
 refine (zi7 (hfun us h1) (hglob W hL) h2).mono ?_
 rintro e W' ⟨rfl, hb⟩
 have hdl : ds.length = fn.params.size := by
  have : ∀ {ts : List TypeId} {vs : List Value} {ds : List (DataW H)} {p : List MemPlace}, DataW.TrodAll enc C.prog W 0 (fun _ => true) true ts vs ds p → ds.length = ts.length := by
   intro ts
   induction ts with
   | nil => intro vs ds p h; cases vs <;> cases ds <;> simp_all [DataW.TrodAll]
   | cons t ts ih =>
    intro vs ds p h
    cases vs <;> cases ds <;> simp only [DataW.TrodAll] at h
    obtain ⟨p, q, _, h2, _⟩ := h
    simp [ih h2]
  simpa using this hA
 have hs := hspec ds hdl
 refine ⟨_, rfl, zkQ (pa := p) (pv := []) hW' (fun b sp hd => ?_) (fun sp hsp => ?_) (fun sp _ => ?_) rfl hb (fun j t r ht hr => ?_)⟩
 ·rw [List.append_nil, hs, hres]
  exact trodAll_mk1 ⟨1, by simp [DataW.trod, Value.cells, htb]⟩
 ·rw [List.append_nil, hs]
  exact zeT hl hb hpar' hA hlt fun x hx => hsp x (by simp [hx])
 ·rw [List.append_nil, hs, hvars]
  try rfl
 ·rw [hres] at ht hr
  cases j with
  | zero =>
   simp at ht
   subst ht
   simp [Value.resultList] at hr
   subst hr
   simp [Value.okWide, htb, Cell.okWide, Cell.ok]
  | succ j => simp at ht
/-- The cells of a listed array of strings. -/
theorem zh1 {P : Program} {w : World} {n : String} {g : Nat} {t e : TypeId} {cs : Array Value} {L : List (List UInt8)} {fuel : Nat} {H : Type} {enc : TypeId × Value → H} {base : Nat} {spare : Nat → Bool} {held : Bool} {q : List MemPlace}
  (hg : P.globalNamed n = some g) (hv : w.var? P n = some cs) (ht : P.underlying t = some (.array L.length e)) (he : P.underlying e = some .string) (hc : P.cellsOf e = 1)
  (hd : DataW.trod enc P w base spare held fuel t cs.toList = some (.agg (L.map fun b => .lit (.string b)), q)) : ∀ (j : Nat) (b : List UInt8), L[j]? = some b → w.cell? ⟨g, j, none⟩ = some (.string ⟨b.toArray⟩) := by
 intro j b hj
 obtain ⟨xs, m1, rfl, hx1, hlen, hn3, hel⟩ := DataW.trod_array ht hd
 have hjl := (List.getElem?_eq_some_iff.1 hj).1
 have h := hel j hjl
 rw [hc, Nat.mul_one] at h
 simp only [Prod.mk.injEq, DataW.agg.injEq] at hx1
 obtain ⟨x, hx⟩ : ∃ x, xs[j]? = some x := ⟨_, List.getElem?_eq_getElem (by omega)⟩
 rw [hx] at h
 obtain ⟨s, h1, h2, _⟩ := DataW.trod_string he h
 have h3 : (L.map fun b => (DataW.lit (.string b) : DataW H))[j]? = (xs.map (·.1))[j]? := by rw [hx1.1]
 rw [List.getElem?_map, List.getElem?_map, hj, hx, h2] at h3
 simp only [Option.map_some, Option.some.injEq, DataW.lit.injEq, Lit.string.injEq] at h3
 have h4 : (cs.toList.drop j)[0]? = some (.string s) := by
  have : ((cs.toList.drop j).take 1)[0]? = some (.string s) := by rw [h1]; rfl
  simpa [List.getElem?_take] using this
 rw [List.getElem?_drop, Nat.add_zero] at h4
 rw [World.var?_cell hg hv j]
 rw [Array.getElem?_toList] at h4
 rw [h4, h3]
end Go.VL
namespace Go.Proofs.YtfcopibncpkdoaaDoor
open Go Go.VL
abbrev zmi : List (String × DataW Unit) := [("stokvel/lex.signs", Rows.laid_stokvel_lex_signs)]
theorem znA (os : Os) (args : Array Value) : laidMetH Tryd.prog zmi ((World.doorLaid Tryd.prog 400 os).forCall (fun _ _ => 0) ⟨#[], args, []⟩).memory :=
 laidMetH_of_parts3 (fuel := 8) (laidMet_of_run' 8 (by kernel_rfl) (by kernel_rfl)) (by kernel_rfl) (by kernel_rfl)
def signsA : List (List UInt8) := [[61, 61], [59], [44], [61], [60], [43], [45], [42], [47], [40], [41]]
theorem zmr (W : World) (h : laidMetH Tryd.prog zmi W) : GlobIn (zh6 W) := by
 rw [MakeChecks.laidMetH_plain _ _ _ (by kernel_rfl)] at h
 obtain ⟨ps, ⟨g0, t0, cs0, f0, p0, q0, hg0, ht0, hv0, hd0, _⟩, _⟩ := h
 obtain rfl : g0 = 0 := Option.some.inj (hg0.symm.trans (by kernel_rfl))
 have hu : Tryd.prog.underlying 159 = some (.array signsA.length 9) := by kernel_rfl
 obtain rfl : t0 = 159 := Option.some.inj (ht0.symm.trans (by kernel_rfl))
 have hc := zh1 (L := signsA) hg0 hv0 hu (by kernel_rfl) (by kernel_rfl) hd0
 intro p hp j hj
 simp only [globs, List.mem_cons, List.not_mem_nil, or_false] at hp
 subst hp
 have hj' : j < 11 := hj
 have hlen : signsA.length = 11 := rfl
 have hs : signsA[j]? = some (signsA.getD j []) := by
  rw [List.getElem?_eq_getElem (by omega)]
  simp [show j < signsA.length by omega]
 have h2 := zdq (hc j _ hs)
 have h3 : (Value.string ⟨(signsA.getD j []).toArray⟩) = (globs.head!.2.getD j undef) := by
  have : ∀ i, i < 11 → (Value.string ⟨(signsA.getD i []).toArray⟩) = (globs.head!.2.getD i undef) := by
   intro i hi
   match i, hi with
   | 0, _ | 1, _ | 2, _ | 3, _ | 4, _ | 5, _ | 6, _ | 7, _ | 8, _ | 9, _ | 10, _ => rfl
   | i + 11, h => omega
  exact this j hj'
 show VL.look W 0 j = some (.val (globs.head!.2.getD j undef))
 rw [← h3]
 exact h2
end Go.Proofs.YtfcopibncpkdoaaDoor
