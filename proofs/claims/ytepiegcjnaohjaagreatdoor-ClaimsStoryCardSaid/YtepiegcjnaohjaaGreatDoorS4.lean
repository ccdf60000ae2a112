/- Texts joined by a program of mine: Ea Eb Ec#p Ed#p My#p Uc Ed Er Et Ee Ya Yb Yc Yd Ye Yf Yg Yh Yi Yj Ud Uf Ug Uh Uo UP Ec Em Mc Md Mh#p Mk#p Uv Mo Ml#p MS Me Mf. -/
import Derived.Test.YtepiegcjnaohjaaGreatDoorS3
import Derived.Lib.ItoaNum
set_option linter.all false
set_option maxRecDepth 100000
set_option maxHeartbeats 8000000
namespace Go.Proofs.YtepiegcjnaohjaaGreatDoor
open Go Go.VL
attribute [local simp] zcR zb9 evPure opd uOf zaI St.put St.at getK binD binI binS binB nilD aggD zg9 zit lookD lookR zcz rangeS Go.VL.nextD Go.VL.nextS zcB ziI ziG zga zb6 mkV zbi zbh zcK zbg zbs zbB mapEff zdf zf6 Key.kk shiftI arith unD convD zdK loadD cellsAt fieldAddrD fieldD indexAddrD indexSlD arrAddr indexD sliceD cutD lenD minmaxD nilCheckD buildD fillD zbQ zcV zex setAll zcF zer zcs zhq zcq St.add zaU zbO rowsOf zdE zco zax zac zaa zby zdg za8 entry zbq zbv valD zb7 zcp zgE zdc zdd zbU zbJ zaA zaY zbt delAll effD St.effS zc4 zbj zbb zc5 zbk zbd zcm zbc za0 zcn zcW zbP zch zbw zcf zcg zaP mkD zbR zbF zbI zaA zcr D.ids Op.operands Call.operands zbN makeIfD makeFuncD typeAssertD zis zdw zdx zhx zcA IntKind.bits zcC List.take_of_length_le List.range_succ
attribute [local irreducible] V G H HD HD2 zan Eff CallP CallV EndOK Fun Ret FinOK LoopI LoopW EndW
theorem zml (c : UInt8) : Fun Tryz.prog 198 [.u (.int .u8 c.toNat)] (· = .u (.bool (zbG c))) := by
 unfold zbG
 (refine Fun.of_body Tryz.func198 rfl (by simp) fun Γ hn => ?_); simp only [entry, List.zipIdx_cons, List.zipIdx_nil, List.map_cons, List.map_nil, Nat.zero_add, Tryz.ntmps198]
 repeat' (first
  | (refine zag ?_; simp)
  | (refine zaj ?_; simp)
  | (refine zah ?_; simp)
  | (refine zas ?_; simp only [zan])
  | (refine ⟨fun hc => ?_, fun hc => ?_⟩ <;> (try (exfalso; omega)))
  | fail)
 all_goals
  (refine EndOK.val (.inr rfl) ?_; simp [zaC, zaf, zaw, Tryz.results198])
 all_goals first | omega | (rw [Bool.eq_iff_iff]; simp; omega) | (simp; omega)
theorem zlx (c : UInt8) : Fun Tryz.prog 244 [.u (.int .u8 c.toNat)] (· = .u (.bool (zcv c))) := by
 unfold zcv
 (refine Fun.of_body Tryz.func244 rfl (by simp) fun Γ hn => ?_); simp only [entry, List.zipIdx_cons, List.zipIdx_nil, List.map_cons, List.map_nil, Nat.zero_add, Tryz.ntmps244]
 repeat' (first
  | (refine zag ?_; simp)
  | (refine zaj ?_; simp)
  | (refine zah ?_; simp)
  | (refine zas ?_; simp only [zan])
  | (refine ⟨fun hc => ?_, fun hc => ?_⟩ <;> (try (exfalso; omega)))
  | (refine CallP.fun_ (zdl c) (by first | rfl | fail) (by first | assumption | (simp; done) | fail) (by first | (simp; done) | (simp; rfl) | fail) (by first | (simp; done) | fail) (fun d hd => ?_); subst hd; (try simp))
  | (refine CallP.fun_ (zdT c) (by first | rfl | fail) (by first | assumption | (simp; done) | fail) (by first | (simp; done) | (simp; rfl) | fail) (by first | (simp; done) | fail) (fun d hd => ?_); subst hd; (try simp))
  | fail)
 all_goals
  (refine EndOK.val (.inr rfl) ?_; simp [zaC, zaf, zaw, Tryz.results244])
 all_goals simp_all
theorem zcX (p : UInt8 → Bool) (l : List UInt8) : zb1 p l ≤ l.length := by
 unfold zb1
 exact (List.takeWhile_sublist p).length_le
theorem zk9 {p : UInt8 → Bool} {l : List UInt8} (h : zb1 p l = l.length) : ∀ c ∈ l, p c = true := by
 have : l.takeWhile p = l := (List.takeWhile_sublist p).eq_of_length h
 intro c hc
 rw [← this] at hc
 exact List.all_eq_true.1 (List.all_takeWhile (l := l) (p := p)) c hc
theorem zkh (s : List UInt8) (hl : s.length ≤ 1000000) : Fun Tryz.prog 245 [.u (.str s)] (· = .tup [.u (.int .i64 ((zeP s).getD 0)), .u (.bool (zeP s).isSome)]) := by
 have hsp := zev s hl 222 za6 (fun c _ => zdT c) (by simp)
 unfold zeP
 cases s with
 | nil =>
  (refine Fun.of_body Tryz.func245 rfl (by simp) fun Γ hn => ?_); simp only [entry, List.zipIdx_cons, List.zipIdx_nil, List.map_cons, List.map_nil, Nat.zero_add, Tryz.ntmps245]
  repeat' (first
  | (refine zag ?_; simp)
  | (refine zaj ?_; simp)
  | (refine zah ?_; simp)
  | (refine zai ?_; simp)
  | (refine zas ?_; simp only [zan])
  | fail)
  all_goals
   (refine EndOK.val (.inr rfl) ?_; simp [zaC, zaf, zaw, Tryz.results245])
 | cons c s =>
  by_cases h1 : zb1 za6 (c :: s) = (c :: s).length
  case neg =>
   rw [if_pos (.inr (.inl h1))]
   have h1' : ¬ (zb1 za6 (c :: s) : Int) = s.length + 1 := by simp at h1; omega
   (refine Fun.of_body Tryz.func245 rfl (by simp) fun Γ hn => ?_); simp only [entry, List.zipIdx_cons, List.zipIdx_nil, List.map_cons, List.map_nil, Nat.zero_add, Tryz.ntmps245]
   repeat' (first
  | (refine zag ?_; simp [h1'])
  | (refine zaj ?_; simp [h1'])
  | (refine zah ?_; simp [h1'])
  | (refine zai ?_; simp [h1'])
  | (refine zas ?_; simp only [zan])
  | (refine CallP.fun_ (hsp) (by first | rfl | fail) (by first | assumption | (simp; done) | fail) (by first | (simp [h1']; done) | (simp [h1']; rfl) | fail) (by first | (simp; done) | fail) (fun d hd => ?_); subst hd; (try simp [h1']))
  | fail)
   all_goals
    (refine EndOK.val (.inr rfl) ?_; simp [zaC, zaf, zaw, Tryz.results245])
  have h1' : (zb1 za6 (c :: s) : Int) = s.length + 1 := by simp at h1; omega
  by_cases h2 : c.toNat = 48 ∧ s ≠ []
  ·rw [if_pos (.inr (.inr (.inl ⟨by have := h2.1; simp; exact UInt8.toNat_inj.1 this, by simp; intro _; exact h2.2⟩)))]
   have h2b := h2.1
   have h2a := h2.2
   (refine Fun.of_body Tryz.func245 rfl (by simp) fun Γ hn => ?_); simp only [entry, List.zipIdx_cons, List.zipIdx_nil, List.map_cons, List.map_nil, Nat.zero_add, Tryz.ntmps245]
   repeat' (first
  | (refine zag ?_; simp [h1', h2a, h2b])
  | (refine zaj ?_; simp [h1', h2a, h2b])
  | (refine zah ?_; simp [h1', h2a, h2b])
  | (refine zai ?_; simp [h1', h2a, h2b])
  | (refine zas ?_; simp only [zan])
  | (refine CallP.fun_ (hsp) (by first | rfl | fail) (by first | assumption | (simp; done) | fail) (by first | (simp [h1', h2a, h2b]; done) | (simp [h1', h2a, h2b]; rfl) | fail) (by first | (simp; done) | fail) (fun d hd => ?_); subst hd; (try simp [h1', h2a, h2b]))
  | fail)
   all_goals
    (refine EndOK.val (.inr rfl) ?_; simp [zaC, zaf, zaw, Tryz.results245])
  have h2' : c.toNat = 48 → s = [] := fun h => by
   by_cases hs : s = []
   ·exact hs
   ·exact absurd ⟨h, hs⟩ h2
  by_cases h3 : 13 < (c :: s).length
  ·rw [if_pos (.inr (.inr (.inr h3)))]
   have h3' : 13 < (s.length : Int) + 1 := by simp at h3; omega
   have hne : s ≠ [] := fun e => by rw [e] at h3; simp at h3
   have h2'' : ¬ c.toNat = 48 := fun h => hne (h2' h)
   (refine Fun.of_body Tryz.func245 rfl (by simp) fun Γ hn => ?_); simp only [entry, List.zipIdx_cons, List.zipIdx_nil, List.map_cons, List.map_nil, Nat.zero_add, Tryz.ntmps245]
   repeat' (first
  | (refine zag ?_; simp [h1', h2'', h3'])
  | (refine zaj ?_; simp [h1', h2'', h3'])
  | (refine ⟨by omega, ?_⟩)
  | (refine zah ?_; simp [h1', h2'', h3'])
  | (refine zai ?_; simp [h1', h2'', h3'])
  | (refine zas ?_; simp only [zan])
  | (intro hc <;> (try (exfalso; omega)))
  | (refine CallP.fun_ (hsp) (by first | rfl | fail) (by first | assumption | (simp; done) | fail) (by first | (simp [h1', h2'', h3']; done) | (simp [h1', h2'', h3']; rfl) | fail) (by first | (simp; done) | fail) (fun d hd => ?_); subst hd; (try simp [h1', h2'', h3']))
  | fail)
   all_goals
    (refine EndOK.val (.inr rfl) ?_; simp [zaC, zaf, zaw, Tryz.results245])
  have hall := zk9 h1
  rw [if_neg (by
   simp only [not_or]
   refine ⟨by simp, fun h => h h1, fun h => ?_, h3⟩
   have hc48 : c = 48 := by have := h.1; simpa using this
   have := h2' (by rw [hc48]; rfl)
   rw [this, hc48] at h
   exact h.2 rfl)]
  have h3' : ¬ 13 < (s.length : Int) + 1 := by simp at h3; omega
  have hval : ∀ k, k ≤ (c :: s).length → 0 ≤ za5 ((c :: s).take k) ∧ za5 ((c :: s).take k) < 10 ^ 13 := fun k hk => by
   have h4 := zeH k ((c :: s).take k) (by simp; simp at hk; omega) (fun x hx => hall x (List.mem_of_mem_take hx))
   have : (10 : Int) ^ k ≤ 10 ^ 13 := by
    have := Nat.pow_le_pow_right (n := 10) (by omega) (show k ≤ 13 by simp at h3 hk; omega)
    exact_mod_cast this
   omega
  have hloop : ∀ (hw : c.toNat = 48 → s = []), Fun Tryz.prog 245 [.u (.str (c :: s))] (· = .tup [.u (.int .i64 ((if 1099511627776 < za5 (c :: s) then none else some (za5 (c :: s)) : Option Int).getD 0)), .u (.bool (if 1099511627776 < za5 (c :: s) then none else some (za5 (c :: s)) : Option Int).isSome)]) := fun hw => by
   by_cases h48 : c.toNat = 48
   ·have h48' : (c.toNat : Int) = 48 := by omega
    have hc48 : (c = 48) = True := eq_true (UInt8.toNat_inj.1 h48)
    have hs0 : (s = []) = True := eq_true (hw h48)
    (refine Fun.of_body Tryz.func245 rfl (by simp) fun Γ hn => ?_); simp only [entry, List.zipIdx_cons, List.zipIdx_nil, List.map_cons, List.map_nil, Nat.zero_add, Tryz.ntmps245]
    repeat' (first
  | (refine zag ?_; simp [h1', h3', h48', hc48, hs0])
  | (refine zaj ?_; simp [h1', h3', h48', hc48, hs0])
  | (refine zah ?_; simp [h1', h3', h48', hc48, hs0])
  | (refine zai ?_; simp [h1', h3', h48', hc48, hs0])
  | (refine zau ?_; simp [h1', h3', h48', hc48, hs0])
  | (refine zaq ?_; simp only [zan])
  | (refine CallP.fun_ (hsp) (by first | rfl | fail) (by first | assumption | (simp; done) | fail) (by first | (simp [h1', h3', h48', hc48, hs0]; done) | (simp [h1', h3', h48', hc48, hs0]; rfl) | fail) (by first | (simp; done) | fail) (fun d hd => ?_); subst hd; (try simp [h1', h3', h48', hc48, hs0]))
  | fail)
    refine zbr (α := { i : Nat // i ≤ (c :: s).length }) [0, 30] (fun i => [(4, .u (.int .i64 (za5 ((c :: s).take i.1)))), (31, .u (.int .i64 i.1))]) (fun i => (c :: s).length - i.1) ⟨0, by omega⟩ ?_ ?_
    ·exact (Wk.cut rfl (by simp [hn, St.lp]) (by simp [wkO, St.lp, zaa, getK, Ob.under, D.under, zad, zae, za5]) (by simp [wkU, St.lp, zak, zaa, getK, D.under, za5]) (by simp [wkE, St.lp, zak, zaa, getK, za5] <;> (try (intros; simp_all; done)) <;> (try (intros; omega)) <;> (try grind)))
    rintro ⟨i, hi⟩
    simp [St.lp, St.only, zak, zaa, getK]
    rcases hx : (c :: s)[i]? with _ | a
    ·have hge : (c :: s).length ≤ i := by simpa using hx
     obtain rfl : i = (c :: s).length := by omega
     rw [List.take_length]
     have hge2 : ¬ ((c :: s).length : Int) < s.length + 1 := by simp
     by_cases hb : 1099511627776 < za5 (c :: s)
     ·repeat' (first
  | (refine zag ?_; simp [hb, hge2])
  | (refine zaj ?_; simp [hb, hge2])
  | (refine zah ?_; simp [hb, hge2])
  | (refine zai ?_; simp [hb, hge2])
  | (refine zas ?_; simp only [zan])
  | (refine zaZ ?_; simp [zan])
  | fail)
      (refine EndOK.val (.inr rfl) ?_; simp [zaC, zaf, zaw, Tryz.results245])
      try simp [hb]
     ·repeat' (first
  | (refine zag ?_; simp [hb, hge2])
  | (refine zaj ?_; simp [hb, hge2])
  | (refine zah ?_; simp [hb, hge2])
  | (refine zai ?_; simp [hb, hge2])
  | (refine zas ?_; simp only [zan])
  | (refine zaq ?_; simp only [zan])
  | (refine zaZ ?_; simp [zan])
  | fail)
      (refine EndOK.val (.inr rfl) ?_; simp [zaC, zaf, zaw, Tryz.results245])
      try simp [hb]
    ·have hlt : i < (c :: s).length := (List.getElem?_eq_some_iff.1 hx).1
     have hlt2 : (i : Int) < s.length + 1 := by simp at hlt; omega
     have hd := hall a (List.mem_of_getElem? hx)
     simp only [za6, Bool.and_eq_true, decide_eq_true_eq] at hd
     have hv := hval i hi
     have hv2 := hval (i + 1) hlt
     have hsn : za5 ((c :: s).take (i + 1)) = 10 * za5 ((c :: s).take i) + ((a.toNat : Int) - 48) := by
      rw [List.take_succ, hx]; exact zdS _ _
     generalize za5 ((c :: s).take i) = dv at hv hsn
     have hsn2 := hsn.symm
     repeat' (first
  | (refine zag ?_; simp [hx, hlt2, hsn2])
  | (refine zaj ?_; simp [hx, hlt2, hsn2])
  | (refine ⟨by omega, ?_⟩)
  | (refine zah ?_; simp [hx, hlt2, hsn2])
  | (refine zap ?_; simp [hx, hlt2, hsn2])
  | (refine zaq ?_; simp only [zan])
  | fail)
     refine LoopW.next ⟨i + 1, hlt⟩ (by simp at hlt; simp; omega) ?_
     exact (Wk.cut rfl (by simp [hn, St.lp]) (by simp [wkO, St.lp, zaa, getK, Ob.under, D.under, zad, zae, hsn]) (by simp [wkU, St.lp, zak, zaa, getK, D.under, hsn]) (by simp [wkE, St.lp, zak, zaa, getK, hsn] <;> (try (intros; simp_all; done)) <;> (try (intros; omega)) <;> (try grind)))
   ·(refine Fun.of_body Tryz.func245 rfl (by simp) fun Γ hn => ?_); simp only [entry, List.zipIdx_cons, List.zipIdx_nil, List.map_cons, List.map_nil, Nat.zero_add, Tryz.ntmps245]
    repeat' (first
  | (refine zag ?_; simp [h1', h3', h48])
  | (refine zaj ?_; simp [h1', h3', h48])
  | (refine ⟨by omega, ?_⟩)
  | (refine zah ?_; simp [h1', h3', h48])
  | (refine zai ?_; simp [h1', h3', h48])
  | (refine zau ?_; simp [h1', h3', h48])
  | (refine zaq ?_; simp only [zan])
  | (intro hc <;> (try (exfalso; omega)))
  | (refine CallP.fun_ (hsp) (by first | rfl | fail) (by first | assumption | (simp; done) | fail) (by first | (simp [h1', h3', h48]; done) | (simp [h1', h3', h48]; rfl) | fail) (by first | (simp; done) | fail) (fun d hd => ?_); subst hd; (try simp [h1', h3', h48]))
  | fail)
    refine zbr (α := { i : Nat // i ≤ (c :: s).length }) [0, 30] (fun i => [(4, .u (.int .i64 (za5 ((c :: s).take i.1)))), (31, .u (.int .i64 i.1))]) (fun i => (c :: s).length - i.1) ⟨0, by omega⟩ ?_ ?_
    ·exact (Wk.cut rfl (by simp [hn, St.lp]) (by simp [wkO, St.lp, zaa, getK, Ob.under, D.under, zad, zae, za5]) (by simp [wkU, St.lp, zak, zaa, getK, D.under, za5]) (by simp [wkE, St.lp, zak, zaa, getK, za5] <;> (try (intros; simp_all; done)) <;> (try (intros; omega)) <;> (try grind)))
    rintro ⟨i, hi⟩
    simp [St.lp, St.only, zak, zaa, getK]
    rcases hx : (c :: s)[i]? with _ | a
    ·have hge : (c :: s).length ≤ i := by simpa using hx
     obtain rfl : i = (c :: s).length := by omega
     rw [List.take_length]
     have hge2 : ¬ ((c :: s).length : Int) < s.length + 1 := by simp
     by_cases hb : 1099511627776 < za5 (c :: s)
     ·repeat' (first
  | (refine zag ?_; simp [hb, hge2])
  | (refine zaj ?_; simp [hb, hge2])
  | (refine zah ?_; simp [hb, hge2])
  | (refine zai ?_; simp [hb, hge2])
  | (refine zas ?_; simp only [zan])
  | (refine zaZ ?_; simp [zan])
  | fail)
      (refine EndOK.val (.inr rfl) ?_; simp [zaC, zaf, zaw, Tryz.results245])
      try simp [hb]
     ·repeat' (first
  | (refine zag ?_; simp [hb, hge2])
  | (refine zaj ?_; simp [hb, hge2])
  | (refine zah ?_; simp [hb, hge2])
  | (refine zai ?_; simp [hb, hge2])
  | (refine zas ?_; simp only [zan])
  | (refine zaq ?_; simp only [zan])
  | (refine zaZ ?_; simp [zan])
  | fail)
      (refine EndOK.val (.inr rfl) ?_; simp [zaC, zaf, zaw, Tryz.results245])
      try simp [hb]
    ·have hlt : i < (c :: s).length := (List.getElem?_eq_some_iff.1 hx).1
     have hlt2 : (i : Int) < s.length + 1 := by simp at hlt; omega
     have hd := hall a (List.mem_of_getElem? hx)
     simp only [za6, Bool.and_eq_true, decide_eq_true_eq] at hd
     have hv := hval i hi
     have hv2 := hval (i + 1) hlt
     have hsn : za5 ((c :: s).take (i + 1)) = 10 * za5 ((c :: s).take i) + ((a.toNat : Int) - 48) := by
      rw [List.take_succ, hx]; exact zdS _ _
     generalize za5 ((c :: s).take i) = dv at hv hsn
     have hsn2 := hsn.symm
     repeat' (first
  | (refine zag ?_; simp [hx, hlt2, hsn2])
  | (refine zaj ?_; simp [hx, hlt2, hsn2])
  | (refine ⟨by omega, ?_⟩)
  | (refine zah ?_; simp [hx, hlt2, hsn2])
  | (refine zap ?_; simp [hx, hlt2, hsn2])
  | (refine zaq ?_; simp only [zan])
  | fail)
     refine LoopW.next ⟨i + 1, hlt⟩ (by simp at hlt; simp; omega) ?_
     exact (Wk.cut rfl (by simp [hn, St.lp]) (by simp [wkO, St.lp, zaa, getK, Ob.under, D.under, zad, zae, hsn]) (by simp [wkU, St.lp, zak, zaa, getK, D.under, hsn]) (by simp [wkE, St.lp, zak, zaa, getK, hsn] <;> (try (intros; simp_all; done)) <;> (try (intros; omega)) <;> (try grind)))
  exact hloop h2'
theorem ziZ (s p : List UInt8) : Fun Tryz.prog 282 [.u (.str s), .u (.str p)] (· = .u (.bool (p.isPrefixOf s))) := by
 by_cases hl : p.length ≤ s.length
 ·have hl2 : (p.length : Int) ≤ s.length := by omega
  by_cases he : s.take p.length = p
  ·have hp : p.isPrefixOf s = true := List.isPrefixOf_iff_prefix.2 (List.prefix_iff_eq_take.2 he.symm)
   (refine Fun.of_body Tryz.func282 rfl (by simp) fun Γ hn => ?_); simp only [entry, List.zipIdx_cons, List.zipIdx_nil, List.map_cons, List.map_nil, Nat.zero_add, Tryz.ntmps282]
   repeat' (first
  | (refine zag ?_; simp [hl, hl2, he])
  | (refine zaj ?_; simp [hl, hl2, he])
  | (refine zah ?_; simp [hl, hl2, he])
  | (refine zas ?_; simp only [zan])
  | fail)
   all_goals
    (refine EndOK.val (.inr rfl) ?_; simp [zaC, zaf, zaw, Tryz.results282])
   all_goals first | (rw [hp]; done) | exact List.isPrefixOf_iff_prefix.1 hp | (simp [hp]; done) | rfl
  ·have hp : p.isPrefixOf s = false := by
    cases h : p.isPrefixOf s with
    | false => rfl
    | true => exact absurd (List.prefix_iff_eq_take.1 (List.isPrefixOf_iff_prefix.1 h)).symm he
   (refine Fun.of_body Tryz.func282 rfl (by simp) fun Γ hn => ?_); simp only [entry, List.zipIdx_cons, List.zipIdx_nil, List.map_cons, List.map_nil, Nat.zero_add, Tryz.ntmps282]
   repeat' (first
  | (refine zag ?_; simp [hl, hl2, he])
  | (refine zaj ?_; simp [hl, hl2, he])
  | (refine zah ?_; simp [hl, hl2, he])
  | (refine zas ?_; simp only [zan])
  | fail)
   all_goals
    (refine EndOK.val (.inr rfl) ?_; simp [zaC, zaf, zaw, Tryz.results282])
   all_goals first | (rw [hp]; done) | exact List.isPrefixOf_iff_prefix.1 hp | (simp [hp]; done) | rfl
 ·have hl2 : ¬ (p.length : Int) ≤ s.length := by omega
  have hp : p.isPrefixOf s = false := by
   cases h : p.isPrefixOf s with
   | false => rfl
   | true => exact absurd (List.isPrefixOf_iff_prefix.1 h).length_le hl
  (refine Fun.of_body Tryz.func282 rfl (by simp) fun Γ hn => ?_); simp only [entry, List.zipIdx_cons, List.zipIdx_nil, List.map_cons, List.map_nil, Nat.zero_add, Tryz.ntmps282]
  repeat' (first
  | (refine zag ?_; simp [hl, hl2])
  | (refine zaj ?_; simp [hl, hl2])
  | (refine zah ?_; simp [hl, hl2])
  | (refine zas ?_; simp only [zan])
  | fail)
  all_goals
   (refine EndOK.val (.inr rfl) ?_; simp [zaC, zaf, zaw, Tryz.results282])
  all_goals first | (rw [hp]; done) | exact List.isPrefixOf_iff_prefix.1 hp | (simp [hp]; done) | rfl
theorem zj9 (s p : List UInt8) : Fun Tryz.prog 246 [.u (.str s), .u (.str p)] (· = .u (.bool (p.isPrefixOf s))) := by
 have h := ziZ s p
 (refine Fun.of_body Tryz.func246 rfl (by simp) fun Γ hn => ?_); simp only [entry, List.zipIdx_cons, List.zipIdx_nil, List.map_cons, List.map_nil, Nat.zero_add, Tryz.ntmps246]
 repeat' (first
  | (refine zag ?_; simp)
  | (refine zaj ?_; simp)
  | (refine zah ?_; simp)
  | (refine zas ?_; simp only [zan])
  | (refine CallP.fun_ (h) (by first | rfl | fail) (by first | assumption | (simp; done) | fail) (by first | (simp; done) | (simp; rfl) | fail) (by first | (simp; done) | fail) (fun d hd => ?_); subst hd; (try simp))
  | fail)
 (refine EndOK.val (.inr rfl) ?_; simp [zaC, zaf, zaw, Tryz.results246])
@[local simp] theorem zoM : zi9 1 = .u (.row (signsL.map .str) 0) := by
 simp [zi9, globs, signsL, uOf]
theorem hsl : signsL.length = 11 := rfl
theorem zmQ (s : List UInt8) (hs : s ≠ []) (hl : s.length ≤ 1000000) : Fun Tryz.prog 199 [.u (.str s)] (· = nextD s) := by
 obtain ⟨c, r, rfl⟩ : ∃ c r, s = c :: r := by cases s with | nil => exact absurd rfl hs | cons c r => exact ⟨c, r, rfl⟩
 have h1 := zdl c
 have h2 := zdT c
 have h3 := zev (c :: r) hl 244 zcv (fun c _ => zlx c) (by simp)
 have h4 := zev (c :: r) hl 222 za6 (fun c _ => zdT c) (by simp)
 have h5 := zjr ((c :: r).take (zb1 zcv (c :: r)))
 have h6 := zkh ((c :: r).take (zb1 za6 (c :: r))) (by have := zcX za6 (c :: r); rw [List.length_take]; omega)
 have l1 : (zb1 zcv (c :: r) : Int) ≤ r.length + 1 := by have := zcX zcv (c :: r); simp at this; omega
 have l2 : (zb1 za6 (c :: r) : Int) ≤ r.length + 1 := by have := zcX za6 (c :: r); simp at this; omega
 have l1' : zb1 zcv (c :: r) ≤ r.length + 1 := by omega
 have l2' : zb1 za6 (c :: r) ≤ r.length + 1 := by omega
 unfold nextD zf8
 cases c1 : zcx c with
 | true =>
  rw [c1] at h1
  cases c3 : zhs ((c :: r).take (zb1 zcv (c :: r))) with
  | true =>
   rw [c3] at h5
   (refine Fun.of_body Tryz.func199 rfl (by simp) fun Γ hn => ?_); simp only [entry, List.zipIdx_cons, List.zipIdx_nil, List.map_cons, List.map_nil, Nat.zero_add, Tryz.ntmps199]
   repeat' (first
  | (refine zag ?_; simp [l1, l1'])
  | (refine zaj ?_; simp [l1, l1'])
  | (refine zah ?_; simp [l1, l1'])
  | (refine zai ?_; simp [l1, l1'])
  | (refine zas ?_; simp only [zan])
  | (refine zaq ?_; simp only [zan])
  | (refine CallP.fun_ (h1) (by first | rfl | fail) (by first | assumption | (simp; done) | fail) (by first | (simp [l1, l1']; done) | (simp [l1, l1']; rfl) | fail) (by first | (simp; done) | fail) (fun d hd => ?_); subst hd; (try simp [l1, l1']))
  | (refine CallP.fun_ (h3) (by first | rfl | fail) (by first | assumption | (simp; done) | fail) (by first | (simp [l1, l1']; done) | (simp [l1, l1']; rfl) | fail) (by first | (simp; done) | fail) (fun d hd => ?_); subst hd; (try simp [l1, l1']))
  | (refine CallP.fun_ (h5) (by first | rfl | fail) (by first | assumption | (simp; done) | fail) (by first | (simp [l1, l1']; done) | (simp [l1, l1']; rfl) | fail) (by first | (simp; done) | fail) (fun d hd => ?_); subst hd; (try simp [l1, l1']))
  | fail)
   (refine EndOK.val (.inr rfl) ?_; simp [zaC, zaf, zaw, Tryz.results199])
   simp [c1, c3]
  | false =>
   rw [c3] at h5
   (refine Fun.of_body Tryz.func199 rfl (by simp) fun Γ hn => ?_); simp only [entry, List.zipIdx_cons, List.zipIdx_nil, List.map_cons, List.map_nil, Nat.zero_add, Tryz.ntmps199]
   repeat' (first
  | (refine zag ?_; simp [l1, l1'])
  | (refine zaj ?_; simp [l1, l1'])
  | (refine zah ?_; simp [l1, l1'])
  | (refine zai ?_; simp [l1, l1'])
  | (refine zas ?_; simp only [zan])
  | (refine CallP.fun_ (h1) (by first | rfl | fail) (by first | assumption | (simp; done) | fail) (by first | (simp [l1, l1']; done) | (simp [l1, l1']; rfl) | fail) (by first | (simp; done) | fail) (fun d hd => ?_); subst hd; (try simp [l1, l1']))
  | (refine CallP.fun_ (h3) (by first | rfl | fail) (by first | assumption | (simp; done) | fail) (by first | (simp [l1, l1']; done) | (simp [l1, l1']; rfl) | fail) (by first | (simp; done) | fail) (fun d hd => ?_); subst hd; (try simp [l1, l1']))
  | (refine CallP.fun_ (h5) (by first | rfl | fail) (by first | assumption | (simp; done) | fail) (by first | (simp [l1, l1']; done) | (simp [l1, l1']; rfl) | fail) (by first | (simp; done) | fail) (fun d hd => ?_); subst hd; (try simp [l1, l1']))
  | fail)
   (refine EndOK.val (.inr rfl) ?_; simp [zaC, zaf, zaw, Tryz.results199])
   simp [c1, c3]
 | false =>
  rw [c1] at h1
  cases c2 : za6 c with
  | true =>
   rw [c2] at h2
   cases c3 : zeP ((c :: r).take (zb1 za6 (c :: r))) with
   | none =>
    rw [c3] at h6
    (refine Fun.of_body Tryz.func199 rfl (by simp) fun Γ hn => ?_); simp only [entry, List.zipIdx_cons, List.zipIdx_nil, List.map_cons, List.map_nil, Nat.zero_add, Tryz.ntmps199]
    repeat' (first
  | (refine zag ?_; simp [l2, l2'])
  | (refine zaj ?_; simp [l2, l2'])
  | (refine zah ?_; simp [l2, l2'])
  | (refine zai ?_; simp [l2, l2'])
  | (refine zas ?_; simp only [zan])
  | (refine CallP.fun_ (h1) (by first | rfl | fail) (by first | assumption | (simp; done) | fail) (by first | (simp [l2, l2']; done) | (simp [l2, l2']; rfl) | fail) (by first | (simp; done) | fail) (fun d hd => ?_); subst hd; (try simp [l2, l2']))
  | (refine CallP.fun_ (h2) (by first | rfl | fail) (by first | assumption | (simp; done) | fail) (by first | (simp [l2, l2']; done) | (simp [l2, l2']; rfl) | fail) (by first | (simp; done) | fail) (fun d hd => ?_); subst hd; (try simp [l2, l2']))
  | (refine CallP.fun_ (h4) (by first | rfl | fail) (by first | assumption | (simp; done) | fail) (by first | (simp [l2, l2']; done) | (simp [l2, l2']; rfl) | fail) (by first | (simp; done) | fail) (fun d hd => ?_); subst hd; (try simp [l2, l2']))
  | (refine CallP.fun_ (h6) (by first | rfl | fail) (by first | assumption | (simp; done) | fail) (by first | (simp [l2, l2']; done) | (simp [l2, l2']; rfl) | fail) (by first | (simp; done) | fail) (fun d hd => ?_); subst hd; (try simp [l2, l2']))
  | fail)
    (refine EndOK.val (.inr rfl) ?_; simp [zaC, zaf, zaw, Tryz.results199])
    simp [c1, c2, c3]
   | some n =>
    rw [c3] at h6
    (refine Fun.of_body Tryz.func199 rfl (by simp) fun Γ hn => ?_); simp only [entry, List.zipIdx_cons, List.zipIdx_nil, List.map_cons, List.map_nil, Nat.zero_add, Tryz.ntmps199]
    repeat' (first
  | (refine zag ?_; simp [l2, l2'])
  | (refine zaj ?_; simp [l2, l2'])
  | (refine zah ?_; simp [l2, l2'])
  | (refine zai ?_; simp [l2, l2'])
  | (refine zas ?_; simp only [zan])
  | (refine zaq ?_; simp only [zan])
  | (refine CallP.fun_ (h1) (by first | rfl | fail) (by first | assumption | (simp; done) | fail) (by first | (simp [l2, l2']; done) | (simp [l2, l2']; rfl) | fail) (by first | (simp; done) | fail) (fun d hd => ?_); subst hd; (try simp [l2, l2']))
  | (refine CallP.fun_ (h2) (by first | rfl | fail) (by first | assumption | (simp; done) | fail) (by first | (simp [l2, l2']; done) | (simp [l2, l2']; rfl) | fail) (by first | (simp; done) | fail) (fun d hd => ?_); subst hd; (try simp [l2, l2']))
  | (refine CallP.fun_ (h4) (by first | rfl | fail) (by first | assumption | (simp; done) | fail) (by first | (simp [l2, l2']; done) | (simp [l2, l2']; rfl) | fail) (by first | (simp; done) | fail) (fun d hd => ?_); subst hd; (try simp [l2, l2']))
  | (refine CallP.fun_ (h6) (by first | rfl | fail) (by first | assumption | (simp; done) | fail) (by first | (simp [l2, l2']; done) | (simp [l2, l2']; rfl) | fail) (by first | (simp; done) | fail) (fun d hd => ?_); subst hd; (try simp [l2, l2']))
  | fail)
    (refine EndOK.val (.inr rfl) ?_; simp [zaC, zaf, zaw, Tryz.results199])
    simp [c1, c2, c3]
  | false =>
   rw [c2] at h2
   (refine Fun.of_body Tryz.func199 rfl (by simp) fun Γ hn => ?_); simp only [entry, List.zipIdx_cons, List.zipIdx_nil, List.map_cons, List.map_nil, Nat.zero_add, Tryz.ntmps199]
   repeat' (first
  | (refine zag ?_; simp [hsl, List.take_of_length_le])
  | (refine zaj ?_; simp [hsl, List.take_of_length_le])
  | (refine zah ?_; simp [hsl, List.take_of_length_le])
  | (refine zai ?_; simp [hsl, List.take_of_length_le])
  | (refine zau ?_; simp [hsl, List.take_of_length_le])
  | (refine zaq ?_; simp only [zan])
  | (refine CallP.fun_ (h1) (by first | rfl | fail) (by first | assumption | (simp; done) | fail) (by first | (simp [hsl, List.take_of_length_le]; done) | (simp [hsl, List.take_of_length_le]; rfl) | fail) (by first | (simp; done) | fail) (fun d hd => ?_); subst hd; (try simp [hsl, List.take_of_length_le]))
  | (refine CallP.fun_ (h2) (by first | rfl | fail) (by first | assumption | (simp; done) | fail) (by first | (simp [hsl, List.take_of_length_le]; done) | (simp [hsl, List.take_of_length_le]; rfl) | fail) (by first | (simp; done) | fail) (fun d hd => ?_); subst hd; (try simp [hsl, List.take_of_length_le]))
  | fail)
   refine zbr (α := { i : Nat // i ≤ 11 ∧ ∀ x ∈ signsL.take i, x.isPrefixOf (c :: r) = false }) [0, 2, 3, 43] (fun i => [(44, .u (.int .i64 i.1))]) (fun i => 11 - i.1) ⟨0, by omega, by simp⟩ ?_ ?_
   ·exact (Wk.cut rfl (by simp [hn, St.lp]) (by simp [wkO, St.lp, zaa, getK, Ob.under, D.under, zad, zae]) (by simp [wkU, St.lp, zak, zaa, getK, D.under]) (by simp [wkE, St.lp, zak, zaa, getK] <;> (try (intros; simp_all; done)) <;> (try (intros; omega)) <;> (try grind)))
   rintro ⟨i, hi, hb⟩
   simp [St.lp, St.only, zak, zaa, getK]
   rcases hx : signsL[i]? with _ | x
   ·have hge : signsL.length ≤ i := by simpa using hx
    obtain rfl : i = 11 := by rw [hsl] at hge; omega
    have hnone : signsL.find? (fun x => x.isPrefixOf (c :: r)) = none := List.find?_eq_none.2 fun x hx => by
     rw [hb x (by rw [List.take_of_length_le (by rw [hsl]; omega)]; exact hx)]; simp
    repeat' (first
  | (refine zag ?_; simp)
  | (refine zaj ?_; simp)
  | (refine zah ?_; simp)
  | (refine zas ?_; simp only [zan])
  | (refine zaZ ?_; simp [zan])
  | fail)
    (refine EndOK.val (.inr rfl) ?_; simp [zaC, zaf, zaw, Tryz.results199])
    simp [c1, c2, hnone]
   ·have hlt : i < 11 := by have := (List.getElem?_eq_some_iff.1 hx).1; rw [hsl] at this; exact this
    have hlt2 : (i : Int) < 11 := by omega
    have hp := zj9 (c :: r) x
    by_cases hpx : x.isPrefixOf (c :: r) = true
    ·have hfind : signsL.find? (fun x => x.isPrefixOf (c :: r)) = some x := by
      have e : signsL = signsL.take i ++ x :: signsL.drop (i + 1) := by
       obtain ⟨h5, h6⟩ := List.getElem?_eq_some_iff.1 hx
       rw [← h6, List.getElem_cons_drop, List.take_append_drop]
      rw [e, List.find?_append, List.find?_eq_none.2 (fun y hy => by rw [hb y hy]; simp), List.find?_cons, hpx]
      rfl
     rw [hpx] at hp
     repeat' (first
  | (refine zag ?_; simp [hx, hsl, hlt2])
  | (refine zaj ?_; simp [hx, hsl, hlt2])
  | (refine zah ?_; simp [hx, hsl, hlt2])
  | (refine zai ?_; simp [hx, hsl, hlt2])
  | (refine zas ?_; simp only [zan])
  | (refine zaq ?_; simp only [zan])
  | (refine CallP.fun_ (hp) (by first | rfl | fail) (by first | assumption | (simp; done) | fail) (by first | (simp [hx, hsl, hlt2]; done) | (simp [hx, hsl, hlt2]; rfl) | fail) (by first | (simp; done) | fail) (fun d hd => ?_); subst hd; (try simp [hx, hsl, hlt2]))
  | fail)
     (refine EndOK.val (.inr rfl) ?_; simp [zaC, zaf, zaw, Tryz.results199])
     simp [c1, c2, hfind]
    ·rw [Bool.eq_false_iff.2 hpx] at hp
     repeat' (first
  | (refine zag ?_; simp [hx, hsl, hlt2])
  | (refine zaj ?_; simp [hx, hsl, hlt2])
  | (refine ⟨by omega, ?_⟩)
  | (refine zah ?_; simp [hx, hsl, hlt2])
  | (refine zai ?_; simp [hx, hsl, hlt2])
  | (refine zap ?_; simp [hx, hsl, hlt2])
  | (refine zaq ?_; simp only [zan])
  | (refine CallP.fun_ (hp) (by first | rfl | fail) (by first | assumption | (simp; done) | fail) (by first | (simp [hx, hsl, hlt2]; done) | (simp [hx, hsl, hlt2]; rfl) | fail) (by first | (simp; done) | fail) (fun d hd => ?_); subst hd; (try simp [hx, hsl, hlt2]))
  | fail)
     refine LoopW.next ⟨i + 1, by omega, fun y hy => ?_⟩ (by simp; omega) ?_
     ·rw [List.take_succ, hx] at hy
      rcases List.mem_append.1 hy with h | h
      ·exact hb y h
      ·simp at h; subst h; exact Bool.eq_false_iff.2 hpx
     ·exact (Wk.cut rfl (by simp [hn, St.lp]) (by simp [wkO, St.lp, zaa, getK, Ob.under, D.under, zad, zae]) (by simp [wkU, St.lp, zak, zaa, getK, D.under]) (by simp [wkE, St.lp, zak, zaa, getK] <;> (try (intros; simp_all; done)) <;> (try (intros; omega)) <;> (try grind)))
end Go.Proofs.YtepiegcjnaohjaaGreatDoor
namespace Go.Proofs.YtepiegcjnaohjaaGreatDoor
open Go Go.VL
/-- The tokens of a string from a place on. -/
def zlI : Nat → List UInt8 → Nat → Except (Nat × Int) (List Tok)
 | 0, _, _ => .ok []
 | f + 1, s, p =>
  match (s.drop (p + zb1 zbG (s.drop p))) with
  | [] => .ok [⟨0, [], 0, ((p + zb1 zbG (s.drop p) : Nat) : Int)⟩]
  | c :: r => match zf8 (c :: r) with
   | .error e => .error (p + zb1 zbG (s.drop p), e)
   | .ok t => match zlI f s (p + zb1 zbG (s.drop p) + t.text.length) with
    | .error x => .error x
    | .ok l => .ok ({ t with pos := ((p + zb1 zbG (s.drop p) : Nat) : Int) } :: l)
def zkT (s : List UInt8) : Except (Nat × Int) (List Tok) := if 2000 < s.length then .error (0, 6) else zlI (s.length + 1) s 0
def zgv : Except (Nat × Int) (List Tok) → D
 | .ok l => .tup [.u (.sl (l.map fun t => [.int .i64 t.kind, .str t.text, .int .i64 t.n, .int .i64 t.pos])), .u (.int .i64 0), .u (.int .i64 0)]
 | .error (p, e) => .tup [.u (.sl []), .u (.int .i64 p), .u (.int .i64 e)]
def zj8 (acc : List Tok) : Except (Nat × Int) (List Tok) → Except (Nat × Int) (List Tok)
 | .ok l => .ok (acc ++ l)
 | .error x => .error x
theorem zld (x) : zj8 [] x = x := by cases x <;> simp [zj8]
theorem zhC {p : UInt8 → Bool} {c : UInt8} {r : List UInt8} (h : p c = true) : 0 < zb1 p (c :: r) := by
 unfold zb1; rw [List.takeWhile_cons, if_pos h]; simp
theorem zeR {s : List UInt8} {t : Tok} (h : zf8 s = .ok t) : 0 < t.text.length ∧ t.text.length ≤ s.length := by
 unfold zf8 at h
 split at h
 ·cases h
 ·rename_i c r
  by_cases c1 : zcx c = true
  ·rw [if_pos c1] at h
   split at h
   ·cases h
    have h1 := zhC (p := zcv) (c := c) (r := r) (by simp [zcv, c1])
    have h2 := zcX zcv (c :: r)
    simp only [List.length_take]
    omega
   ·cases h
  ·rw [if_neg c1] at h
   by_cases c2 : za6 c = true
   ·rw [if_pos c2] at h
    split at h
    ·cases h
     have h1 := zhC (p := za6) (c := c) (r := r) c2
     have h2 := zcX za6 (c :: r)
     simp only [List.length_take]
     omega
    ·cases h
   ·rw [if_neg c2] at h
    split at h
    ·rename_i x hx
     cases h
     have h1 := List.find?_some hx
     have h2 := List.mem_of_find?_eq_some hx
     refine ⟨?_, (List.isPrefixOf_iff_prefix.1 h1).length_le⟩
     simp only [signsL, List.mem_cons, List.not_mem_nil, or_false] at h2
     rcases h2 with h | h | h | h | h | h | h | h | h | h | h <;> subst h <;> simp
    ·cases h
def zgO (l : List Tok) : List (List D) := l.map fun t => [.u (.int .i64 t.kind), .u (.str t.text), .u (.int .i64 t.n), .u (.int .i64 t.pos)]
theorem zbe (l : List Tok) : (zgO l).length = l.length := by simp [zgO]
theorem zhy (l : List Tok) : rowsD (l.map fun t => [U.int .i64 t.kind, .str t.text, .int .i64 t.n, .int .i64 t.pos]) = zgO l := by simp [rowsD, zgO, Function.comp_def]
theorem zjv (l : List Tok) : zcC (zgO l) = some (l.map fun t => [U.int .i64 t.kind, .str t.text, .int .i64 t.n, .int .i64 t.pos]) := by rw [← zhy]; simp
theorem zfG (l) : zbf (zgO l) = True := by rw [← zhy]; simp
theorem zeM (n : Nat) (l) : (∀ x ∈ zgO l, ∀ y ∈ x, D.under n y = true) ↔ True := by
 refine ⟨fun _ => trivial, fun _ x hx y hy => ?_⟩
 obtain ⟨b, _, rfl⟩ := List.mem_map.1 hx
 simp at hy
 rcases hy with rfl | rfl | rfl | rfl <;> simp [D.under]
end Go.Proofs.YtepiegcjnaohjaaGreatDoor
namespace Go.Proofs.YtepiegcjnaohjaaGreatDoor
open Go Go.VL
abbrev zk6 (l : List Tok) : U := .sl (l.map fun t => [.int .i64 t.kind, .str t.text, .int .i64 t.n, .int .i64 t.pos])
abbrev pOb (l : List Tok) (p : Nat) : Ob := .box [.u (zk6 l), .u (.int .i64 p)]
abbrev znM (l : List Tok) (p : Nat) : U := .row [zk6 l, .int .i64 p] 0
/-- Tokens as Lex makes them: the end comes last, and nowhere else. -/
structure TokOK (l : List Tok) : Prop where
 fin : ∀ (i : Nat) (t : Tok), l[i]? = some t → t.kind ≠ 0 → i + 1 < l.length
 len : l.length ≤ 1000000
def isB (l : List Tok) (p : Nat) (w : List UInt8) : Bool := match l[p]? with | some t => decide (t.kind ≠ 0) && decide (t.text = w) | none => false
theorem za2 {l : List Tok} {p : Nat} {w : List UInt8} (hl : TokOK l) (h : isB l p w = true) : p + 1 < l.length := by
 unfold isB at h
 split at h
 ·rename_i t ht
  simp only [Bool.and_eq_true, decide_eq_true_eq] at h
  exact hl.fin p t ht h.1
 ·cases h
end Go.Proofs.YtepiegcjnaohjaaGreatDoor
namespace Go.Proofs.YtepiegcjnaohjaaGreatDoor
open Go Go.VL
def inR (l : List Int) : List (List D) := l.map fun x => [.u (.int .i64 x)]
theorem zoe (l : List Int) : (inR l).length = l.length := by simp [inR]
theorem zof (S : D → Option U) (l : List Int) : (inR l).map (fun r => r.map (frzS S)) = inR l := by simp [inR, frzS]
theorem zgS (l) : zbf (inR l) = True := by
 have : inR l = rowsD (l.map fun x => [U.int .i64 x]) := by simp [rowsD, inR, Function.comp_def]
 rw [this]; simp
theorem zci (n : Nat) (l) : (∀ x ∈ inR l, ∀ y ∈ x, D.under n y = true) ↔ True := by
 refine ⟨fun _ => trivial, fun _ x hx y hy => ?_⟩
 obtain ⟨b, _, rfl⟩ := List.mem_map.1 hx
 simp at hy
 subst hy
 simp [D.under]
end Go.Proofs.YtepiegcjnaohjaaGreatDoor
namespace Go.Proofs.YtepiegcjnaohjaaGreatDoor
open Go Go.VL
attribute [local simp] HS zcR zb9 evPure opd uOf zaI St.put St.at getK binD binI binS binB nilD aggD zg9 zit lookD lookR zcz rangeS Go.VL.nextD Go.VL.nextS zcB ziI ziG zga zb6 mkV zbi zbh zcK zbg zbs zbB mapEff zdf zf6 Key.kk shiftI arith unD convD zdK loadD cellsAt fieldAddrD fieldD indexAddrD indexSlD arrAddr indexD sliceD cutD lenD minmaxD nilCheckD buildD fillD zbQ zcV zex setAll zcF zer zcs zhq zcq St.add zaU zbO rowsOf zdE zco zax zac zaa zby zdg za8 entry zbq zbv valD zb7 zcp zgE zdc zdd zbU zbJ zaA zaY zbt delAll effD St.effS zc4 zbj zbb zc5 zbk zbd zcm zbc za0 zcn zcW zbP zch zbw zcf zcg zaP mkD zbR zbF zbI zaA zcr D.ids Op.operands Call.operands zbN makeIfD makeFuncD typeAssertD zis zdw zdx zhx zcA IntKind.bits zcC List.take_of_length_le List.range_succ
attribute [local irreducible] V G H HD HD2 HD4 zmv RetX zan Eff CallP CallV EndOK Fun Ret FinOK LoopI LoopW EndW
def zdu (s : List UInt8) : Bool := zhs s && !words.contains s
set_option maxRecDepth 100000 in
theorem zfp (s : List UInt8) : Fun Tryz.prog 99 [.u (.str s)] (· = .u (.bool (zdu s))) := by
 have h1 := zhd words s
 have h2 := zjr s
 have h3 := zhJ
 generalize hw : words.contains s = w at h1
 simp only [zn2] at h1 h3
 generalize (words.map fun s => [U.str s]) = W at h1 h3
 unfold zdu
 rw [hw]
 clear hw
 generalize zhs s = b at h2 ⊢
 cases b
 all_goals
  (refine Fun.of_body Tryz.func99 rfl (by simp) fun Γ hn => ?_); simp only [entry, List.zipIdx_cons, List.zipIdx_nil, List.map_cons, List.map_nil, Nat.zero_add, Tryz.ntmps99]
  repeat' (first
  | (refine zag ?_; simp)
  | (refine zaj ?_; simp)
  | (refine zah ?_; simp)
  | (refine zas ?_; simp only [zan])
  | (refine CallP.fun_ (h1) (by first | rfl | fail) (by first | assumption | (simp; done) | fail) (by first | (simp; done) | (simp; rfl) | fail) (by first | (simp; done) | fail) (fun d hd => ?_); subst hd; (try simp))
  | (refine CallP.fun_ (h2) (by first | rfl | fail) (by first | assumption | (simp; done) | fail) (by first | (simp; done) | (simp; rfl) | fail) (by first | (simp; done) | fail) (fun d hd => ?_); subst hd; (try simp))
  | (refine CallP.fun_ (h3) (by first | rfl | fail) (by first | assumption | (simp; done) | fail) (by first | (simp; done) | (simp; rfl) | fail) (by first | (simp; done) | fail) (fun d hd => ?_); subst hd; (try simp))
  | fail)
  (refine EndOK.val (.inr rfl) ?_; simp [zaC, zaf, zaw, Tryz.results99])
def zew (op : Int) : Int := if op = 0 ∨ op = 1 then 0 else if op = 12 then 1 else if op = 13 then 3 else if op < 0 ∨ 14 ≤ op then -1 else 2
theorem zhX (op : Int) : Fun Tryz.prog 213 [.u (.int .i64 op)] (· = .u (.int .i64 (zew op))) := by
 unfold zew
 (refine Fun.of_body Tryz.func213 rfl (by simp) fun Γ hn => ?_); simp only [entry, List.zipIdx_cons, List.zipIdx_nil, List.map_cons, List.map_nil, Nat.zero_add, Tryz.ntmps213]
 repeat' (first
  | (refine zag ?_; simp)
  | (refine zaj ?_; simp)
  | (refine zah ?_; simp)
  | (refine zai ?_; simp)
  | (refine zau ?_; simp)
  | (refine zap ?_; simp)
  | (refine zas ?_; simp only [zan])
  | (refine zaq ?_; simp only [zan])
  | (refine ⟨?_, by omega⟩)
  | (refine ⟨fun hc => ?_, fun hc => ?_⟩ <;> (try (exfalso; omega)))
  | (intro hc <;> (try (exfalso; omega)))
  | fail)
 all_goals
  (refine EndOK.val (.inr rfl) ?_; simp [zaC, zaf, zaw, Tryz.results213])
 all_goals (repeat' split) <;> first | rfl | omega | simp_all
theorem zol : Exp.row = fun e => [.int .i64 e.op, .int .i64 e.n, .int .i64 e.unit, .str e.s, .sl (e.args.map Exp.row)] := funext fun e => e.row_eq
def zfX (e : Exp) : D := .u (.agg [.int .i64 e.op, .int .i64 e.n, .int .i64 e.unit, .str e.s, .sl (e.args.map Exp.row)])
def zoN (l : List Exp) : U := .sl (l.map fun e => [.int .i64 e.op, .int .i64 e.n, .int .i64 e.unit, .str e.s, .sl (e.args.map Exp.row)])
theorem zok (l : List Exp) : zoN l = .sl (l.map Exp.row) := by rw [zoN, ← zol]
theorem zkE (l : List (Exp)) (f : FuncId) (caps : List U) (p : Exp → Bool) (hf : ∀ n ∈ l, Fun Tryz.prog f (zfX n :: caps.map .u) (· = .u (.bool (p n)))) (hcl : zal Tryz.prog f = true)
  (hca : ∀ o, zcp o (caps.map .u) = some (caps.map .u, [])) : Fun Tryz.prog 272 [.u (zoN l), .fnc (.func f) (caps.map .u)] (· = .u (.int .i64 (zgx p l 0))) := by
 (refine Fun.of_body Tryz.func272 rfl (by simp) fun Γ hn => ?_); simp only [entry, List.zipIdx_cons, List.zipIdx_nil, List.map_cons, List.map_nil, Nat.zero_add, Tryz.ntmps272]
 simp only [zoN]
 refine zjl (x := 0) rfl fun hl => ?_
 simp at hl
 repeat' (first
  | (refine zag ?_; simp)
  | (refine zaj ?_; simp)
  | (refine zah ?_; simp)
  | (refine zau ?_; simp)
  | fail)
 refine zbr (α := { i : Nat // i ≤ l.length ∧ ∀ c ∈ l.take i, p c = false }) [0, 1, 7] (fun i => [(8, .u (.int .i64 i.1))]) (fun i => l.length - i.1) ⟨0, by omega, by simp⟩ ?_ ?_
 ·exact (Wk.env rfl rfl rfl (by simp [wkE, St.lp, zak, zaa, getK] <;> (try (intros; simp_all; done)) <;> (try (intros; omega)) <;> (try grind)))
 rintro ⟨i, hi, hb⟩
 simp [St.lp, St.only, zak, zaa, getK]
 rcases hx : l[i]? with _ | n
 ·have hge : l.length ≤ i := by simpa using hx
  repeat' (first
  | (refine zag ?_; simp [hx])
  | (refine zaj ?_; simp [hx])
  | (refine ⟨by omega, ?_⟩)
  | (refine zah ?_; simp [hx])
  | (refine zas ?_; simp only [zan])
  | (refine zaZ ?_; simp [zan])
  | (intro hc <;> (try (exfalso; omega)))
  | fail)
  (refine EndOK.val (.inr rfl) ?_; simp [zaC, zaf, zaw, Tryz.results272])
  rw [List.take_of_length_le hge] at hb
  exact (zeB hb).symm
 ·have hlt : i < l.length := (List.getElem?_eq_some_iff.1 hx).1
  have h1 := hf n (List.mem_of_getElem? hx)
  simp only [zfX] at h1
  cases hp : p n
  ·rw [hp] at h1
   repeat' (first
  | (refine zag ?_; simp [hx, hca])
  | (refine zaj ?_; simp [hx, hca])
  | (refine ⟨by omega, ?_⟩)
  | (refine zah ?_; simp [hx, hca])
  | (refine zai ?_; simp [hx, hca])
  | (refine zap ?_; simp [hx, hca])
  | (refine zaq ?_; simp only [zan])
  | (refine ⟨?_, by omega⟩)
  | (intro hc <;> (try (exfalso; omega)))
  | (refine CallP.fun_ (h1) (by first | rfl | fail) (by first | assumption | (simp; done) | fail) (by first | (simp [hx, hca]; done) | (simp [hx, hca]; rfl) | fail) (by first | (simp; done) | fail) (fun d hd => ?_); subst hd; (try simp [hx, hca]))
  | fail)
   refine LoopW.next ⟨i + 1, by omega, zbE hx hb hp⟩ (by simp; omega) ?_
   exact (Wk.env rfl rfl rfl (by simp [wkE, St.lp, zak, zaa, getK] <;> (try (intros; simp_all; done)) <;> (try (intros; omega)) <;> (try grind)))
  ·rw [hp] at h1
   repeat' (first
  | (refine zag ?_; simp [hx, hca])
  | (refine zaj ?_; simp [hx, hca])
  | (refine zah ?_; simp [hx, hca])
  | (refine zai ?_; simp [hx, hca])
  | (refine zas ?_; simp only [zan])
  | (refine zaq ?_; simp only [zan])
  | (refine ⟨?_, by omega⟩)
  | (intro hc <;> (try (exfalso; omega)))
  | (refine CallP.fun_ (h1) (by first | rfl | fail) (by first | assumption | (simp; done) | fail) (by first | (simp [hx, hca]; done) | (simp [hx, hca]; rfl) | fail) (by first | (simp; done) | fail) (fun d hd => ?_); subst hd; (try simp [hx, hca]))
  | fail)
   (refine EndOK.val (.inr rfl) ?_; simp [zaC, zaf, zaw, Tryz.results272])
   rw [zg4 hb hx hp]
   omega
theorem zhf (l : List (Exp)) (f : FuncId) (caps : List U) (p : Exp → Bool) (hf : ∀ n ∈ l, Fun Tryz.prog f (zfX n :: caps.map .u) (· = .u (.bool (p n)))) (hcl : zal Tryz.prog f = true)
  (hca : ∀ o, zcp o (caps.map .u) = some (caps.map .u, [])) (hcb : ∀ o, zbJ o (caps.map .u) = some (caps, [])) : Fun Tryz.prog 214 [.u (zoN l), .fnc (.func f) (caps.map .u)] (· = .u (.bool (l.any p))) := by
 have h1 := zkE l f caps p hf hcl hca
 (refine Fun.of_body Tryz.func214 rfl (by simp) fun Γ hn => ?_); simp only [entry, List.zipIdx_cons, List.zipIdx_nil, List.map_cons, List.map_nil, Nat.zero_add, Tryz.ntmps214]
 simp only [zoN] at h1 ⊢
 repeat' (first
  | (refine zag ?_; simp [hcb])
  | (refine zaj ?_; simp [hcb])
  | (refine zah ?_; simp [hcb])
  | (refine zas ?_; simp only [zan])
  | (refine CallP.fun_ (h1) (by first | rfl | fail) (by first | assumption | (simp; done) | fail) (by first | (simp [hcb]; done) | (simp [hcb]; rfl) | fail) (by first | (simp; done) | fail) (fun d hd => ?_); subst hd; (try simp [hcb]))
  | fail)
 (refine EndOK.val (.inr rfl) ?_; simp [zaC, zaf, zaw, Tryz.results214])
 have h2 := zg5 p l 0 (by omega)
 rw [Bool.eq_iff_iff]
 simpa using h2
def zqq (e : Exp) : Bool := decide (e.s = []) && decide (0 ≤ e.unit) && decide (e.unit < 5) && decide (0 ≤ e.n) && decide (e.n ≤ if e.unit = 0 then 1 else 1099511627776)
def zb3 : Nat → Exp → Bool
 | 0, _ => false
 | d + 1, e => decide ((e.args.length : Int) = zew e.op) && (if e.op = 0 then zqq e else if e.n ≠ 0 ∨ e.unit ≠ 0 then false else if e.op = 1 then zdu e.s else decide (e.s = []) && !e.args.any (fun x => !zb3 d x))
set_option maxRecDepth 100000 in
set_option maxHeartbeats 4000000 in
theorem zhG : ∀ (d : Nat) (e : Exp), (d : Int) ≤ 100 → Fun Tryz.prog 150 [zfX e, .u (.int .i64 d)] (· = .u (.bool (zb3 d e)))
 | 0, e, _ => by
  (refine Fun.of_body Tryz.func150 rfl (by simp) fun Γ hn => ?_); simp only [entry, List.zipIdx_cons, List.zipIdx_nil, List.map_cons, List.map_nil, Nat.zero_add, Tryz.ntmps150]
  simp only [zfX]
  repeat' (first
  | (refine zag ?_; simp)
  | (refine zaN rfl ?_; simp)
  | (refine zaj ?_; simp)
  | (refine zah ?_; simp)
  | (refine zai ?_; simp)
  | (refine zaS (hC _ (by kernel_rfl)) (hk _ ?_); clear hC hk C k; simp only [zan])
  | (refine zaM rfl (by kernel_rfl) (by first | (simp [hn]; done) | (simp [hn]; omega) | fail) fun C k hC hk => ?_; simp)
  | (refine zbl rfl (by simp) (fun hc => ?_) (fun hc => ?_) <;> (try simp at hc) <;> (try (exfalso; omega)) <;> (try simp))
  | (refine zas ?_; simp only [zan])
  | fail)
  (refine EndOK.val (.inr rfl) ?_; simp [zaC, zaf, zaw, Tryz.results150])
  rfl
 | d + 1, e, hd => by
  have hr : ∀ x : Exp, Fun Tryz.prog 215 (zfX x :: [U.row [.int .i64 ((d + 1 : Nat) : Int)] 0].map .u) (· = .u (.bool (!zb3 d x))) := fun x => by
   have h1 := zhG d x (by omega)
   (refine Fun.of_body Tryz.func215 rfl (by simp) fun Γ hn => ?_); simp only [entry, List.zipIdx_cons, List.zipIdx_nil, List.map_cons, List.map_nil, Nat.zero_add, Tryz.ntmps215]
   simp only [zfX] at h1 ⊢
   repeat' (first
  | (refine zag ?_; simp)
  | (refine zaj ?_; simp)
  | (refine ⟨by omega, ?_⟩)
  | (refine zah ?_; simp)
  | (refine zas ?_; simp only [zan])
  | (refine CallP.fun_ (h1) (by first | rfl | fail) (by first | assumption | (simp; done) | fail) (by first | (simp; done) | (simp; rfl) | fail) (by first | (simp; done) | fail) (fun d hd => ?_); subst hd; (try simp))
  | fail)
   (refine EndOK.val (.inr rfl) ?_; simp [zaC, zaf, zaw, Tryz.results215])
  have hcon := zhf e.args 215 [U.row [.int .i64 ((d + 1 : Nat) : Int)] 0] (fun x => !zb3 d x) (fun x _ => hr x) (by simp) (fun _ => rfl) (fun _ => rfl)
  have hnam := zfp e.s
  have hopr := zhX e.op
  simp only [List.map_cons, List.map_nil] at hcon
  rw [zb3]
  unfold zqq
  generalize (e.args.any fun x => !zb3 d x) = z at hcon ⊢
  generalize zdu e.s = nm at hnam ⊢
  generalize hop : zew e.op = oi at hopr ⊢
  (refine Fun.of_body Tryz.func150 rfl (by simp) fun Γ hn => ?_); simp only [entry, List.zipIdx_cons, List.zipIdx_nil, List.map_cons, List.map_nil, Nat.zero_add, Tryz.ntmps150]
  rw [zok] at hcon
  simp only [zfX]
  by_cases hlen : (e.args.length : Int) = oi
  case neg =>
   repeat' (first
  | (refine zag ?_; simp [hlen])
  | (refine zaN rfl ?_; simp [hlen])
  | (refine zb0 rfl ?_; simp [hlen])
  | (refine zaj ?_; simp [hlen])
  | (refine zah ?_; simp [hlen])
  | (refine zai ?_; simp [hlen])
  | (refine zaS (hC _ (by kernel_rfl)) (hk _ ?_); clear hC hk C k; simp only [zan])
  | (refine zaM rfl (by kernel_rfl) (by first | (simp [hn]; done) | (simp [hn]; omega) | fail) fun C k hC hk => ?_; simp [hlen])
  | (refine zbl rfl (by simp [hlen]) (fun hc => ?_) (fun hc => ?_) <;> (try simp [hlen] at hc) <;> (try (exfalso; omega)) <;> (try simp [hlen]))
  | (refine zas ?_; simp only [zan])
  | (refine CallV.fun_ (hopr) (by first | rfl | fail) (by first | assumption | (simp; done) | fail) (by first | (simp [hlen]; done) | (simp [hlen]; rfl) | fail) (by first | (simp; done) | fail) ?_ <;> (try simp [hlen]))
  | fail)
   (refine EndOK.val (.inr rfl) ?_; simp [zaC, zaf, zaw, Tryz.results150])
   try (simp_all; done)
  by_cases h0 : e.op = 0
  case pos =>
   by_cases hu : e.unit = 0
   all_goals
    repeat' (first
  | (refine zag ?_; simp [hlen, h0, hu])
  | (refine zaN rfl ?_; simp [hlen, h0, hu])
  | (refine zb0 rfl ?_; simp [hlen, h0, hu])
  | (refine zaj ?_; simp [hlen, h0, hu])
  | (refine zah ?_; simp [hlen, h0, hu])
  | (refine zai ?_; simp [hlen, h0, hu])
  | (refine zaS (hC _ (by kernel_rfl)) (hk _ ?_); clear hC hk C k; simp only [zan])
  | (refine zaM rfl (by kernel_rfl) (by first | (simp [hn]; done) | (simp [hn]; omega) | fail) fun C k hC hk => ?_; simp [hlen, h0, hu])
  | (refine zbl rfl (by simp [hlen, h0, hu]) (fun hc => ?_) (fun hc => ?_) <;> (try simp [hlen, h0, hu] at hc) <;> (try (exfalso; omega)) <;> (try simp [hlen, h0, hu]))
  | (refine zap ?_; simp [hlen, h0, hu])
  | (refine zas ?_; simp only [zan])
  | (refine zaq ?_; simp only [zan])
  | (refine ⟨fun hc => ?_, fun hc => ?_⟩ <;> (try (exfalso; omega)))
  | (refine CallV.fun_ (hopr) (by first | rfl | fail) (by first | assumption | (simp; done) | fail) (by first | (simp [hlen, h0, hu]; done) | (simp [hlen, h0, hu]; rfl) | fail) (by first | (simp; done) | fail) ?_ <;> (try simp [hlen, h0, hu]))
  | fail)
    all_goals
     (refine EndOK.val (.inr rfl) ?_; simp [zaC, zaf, zaw, Tryz.results150])
   all_goals clear hr hopr hcon hnam
   all_goals grind
  by_cases hnu : e.n ≠ 0 ∨ e.unit ≠ 0
  case pos =>
   repeat' (first
  | (refine zag ?_; simp [hlen, h0])
  | (refine zaN rfl ?_; simp [hlen, h0])
  | (refine zb0 rfl ?_; simp [hlen, h0])
  | (refine zaj ?_; simp [hlen, h0])
  | (refine zah ?_; simp [hlen, h0])
  | (refine zai ?_; simp [hlen, h0])
  | (refine zaS (hC _ (by kernel_rfl)) (hk _ ?_); clear hC hk C k; simp only [zan])
  | (refine zaM rfl (by kernel_rfl) (by first | (simp [hn]; done) | (simp [hn]; omega) | fail) fun C k hC hk => ?_; simp [hlen, h0])
  | (refine zbl rfl (by simp [hlen, h0]) (fun hc => ?_) (fun hc => ?_) <;> (try simp [hlen, h0] at hc) <;> (try (exfalso; omega)) <;> (try simp [hlen, h0]))
  | (refine zas ?_; simp only [zan])
  | (refine zaq ?_; simp only [zan])
  | (refine ⟨?_, by omega⟩)
  | (refine ⟨fun hc => ?_, fun hc => ?_⟩ <;> (try (exfalso; omega)))
  | (intro hc <;> (try (exfalso; omega)))
  | (refine CallV.fun_ (hopr) (by first | rfl | fail) (by first | assumption | (simp; done) | fail) (by first | (simp [hlen, h0]; done) | (simp [hlen, h0]; rfl) | fail) (by first | (simp; done) | fail) ?_ <;> (try simp [hlen, h0]))
  | fail)
   all_goals
    (refine EndOK.val (.inr rfl) ?_; simp [zaC, zaf, zaw, Tryz.results150])
   all_goals clear hr hopr hcon hnam
   all_goals grind
  by_cases h1 : e.op = 1
  case pos =>
   repeat' (first
  | (refine zag ?_; simp [hlen, h0, h1])
  | (refine zaN rfl ?_; simp [hlen, h0, h1])
  | (refine zb0 rfl ?_; simp [hlen, h0, h1])
  | (refine zaj ?_; simp [hlen, h0, h1])
  | (refine ⟨by omega, ?_⟩)
  | (refine zah ?_; simp [hlen, h0, h1])
  | (refine zai ?_; simp [hlen, h0, h1])
  | (refine zaS (hC _ (by kernel_rfl)) (hk _ ?_); clear hC hk C k; simp only [zan])
  | (refine zaM rfl (by kernel_rfl) (by first | (simp [hn]; done) | (simp [hn]; omega) | fail) fun C k hC hk => ?_; simp [hlen, h0, h1])
  | (refine zbl rfl (by simp [hlen, h0, h1]) (fun hc => ?_) (fun hc => ?_) <;> (try simp [hlen, h0, h1] at hc) <;> (try (exfalso; omega)) <;> (try simp [hlen, h0, h1]))
  | (refine zas ?_; simp only [zan])
  | (refine zaq ?_; simp only [zan])
  | (refine ⟨?_, by omega⟩)
  | (intro hc <;> (try (exfalso; omega)))
  | (refine CallV.fun_ (hopr) (by first | rfl | fail) (by first | assumption | (simp; done) | fail) (by first | (simp [hlen, h0, h1]; done) | (simp [hlen, h0, h1]; rfl) | fail) (by first | (simp; done) | fail) ?_ <;> (try simp [hlen, h0, h1]))
  | (refine CallP.fun_ (hnam) (by first | rfl | fail) (by first | assumption | (simp; done) | fail) (by first | (simp [hlen, h0, h1]; done) | (simp [hlen, h0, h1]; rfl) | fail) (by first | (simp; done) | fail) (fun d hd => ?_); subst hd; (try simp [hlen, h0, h1]))
  | fail)
   all_goals
    (refine EndOK.val (.inr rfl) ?_; simp [zaC, zaf, zaw, Tryz.results150])
   all_goals clear hr hopr hcon hnam
   all_goals grind
  by_cases hs : e.s = []
  all_goals
   repeat' (first
  | (refine zag ?_; simp [hlen, h0, h1, hs])
  | (refine zaN rfl ?_; simp [hlen, h0, h1, hs])
  | (refine zb0 rfl ?_; simp [hlen, h0, h1, hs])
  | (refine zaj ?_; simp [hlen, h0, h1, hs])
  | (refine ⟨by omega, ?_⟩)
  | (refine zah ?_; simp [hlen, h0, h1, hs])
  | (refine zai ?_; simp [hlen, h0, h1, hs])
  | (refine zaS (hC _ (by kernel_rfl)) (hk _ ?_); clear hC hk C k; simp only [zan])
  | (refine zaM rfl (by kernel_rfl) (by first | (simp [hn]; done) | (simp [hn]; omega) | fail) fun C k hC hk => ?_; simp [hlen, h0, h1, hs])
  | (refine zbl rfl (by simp [hlen, h0, h1, hs]) (fun hc => ?_) (fun hc => ?_) <;> (try simp [hlen, h0, h1, hs] at hc) <;> (try (exfalso; omega)) <;> (try simp [hlen, h0, h1, hs]))
  | (refine zas ?_; simp only [zan])
  | (refine zaq ?_; simp only [zan])
  | (refine ⟨?_, by omega⟩)
  | (intro hc <;> (try (exfalso; omega)))
  | (refine CallV.fun_ (hopr) (by first | rfl | fail) (by first | assumption | (simp; done) | fail) (by first | (simp [hlen, h0, h1, hs]; done) | (simp [hlen, h0, h1, hs]; rfl) | fail) (by first | (simp; done) | fail) ?_ <;> (try simp [hlen, h0, h1, hs]))
  | (refine CallP.fun_ (hcon) (by first | rfl | fail) (by first | assumption | (simp; done) | fail) (by first | (simp [hlen, h0, h1, hs]; done) | (simp [hlen, h0, h1, hs]; rfl) | fail) (by first | (simp; done) | fail) (fun d hd => ?_); subst hd; (try simp [hlen, h0, h1, hs]))
  | fail)
   all_goals
    (refine EndOK.val (.inr rfl) ?_; simp [zaC, zaf, zaw, Tryz.results150])
  all_goals clear hr hopr hcon hnam
  all_goals grind
theorem zhH (e : Exp) : Fun Tryz.prog 89 [zfX e] (· = .u (.bool (zb3 12 e))) := by
 have h1 := zhG 12 e (by omega)
 (refine Fun.of_body Tryz.func89 rfl (by simp) fun Γ hn => ?_); simp only [entry, List.zipIdx_cons, List.zipIdx_nil, List.map_cons, List.map_nil, Nat.zero_add, Tryz.ntmps89]
 simp only [zfX] at h1 ⊢
 repeat' (first
  | (refine zag ?_; simp)
  | (refine zaj ?_; simp)
  | (refine zah ?_; simp)
  | (refine zas ?_; simp only [zan])
  | (refine CallP.fun_ (h1) (by first | rfl | fail) (by first | assumption | (simp; done) | fail) (by first | (simp; done) | (simp; rfl) | fail) (by first | (simp; done) | fail) (fun d hd => ?_); subst hd; (try simp))
  | fail)
 (refine EndOK.val (.inr rfl) ?_; simp [zaC, zaf, zaw, Tryz.results89])
theorem zbS (l : List Tok) (p : Nat) (t : Tok) (hp : l[p]? = some t) (hl : l.length ≤ 1000000) : Fun Tryz.prog 127 [.u (znM l p)] (· = .u (.agg [.int .i64 t.kind, .str t.text, .int .i64 t.n, .int .i64 t.pos])) := by
 have hlt := (List.getElem?_eq_some_iff.1 hp).1
 unfold znM zk6
 (refine Fun.of_body Tryz.func127 rfl (by simp) fun Γ hn => ?_); simp only [entry, List.zipIdx_cons, List.zipIdx_nil, List.map_cons, List.map_nil, Nat.zero_add, Tryz.ntmps127]
 repeat' (first
  | (refine zag ?_; simp [hp])
  | (refine zaN rfl ?_; simp [hp])
  | (refine zbu rfl ?_; simp [hp])
  | (refine zaj ?_; simp [hp])
  | (refine zah ?_; simp [hp])
  | (refine zaS (hC _ (by kernel_rfl)) (hk _ ?_); clear hC hk C k; simp only [zan])
  | (refine zaM rfl (by kernel_rfl) (by first | (simp [hn]; done) | (simp [hn]; omega) | fail) fun C k hC hk => ?_; simp [hp])
  | (refine zas ?_; simp only [zan])
  | fail)
 (refine EndOK.val (.inr rfl) ?_; simp [zaC, zaf, zaw, Tryz.results127])
theorem zdC (l : List Tok) (p : Nat) (w : List UInt8) (hp : p < l.length) (hl : l.length ≤ 1000000) : Fun Tryz.prog 124 [.u (znM l p), .u (.str w)] (· = .u (.bool (isB l p w))) := by
 obtain ⟨t, ht⟩ : ∃ t, l[p]? = some t := ⟨_, List.getElem?_eq_getElem hp⟩
 have hnx := zbS l p t ht hl
 unfold isB
 rw [ht]
 unfold znM zk6 at *
 by_cases h1 : t.kind = 0
 ·(refine Fun.of_body Tryz.func124 rfl (by simp) fun Γ hn => ?_); simp only [entry, List.zipIdx_cons, List.zipIdx_nil, List.map_cons, List.map_nil, Nat.zero_add, Tryz.ntmps124]
  repeat' (first
  | (refine zag ?_; simp [h1])
  | (refine zaj ?_; simp [h1])
  | (refine zah ?_; simp [h1])
  | (refine zas ?_; simp only [zan])
  | (refine CallP.fun_ (hnx) (by first | rfl | fail) (by first | assumption | (simp; done) | fail) (by first | (simp [h1]; done) | (simp [h1]; rfl) | fail) (by first | (simp; done) | fail) (fun d hd => ?_); subst hd; (try simp [h1]))
  | fail)
  all_goals
    (refine EndOK.val (.inr rfl) ?_; simp [zaC, zaf, zaw, Tryz.results124])
  all_goals simp [h1]
 ·(refine Fun.of_body Tryz.func124 rfl (by simp) fun Γ hn => ?_); simp only [entry, List.zipIdx_cons, List.zipIdx_nil, List.map_cons, List.map_nil, Nat.zero_add, Tryz.ntmps124]
  repeat' (first
  | (refine zag ?_; simp [h1])
  | (refine zaj ?_; simp [h1])
  | (refine zah ?_; simp [h1])
  | (refine zas ?_; simp only [zan])
  | (refine CallP.fun_ (hnx) (by first | rfl | fail) (by first | assumption | (simp; done) | fail) (by first | (simp [h1]; done) | (simp [h1]; rfl) | fail) (by first | (simp; done) | fail) (fun d hd => ?_); subst hd; (try simp [h1]))
  | fail)
  all_goals
    (refine EndOK.val (.inr rfl) ?_; simp [zaC, zaf, zaw, Tryz.results124])
  all_goals simp [h1]
theorem za7 (l : List Tok) (p : Nat) (w : List UInt8) (i nx : Nat) (hi : i < nx) (hp : p < l.length) (hl : l.length ≤ 1000000) :
  RetX Tryz.prog 200 [.ptr i 0, .u (.str w)] [(i, pOb l p)] nx (fun r o n => r = .val (.u (.bool (isB l p w))) ∧ o = [(i, pOb l (if isB l p w = true then p + 1 else p))] ∧ n = nx) := by
 have h1 := zdC l p w hp hl
 unfold pOb znM zk6 at *
 cases hb : isB l p w with
 | false =>
  rw [hb] at h1
  (refine RetX.of_bodyW Tryz.func200 rfl (by simp) fun Γ hn hpan => ?_); simp only [entry, List.zipIdx_cons, List.zipIdx_nil, List.map_cons, List.map_nil, Nat.zero_add, Tryz.ntmps200]
  repeat' (first
  | (refine zag ?_; simp)
  | (refine zaj ?_; simp)
  | (refine zah ?_; simp)
  | (refine zai ?_; simp)
  | (refine zas ?_; simp only [zan])
  | (refine CallP.fun_ (h1) (by first | rfl | fail) (by first | assumption | (simp; done) | fail) (by first | (simp; done) | (simp; rfl) | fail) (by first | (simp; done) | fail) (fun d hd => ?_); subst hd; (try simp))
  | fail)
  (refine EndW.here ?_; (first | (refine EndOK.fin (.inr rfl) ?_) | (refine EndOK.fin (.inl rfl) ?_)); simp [zaC, zaf, Tryz.results200]; refine FinOK.here (by simp) ?_; try simp)
 | true =>
  rw [hb] at h1
  (refine RetX.of_bodyW Tryz.func200 rfl (by simp) fun Γ hn hpan => ?_); simp only [entry, List.zipIdx_cons, List.zipIdx_nil, List.map_cons, List.map_nil, Nat.zero_add, Tryz.ntmps200]
  repeat' (first
  | (refine zag ?_; simp)
  | (refine zaj ?_; simp)
  | (refine ⟨by omega, ?_⟩)
  | (refine zah ?_; simp)
  | (refine zai ?_; simp)
  | (refine zas ?_; simp only [zan])
  | (refine zaq ?_; simp only [zan])
  | (refine CallP.fun_ (h1) (by first | rfl | fail) (by first | assumption | (simp; done) | fail) (by first | (simp; done) | (simp; rfl) | fail) (by first | (simp; done) | fail) (fun d hd => ?_); subst hd; (try simp))
  | fail)
  (refine EndW.here ?_; (first | (refine EndOK.fin (.inr rfl) ?_) | (refine EndOK.fin (.inl rfl) ?_)); simp [zaC, zaf, Tryz.results200]; refine FinOK.here (by simp) ?_; try simp)
/-- The panic of a stop. -/
def chP (pos e : Int) : List PanicEntry := [{ v := .iface 194 (.agg #[.int .i64 pos, .int .i64 e]), recovered := false }]
def isP (l : List Tok) (ob : Ob) : Prop := ∃ q : Nat, ob = pOb l q
theorem zd9 (l : List Tok) (p : Nat) (e : Int) (i nx : Nat) (hi : i < nx) :
  RetX Tryz.prog 123 [.ptr i 0, .u (.bool true), .u (.int .i64 e)] [(i, pOb l p)] nx (fun r o n => r = .val (.tup []) ∧ o = [(i, pOb l p)] ∧ n = nx) := by
 (refine RetX.of_bodyW Tryz.func123 rfl (by simp) fun Γ hn hpan => ?_); simp only [entry, List.zipIdx_cons, List.zipIdx_nil, List.map_cons, List.map_nil, Nat.zero_add, Tryz.ntmps123]
 repeat' (first
  | (refine zag ?_; simp)
  | (refine zaj ?_; simp)
  | (refine zah ?_; simp)
  | (refine zai ?_; simp)
  | (refine zaq ?_; simp only [zan])
  | fail)
 (refine EndW.here ?_; (first | (refine EndOK.fin (.inr rfl) ?_) | (refine EndOK.fin (.inl rfl) ?_)); simp [zaC, zaf, Tryz.results123]; refine FinOK.here (by simp) ?_; try simp)
theorem zcT (l : List Tok) (p : Nat) (t : Tok) (e : Int) (i nx : Nat) (hi : i < nx) (hp : l[p]? = some t) (hl : l.length ≤ 1000000) :
  RetX Tryz.prog 123 [.ptr i 0, .u (.bool false), .u (.int .i64 e)] [(i, pOb l p)] nx (fun r o n => r = .pan (chP t.pos e) ∧ (∃ ob', isP l ob' ∧ o = [(i, ob')]) ∧ n = nx) := by
 have h1 := zbS l p t hp hl
 (refine RetX.of_bodyW Tryz.func123 rfl (by simp) fun Γ hn hpan => ?_); simp only [entry, List.zipIdx_cons, List.zipIdx_nil, List.map_cons, List.map_nil, Nat.zero_add, Tryz.ntmps123]
 repeat' (first
  | (refine zag ?_; simp)
  | (refine zaj ?_; simp)
  | (refine zah ?_; simp)
  | (refine zai ?_; simp)
  | (refine zap ?_; simp)
  | (refine CallP.fun_ (h1) (by first | rfl | fail) (by first | assumption | (simp; done) | fail) (by first | (simp; done) | (simp; rfl) | fail) (by first | (simp; done) | fail) (fun d hd => ?_); subst hd; (try simp))
  | fail)
 all_goals
  (refine hpan _ _ ⟨{ n := _, env := [], obs := [(i, pOb l p)], next := nx }, (Wk.cut rfl (by simp [hn]) (by simp [wkO, zaa, getK, zab, zac, Ob.under, D.under, zad, zae, hi]) (by simp [wkU, zak, zaa, getK, D.under, hi]) (by simp [wkE, zak, zaa, getK, hi])), by simp [hn], ?_⟩; try simp)
  all_goals exact ⟨rfl, p, rfl⟩
inductive PR (α : Type) where
 | ok (a : α) (p : Nat)
 | stop (pos e : Int)
def zcQ (l : List Tok) (p : Nat) : Int := match l[p]? with | some t => t.pos | none => 0
def zbA (l : List Tok) : Nat → List (List UInt8) → PR Unit
 | p, [] => .ok () p
 | p, w :: ws => if isB l p w = true then zbA l (p + 1) ws else .stop (zcQ l p) 12
def PPost {α : Type} (l : List Tok) (i nx : Nat) (val : α → D) : PR α → Out → List (Nat × Ob) → Nat → Prop
 | .ok a q, o, obs, n => o = .val (val a) ∧ obs = [(i, pOb l q)] ∧ n = nx
 | .stop pos e, o, obs, n => o = .pan (chP pos e) ∧ (∃ ob', isP l ob' ∧ obs = [(i, ob')]) ∧ n = nx
theorem zgK (l : List Tok) (p : Nat) (ws : List (List UInt8)) (i nx : Nat) (hi : i < nx) (hp : p < l.length) (hl : TokOK l) (hw : ws.length ≤ 100) :
  RetX Tryz.prog 129 [.ptr i 0, .u (.sl (ws.map fun w => [.str w]))] [(i, pOb l p)] nx (PPost l i nx (fun _ => .tup []) (zbA l p ws)) := by
 (refine RetX.of_bodyW Tryz.func129 rfl (by simp) fun Γ hn hpan => ?_); simp only [entry, List.zipIdx_cons, List.zipIdx_nil, List.map_cons, List.map_nil, Nat.zero_add, Tryz.ntmps129]
 repeat' (first
  | (refine zag ?_; simp)
  | (refine zaj ?_; simp)
  | (refine zah ?_; simp)
  | (refine zau ?_; simp)
  | fail)
 refine zde (α := { x : Nat × Nat // x.1 ≤ ws.length ∧ x.2 < l.length ∧ zbA l p ws = zbA l x.2 (ws.drop x.1) }) [0, 6, 7] (fun x => [(8, .u (.int .i64 x.1.1))]) (fun x => [(i, pOb l x.1.2)]) nx (fun x => ws.length - x.1.1) ⟨(0, p), by simp, hp, by simp⟩ ?_ ?_
 ·exact (Wk.cut rfl (by simp [hn, St.lp]) (by simp [wkO, St.lp, zaa, getK, Ob.under, D.under, zad, zae, hi]) (by simp [wkU, St.lp, zak, zaa, getK, D.under, hi]) (by simp [wkE, St.lp, zak, zaa, getK, hi] <;> (try (intros; simp_all; done)) <;> (try (intros; omega)) <;> (try grind)))
 rintro ⟨⟨k, q⟩, h1, h2, h3⟩
 simp only at h1 h2 h3
 simp [St.lp, St.only, zak, zaa, getK]
 rcases hx : ws[k]? with _ | w
 ·have hge : ws.length ≤ k := by simpa using hx
  obtain rfl : k = ws.length := by omega
  rw [List.drop_length, zbA] at h3
  repeat' (first
  | (refine zag ?_; simp [hx])
  | (refine zaj ?_; simp [hx])
  | (refine zah ?_; simp [hx])
  | (refine zaZ ?_; simp [zan])
  | fail)
  rw [h3]
  (refine EndW.here ?_; (first | (refine EndOK.fin (.inr rfl) ?_) | (refine EndOK.fin (.inl rfl) ?_)); simp [zaC, zaf, Tryz.results129]; refine FinOK.here (by simp) ?_; try simp)
  simp [PPost]
 ·have hlt : k < ws.length := (List.getElem?_eq_some_iff.1 hx).1
  have hd : ws.drop k = w :: ws.drop (k + 1) := by
   obtain ⟨h5, h6⟩ := List.getElem?_eq_some_iff.1 hx
   rw [← h6, List.getElem_cons_drop]
  rw [hd, zbA] at h3
  have hh := za7 l q w i nx hi h2 hl.len
  by_cases hb : isB l q w = true
  ·rw [if_pos hb] at h3
   rw [hb, if_pos rfl] at hh
   have hq := za2 hl hb
   have hck := zd9 l (q + 1) 12 i nx hi
   repeat' (first
  | (refine zag ?_; simp [hx])
  | (refine zaj ?_; simp [hx])
  | (refine ⟨by omega, ?_⟩)
  | (refine zah ?_; simp [hx])
  | (refine zap ?_; simp [hx])
  | (refine zaq ?_; simp only [zan])
  | (refine ⟨?_, by omega⟩)
  | (intro hc <;> (try (exfalso; omega)))
  | (refine CallP.ok1 (hh) (by first | (simp [hx, zaa, getK, zab, zac]; done) | fail) (by rfl) (by first | assumption | (simp; done) | fail) (by rfl) (by simp) ?_; (try simp [hx]))
  | (refine CallP.ok1 (hck) (by first | (simp [hx, zaa, getK, zab, zac]; done) | fail) (by rfl) (by first | assumption | (simp; done) | fail) (by rfl) (by simp) ?_; (try simp [hx]))
  | fail)
   refine LoopW.next ⟨(k + 1, q + 1), by omega, hq, h3⟩ (by simp; omega) ?_
   exact (Wk.cut rfl (by simp [hn, St.lp]) (by simp [wkO, St.lp, zaa, getK, Ob.under, D.under, zad, zae, hi, zab, zac, zaa, getK]) (by simp [wkU, St.lp, zak, zaa, getK, D.under, hi, zab, zac, zaa, getK]) (by simp [wkE, St.lp, zak, zaa, getK, hi, zab, zac, zaa, getK] <;> (try (intros; simp_all; done)) <;> (try (intros; omega)) <;> (try grind)))
  ·have hb2 : isB l q w = false := by simpa using hb
   rw [if_neg hb] at h3
   rw [hb2, if_neg (by simp)] at hh
   obtain ⟨t, ht⟩ : ∃ t, l[q]? = some t := ⟨_, List.getElem?_eq_getElem h2⟩
   have hck := zcT l q t 12 i nx hi ht hl.len
   repeat' (first
  | (refine zag ?_; simp [hx])
  | (refine zaj ?_; simp [hx])
  | (refine zah ?_; simp [hx])
  | (refine zap ?_; simp [hx])
  | (refine zaq ?_; simp only [zan])
  | (refine ⟨?_, by omega⟩)
  | (intro hc <;> (try (exfalso; omega)))
  | (refine CallP.ok1 (hh) (by first | (simp [hx, zaa, getK, zab, zac]; done) | fail) (by rfl) (by first | assumption | (simp; done) | fail) (by rfl) (by simp) ?_; (try simp [hx]))
  | (refine CallP.zed (hck) (by first | (simp [hx, zaa, getK, zab, zac]; done) | fail) (by rfl) (by first | assumption | (simp; done) | fail) (by rfl) (by simp) ?_; rintro ob' ⟨q', rfl⟩; refine ⟨_, Wk.refl _, ?_⟩)
  | fail)
   rw [h3] at hpan
   (refine hpan _ _ ⟨{ n := _, env := [], obs := [(i, pOb l q')], next := nx }, (Wk.cut rfl (by simp [hn]) (by simp [wkO, zaa, getK, zab, zac, Ob.under, D.under, zad, zae, hi, zab, zac, zaa, getK]) (by simp [wkU, zak, zaa, getK, D.under, hi, zab, zac, zaa, getK]) (by simp [wkE, zak, zaa, getK, hi, zab, zac, zaa, getK])), by simp [hn], ?_⟩; try simp)
   all_goals exact ⟨by simp [zcQ, ht], ⟨_, ⟨q', rfl⟩, rfl⟩, rfl⟩
theorem zlw {c : UInt8} {r : List UInt8} {e : Int} (h : zf8 (c :: r) = .error e) : e ≠ 0 := by
 unfold zf8 at h
 simp only at h
 split at h
 ·split at h <;> cases h
  omega
 ·split at h
  ·split at h <;> cases h
   omega
  ·split at h <;> cases h
   omega
theorem zjD {s : List UInt8} : ∀ (f p : Nat) (q : Nat) (e : Int), zlI f s p = .error (q, e) → p ≤ s.length → e ≠ 0 ∧ q ≤ s.length
 | 0, p, q, e, h, _ => by simp [zlI] at h
 | f + 1, p, q, e, h, h3 => by
  rw [zlI] at h
  have hle := zcX zbG (s.drop p)
  rw [List.length_drop] at hle
  split at h
  ·cases h
  ·rename_i c r hd
   have hdl : (s.drop (p + zb1 zbG (s.drop p))).length = r.length + 1 := by rw [hd]; rfl
   rw [List.length_drop] at hdl
   split at h
   ·rename_i ht
    cases h
    exact ⟨zlw ht, by omega⟩
   ·rename_i t ht
    obtain ⟨ht1, ht2⟩ := zeR ht
    simp only [List.length_cons] at ht2
    split at h
    ·rename_i x hx
     cases h
     exact zjD f _ q e hx (by omega)
    ·cases h
theorem zmV {s : List UInt8} {q : Nat} {e : Int} (h : zkT s = .error (q, e)) : e ≠ 0 ∧ q ≤ s.length := by
 unfold zkT at h
 split at h
 ·cases h; exact ⟨by decide, by omega⟩
 ·exact zjD _ _ _ _ h (by omega)
end Go.Proofs.YtepiegcjnaohjaaGreatDoor
namespace Go.Proofs.YtepiegcjnaohjaaGreatDoor
open Go Go.VL
def PR.bind {α β : Type} : PR α → (α → Nat → PR β) → PR β
 | .ok a p, f => f a p
 | .stop pos e, _ => .stop pos e
theorem PR.zaR {α β : Type} {a : α} {p : Nat} {f : α → Nat → PR β} : (PR.ok a p).bind f = f a p := rfl
theorem PR.zaK {α β : Type} {pos e : Int} {f : α → Nat → PR β} : (PR.stop pos e : PR α).bind f = .stop pos e := rfl
theorem PR.zaG {α β : Type} {r : PR α} {f : α → Nat → PR β} {b : β} {q : Nat} (h : r.bind f = .ok b q) : ∃ a p, r = .ok a p ∧ f a p = .ok b q := by
 cases r with
 | ok a p => exact ⟨a, p, rfl, h⟩
 | stop => cases h
theorem PPost.zb2 {α : Type} {l i nx} {val : α → D} {r : PR α} {a : α} {q : Nat} (h : r = .ok a q) {d : D} (hd : d = val a) {o : List (Nat × Ob)} (ho : o = [(i, pOb l q)]) : PPost l i nx val r (.val d) o nx := by
 subst h; subst hd; subst ho; exact ⟨rfl, rfl, rfl⟩
theorem PPost.zaB {α : Type} {l i nx} {val : α → D} {r : PR α} {pos e : Int} {q : Nat} (h : r = .stop pos e) : PPost l i nx val r (.pan (chP pos e)) [(i, pOb l q)] nx := by
 subst h; exact ⟨rfl, ⟨_, ⟨q, rfl⟩, rfl⟩, rfl⟩
structure Opr where
 text : List UInt8
 op : Int
 form : Int
def oprs : List Opr := [⟨[111, 114], 11, 1⟩, ⟨[97, 110, 100], 10, 2⟩, ⟨[61, 61], 9, 4⟩, ⟨[60], 8, 4⟩, ⟨[43], 2, 5⟩, ⟨[45], 3, 5⟩, ⟨[42], 4, 6⟩, ⟨[47], 5, 6⟩]
def zoW (l : List Tok) (p : Nat) : Option Opr := oprs.find? fun o => isB l p o.text
def zj0 (l : List Tok) (p : Nat) : PR Int :=
 if isB l p [99, 111, 105, 110, 115] = true then .ok 3 (p + 1)
 else if isB l p [100, 97, 121, 115] = true then .ok 2 (p + 1)
 else if isB l p [112, 101, 114] = true then (zbA l (p + 1) [[109, 105, 108, 108, 101]]).bind fun _ q => .ok 4 q
 else .ok 1 p
mutual
def zdF (l : List Tok) : Nat → Nat → Int → PR Exp
 | 0, _, _ => .stop 0 0
 | f + 1, p, form => (zbn l f p form).bind fun e q => zeb l f form e.1 e.2 q
def zeb (l : List Tok) : Nat → Int → Exp → Int → Nat → PR Exp
 | 0, _, _, _, _ => .stop 0 0
 | f + 1, form, e, own, q => match zoW l q with
  | none => .ok e q
  | some x => if x.form < form ∨ own < x.form ∨ (own = 4 ∧ x.form = 4) then .ok e q
   else (zdF l f (q + 1) (x.form + 1)).bind fun e2 r => zeb l f form (.mk x.op 0 0 [] [e, e2]) x.form r
def zbn (l : List Tok) : Nat → Nat → Int → PR (Exp × Int)
 | 0, _, _ => .stop 0 0
 | f + 1, p, form =>
  if form = 0 ∧ isB l p [105, 102] = true then
   (zdF l f (p + 1) 0).bind fun a q1 => (zbA l q1 [[116, 104, 101, 110]]).bind fun _ q2 => (zdF l f q2 0).bind fun b q3 =>
   (zbA l q3 [[101, 108, 115, 101]]).bind fun _ q4 => (zdF l f q4 0).bind fun c q5 => .ok (.mk 13 0 0 [] [a, b, c], 0) q5
  else if form ≤ 3 ∧ isB l p [110, 111, 116] = true then (zdF l f (p + 1) 3).bind fun a q => .ok (.mk 12 0 0 [] [a], 3) q
  else (zaW l f p).bind fun e q => .ok (e, 7) q
def zaW (l : List Tok) : Nat → Nat → PR Exp
 | 0, _ => .stop 0 0
 | f + 1, p => match l[p]? with
  | none => .stop 0 0
  | some t =>
   if t.kind = 2 then (zj0 l (p + 1)).bind fun u q => .ok (.mk 0 t.n u [] []) q
   else if isB l p [116, 114, 117, 101] = true then .ok (.mk 0 1 0 [] []) (p + 1)
   else if isB l p [102, 97, 108, 115, 101] = true then .ok (.mk 0 0 0 [] []) (p + 1)
   else if isB l p [109, 105, 110] = true ∨ isB l p [109, 97, 120] = true then
    (zbA l (p + 1) [[40]]).bind fun _ q1 => (zdF l f q1 0).bind fun a q2 => (zbA l q2 [[44]]).bind fun _ q3 => (zdF l f q3 0).bind fun b q4 =>
    (zbA l q4 [[41]]).bind fun _ q5 => .ok (.mk (if isB l p [109, 97, 120] = true then 7 else 6) 0 0 [] [a, b]) q5
   else if isB l p [40] = true then (zdF l f (p + 1) 0).bind fun e q1 => (zbA l q1 [[41]]).bind fun _ q2 => .ok e q2
   else if t.kind = 1 ∧ zdu t.text = true then .ok (.mk 1 0 0 t.text []) (p + 1)
   else .stop t.pos 12
end
theorem zaV {l : List Tok} (hl : TokOK l) : ∀ (ws : List (List UInt8)) {p q : Nat}, zbA l p ws = .ok () q → p < l.length → p ≤ q ∧ q < l.length
 | [], p, q, h, hp => by rw [zbA] at h; cases h; exact ⟨Nat.le_refl _, hp⟩
 | w :: ws, p, q, h, hp => by
  rw [zbA] at h
  split at h
  ·rename_i hb
   have := zaV hl ws h (za2 hl hb)
   exact ⟨by omega, this.2⟩
  ·cases h
theorem zmG {l : List Tok} (hl : TokOK l) {p q : Nat} {u : Int} (h : zj0 l p = .ok u q) (hp : p < l.length) : p ≤ q ∧ q < l.length := by
 unfold zj0 at h
 split at h
 ·rename_i hb; cases h; exact ⟨by omega, za2 hl hb⟩
 ·split at h
  ·rename_i hb; cases h; exact ⟨by omega, za2 hl hb⟩
  ·split at h
   ·rename_i hb
    obtain ⟨a, r, h1, h2⟩ := PR.zaG h
    cases h2
    have := zaV hl _ h1 (za2 hl hb)
    exact ⟨by omega, this.2⟩
   ·cases h; exact ⟨by omega, hp⟩
theorem zb8 {l : List Tok} (hl : TokOK l) : ∀ (f : Nat),
  (∀ p form e q, zdF l f p form = .ok e q → p < l.length → p ≤ q ∧ q < l.length) ∧
  (∀ form e own p e' q, zeb l f form e own p = .ok e' q → p < l.length → p ≤ q ∧ q < l.length) ∧
  (∀ p form e q, zbn l f p form = .ok e q → p < l.length → p ≤ q ∧ q < l.length) ∧
  (∀ p e q, zaW l f p = .ok e q → p < l.length → p ≤ q ∧ q < l.length)
 | 0 => ⟨fun _ _ _ _ h => by simp [zdF] at h, fun _ _ _ _ _ _ h => by simp [zeb] at h, fun _ _ _ _ h => by simp [zbn] at h, fun _ _ _ h => by simp [zaW] at h⟩
 | f + 1 => by
  obtain ⟨he, hlo, hpr, hpm⟩ := zb8 hl f
  refine ⟨fun p form e q h hp => ?_, fun form e own p e' q h hp => ?_, fun p form e q h hp => ?_, fun p e q h hp => ?_⟩
  ·rw [zdF] at h
   obtain ⟨a, r, h1, h2⟩ := PR.zaG h
   have g1 := hpr _ _ _ _ h1 hp
   have g2 := hlo _ _ _ _ _ _ h2 g1.2
   exact ⟨by omega, g2.2⟩
  ·rw [zeb] at h
   split at h
   ·cases h; exact ⟨by omega, hp⟩
   ·rename_i x hx
    have hb := List.find?_some hx
    have hp2 := za2 hl hb
    split at h
    ·cases h; exact ⟨by omega, hp⟩
    ·obtain ⟨a, r, h1, h2⟩ := PR.zaG h
     have g1 := he _ _ _ _ h1 hp2
     have g2 := hlo _ _ _ _ _ _ h2 g1.2
     exact ⟨by omega, g2.2⟩
  ·rw [zbn] at h
   split at h
   ·rename_i hb
    have hp2 := za2 hl hb.2
    obtain ⟨a, r, h1, h⟩ := PR.zaG h
    have g1 := he _ _ _ _ h1 hp2
    obtain ⟨_, r2, h2, h⟩ := PR.zaG h
    have g2 := zaV hl _ h2 g1.2
    obtain ⟨a, r3, h3, h⟩ := PR.zaG h
    have g3 := he _ _ _ _ h3 g2.2
    obtain ⟨_, r4, h4, h⟩ := PR.zaG h
    have g4 := zaV hl _ h4 g3.2
    obtain ⟨a, r5, h5, h⟩ := PR.zaG h
    have g5 := he _ _ _ _ h5 g4.2
    cases h
    exact ⟨by omega, g5.2⟩
   ·split at h
    ·rename_i hb
     have hp2 := za2 hl hb.2
     obtain ⟨a, r, h1, h⟩ := PR.zaG h
     have g1 := he _ _ _ _ h1 hp2
     cases h
     exact ⟨by omega, g1.2⟩
    ·obtain ⟨a, r, h1, h⟩ := PR.zaG h
     have g1 := hpm _ _ _ h1 hp
     cases h
     exact g1
  ·rw [zaW] at h
   split at h
   ·cases h
   ·rename_i t ht
    split at h
    ·rename_i hk
     have hp2 := hl.fin p t ht (by omega)
     obtain ⟨a, r, h1, h⟩ := PR.zaG h
     have g1 := zmG hl h1 hp2
     cases h
     exact ⟨by omega, g1.2⟩
    split at h
    ·rename_i hb; cases h; exact ⟨by omega, za2 hl hb⟩
    split at h
    ·rename_i hb; cases h; exact ⟨by omega, za2 hl hb⟩
    split at h
    ·rename_i hb
     have hp2 : p + 1 < l.length := hb.elim (za2 hl) (za2 hl)
     obtain ⟨_, r2, h2, h⟩ := PR.zaG h
     have g2 := zaV hl _ h2 hp2
     obtain ⟨a, r3, h3, h⟩ := PR.zaG h
     have g3 := he _ _ _ _ h3 g2.2
     obtain ⟨_, r4, h4, h⟩ := PR.zaG h
     have g4 := zaV hl _ h4 g3.2
     obtain ⟨a, r5, h5, h⟩ := PR.zaG h
     have g5 := he _ _ _ _ h5 g4.2
     obtain ⟨_, r6, h6, h⟩ := PR.zaG h
     have g6 := zaV hl _ h6 g5.2
     cases h
     exact ⟨by omega, g6.2⟩
    split at h
    ·rename_i hb
     have hp2 := za2 hl hb
     obtain ⟨a, r3, h3, h⟩ := PR.zaG h
     have g3 := he _ _ _ _ h3 hp2
     obtain ⟨_, r4, h4, h⟩ := PR.zaG h
     have g4 := zaV hl _ h4 g3.2
     cases h
     exact ⟨by omega, g4.2⟩
    split at h
    ·rename_i hk
     cases h
     exact ⟨by omega, hl.fin p t ht (by omega)⟩
    ·cases h
end Go.Proofs.YtepiegcjnaohjaaGreatDoor
namespace Go.Proofs.YtepiegcjnaohjaaGreatDoor
open Go Go.VL
abbrev W8 := List UInt8
def zku : W8 → Int
 | [] => 0
 | c :: _ => if zcx c = true then 1 else if za6 c = true then 2 else 3
theorem zm4 {w : W8} (h : w ≠ []) : zku w ≠ 0 := by
 cases w with
 | nil => exact absurd rfl h
 | cons c w => rw [zku]; split <;> (try split) <;> decide
def zpw (w : W8) : Int := if zku w = 2 then (zeP w).getD 0 else 0
def Reads (l : List Tok) (p : Nat) (ws : List W8) : Prop := ∀ i w, ws[i]? = some w → w ≠ [] ∧ ∃ t, l[p + i]? = some t ∧ t.text = w ∧ t.kind = zku w ∧ t.n = zpw w
theorem Reads.left {l p} {a b : List W8} (h : Reads l p (a ++ b)) : Reads l p a := fun i w hi => h i w (by rw [List.getElem?_append_left (List.getElem?_eq_some_iff.1 hi).1]; exact hi)
theorem Reads.right {l p} {a b : List W8} (h : Reads l p (a ++ b)) : Reads l (p + a.length) b := fun i w hi => by
 have := h (a.length + i) w (by rw [List.getElem?_append_right (by omega), Nat.add_sub_cancel_left]; exact hi)
 rwa [← Nat.add_assoc] at this
theorem Reads.head {l p} {w : W8} {b : List W8} (h : Reads l p (w :: b)) : w ≠ [] ∧ ∃ t, l[p]? = some t ∧ t.text = w ∧ t.kind = zku w ∧ t.n = zpw w := h 0 w rfl
theorem Reads.tail {l p} {w : W8} {b : List W8} (h : Reads l p (w :: b)) : Reads l (p + 1) b := Reads.right (a := [w]) h
theorem Reads.isB {l p} {w : W8} {b : List W8} (h : Reads l p (w :: b)) (v : W8) : isB l p v = decide (w = v) := by
 obtain ⟨hw, t, ht, h1, h2, h3⟩ := h.head
 have := zm4 hw
 simp [Go.Proofs.YtepiegcjnaohjaaGreatDoor.isB, ht, h1, h2, this]
theorem Reads.want {l p} {w : W8} {b : List W8} (h : Reads l p (w :: b)) : zbA l p [w] = .ok () (p + 1) := by
 rw [zbA, if_pos (by rw [h.isB]; simp), zbA]
def Ev {α : Type} (g : Nat → PR α) (r : PR α) : Prop := ∃ f0, ∀ f, f0 ≤ f → g f = r
theorem Ev.succ {α : Type} {g : Nat → PR α} {r : PR α} (h : Ev (fun f => g (f + 1)) r) : Ev g r := by
 obtain ⟨f0, h⟩ := h
 refine ⟨f0 + 1, fun f hf => ?_⟩
 obtain ⟨f, rfl⟩ : ∃ k, f = k + 1 := ⟨f - 1, by omega⟩
 exact h f (by omega)
theorem Ev.const {α : Type} {r : PR α} : Ev (fun _ => r) r := ⟨0, fun _ _ => rfl⟩
theorem Ev.of {α : Type} {g : Nat → PR α} {r : PR α} (h : ∀ f, g f = r) : Ev g r := ⟨0, fun f _ => h f⟩
theorem Ev.bind {α β : Type} {g : Nat → PR α} {a : α} {q : Nat} {F : Nat → α → Nat → PR β} {r : PR β} (h : Ev g (.ok a q)) (h2 : Ev (fun f => F f a q) r) : Ev (fun f => (g f).bind (F f)) r := by
 obtain ⟨f0, h⟩ := h
 obtain ⟨f1, h2⟩ := h2
 refine ⟨max f0 f1, fun f hf => ?_⟩
 show (g f).bind (F f) = r
 rw [h f (by omega), PR.zaR]
 exact h2 f (by omega)
end Go.Proofs.YtepiegcjnaohjaaGreatDoor
namespace Go.Proofs.YtepiegcjnaohjaaGreatDoor
open Go Go.VL
end Go.Proofs.YtepiegcjnaohjaaGreatDoor
namespace Go.Proofs.YtepiegcjnaohjaaGreatDoor
open Go Go.VL
end Go.Proofs.YtepiegcjnaohjaaGreatDoor
namespace Go.Proofs.YtepiegcjnaohjaaGreatDoor
open Go Go.VL
end Go.Proofs.YtepiegcjnaohjaaGreatDoor
namespace Go.Proofs.YtepiegcjnaohjaaGreatDoor
open Go Go.VL
end Go.Proofs.YtepiegcjnaohjaaGreatDoor
namespace Go.Proofs.YtepiegcjnaohjaaGreatDoor
open Go Go.VL
end Go.Proofs.YtepiegcjnaohjaaGreatDoor
namespace Go.Proofs.YtepiegcjnaohjaaGreatDoor
open Go Go.VL
/-- What stands behind a word: nothing, or a blank. -/
def zqh (r : W8) : Prop := ∀ c t, r = c :: t → zbG c = true
structure GoodW (w : W8) : Prop where
 next : ∀ r, zqh r → zf8 (w ++ r) = .ok ⟨zku w, w, zpw w, 0⟩
 ne : w ≠ []
 head : ∀ c t, w = c :: t → zbG c = false
/-- Words, each with what stands behind it: blanks; behind the last one maybe nothing. -/
def Spaced : List (W8 × W8) → Prop
 | [] => True
 | [x] => GoodW x.1 ∧ ∀ c ∈ x.2, zbG c = true
 | x :: y :: l => GoodW x.1 ∧ (∀ c ∈ x.2, zbG c = true) ∧ x.2 ≠ [] ∧ Spaced (y :: l)
theorem Spaced.good {x : W8 × W8} {l : List (W8 × W8)} (h : Spaced (x :: l)) : GoodW x.1 ∧ (∀ c ∈ x.2, zbG c = true) ∧ (l ≠ [] → x.2 ≠ []) ∧ Spaced l := by
 cases l with
 | nil => exact ⟨h.1, h.2, fun h => absurd rfl h, trivial⟩
 | cons y l => exact ⟨h.1, h.2.1, fun _ => h.2.2.1, h.2.2.2⟩
end Go.Proofs.YtepiegcjnaohjaaGreatDoor
namespace Go.Proofs.YtepiegcjnaohjaaGreatDoor
open Go Go.VL
theorem PR.zbZ {α β : Type} {r : PR α} {F G : α → Nat → PR β} (h : ∀ a q, r = .ok a q → F a q = G a q) : r.bind F = r.bind G := by
 cases r with
 | ok a q => exact h a q rfl
 | stop => rfl
theorem zjJ {l : List Tok} (hl : TokOK l) : ∀ (f : Nat),
  (∀ p form, p < l.length → 4 * (l.length - p) + 3 ≤ f → zdF l (f + 1) p form = zdF l f p form) ∧
  (∀ p form e own, p < l.length → 4 * (l.length - p) + 2 ≤ f → zeb l (f + 1) form e own p = zeb l f form e own p) ∧
  (∀ p form, p < l.length → 4 * (l.length - p) + 2 ≤ f → zbn l (f + 1) p form = zbn l f p form) ∧
  (∀ p, p < l.length → 4 * (l.length - p) + 1 ≤ f → zaW l (f + 1) p = zaW l f p)
 | 0 => ⟨fun _ _ _ h => by omega, fun _ _ _ _ _ h => by omega, fun _ _ _ h => by omega, fun _ _ h => by omega⟩
 | f + 1 => by
  obtain ⟨he, hlo, hpr, hpm⟩ := zjJ hl f
  obtain ⟨le, llo, lpr, lpm⟩ := zb8 hl f
  refine ⟨fun p form hp hf => ?_, fun p form e own hp hf => ?_, fun p form hp hf => ?_, fun p hp hf => ?_⟩
  ·simp only [zdF]
   rw [hpr p form hp (by omega)]
   refine PR.zbZ fun a q hq => ?_
   have g := lpr _ _ _ _ hq hp
   exact hlo _ _ _ _ g.2 (by omega)
  ·rw [zeb, zeb]
   split
   ·rfl
   ·rename_i x hx
    have hb := List.find?_some hx
    have hp2 := za2 hl hb
    split
    ·rfl
    ·rw [he (p + 1) _ hp2 (by omega)]
     refine PR.zbZ fun a q hq => ?_
     have g := le _ _ _ _ hq hp2
     exact hlo _ _ _ _ g.2 (by omega)
  ·simp only [zbn]
   split
   ·rename_i hb
    have hp2 := za2 hl hb.2
    rw [he (p + 1) _ hp2 (by omega)]
    refine PR.zbZ fun a q1 hq1 => ?_
    have g1 := le _ _ _ _ hq1 hp2
    refine PR.zbZ fun _ q2 hq2 => ?_
    have g2 := zaV hl _ hq2 g1.2
    rw [he q2 _ g2.2 (by omega)]
    refine PR.zbZ fun b q3 hq3 => ?_
    have g3 := le _ _ _ _ hq3 g2.2
    refine PR.zbZ fun _ q4 hq4 => ?_
    have g4 := zaV hl _ hq4 g3.2
    rw [he q4 _ g4.2 (by omega)]
   ·split
    ·rename_i hb
     rw [he (p + 1) _ (za2 hl hb.2) (by omega)]
    ·rw [hpm p hp (by omega)]
  ·simp only [zaW]
   split
   ·rfl
   ·split
    ·rfl
    ·split
     ·rfl
     ·split
      ·rfl
      ·split
       ·rename_i hb
        have hp2 : p + 1 < l.length := hb.elim (za2 hl) (za2 hl)
        refine PR.zbZ fun _ q1 hq1 => ?_
        have g1 := zaV hl _ hq1 hp2
        rw [he q1 _ g1.2 (by omega)]
        refine PR.zbZ fun a q2 hq2 => ?_
        have g2 := le _ _ _ _ hq2 g1.2
        refine PR.zbZ fun _ q3 hq3 => ?_
        have g3 := zaV hl _ hq3 g2.2
        rw [he q3 _ g3.2 (by omega)]
       ·split
        ·rename_i hb
         rw [he (p + 1) _ (za2 hl hb) (by omega)]
        ·rfl
theorem zid {l : List Tok} (hl : TokOK l) {p f : Nat} {form : Int} (hp : p < l.length) (hf : 4 * (l.length - p) + 3 ≤ f) : ∀ g, zdF l (f + g) p form = zdF l f p form
 | 0 => rfl
 | g + 1 => by rw [← Nat.add_assoc, (zjJ hl (f + g)).1 p form hp (by omega), zid hl hp hf g]
theorem Ev.fuel {l : List Tok} (hl : TokOK l) {p f : Nat} {form : Int} {r : PR Exp} (h : Ev (fun f => zdF l f p form) r) (hp : p < l.length) (hf : 4 * (l.length - p) + 3 ≤ f) : zdF l f p form = r := by
 obtain ⟨f0, h⟩ := h
 rw [← zid hl hp hf f0]
 exact h (f + f0) (by omega)
end Go.Proofs.YtepiegcjnaohjaaGreatDoor
namespace Go.Proofs.YtepiegcjnaohjaaGreatDoor
open Go Go.VL
def AllGood (ws : List W8) : Prop := ∀ w ∈ ws, GoodW w
theorem AllGood.nil : AllGood [] := fun _ h => by cases h
theorem AllGood.cons {w : W8} {ws : List W8} (h : GoodW w) (h2 : AllGood ws) : AllGood (w :: ws) := fun x hx => by
 rcases List.mem_cons.1 hx with rfl | hx
 ·exact h
 ·exact h2 x hx
theorem AllGood.app {a b : List W8} (h : AllGood a) (h2 : AllGood b) : AllGood (a ++ b) := fun x hx => by
 rcases List.mem_append.1 hx with hx | hx
 ·exact h x hx
 ·exact h2 x hx
end Go.Proofs.YtepiegcjnaohjaaGreatDoor
namespace Go.Proofs.YtepiegcjnaohjaaGreatDoor
open Go Go.VL
end Go.Proofs.YtepiegcjnaohjaaGreatDoor
namespace Go.Proofs.YtepiegcjnaohjaaGreatDoor
open Go Go.VL
attribute [local simp] zcR zb9 evPure opd uOf zaI St.put St.at getK binD binI binS binB nilD aggD zg9 zit lookD lookR zcz rangeS Go.VL.nextD Go.VL.nextS zcB ziI ziG zga zb6 mkV zbi zbh zcK zbg zbs zbB mapEff zdf zf6 Key.kk shiftI arith unD convD zdK loadD cellsAt fieldAddrD fieldD indexAddrD indexSlD arrAddr indexD sliceD cutD lenD minmaxD nilCheckD buildD fillD zbQ zcV zex setAll zcF zer zcs zhq zcq St.add zaU zbO rowsOf zdE zco zax zac zaa zby zdg za8 entry zbq zbv valD zb7 zcp zgE zdc zdd zbU zbJ zaA zaY zbt delAll effD St.effS zc4 zbj zbb zc5 zbk zbd zcm zbc za0 zcn zcW zbP zch zbw zcf zcg zaP mkD zbR zbF zbI zaA zcr D.ids Op.operands Call.operands zbN makeIfD makeFuncD typeAssertD zis zdw zdx zhx zcA IntKind.bits zcC List.take_of_length_le List.range_succ
attribute [local irreducible] V G H HD HD2 zan Eff CallP CallV EndOK Fun Ret FinOK LoopI LoopW EndW
def inB (lo hi : Int) (l : List Int) : Bool := !l.any fun n => decide (n < lo) || decide (hi < n)
theorem zog (lo hi n : Int) : Fun Tryz.prog 166 (zo4 n :: [U.row [.int .i64 lo] 0, U.row [.int .i64 hi] 0].map .u) (· = .u (.bool (decide (n < lo) || decide (hi < n)))) := by
 simp only [zo4, List.map_cons, List.map_nil]
 (refine Fun.of_body Tryz.func166 rfl (by simp) fun Γ hn => ?_); simp only [entry, List.zipIdx_cons, List.zipIdx_nil, List.map_cons, List.map_nil, Nat.zero_add, Tryz.ntmps166]
 repeat' (first
  | (refine zag ?_; simp)
  | (refine zaj ?_; simp)
  | (refine zah ?_; simp)
  | (refine zas ?_; simp only [zan])
  | (refine ⟨fun hc => ?_, fun hc => ?_⟩ <;> (try (exfalso; omega)))
  | fail)
 all_goals
  (refine EndOK.val (.inr rfl) ?_; simp [zaC, zaf, zaw, Tryz.results166])
 all_goals grind
theorem zh8 (lo hi : Int) (l : List Int) : Fun Tryz.prog 98 [.u (.int .i64 lo), .u (.int .i64 hi), .u (zbV l)] (· = .u (.bool (inB lo hi l))) := by
 have h1 := zhe l 166 [U.row [.int .i64 lo] 0, U.row [.int .i64 hi] 0] _ (fun n _ => zog lo hi n) (by simp) (fun _ => rfl) (fun _ => rfl)
 simp only [List.map_cons, List.map_nil] at h1
 unfold inB
 (refine Fun.of_body Tryz.func98 rfl (by simp) fun Γ hn => ?_); simp only [entry, List.zipIdx_cons, List.zipIdx_nil, List.map_cons, List.map_nil, Nat.zero_add, Tryz.ntmps98]
 simp only [zbV] at h1 ⊢
 repeat' (first
  | (refine zag ?_; simp)
  | (refine zaj ?_; simp)
  | (refine zah ?_; simp)
  | (refine zas ?_; simp only [zan])
  | (refine CallP.fun_ (h1) (by first | rfl | fail) (by first | assumption | (simp; done) | fail) (by first | (simp; done) | (simp; rfl) | fail) (by first | (simp; done) | fail) (fun d hd => ?_); subst hd; (try simp))
  | fail)
 (refine EndOK.val (.inr rfl) ?_; simp [zaC, zaf, zaw, Tryz.results98])
theorem zj6 (x l : Let) : Fun Tryz.prog 100 (zoa x :: [U.row (zjG l) 0].map .u) (· = .u (.bool (decide (x.name = l.name)))) := by
 simp only [zoa, zjG, List.map_cons, List.map_nil]
 (refine Fun.of_body Tryz.func100 rfl (by simp) fun Γ hn => ?_); simp only [entry, List.zipIdx_cons, List.zipIdx_nil, List.map_cons, List.map_nil, Nat.zero_add, Tryz.ntmps100]
 repeat' (first
  | (refine zag ?_; simp)
  | (refine zaj ?_; simp)
  | (refine zah ?_; simp)
  | (refine zas ?_; simp only [zan])
  | fail)
 (refine EndOK.val (.inr rfl) ?_; simp [zaC, zaf, zaw, Tryz.results100])
structure By where
 kind : Int
 period : Int
 grace : Int
 wait : Int
 last : Int
 order : Int
 sld : Bool
 backs : Int
 voices : Int
 jury : Int
 fund : Int
 lets : List Let
 due : Exp
 fine : Exp
 pay : Exp
 cover : Exp
 hold : Exp
 deriving Inhabited
def zao (b : By) : List U := [.int .i64 b.kind, .int .i64 b.period, .int .i64 b.grace, .int .i64 b.wait, .int .i64 b.last, .int .i64 b.order, .bool b.sld, .int .i64 b.backs, .int .i64 b.voices, .int .i64 b.jury, .int .i64 b.fund,
 .sl (b.lets.map fun l => [.str l.name, .int .i64 l.body.op, .int .i64 l.body.n, .int .i64 l.body.unit, .str l.body.s, .sl (l.body.args.map Exp.row)]),
 .int .i64 b.due.op, .int .i64 b.due.n, .int .i64 b.due.unit, .str b.due.s, .sl (b.due.args.map Exp.row),
 .int .i64 b.fine.op, .int .i64 b.fine.n, .int .i64 b.fine.unit, .str b.fine.s, .sl (b.fine.args.map Exp.row),
 .int .i64 b.pay.op, .int .i64 b.pay.n, .int .i64 b.pay.unit, .str b.pay.s, .sl (b.pay.args.map Exp.row),
 .int .i64 b.cover.op, .int .i64 b.cover.n, .int .i64 b.cover.unit, .str b.cover.s, .sl (b.cover.args.map Exp.row),
 .int .i64 b.hold.op, .int .i64 b.hold.n, .int .i64 b.hold.unit, .str b.hold.s, .sl (b.hold.args.map Exp.row)]
def zoi (b : By) : Bool := inB 0 2 [b.kind] && inB 0 2 [b.order] && inB 1 1000 [b.period, b.last] && inB 0 1000 [b.grace, b.wait, b.voices, b.fund] && inB 0 60 [b.backs, b.jury]
def zh5 (seen : List Let) : List Let → Bool
 | [] => true
 | l :: r => zdu l.name && zb3 12 l.body && !seen.any (fun x => decide (x.name = l.name)) && zh5 (seen ++ [l]) r
theorem zmX {L : List Let} {i : Nat} {l : Let} (h : L[i]? = some l) : zh5 (L.take i) (L.drop i) = (zdu l.name && zb3 12 l.body && !(L.take i).any (fun x => decide (x.name = l.name)) && zh5 (L.take (i + 1)) (L.drop (i + 1))) := by
 obtain ⟨hi, rfl⟩ := List.getElem?_eq_some_iff.1 h
 rw [List.drop_eq_getElem_cons hi, zh5, List.take_succ_eq_append_getElem hi]
def zo5 (b : By) : Bool := zb3 12 b.due && zb3 12 b.fine && zb3 12 b.pay && zb3 12 b.cover && zb3 12 b.hold
def zc8 (b : By) : Bool := zoi b && !(b.sld && decide (b.kind ≠ 1)) && decide (b.lets.length ≤ 20) && zh5 [] b.lets && zo5 b
set_option maxRecDepth 100000 in
set_option maxHeartbeats 4000000 in
theorem zdr (b : By) : Fun Tryz.prog 40 [.u (.agg (zao b))] (· = .u (.bool (zc8 b))) := by
 have i1 := zh8 0 2 [b.kind]
 have i2 := zh8 0 2 [b.order]
 have i3 := zh8 1 1000 [b.period, b.last]
 have i4 := zh8 0 1000 [b.grace, b.wait, b.voices, b.fund]
 have i5 := zh8 0 60 [b.backs, b.jury]
 simp only [zbV, List.map_cons, List.map_nil] at i1 i2 i3 i4 i5
 have hr : ∀ e : Exp, Fun Tryz.prog 89 [.u (.agg [.int .i64 e.op, .int .i64 e.n, .int .i64 e.unit, .str e.s, .sl (e.args.map Exp.row)])] (· = .u (.bool (zb3 12 e))) := fun e => zhH e
 have e1 := hr b.due
 have e2 := hr b.fine
 have e3 := hr b.pay
 have e4 := hr b.cover
 have e5 := hr b.hold
 unfold zc8 zoi zo5
 generalize inB 0 2 [b.kind] = c1 at i1 ⊢
 generalize inB 0 2 [b.order] = c2 at i2 ⊢
 generalize inB 1 1000 [b.period, b.last] = c3 at i3 ⊢
 generalize inB 0 1000 [b.grace, b.wait, b.voices, b.fund] = c4 at i4 ⊢
 generalize inB 0 60 [b.backs, b.jury] = c5 at i5 ⊢
 (refine Fun.of_body Tryz.func40 rfl (by simp) fun Γ hn => ?_); simp only [entry, List.zipIdx_cons, List.zipIdx_nil, List.map_cons, List.map_nil, Nat.zero_add, Tryz.ntmps40]
 simp only [zao]
 repeat' (first
  | (refine zag ?_; simp)
  | (refine zaj ?_; simp)
  | (refine zah ?_; simp)
  | (refine zai ?_; simp)
  | (refine zau ?_; simp)
  | (refine zas ?_; simp only [zan])
  | (refine zaq ?_; simp only [zan])
  | (refine ⟨fun hc => ?_, fun hc => ?_⟩ <;> (try (exfalso; omega)))
  | (refine CallP.fun_ (i1) (by first | rfl | fail) (by first | assumption | (simp; done) | fail) (by first | (simp; done) | (simp; rfl) | fail) (by first | (simp; done) | fail) (fun d hd => ?_); subst hd; (try simp))
  | (refine CallP.fun_ (i2) (by first | rfl | fail) (by first | assumption | (simp; done) | fail) (by first | (simp; done) | (simp; rfl) | fail) (by first | (simp; done) | fail) (fun d hd => ?_); subst hd; (try simp))
  | (refine CallP.fun_ (i3) (by first | rfl | fail) (by first | assumption | (simp; done) | fail) (by first | (simp; done) | (simp; rfl) | fail) (by first | (simp; done) | fail) (fun d hd => ?_); subst hd; (try simp))
  | (refine CallP.fun_ (i4) (by first | rfl | fail) (by first | assumption | (simp; done) | fail) (by first | (simp; done) | (simp; rfl) | fail) (by first | (simp; done) | fail) (fun d hd => ?_); subst hd; (try simp))
  | (refine CallP.fun_ (i5) (by first | rfl | fail) (by first | assumption | (simp; done) | fail) (by first | (simp; done) | (simp; rfl) | fail) (by first | (simp; done) | fail) (fun d hd => ?_); subst hd; (try simp))
  | fail)
 all_goals try ((refine EndOK.val (.inr rfl) ?_; simp [zaC, zaf, zaw, Tryz.results40]); clear i1 i2 i3 i4 i5 hr e1 e2 e3 e4 e5; grind)
 all_goals
  refine zbr (α := { i : Nat // i ≤ b.lets.length ∧ zh5 [] b.lets = zh5 (b.lets.take i) (b.lets.drop i) }) [1, 62, 63] (fun i => [(64, .u (.int .i64 i.1))]) (fun i => b.lets.length - i.1) ⟨0, by omega, by simp⟩ ?_ ?_
  ·exact (Wk.cut rfl (by simp [hn, St.lp]) (by simp [wkO, St.lp, zaa, getK, Ob.under, D.under, zad, zae]) (by simp [wkU, St.lp, zak, zaa, getK, D.under]) (by simp [wkE, St.lp, zak, zaa, getK] <;> (try (intros; simp_all; done)) <;> (try (intros; omega)) <;> (try grind)))
  rintro ⟨i, hi, hb⟩
  simp [St.lp, St.only, zak, zaa, getK]
  rcases hx : b.lets[i]? with _ | l
  ·have hge : b.lets.length ≤ i := by simpa using hx
   have hb' : zh5 [] b.lets = true := by rw [hb, List.drop_of_length_le hge]; rfl
   generalize zb3 12 b.due = x1 at e1 ⊢
   generalize zb3 12 b.fine = x2 at e2 ⊢
   generalize zb3 12 b.pay = x3 at e3 ⊢
   generalize zb3 12 b.cover = x4 at e4 ⊢
   generalize zb3 12 b.hold = x5 at e5 ⊢
   repeat' (first
  | (refine zag ?_; simp [hx])
  | (refine zaj ?_; simp [hx])
  | (refine ⟨by omega, ?_⟩)
  | (refine zah ?_; simp [hx])
  | (refine zas ?_; simp only [zan])
  | (refine zaZ ?_; simp [zan])
  | (refine ⟨fun hc => ?_, fun hc => ?_⟩ <;> (try (exfalso; omega)))
  | (intro hc <;> (try (exfalso; omega)))
  | (refine CallP.fun_ (e1) (by first | rfl | fail) (by first | assumption | (simp; done) | fail) (by first | (simp [hx]; done) | (simp [hx]; rfl) | fail) (by first | (simp; done) | fail) (fun d hd => ?_); subst hd; (try simp [hx]))
  | (refine CallP.fun_ (e2) (by first | rfl | fail) (by first | assumption | (simp; done) | fail) (by first | (simp [hx]; done) | (simp [hx]; rfl) | fail) (by first | (simp; done) | fail) (fun d hd => ?_); subst hd; (try simp [hx]))
  | (refine CallP.fun_ (e3) (by first | rfl | fail) (by first | assumption | (simp; done) | fail) (by first | (simp [hx]; done) | (simp [hx]; rfl) | fail) (by first | (simp; done) | fail) (fun d hd => ?_); subst hd; (try simp [hx]))
  | (refine CallP.fun_ (e4) (by first | rfl | fail) (by first | assumption | (simp; done) | fail) (by first | (simp [hx]; done) | (simp [hx]; rfl) | fail) (by first | (simp; done) | fail) (fun d hd => ?_); subst hd; (try simp [hx]))
  | (refine CallP.fun_ (e5) (by first | rfl | fail) (by first | assumption | (simp; done) | fail) (by first | (simp [hx]; done) | (simp [hx]; rfl) | fail) (by first | (simp; done) | fail) (fun d hd => ?_); subst hd; (try simp [hx]))
  | fail)
   all_goals
    (refine EndOK.val (.inr rfl) ?_; simp [zaC, zaf, zaw, Tryz.results40])
   all_goals
    clear i1 i2 i3 i4 i5 hr e1 e2 e3 e4 e5
    grind
  ·have hlt : i < b.lets.length := (List.getElem?_eq_some_iff.1 hx).1
   have hnx := zmX hx
   have e6 := zfp l.name
   have e7 := hr l.body
   have e8 := zeI (b.lets.take i) 100 [U.row (zjG l) 0] _ (fun x _ => zj6 x l) (by simp) (fun _ => rfl) (fun _ => rfl)
   simp only [zgZ, zjG, List.map_cons, List.map_nil] at e8
   generalize zdu l.name = y1 at e6 hnx
   generalize zb3 12 l.body = y2 at e7 hnx
   generalize ((b.lets.take i).any fun x => decide (x.name = l.name)) = y3 at e8 hnx
   repeat' (first
  | (refine zag ?_; simp [hx])
  | (refine zaj ?_; simp [hx])
  | (refine ⟨by omega, ?_⟩)
  | (refine zah ?_; simp [hx])
  | (refine zai ?_; simp [hx])
  | (refine zap ?_; simp [hx])
  | (refine zas ?_; simp only [zan])
  | (refine zaq ?_; simp only [zan])
  | (refine ⟨?_, by omega⟩)
  | (refine ⟨fun hc => ?_, fun hc => ?_⟩ <;> (try (exfalso; omega)))
  | (intro hc <;> (try (exfalso; omega)))
  | (refine CallP.fun_ (e6) (by first | rfl | fail) (by first | assumption | (simp; done) | fail) (by first | (simp [hx]; done) | (simp [hx]; rfl) | fail) (by first | (simp; done) | fail) (fun d hd => ?_); subst hd; (try simp [hx]))
  | (refine CallP.fun_ (e7) (by first | rfl | fail) (by first | assumption | (simp; done) | fail) (by first | (simp [hx]; done) | (simp [hx]; rfl) | fail) (by first | (simp; done) | fail) (fun d hd => ?_); subst hd; (try simp [hx]))
  | (refine CallP.fun_ (e8) (by first | rfl | fail) (by first | assumption | (simp; done) | fail) (by first | (simp [hx]; done) | (simp [hx]; rfl) | fail) (by first | (simp; done) | fail) (fun d hd => ?_); subst hd; (try simp [hx]))
  | fail)
   all_goals first
    | (refine LoopW.next ⟨i + 1, by omega, by simp_all⟩ (by simp; omega) ?_; exact (Wk.cut rfl (by simp [hn, St.lp]) (by simp [wkO, St.lp, zaa, getK, Ob.under, D.under, zad, zae]) (by simp [wkU, St.lp, zak, zaa, getK, D.under]) (by simp [wkE, St.lp, zak, zaa, getK] <;> (try (intros; simp_all; done)) <;> (try (intros; omega)) <;> (try grind))))
    | ((refine EndOK.val (.inr rfl) ?_; simp [zaC, zaf, zaw, Tryz.results40]); clear i1 i2 i3 i4 i5 hr e1 e2 e3 e4 e5 e6 e7 e8; grind)
def l0 (l : List Int) (i : Nat) : Int := l.getD i 0
end Go.Proofs.YtepiegcjnaohjaaGreatDoor
namespace Go.VL
/-- A slice within a struct that came in has a length that an int holds. -/
theorem znT {P : Program} {Γ : Ctx} {c : Code} {s : St} {Q : Exit → St → Prop} {x j : Nat} {cells : List U} {rows : List (List U)} (hx : getK s.env x = some (.u (.agg cells))) (hj : cells[j]? = some (.sl rows)) (h : rows.length ≤ 9223372036854775807 → V P Γ c s Q) : V P Γ c s Q :=
 zmr (fun K a w hs => by
  have hr := (hs.getK hx).2
  obtain ⟨vs, hl, _, hr⟩ := zcZ hr
  have hr := hr j _ hj
  generalize vs.getD j undef = v at hr
  cases hr with
  | slE => simp
  | sl _ b o sz c f hc hcx => unfold maxLen at hcx; omega) h
end Go.VL
namespace Go.Proofs.YtepiegcjnaohjaaGreatDoor
open Go Go.VL
attribute [local simp] zcR zb9 evPure opd uOf zaI St.put St.at getK binD binI binS binB nilD aggD zg9 zit lookD lookR zcz rangeS Go.VL.nextD Go.VL.nextS zcB ziI ziG zga zb6 mkV zbi zbh zcK zbg zbs zbB mapEff zdf zf6 Key.kk shiftI arith unD convD zdK loadD cellsAt fieldAddrD fieldD indexAddrD indexSlD arrAddr indexD sliceD cutD lenD minmaxD nilCheckD buildD fillD zbQ zcV zex setAll zcF zer zcs zhq zcq St.add zaU zbO rowsOf zdE zco zax zac zaa zby zdg za8 entry zbq zbv valD zb7 zcp zgE zdc zdd zbU zbJ zaA zaY zbt delAll effD St.effS zc4 zbj zbb zc5 zbk zbd zcm zbc za0 zcn zcW zbP zch zbw zcf zcg zaP mkD zbR zbF zbI zaA zcr D.ids Op.operands Call.operands zbN makeIfD makeFuncD typeAssertD zis zdw zdx zhx zcA IntKind.bits zcC List.take_of_length_le List.range_succ
attribute [local irreducible] V G H HD HD2 zan Eff CallP CallV EndOK Fun Ret FinOK LoopI LoopW EndW
def zbH : Nat → Exp → Int → Int
 | 0, _, most => most + 1
 | L + 1, e, most => if 60 < e.s.length then most + 1 else e.args.foldl (fun n x => if n ≤ most then n + zbH L x (most - n) else n) 1
theorem zfJ (L : Nat) (e : Exp) (most : Int) : zbH (L + 1) e most = if 60 < e.s.length then most + 1 else e.args.foldl (fun n x => if n ≤ most then n + zbH L x (most - n) else n) 1 := by rw [zbH]
theorem zej : ∀ (L : Nat) (e : Exp) (most : Int), 0 ≤ most → 1 ≤ zbH L e most ∧ zbH L e most ≤ most + 1
 | 0, e, most, h => by rw [zbH]; omega
 | L + 1, e, most, h => by
  rw [zbH]
  split
  ·omega
  ·have : ∀ (l : List Exp) (n : Int), 1 ≤ n → n ≤ most + 1 → 1 ≤ l.foldl (fun n x => if n ≤ most then n + zbH L x (most - n) else n) n ∧ l.foldl (fun n x => if n ≤ most then n + zbH L x (most - n) else n) n ≤ most + 1 := by
    intro l
    induction l with
    | nil => intro n h1 h2; exact ⟨h1, h2⟩
    | cons a l ih =>
     intro n h1 h2
     rw [List.foldl_cons]
     split
     ·rename_i hn
      have := zej L a (most - n) (by omega)
      exact ih _ (by omega) (by omega)
     ·exact ih n h1 h2
   exact this _ 1 (by omega) (by omega)
theorem zd5 {L : Nat} {most : Int} : ∀ (l : List Exp) (n : Int), ¬ n ≤ most → l.foldl (fun n x => if n ≤ most then n + zbH L x (most - n) else n) n = n
 | [], _, _ => rfl
 | a :: l, n, h => by rw [List.foldl_cons, if_neg h]; exact zd5 l n h
theorem zh1 : ∀ (L : Nat) (e : Exp) (most : Int), 0 ≤ most → most ≤ 1000 → (L : Int) ≤ 100 → Fun Tryz.prog 165 [zfX e, .u (.int .i64 most), .u (.int .i64 L)] (· = .u (.int .i64 (zbH L e most)))
 | 0, e, most, _, _, _ => by
  rw [zbH]
  (refine Fun.of_body Tryz.func165 rfl (by simp) fun Γ hn => ?_); simp only [entry, List.zipIdx_cons, List.zipIdx_nil, List.map_cons, List.map_nil, Nat.zero_add, Tryz.ntmps165]
  simp only [zfX]
  repeat' (first
  | (refine zag ?_; simp)
  | (refine zaj ?_; simp)
  | (refine ⟨by omega, ?_⟩)
  | (refine zah ?_; simp)
  | (refine zai ?_; simp)
  | (refine zas ?_; simp only [zan])
  | fail)
  (refine EndOK.val (.inr rfl) ?_; simp [zaC, zaf, zaw, Tryz.results165])
 | L + 1, e, most, h0, h1, hL => by
  rw [zfJ]
  by_cases hs : 60 < e.s.length
  ·rw [if_pos hs]
   (refine Fun.of_body Tryz.func165 rfl (by simp) fun Γ hn => ?_); simp only [entry, List.zipIdx_cons, List.zipIdx_nil, List.map_cons, List.map_nil, Nat.zero_add, Tryz.ntmps165]
   simp only [zfX]
   repeat' (first
  | (refine zag ?_; simp)
  | (refine zaj ?_; simp)
  | (refine ⟨by omega, ?_⟩)
  | (refine zah ?_; simp)
  | (refine zai ?_; simp)
  | (refine zas ?_; simp only [zan])
  | (refine ⟨?_, by omega⟩)
  | (intro hc <;> (try (exfalso; omega)))
  | fail)
   all_goals first
    | (exfalso; omega)
    | ((refine EndOK.val (.inr rfl) ?_; simp [zaC, zaf, zaw, Tryz.results165]); done)
  rw [if_neg hs]
  generalize hg : (e.args.foldl (fun n x => if n ≤ most then n + zbH L x (most - n) else n) 1) = g
  (refine Fun.of_body Tryz.func165 rfl (by simp) fun Γ hn => ?_); simp only [entry, List.zipIdx_cons, List.zipIdx_nil, List.map_cons, List.map_nil, Nat.zero_add, Tryz.ntmps165]
  simp only [zfX]
  refine znT (x := 0) (j := 4) rfl rfl fun hl => ?_
  simp only [List.length_map] at hl
  repeat' (first
  | (refine zag ?_; simp)
  | (refine zaj ?_; simp)
  | (refine ⟨by omega, ?_⟩)
  | (refine zah ?_; simp)
  | (refine zai ?_; simp)
  | (refine zau ?_; simp)
  | (refine zaq ?_; simp only [zan])
  | (refine ⟨?_, by omega⟩)
  | (intro hc <;> (try (exfalso; omega)))
  | fail)
  refine zbr (α := { p : Nat × Int // p.1 ≤ e.args.length ∧ 1 ≤ p.2 ∧ p.2 ≤ most + 1 ∧ g = (e.args.drop p.1).foldl (fun n x => if n ≤ most then n + zbH L x (most - n) else n) p.2 }) [1, 2, 3] (fun p => [(7, .u (.int .i64 p.1.2)), (8, .u (.int .i64 p.1.1))]) (fun p => e.args.length - p.1.1) ⟨(0, 1), by simp, by simp, by simp; omega, by simp [hg]⟩ ?_ ?_
  ·exact (Wk.cut rfl (by simp [hn, St.lp]) (by simp [wkO, St.lp, zaa, getK, Ob.under, D.under, zad, zae]) (by simp [wkU, St.lp, zak, zaa, getK, D.under]) (by simp [wkE, St.lp, zak, zaa, getK] <;> (try (intros; simp_all; done)) <;> (try (intros; omega)) <;> (try grind)))
  rintro ⟨⟨i, n⟩, hi, hn1, hn2, hgn⟩
  simp only at hi hn1 hn2 hgn
  simp [St.lp, St.only, zak, zaa, getK]
  rcases hx : e.args[i]? with _ | x
  ·have hge : e.args.length ≤ i := by simpa using hx
   rw [List.drop_of_length_le hge] at hgn
   repeat' (first
  | (refine zag ?_; simp [hx])
  | (refine zaj ?_; simp [hx])
  | (refine ⟨by omega, ?_⟩)
  | (refine zah ?_; simp [hx])
  | (refine zai ?_; simp [hx])
  | (refine zas ?_; simp only [zan])
  | (refine zaZ ?_; simp [zan])
  | (intro hc <;> (try (exfalso; omega)))
  | fail)
   (refine EndOK.val (.inr rfl) ?_; simp [zaC, zaf, zaw, Tryz.results165])
   rw [hgn]; rfl
  ·have hlt : i < e.args.length := (List.getElem?_eq_some_iff.1 hx).1
   by_cases hm : n ≤ most
   ·have h5 := zh1 L x (most - n) (by omega) (by omega) (by omega)
    have hb := zej L x (most - n) (by omega)
    simp only [zfX] at h5
    rw [List.drop_eq_getElem_cons hlt, List.foldl_cons, if_pos hm, (List.getElem?_eq_some_iff.1 hx).2] at hgn
    generalize zbH L x (most - n) = y at h5 hb hgn
    repeat' (first
  | (refine zag ?_; simp [hx, x.row_eq])
  | (refine zaj ?_; simp [hx, x.row_eq])
  | (refine ⟨by omega, ?_⟩)
  | (refine zah ?_; simp [hx, x.row_eq])
  | (refine zai ?_; simp [hx, x.row_eq])
  | (refine zap ?_; simp [hx, x.row_eq])
  | (refine zaq ?_; simp only [zan])
  | (refine ⟨?_, by omega⟩)
  | (intro hc <;> (try (exfalso; omega)))
  | (refine CallP.fun_ (h5) (by first | rfl | fail) (by first | assumption | (simp; done) | fail) (by first | (simp [hx, x.row_eq]; done) | (simp [hx, x.row_eq]; rfl) | fail) (by first | (simp; done) | fail) (fun d hd => ?_); subst hd; (try simp [hx, x.row_eq]))
  | fail)
    refine LoopW.next ⟨(i + 1, n + y), (by omega : i + 1 ≤ e.args.length), (by omega : 1 ≤ n + y), (by omega : n + y ≤ most + 1), hgn⟩ (by simp; omega) ?_
    exact (Wk.cut rfl (by simp [hn, St.lp]) (by simp [wkO, St.lp, zaa, getK, Ob.under, D.under, zad, zae]) (by simp [wkU, St.lp, zak, zaa, getK, D.under]) (by simp [wkE, St.lp, zak, zaa, getK] <;> (try (intros; simp_all; done)) <;> (try (intros; omega)) <;> (try grind)))
   ·rw [zd5 _ _ hm] at hgn
    repeat' (first
  | (refine zag ?_; simp [hx])
  | (refine zaj ?_; simp [hx])
  | (refine ⟨by omega, ?_⟩)
  | (refine zah ?_; simp [hx])
  | (refine zai ?_; simp [hx])
  | (refine zas ?_; simp only [zan])
  | (refine zaZ ?_; simp [zan])
  | (refine ⟨?_, by omega⟩)
  | (intro hc <;> (try (exfalso; omega)))
  | fail)
    (refine EndOK.val (.inr rfl) ?_; simp [zaC, zaf, zaw, Tryz.results165])
    rw [hgn]
def zmc (e : Exp) (n : Int) : Bool := decide (zbH 16 e n ≤ n)
theorem zcM (e : Exp) (n : Int) (h0 : 0 ≤ n) (h1 : n ≤ 1000) : Fun Tryz.prog 97 [zfX e, .u (.int .i64 n)] (· = .u (.bool (zmc e n))) := by
 have h2 := zh1 16 e n h0 h1 (by omega)
 unfold zmc
 simp only [zfX] at h2 ⊢
 generalize zbH 16 e n = y at h2 ⊢
 (refine Fun.of_body Tryz.func97 rfl (by simp) fun Γ hn => ?_); simp only [entry, List.zipIdx_cons, List.zipIdx_nil, List.map_cons, List.map_nil, Nat.zero_add, Tryz.ntmps97]
 repeat' (first
  | (refine zag ?_; simp)
  | (refine zaj ?_; simp)
  | (refine zah ?_; simp)
  | (refine zas ?_; simp only [zan])
  | (refine CallP.fun_ (h2) (by first | rfl | fail) (by first | assumption | (simp; done) | fail) (by first | (simp; done) | (simp; rfl) | fail) (by first | (simp; done) | fail) (fun d hd => ?_); subst hd; (try simp))
  | fail)
 (refine EndOK.val (.inr rfl) ?_; simp [zaC, zaf, zaw, Tryz.results97])
mutual
def zdi : Exp → Int
 | .mk op _ _ _ args => (if op = 1 then 1 else 0) + zbo args
def zbo : List Exp → Int
 | [] => 0
 | e :: r => zdi e + zbo r
end
theorem zh2 (e : Exp) : zdi e = (if e.op = 1 then 1 else 0) + zbo e.args := by cases e with | mk op n u s args => rw [zdi]; rfl
mutual
theorem zdt : ∀ e : Exp, 0 ≤ zdi e
 | .mk op n u s args => by
  rw [zdi]
  have := zb5 args
  split <;> omega
theorem zb5 : ∀ l : List Exp, 0 ≤ zbo l
 | [] => by rw [zbo]; omega
 | e :: r => by
  rw [zbo]
  have := zdt e
  have := zb5 r
  omega
end
theorem zkl {l : List Exp} {i : Nat} {x : Exp} (h : l[i]? = some x) : zbo (l.take (i + 1)) = zbo (l.take i) + zdi x := by
 induction l generalizing i with
 | nil => simp at h
 | cons a l ih =>
  cases i with
  | zero => simp at h; subst h; simp [zbo]
  | succ i => rw [List.take_succ_cons, List.take_succ_cons, zbo, zbo, ih (i := i) (by simpa using h)]; omega
theorem zkk {l : List Exp} (i : Nat) : zbo (l.take i) ≤ zbo l := by
 induction l generalizing i with
 | nil => simp
 | cons a l ih =>
  cases i with
  | zero => rw [List.take_zero]; have := zb5 (a :: l); rw [show zbo [] = 0 by rw [zbo]]; exact this
  | succ i => rw [List.take_succ_cons, zbo, zbo]; have := ih i; omega
/-- Few nodes: few names. -/
theorem zij : ∀ (L : Nat) (e : Exp) (most : Int), 0 ≤ most → zbH L e most ≤ most → zdi e ≤ zbH L e most
 | 0, e, most, _, h => by rw [zbH] at h; omega
 | L + 1, e, most, h0, h => by
  rw [zfJ] at h ⊢
  by_cases hs : 60 < e.s.length
  ·rw [if_pos hs] at h; omega
  rw [if_neg hs] at h ⊢
  have key : ∀ (l : List Exp) (n : Int), 1 ≤ n → l.foldl (fun n x => if n ≤ most then n + zbH L x (most - n) else n) n ≤ most → n + zbo l ≤ l.foldl (fun n x => if n ≤ most then n + zbH L x (most - n) else n) n := by
   intro l
   induction l with
   | nil => intro n _ _; rw [zbo]; simp
   | cons a l ih =>
    intro n h1 h2
    rw [List.foldl_cons] at h2 ⊢
    by_cases hn : n ≤ most
    ·rw [if_pos hn] at h2 ⊢
     have hb := zej L a (most - n) (by omega)
     have h3 := ih _ (by omega) h2
     have h4 : n + zbH L a (most - n) ≤ most := by
      rcases Int.lt_or_le most (n + zbH L a (most - n)) with h5 | h5
      ·rw [zd5 _ _ (by omega)] at h2; omega
      ·exact h5
     have h5 := zij L a (most - n) (by omega) (by omega)
     rw [zbo]
     omega
    ·rw [if_neg hn, zd5 _ _ hn] at h2; omega
  have h1 := key e.args 1 (by omega) h
  rw [zh2]
  by_cases h3 : e.op = 1
  ·rw [if_pos h3]; omega
  ·rw [if_neg h3]; omega
theorem zgm : ∀ (m : Nat) (e : Exp), SizeOf.sizeOf e ≤ m → zdi e ≤ 1000000 → Fun Tryz.prog 107 [zfX e] (· = .u (.int .i64 (zdi e)))
 | 0, e, hm, _ => by cases e; simp at hm
 | m + 1, e, hm, hN => by
  have hch : ∀ x ∈ e.args, SizeOf.sizeOf x ≤ m := fun x hx => by
   cases e with
   | mk op n u s args =>
    have h1 := List.sizeOf_lt_of_mem (show x ∈ args from hx)
    simp at hm
    omega
  rw [zh2] at hN ⊢
  have hnn := zb5 e.args
  generalize hk : (if e.op = 1 then (1 : Int) else 0) = k0 at hN ⊢
  have hk01 : 0 ≤ k0 ∧ k0 ≤ 1 := by rw [← hk]; split <;> omega
  (refine Fun.of_body Tryz.func107 rfl (by simp) fun Γ hn => ?_); simp only [entry, List.zipIdx_cons, List.zipIdx_nil, List.map_cons, List.map_nil, Nat.zero_add, Tryz.ntmps107]
  simp only [zfX]
  refine znT (x := 0) (j := 4) rfl rfl fun hl => ?_
  simp only [List.length_map] at hl
  repeat' (first
  | (refine zag ?_; simp)
  | (refine zaj ?_; simp)
  | (refine zah ?_; simp)
  | (refine zai ?_; simp)
  | (refine zau ?_; simp)
  | (refine zap ?_; simp)
  | (refine zaq ?_; simp only [zan])
  | (refine ⟨fun hc => ?_, fun hc => ?_⟩ <;> (try (exfalso; omega)))
  | fail)
  all_goals
   refine zbr (α := { i : Nat // i ≤ e.args.length }) [1] (fun i => [(3, .u (.int .i64 (k0 + zbo (e.args.take i.1)))), (4, .u (.int .i64 i.1))]) (fun i => e.args.length - i.1) ⟨0, by omega⟩ ?_ ?_
   ·exact (Wk.cut rfl (by simp [hn, St.lp]) (by simp [wkO, St.lp, zaa, getK, Ob.under, D.under, zad, zae, zbo]) (by simp [wkU, St.lp, zak, zaa, getK, D.under, zbo]) (by simp [wkE, St.lp, zak, zaa, getK, zbo] <;> (try (intros; simp_all; done)) <;> (try (intros; omega)) <;> (try grind)))
   rintro ⟨i, hi⟩
   simp [St.lp, St.only, zak, zaa, getK]
   rcases hx : e.args[i]? with _ | x
   ·have hge : e.args.length ≤ i := by simpa using hx
    obtain rfl : i = e.args.length := by omega
    repeat' (first
  | (refine zag ?_; simp [hx])
  | (refine zaj ?_; simp [hx])
  | (refine zah ?_; simp [hx])
  | (refine zai ?_; simp [hx])
  | (refine zas ?_; simp only [zan])
  | (refine zaZ ?_; simp [zan])
  | fail)
    (refine EndOK.val (.inr rfl) ?_; simp [zaC, zaf, zaw, Tryz.results107])
   ·have hlt : i < e.args.length := (List.getElem?_eq_some_iff.1 hx).1
    have hat := zkl hx
    have hle := zkk (l := e.args) (i + 1)
    have hn0 := zb5 (e.args.take i)
    have hnx := zdt x
    have h5 := zgm m x (hch x (List.mem_of_getElem? hx)) (by omega)
    simp only [zfX] at h5
    repeat' (first
  | (refine zag ?_; simp [hx, x.row_eq])
  | (refine zaj ?_; simp [hx, x.row_eq])
  | (refine ⟨by omega, ?_⟩)
  | (refine zah ?_; simp [hx, x.row_eq])
  | (refine zai ?_; simp [hx, x.row_eq])
  | (refine zap ?_; simp [hx, x.row_eq])
  | (refine zaq ?_; simp only [zan])
  | (refine ⟨?_, by omega⟩)
  | (intro hc <;> (try (exfalso; omega)))
  | (refine CallP.fun_ (h5) (by first | rfl | fail) (by first | assumption | (simp; done) | fail) (by first | (simp [hx, x.row_eq]; done) | (simp [hx, x.row_eq]; rfl) | fail) (by first | (simp; done) | fail) (fun d hd => ?_); subst hd; (try simp [hx, x.row_eq]))
  | fail)
    all_goals
     refine LoopW.next ⟨i + 1, by omega⟩ (by simp; omega) ?_
     exact (Wk.cut rfl (by simp [hn, St.lp]) (by simp [wkO, St.lp, zaa, getK, Ob.under, D.under, zad, zae, hat, Int.add_assoc]) (by simp [wkU, St.lp, zak, zaa, getK, D.under, hat, Int.add_assoc]) (by simp [wkE, St.lp, zak, zaa, getK, hat, Int.add_assoc] <;> (try (intros; simp_all; done)) <;> (try (intros; omega)) <;> (try grind)))
end Go.Proofs.YtepiegcjnaohjaaGreatDoor
namespace Go.Proofs.YtepiegcjnaohjaaGreatDoor
open Go Go.VL
attribute [local simp] zcR zb9 evPure opd uOf zaI St.put St.at getK binD binI binS binB nilD aggD zg9 zit lookD lookR zcz rangeS Go.VL.nextD Go.VL.nextS zcB ziI ziG zga zb6 mkV zbi zbh zcK zbg zbs zbB mapEff zdf zf6 Key.kk shiftI arith unD convD zdK loadD cellsAt fieldAddrD fieldD indexAddrD indexSlD arrAddr indexD sliceD cutD lenD minmaxD nilCheckD buildD fillD zbQ zcV zex setAll zcF zer zcs zhq zcq St.add zaU zbO rowsOf zdE zco zax zac zaa zby zdg za8 entry zbq zbv valD zb7 zcp zgE zdc zdd zbU zbJ zaA zaY zbt delAll effD St.effS zc4 zbj zbb zc5 zbk zbd zcm zbc za0 zcn zcW zbP zch zbw zcf zcg zaP mkD zbR zbF zbI zaA zcr D.ids Op.operands Call.operands zbN makeIfD makeFuncD typeAssertD zis zdw zdx zhx zcA IntKind.bits zcC List.take_of_length_le List.range_succ
attribute [local irreducible] V G H HD HD2 zan Eff CallP CallV EndOK Fun Ret FinOK LoopI LoopW EndW
/-- What the loop over the lets finds. -/
def zkK (n m : Int) : List Let → Int → Int → Bool
 | [], _, _ => true
 | l :: r, i, p => if i ≤ m then (if 60 < l.name.length ∨ zmc l.body n = false then false else if 2000 < p * (1 + zdi l.body) then false else zkK n m r (i + 1) (p * (1 + zdi l.body))) else true
def zp4 (l : List Let) (m n : Int) : Bool := zkK n m l 0 1 && decide ((l.length : Int) ≤ m)
theorem zja (l : List Let) (m n : Int) (h0 : 0 ≤ n) (h1 : n ≤ 1000) (h2 : 0 ≤ m) (h3 : m ≤ 1000) : Fun Tryz.prog 51 [.u (zgZ l), .u (.int .i64 m), .u (.int .i64 n)] (· = .u (.bool (zp4 l m n))) := by
 unfold zp4
 generalize hB : zkK n m l 0 1 = B
 (refine Fun.of_body Tryz.func51 rfl (by simp) fun Γ hn => ?_); simp only [entry, List.zipIdx_cons, List.zipIdx_nil, List.map_cons, List.map_nil, Nat.zero_add, Tryz.ntmps51]
 simp only [zgZ]
 refine zjl (x := 0) rfl fun hl => ?_
 simp only [List.length_map] at hl
 repeat' (first
  | (refine zag ?_; simp)
  | (refine zaj ?_; simp)
  | (refine zah ?_; simp)
  | (refine zau ?_; simp)
  | fail)
 refine zbr (α := { q : Nat × Int // q.1 ≤ l.length ∧ (q.1 : Int) ≤ m + 1 ∧ 1 ≤ q.2 ∧ q.2 ≤ 2000 ∧ B = zkK n m (l.drop q.1) q.1 q.2 }) [0, 1, 2] (fun q => [(7, .u (.int .i64 q.1.2)), (8, .u (.int .i64 q.1.1))]) (fun q => l.length - q.1.1) ⟨(0, 1), by simp, by simp; omega, by simp, by simp, by simp [hB]⟩ ?_ ?_
 ·exact (Wk.env rfl rfl rfl (by simp [wkE, St.lp, zak, zaa, getK] <;> (try (intros; simp_all; done)) <;> (try (intros; omega)) <;> (try grind)))
 rintro ⟨⟨i, p⟩, hi, him, hp1, hp2, hb⟩
 simp only at hi him hp1 hp2 hb
 simp [St.lp, St.only, zak, zaa, getK]
 rcases hx : l[i]? with _ | x
 ·have hge : l.length ≤ i := by simpa using hx
  obtain rfl : i = l.length := by omega
  rw [List.drop_length, zkK] at hb
  repeat' (first
  | (refine zag ?_; simp [hx])
  | (refine zaj ?_; simp [hx])
  | (refine zah ?_; simp [hx])
  | (refine zai ?_; simp [hx])
  | (refine zas ?_; simp only [zan])
  | (refine zaZ ?_; simp [zan])
  | fail)
  all_goals
   (refine EndOK.val (.inr rfl) ?_; simp [zaC, zaf, zaw, Tryz.results51])
  all_goals simp [hb]
 ·have hlt : i < l.length := (List.getElem?_eq_some_iff.1 hx).1
  rw [List.drop_eq_getElem_cons hlt, (List.getElem?_eq_some_iff.1 hx).2, zkK] at hb
  by_cases hm : (i : Int) ≤ m
  ·rw [if_pos hm] at hb
   have h5 := zcM x.body n h0 h1
   simp only [zfX] at h5
   by_cases hn60 : 60 < x.name.length
   ·rw [if_pos (.inl hn60)] at hb
    cases hf : zmc x.body n
    all_goals
     rw [hf] at h5
     repeat' (first
  | (refine zag ?_; simp [hx, hm])
  | (refine zaj ?_; simp [hx, hm])
  | (refine ⟨by omega, ?_⟩)
  | (refine zah ?_; simp [hx, hm])
  | (refine zai ?_; simp [hx, hm])
  | (refine zas ?_; simp only [zan])
  | (refine zaq ?_; simp only [zan])
  | (refine ⟨?_, by omega⟩)
  | (intro hc <;> (try (exfalso; omega)))
  | fail)
     all_goals first
      | (exfalso; omega)
      | ((refine EndOK.val (.inr rfl) ?_; simp [zaC, zaf, zaw, Tryz.results51]); simp [hb]; done)
   ·cases hf : zmc x.body n with
    | false =>
     rw [if_pos (.inr hf)] at hb
     rw [hf] at h5
     repeat' (first
  | (refine zag ?_; simp [hx, hm])
  | (refine zaj ?_; simp [hx, hm])
  | (refine zah ?_; simp [hx, hm])
  | (refine zai ?_; simp [hx, hm])
  | (refine zas ?_; simp only [zan])
  | (refine zaq ?_; simp only [zan])
  | (refine ⟨?_, by omega⟩)
  | (intro hc <;> (try (exfalso; omega)))
  | (refine CallP.fun_ (h5) (by first | rfl | fail) (by first | assumption | (simp; done) | fail) (by first | (simp [hx, hm]; done) | (simp [hx, hm]; rfl) | fail) (by first | (simp; done) | fail) (fun d hd => ?_); subst hd; (try simp [hx, hm]))
  | fail)
     all_goals first
      | (exfalso; omega)
      | ((refine EndOK.val (.inr rfl) ?_; simp [zaC, zaf, zaw, Tryz.results51]); simp [hb]; done)
    | true =>
     rw [if_neg (by simp [hn60, hf])] at hb
     rw [hf] at h5
     have hfn : zdi x.body ≤ 1000 := by
      unfold zmc at hf
      simp only [decide_eq_true_eq] at hf
      have := zij 16 x.body n h0 hf
      omega
     have hnn := zdt x.body
     have h6 := zgm _ x.body (Nat.le_refl _) (by omega)
     simp only [zfX] at h6
     generalize zdi x.body = y at h6 hb hfn hnn
     have hpy : p * (1 + y) ≤ 2000 * 1001 := Int.mul_le_mul hp2 (by omega) (by omega) (by omega)
     have hpy1 : 1 ≤ p * (1 + y) := by
      have := Int.mul_le_mul hp1 (show (1 : Int) ≤ 1 + y by omega) (by omega) (by omega)
      omega
     repeat' (first
  | (refine zag ?_; simp [hx, hm])
  | (refine zaj ?_; simp [hx, hm])
  | (refine ⟨by omega, ?_⟩)
  | (refine zah ?_; simp [hx, hm])
  | (refine zai ?_; simp [hx, hm])
  | (refine zap ?_; simp [hx, hm])
  | (refine zas ?_; simp only [zan])
  | (refine zaq ?_; simp only [zan])
  | (refine ⟨?_, by omega⟩)
  | (refine ⟨fun hc => ?_, fun hc => ?_⟩ <;> (try (exfalso; omega)))
  | (intro hc <;> (try (exfalso; omega)))
  | (refine CallP.fun_ (h5) (by first | rfl | fail) (by first | assumption | (simp; done) | fail) (by first | (simp [hx, hm]; done) | (simp [hx, hm]; rfl) | fail) (by first | (simp; done) | fail) (fun d hd => ?_); subst hd; (try simp [hx, hm]))
  | (refine CallP.fun_ (h6) (by first | rfl | fail) (by first | assumption | (simp; done) | fail) (by first | (simp [hx, hm]; done) | (simp [hx, hm]; rfl) | fail) (by first | (simp; done) | fail) (fun d hd => ?_); subst hd; (try simp [hx, hm]))
  | fail)
     all_goals first
      | (exfalso; omega)
      | ((refine EndOK.val (.inr rfl) ?_; simp [zaC, zaf, zaw, Tryz.results51]); rw [if_pos (by omega)] at hb; simp [hb]; done)
      | (refine LoopW.next ⟨(i + 1, p * (1 + y)), (by omega : i + 1 ≤ l.length), (by simp; omega), hpy1, (by omega : p * (1 + y) ≤ 2000), by rw [if_neg (by omega)] at hb; simpa using hb⟩ (by simp; omega) ?_; exact (Wk.env rfl rfl rfl (by simp [wkE, St.lp, zak, zaa, getK] <;> (try (intros; simp_all; done)) <;> (try (intros; omega)) <;> (try grind))))
  ·rw [if_neg hm] at hb
   repeat' (first
  | (refine zag ?_; simp [hx, hm])
  | (refine zaj ?_; simp [hx, hm])
  | (refine zah ?_; simp [hx, hm])
  | (refine zai ?_; simp [hx, hm])
  | (refine zas ?_; simp only [zan])
  | (refine zaZ ?_; simp [zan])
  | (refine ⟨?_, by omega⟩)
  | (intro hc <;> (try (exfalso; omega)))
  | fail)
   (refine EndOK.val (.inr rfl) ?_; simp [zaC, zaf, zaw, Tryz.results51])
   simp [hb]
theorem zlG (s : List UInt8) : Fun Tryz.prog 121 [.u (.str s)] (· = zgv (zkT s)) := by
 unfold zkT
 by_cases hlong : 2000 < s.length
 ·have hlong2 : 2000 < (s.length : Int) := by omega
  rw [if_pos hlong]
  (refine Fun.of_bodyW Tryz.func121 rfl (by simp) fun Γ hn => ?_); simp only [entry, List.zipIdx_cons, List.zipIdx_nil, List.map_cons, List.map_nil, Nat.zero_add, Tryz.ntmps121]
  repeat' (first
  | (refine zag ?_; simp [hlong, hlong2])
  | (refine zaj ?_; simp [hlong, hlong2])
  | (refine zah ?_; simp [hlong, hlong2])
  | (refine zai ?_; simp [hlong, hlong2])
  | (refine zas ?_; simp only [zan])
  | fail)
  refine EndW.norm (EndW.here ?_)
  (refine EndOK.val (.inr rfl) ?_; simp [zaC, zaf, zaw, Tryz.results121, zaD, zaE, zck, zcl, frz, zba, frzS, fv, za3, za4, za9, zaH, zaz, zay, zbz, zbL, zbM, za1])
  simp [zgv]
 rw [if_neg hlong]
 have hlong2 : ¬ 2000 < (s.length : Int) := by omega
 obtain ⟨R, hR⟩ : ∃ R, R = zlI (s.length + 1) s 0 := ⟨_, rfl⟩
 rw [← hR]
 (refine Fun.of_bodyW Tryz.func121 rfl (by simp) fun Γ hn => ?_); simp only [entry, List.zipIdx_cons, List.zipIdx_nil, List.map_cons, List.map_nil, Nat.zero_add, Tryz.ntmps121]
 repeat' (first
  | (refine zag ?_; simp [hlong, hlong2])
  | (refine zaj ?_; simp [hlong, hlong2])
  | (refine zah ?_; simp [hlong, hlong2])
  | (refine zai ?_; simp [hlong, hlong2])
  | (refine zau ?_; simp [hlong, hlong2])
  | (refine zaq ?_; simp only [zan])
  | fail)
 refine zoP _ (Wk.own 5 201 4 (by decide) rfl) ?_
 simp [St.own]
 refine zde (α := { x : List Tok × Nat × Nat // x.2.1 ≤ s.length ∧ s.length < x.2.1 + x.2.2 ∧ x.1.length ≤ x.2.1 ∧ R = zj8 x.1 (zlI x.2.2 s x.2.1) }) [0] (fun x => [(5, .vec 0 x.1.1.length), (6, .u (.int .i64 x.1.2.1))]) (fun x => [(0, .vec 201 4 (zgO x.1.1))]) 1 (fun x => x.1.2.2) ⟨([], 0, s.length + 1), by simp, by simp, by simp, by rw [zld, hR]⟩ ?_ ?_
 ·exact (Wk.cut rfl (by simp [hn, St.lp]) (by simp [wkO, St.lp, zaa, getK, Ob.under, D.under, zad, zae, zgO]) (by simp [wkU, St.lp, zak, zaa, getK, D.under, zgO]) (by simp [wkE, St.lp, zak, zaa, getK, zgO] <;> (try (intros; simp_all; done)) <;> (try (intros; omega)) <;> (try grind)))
 rintro ⟨⟨acc, p, f⟩, h1, h2, h3, h4⟩
 simp only at h1 h2 h3 h4
 simp [St.lp, St.only, zak, zaa, getK]
 obtain ⟨f', rfl⟩ : ∃ f', f = f' + 1 := ⟨f - 1, by omega⟩
 rw [zlI] at h4
 have hsp := zev (s.drop p) (by rw [List.length_drop]; omega) 198 zbG (fun c _ => zml c) (by simp)
 have hle := zcX zbG (s.drop p)
 rw [List.length_drop] at hle
 obtain ⟨b, hb⟩ : ∃ b, b = zb1 zbG (s.drop p) := ⟨_, rfl⟩
 rw [← hb] at hsp hle h4
 have hp1 : (p : Int) ≤ s.length := by omega
 have hpb : (p : Int) + b ≤ s.length := by omega
 rcases hd : s.drop (p + b) with _ | ⟨c, r⟩
 ·have hdl : (s.drop (p + b)).length = 0 := by rw [hd]; rfl
  rw [List.length_drop] at hdl
  have hpe : p + b = s.length := by omega
  have hpe2 : (p : Int) + b = s.length := by omega
  rw [hd] at h4
  simp only at h4
  have hap : zgO acc ++ [[D.u (.int .i64 0), D.u (.str []), D.u (.int .i64 0), D.u (.int .i64 (s.length : Int))]] = zgO (acc ++ [⟨0, [], 0, s.length⟩]) := by simp [zgO]
  have hlr : ziH 4 (zgO acc) := fun r hr => by obtain ⟨t, _, rfl⟩ := List.mem_map.1 hr; rfl
  rw [hpe] at h4
  repeat' (first
  | (refine zag ?_; simp [h1, hp1, hpe2, zbe, hap, hlr])
  | (refine zaj ?_; simp [h1, hp1, hpe2, zbe, hap, hlr])
  | (refine ⟨by omega, ?_⟩)
  | (refine zah ?_; simp [h1, hp1, hpe2, zbe, hap, hlr])
  | (refine zai ?_; simp [h1, hp1, hpe2, zbe, hap, hlr])
  | (refine zau ?_; simp [h1, hp1, hpe2, zbe, hap, hlr])
  | (refine zas ?_; simp only [zan])
  | (refine CallP.fun_ (hsp) (by first | rfl | fail) (by first | assumption | (simp; done) | fail) (by first | (simp [h1, hp1, hpe2, zbe, hap, hlr]; done) | (simp [h1, hp1, hpe2, zbe, hap, hlr]; rfl) | fail) (by first | (simp; done) | fail) (fun d hd => ?_); subst hd; (try simp [h1, hp1, hpe2, zbe, hap, hlr]))
  | fail)
  (refine EndW.frzN 3 ?_; simp [frzN, frz1, zaE, zaD, St.frz, St.frzS, frzS, fv, za3, za4, za9, zaH, zaz, zay, del, frz, zba, zjv, zbe, List.length_append])
  refine EndW.norm (EndW.here ?_)
  (refine EndOK.val (.inr rfl) ?_; simp [zaC, zaf, zaw, Tryz.results121, zaD, zaE, zck, zcl, frz, zba, frzS, fv, za3, za4, za9, zaH, zaz, zay, zbz, zbL, zbM, za1, zjv, zbe, List.length_append])
  rw [h4]
  simp [zj8, zgv]
 ·have hdl : (s.drop (p + b)).length = r.length + 1 := by rw [hd]; rfl
  rw [List.length_drop] at hdl
  have hpe : ¬ p + b = s.length := by omega
  have hpe2 : ¬ (p : Int) + b = s.length := by omega
  have hnx := zmQ (s.drop (p + b)) (by rw [hd]; simp) (by rw [List.length_drop]; omega)
  unfold nextD at hnx
  rw [hd] at h4
  simp only at h4
  rw [hd] at hnx
  have hpb2 : ((p : Int) + b).toNat = p + b := by omega
  have hpb3 : p + b ≤ s.length := by omega
  cases hno : zf8 (c :: r) with
  | error e =>
   rw [hno] at h4 hnx
   have he : e ≠ 0 := by
    unfold zf8 at hno
    simp only at hno
    split at hno
    ·split at hno <;> cases hno
     omega
    ·split at hno
     ·split at hno <;> cases hno
      omega
     ·split at hno <;> cases hno
      omega
   repeat' (first
  | (refine zag ?_; simp [h1, hp1, hpe, hpe2, hd, he, hpb, hpb2, hpb3])
  | (refine zaj ?_; simp [h1, hp1, hpe, hpe2, hd, he, hpb, hpb2, hpb3])
  | (refine ⟨by omega, ?_⟩)
  | (refine zah ?_; simp [h1, hp1, hpe, hpe2, hd, he, hpb, hpb2, hpb3])
  | (refine zai ?_; simp [h1, hp1, hpe, hpe2, hd, he, hpb, hpb2, hpb3])
  | (refine zau ?_; simp [h1, hp1, hpe, hpe2, hd, he, hpb, hpb2, hpb3])
  | (refine zas ?_; simp only [zan])
  | (refine zaq ?_; simp only [zan])
  | (refine CallP.fun_ (hsp) (by first | rfl | fail) (by first | assumption | (simp; done) | fail) (by first | (simp [h1, hp1, hpe, hpe2, hd, he, hpb, hpb2, hpb3]; done) | (simp [h1, hp1, hpe, hpe2, hd, he, hpb, hpb2, hpb3]; rfl) | fail) (by first | (simp; done) | fail) (fun d hd => ?_); subst hd; (try simp [h1, hp1, hpe, hpe2, hd, he, hpb, hpb2, hpb3]))
  | (refine CallP.fun_ (hnx) (by first | rfl | fail) (by first | assumption | (simp; done) | fail) (by first | (simp [h1, hp1, hpe, hpe2, hd, he, hpb, hpb2, hpb3]; done) | (simp [h1, hp1, hpe, hpe2, hd, he, hpb, hpb2, hpb3]; rfl) | fail) (by first | (simp; done) | fail) (fun d hd => ?_); subst hd; (try simp [h1, hp1, hpe, hpe2, hd, he, hpb, hpb2, hpb3]))
  | fail)
   refine EndW.norm (EndW.here ?_)
   (refine EndOK.val (.inr rfl) ?_; simp [zaC, zaf, zaw, Tryz.results121, zaD, zaE, zck, zcl, frz, zba, frzS, fv, za3, za4, za9, zaH, zaz, zay, zbz, zbL, zbM, za1])
   rw [h4]
   simp [zj8, zgv]
  | ok t =>
   rw [hno] at h4 hnx
   obtain ⟨ht1, ht2⟩ := zeR hno
   simp only [List.length_cons] at ht2
   have hap : zgO acc ++ [[D.u (.int .i64 t.kind), D.u (.str t.text), D.u (.int .i64 t.n), D.u (.int .i64 ((p : Int) + b))]] = zgO (acc ++ [{ t with pos := ((p + b : Nat) : Int) }]) := by simp [zgO]
   have hlr : ziH 4 (zgO acc) := fun r hr => by obtain ⟨t, _, rfl⟩ := List.mem_map.1 hr; rfl
   repeat' (first
  | (refine zag ?_; simp [h1, hp1, hpe, hpe2, hd, hpb, hpb2, hpb3, zbe, hap, hlr])
  | (refine zaj ?_; simp [h1, hp1, hpe, hpe2, hd, hpb, hpb2, hpb3, zbe, hap, hlr])
  | (refine ⟨by omega, ?_⟩)
  | (refine zah ?_; simp [h1, hp1, hpe, hpe2, hd, hpb, hpb2, hpb3, zbe, hap, hlr])
  | (refine zai ?_; simp [h1, hp1, hpe, hpe2, hd, hpb, hpb2, hpb3, zbe, hap, hlr])
  | (refine zau ?_; simp [h1, hp1, hpe, hpe2, hd, hpb, hpb2, hpb3, zbe, hap, hlr])
  | (refine zap ?_; simp [h1, hp1, hpe, hpe2, hd, hpb, hpb2, hpb3, zbe, hap, hlr])
  | (refine zaq ?_; simp only [zan])
  | (refine CallP.fun_ (hsp) (by first | rfl | fail) (by first | assumption | (simp; done) | fail) (by first | (simp [h1, hp1, hpe, hpe2, hd, hpb, hpb2, hpb3, zbe, hap, hlr]; done) | (simp [h1, hp1, hpe, hpe2, hd, hpb, hpb2, hpb3, zbe, hap, hlr]; rfl) | fail) (by first | (simp; done) | fail) (fun d hd => ?_); subst hd; (try simp [h1, hp1, hpe, hpe2, hd, hpb, hpb2, hpb3, zbe, hap, hlr]))
  | (refine CallP.fun_ (hnx) (by first | rfl | fail) (by first | assumption | (simp; done) | fail) (by first | (simp [h1, hp1, hpe, hpe2, hd, hpb, hpb2, hpb3, zbe, hap, hlr]; done) | (simp [h1, hp1, hpe, hpe2, hd, hpb, hpb2, hpb3, zbe, hap, hlr]; rfl) | fail) (by first | (simp; done) | fail) (fun d hd => ?_); subst hd; (try simp [h1, hp1, hpe, hpe2, hd, hpb, hpb2, hpb3, zbe, hap, hlr]))
  | fail)
   refine LoopW.next ⟨(acc ++ [{ t with pos := ((p + b : Nat) : Int) }], p + b + t.text.length, f'), by simp; omega, by simp; omega, by simp; omega, ?_⟩ (by simp) ?_
   ·rw [h4]
    simp only
    cases zlI f' s (p + b + t.text.length) <;> simp [zj8]
   ·skip
    exact (Wk.ren ((fun i => if i = 0 then 3 else i)) rfl (by first | (simp [hn]; done) | (intro i hi; rw [hn] at hi; constructor <;> (try simp) <;> (try (intro _)) <;> omega)) (by simp [zmx, St.lp, zak, zaa, getK, zac, zax, D.under, D.le, D.ren, zfG, zeM] <;> (try (intros; simp_all; done)) <;> (try omega)) (by simp [wkR, St.lp, zaa, getK, zac, zax, obR, leU, zcj, zbf, Ob.under, D.under, D.le, D.ren, zfG, zeM] <;> (try (intros; simp_all; done)) <;> (try omega)) (by simp [zfG, zeM]))
abbrev zpn (o : Opr) : D := .u (.agg [.str o.text, .int .i64 o.op, .int .i64 o.form])
abbrev zlp (l : List Opr) : U := .sl (l.map fun o => [.str o.text, .int .i64 o.op, .int .i64 o.form])
theorem zgV : Fun Tryz.prog 139 [] (· = .u (zlp oprs)) := by
 unfold zlp oprs
 (refine Fun.of_bodyW Tryz.func139 rfl (by simp) fun Γ hn => ?_); simp only [entry, List.zipIdx_cons, List.zipIdx_nil, List.map_cons, List.map_nil, Nat.zero_add, Tryz.ntmps139]
 repeat' (first
  | (refine zag ?_; simp [zbv, zbq])
  | (refine zaj ?_; simp [zbv, zbq])
  | (refine zah ?_; simp [zbv, zbq])
  | (refine zas ?_; simp only [zan])
  | fail)
 (refine EndW.frzN 1 ?_; simp [frzN, frz1, zaE, zaD, St.frz, St.frzS, frzS, fv, za3, za4, za9, zaH, zaz, zay, del, frz, zba])
 refine EndW.here ?_
 (refine EndOK.val (.inr rfl) ?_; simp [zaC, zaf, zaw, Tryz.results139])
theorem znf (l : List Tok) (q : Nat) (o : Opr) (hq : q < l.length) (hl : l.length ≤ 1000000) : Fun Tryz.prog 248 (zpn o :: [U.row [znM l q] 0].map .u) (· = .u (.bool (isB l q o.text))) := by
 have h1 := zdC l q o.text hq hl
 simp only [List.map_cons, List.map_nil, zpn]
 (refine Fun.of_body Tryz.func248 rfl (by simp) fun Γ hn => ?_); simp only [entry, List.zipIdx_cons, List.zipIdx_nil, List.map_cons, List.map_nil, Nat.zero_add, Tryz.ntmps248]
 repeat' (first
  | (refine zag ?_; simp)
  | (refine zaj ?_; simp)
  | (refine zah ?_; simp)
  | (refine zas ?_; simp only [zan])
  | (refine CallP.fun_ (h1) (by first | rfl | fail) (by first | assumption | (simp; done) | fail) (by first | (simp; done) | (simp; rfl) | fail) (by first | (simp; done) | fail) (fun d hd => ?_); subst hd; (try simp))
  | fail)
 (refine EndOK.val (.inr rfl) ?_; simp [zaC, zaf, zaw, Tryz.results248])
theorem zkA (l : List (Opr)) (f : FuncId) (caps : List U) (p : Opr → Bool) (hf : ∀ n ∈ l, Fun Tryz.prog f (zpn n :: caps.map .u) (· = .u (.bool (p n)))) (hcl : zal Tryz.prog f = true)
  (hca : ∀ o, zcp o (caps.map .u) = some (caps.map .u, [])) : Fun Tryz.prog 140 [.u (zlp l), .fnc (.func f) (caps.map .u)] (· = .u (.int .i64 (zgx p l 0))) := by
 (refine Fun.of_body Tryz.func140 rfl (by simp) fun Γ hn => ?_); simp only [entry, List.zipIdx_cons, List.zipIdx_nil, List.map_cons, List.map_nil, Nat.zero_add, Tryz.ntmps140]
 simp only [zlp]
 refine zjl (x := 0) rfl fun hl => ?_
 simp at hl
 repeat' (first
  | (refine zag ?_; simp)
  | (refine zaj ?_; simp)
  | (refine zah ?_; simp)
  | (refine zau ?_; simp)
  | fail)
 refine zbr (α := { i : Nat // i ≤ l.length ∧ ∀ c ∈ l.take i, p c = false }) [0, 1, 7] (fun i => [(8, .u (.int .i64 i.1))]) (fun i => l.length - i.1) ⟨0, by omega, by simp⟩ ?_ ?_
 ·exact (Wk.env rfl rfl rfl (by simp [wkE, St.lp, zak, zaa, getK] <;> (try (intros; simp_all; done)) <;> (try (intros; omega)) <;> (try grind)))
 rintro ⟨i, hi, hb⟩
 simp [St.lp, St.only, zak, zaa, getK]
 rcases hx : l[i]? with _ | n
 ·have hge : l.length ≤ i := by simpa using hx
  repeat' (first
  | (refine zag ?_; simp [hx])
  | (refine zaj ?_; simp [hx])
  | (refine ⟨by omega, ?_⟩)
  | (refine zah ?_; simp [hx])
  | (refine zas ?_; simp only [zan])
  | (refine zaZ ?_; simp [zan])
  | (intro hc <;> (try (exfalso; omega)))
  | fail)
  (refine EndOK.val (.inr rfl) ?_; simp [zaC, zaf, zaw, Tryz.results140])
  rw [List.take_of_length_le hge] at hb
  exact (zeB hb).symm
 ·have hlt : i < l.length := (List.getElem?_eq_some_iff.1 hx).1
  have h1 := hf n (List.mem_of_getElem? hx)
  simp only [zpn] at h1
  cases hp : p n
  ·rw [hp] at h1
   repeat' (first
  | (refine zag ?_; simp [hx, hca])
  | (refine zaj ?_; simp [hx, hca])
  | (refine ⟨by omega, ?_⟩)
  | (refine zah ?_; simp [hx, hca])
  | (refine zai ?_; simp [hx, hca])
  | (refine zap ?_; simp [hx, hca])
  | (refine zaq ?_; simp only [zan])
  | (refine ⟨?_, by omega⟩)
  | (intro hc <;> (try (exfalso; omega)))
  | (refine CallP.fun_ (h1) (by first | rfl | fail) (by first | assumption | (simp; done) | fail) (by first | (simp [hx, hca]; done) | (simp [hx, hca]; rfl) | fail) (by first | (simp; done) | fail) (fun d hd => ?_); subst hd; (try simp [hx, hca]))
  | fail)
   refine LoopW.next ⟨i + 1, by omega, zbE hx hb hp⟩ (by simp; omega) ?_
   exact (Wk.env rfl rfl rfl (by simp [wkE, St.lp, zak, zaa, getK] <;> (try (intros; simp_all; done)) <;> (try (intros; omega)) <;> (try grind)))
  ·rw [hp] at h1
   repeat' (first
  | (refine zag ?_; simp [hx, hca])
  | (refine zaj ?_; simp [hx, hca])
  | (refine zah ?_; simp [hx, hca])
  | (refine zai ?_; simp [hx, hca])
  | (refine zas ?_; simp only [zan])
  | (refine zaq ?_; simp only [zan])
  | (refine ⟨?_, by omega⟩)
  | (intro hc <;> (try (exfalso; omega)))
  | (refine CallP.fun_ (h1) (by first | rfl | fail) (by first | assumption | (simp; done) | fail) (by first | (simp [hx, hca]; done) | (simp [hx, hca]; rfl) | fail) (by first | (simp; done) | fail) (fun d hd => ?_); subst hd; (try simp [hx, hca]))
  | fail)
   (refine EndOK.val (.inr rfl) ?_; simp [zaC, zaf, zaw, Tryz.results140])
   rw [zg4 hb hx hp]
   omega
theorem zfT {p : Opr → Bool} : ∀ (L : List Opr) (k : Int), (L.find? p = none → zgx p L k = -1) ∧ ∀ x, L.find? p = some x → ∃ j : Nat, L[j]? = some x ∧ zgx p L k = k + j
 | [], k => ⟨fun _ => rfl, fun x h => by simp at h⟩
 | a :: L, k => by
  by_cases h : p a = true
  ·refine ⟨fun h1 => by simp [h] at h1, fun x h1 => ?_⟩
   rw [List.find?_cons, h] at h1
   cases h1
   exact ⟨0, rfl, by rw [zgx, if_pos h]; simp⟩
  ·have h' : p a = false := by simpa using h
   obtain ⟨h1, h2⟩ := zfT L (k + 1)
   refine ⟨fun h3 => ?_, fun x h3 => ?_⟩
   ·rw [List.find?_cons, h'] at h3
    rw [zgx, if_neg h]
    exact h1 h3
   ·rw [List.find?_cons, h'] at h3
    obtain ⟨j, h4, h5⟩ := h2 x h3
    exact ⟨j + 1, h4, by rw [zgx, if_neg h, h5]; omega⟩
theorem zkz (l : List Tok) (q : Nat) (hq : q < l.length) (hl : l.length ≤ 1000000) : Fun Tryz.prog 140 [.u (zlp oprs), .fnc (.func 248) [.u (.row [znM l q] 0)]]
  (· = .u (.int .i64 (zgx (fun o => isB l q o.text) oprs 0))) :=
 zkA oprs 248 [U.row [znM l q] 0] (fun o => isB l q o.text) (fun o _ => znf l q o hq hl) rfl (fun o => rfl)
end Go.Proofs.YtepiegcjnaohjaaGreatDoor
namespace Go.Proofs.YtepiegcjnaohjaaGreatDoor
open Go Go.VL
theorem zh0 : ∀ {a b : List Int}, a.Nodup → (∀ x ∈ a, x ∈ b) → a.length ≤ b.length
 | [], b, _, _ => by simp
 | x :: a, b, hd, hs => by
  rw [List.nodup_cons] at hd
  have hx := hs x (by simp)
  have := zh0 (a := a) (b := b.erase x) hd.2 fun y hy => (List.mem_erase_of_ne (fun (e : y = x) => hd.1 (e ▸ hy))).2 (hs y (by simp [hy]))
  rw [List.length_erase_of_mem hx] at this
  have h1 : 0 < b.length := List.length_pos_of_mem hx
  simp
  omega
structure Cl where
 mark : Int
 circle : Int
 who : Int
 n : Int
 event : Int
 day : Int
 proofs : Int
 jury : List Int
 again : List Int
 state : Int
 grant : Int
 frm : Int
def zar (c : Cl) : List U := [.int .i64 c.mark, .int .i64 c.circle, .int .i64 c.who, .int .i64 c.n, .int .i64 c.event, .int .i64 c.day, .int .i64 c.proofs, .sl (c.jury.map fun x => [.int .i64 x]), .sl (c.again.map fun x => [.int .i64 x]), .int .i64 c.state, .int .i64 c.grant, .int .i64 c.frm]
def clU (c : Cl) : U := .agg (zar c)
/-- The first voices of members. -/
def ziJ (members : List Int) : List Int → List Vo → List Vo
 | _, [] => []
 | seen, v :: r => if v.who ∈ seen ∨ v.who ∉ members then ziJ members seen r else v :: ziJ members (seen ++ [v.who]) r
theorem zhg (members : List Int) (u : Int) : ∀ (l : List Vo) (seen : List Int), (∀ v ∈ l, v.day ≤ u) → cnt members u seen l = ziJ members seen l
 | [], _, _ => rfl
 | v :: l, seen, h => by
  have h1 : ¬ u < v.day := by have := h v (by simp); omega
  have h2 : ∀ v ∈ l, v.day ≤ u := fun w hw => h w (by simp [hw])
  rw [cnt, ziJ]
  simp only [h1, false_or]
  rw [zhg members u l seen h2, zhg members u l _ h2]
theorem zhi (members : List Int) : ∀ (l : List Vo) (seen : List Int), (ziJ members seen l).length ≤ l.length
 | [], _ => by simp [ziJ]
 | v :: l, seen => by
  rw [ziJ]
  split
  ·have := zhi members l seen; simp; omega
  ·have := zhi members l (seen ++ [v.who]); simp; omega
theorem zhh (members : List Int) : ∀ (l : List Vo) (seen : List Int), ((ziJ members seen l).map (·.who)).Nodup ∧ ∀ v ∈ ziJ members seen l, v.who ∈ members ∧ v.who ∉ seen ∧ l.find? (fun w => decide (w.who = v.who)) = some v
 | [], _ => by simp [ziJ]
 | v :: l, seen => by
  rw [ziJ]
  split
  ·rename_i h
   obtain ⟨h1, h2⟩ := zhh members l seen
   refine ⟨h1, fun w hw => ?_⟩
   obtain ⟨a, b, c⟩ := h2 w hw
   refine ⟨a, b, ?_⟩
   rw [List.find?_cons_of_neg, c]
   simp
   intro e
   rcases h with h | h
   ·exact b (e ▸ h)
   ·exact h (e ▸ a)
  ·rename_i h
   obtain ⟨h1, h2⟩ := zhh members l (seen ++ [v.who])
   have h3 : v.who ∉ seen ∧ v.who ∈ members := by grind
   refine ⟨?_, ?_⟩
   ·rw [List.map_cons, List.nodup_cons]
    refine ⟨fun hm => ?_, h1⟩
    obtain ⟨w, hw, e⟩ := List.mem_map.1 hm
    exact (h2 w hw).2.1 (by simp [e])
   ·intro w hw
    rcases List.mem_cons.1 hw with rfl | hw
    ·exact ⟨h3.2, h3.1, by simp⟩
    ·obtain ⟨a, b, c⟩ := h2 w hw
     simp at b
     refine ⟨a, b.1, ?_⟩
     rw [List.find?_cons_of_neg, c]
     simp
     exact fun e => b.2 e.symm
/-- What a jury says. -/
def zeU (jury : List Int) (l : List Vo) : Int × Int :=
 if zcG jury = false then (0, 1) else
  let c := ziJ jury [] l
  if ((jury.length / 2 : Nat) : Int) + 1 ≤ ziF c then (1, 0) else if (jury.length : Int) - (((jury.length / 2 : Nat) : Int) + 1) < (c.length : Int) - ziF c then (2, 0) else (0, 0)
def zc2 (l : List Vo) (j : Int) : Bool := match l.find? (fun w => decide (w.who = j)) with | some v => v.yes | none => false
def zea (jury : List Int) (l : List Vo) : Nat := (jury.filter (zc2 l)).length
theorem zmA (jury : List Int) (l : List Vo) : ziF (ziJ jury [] l) ≤ zea jury l := by
 obtain ⟨h1, h2⟩ := zhh jury l []
 have := zh0 (a := ((ziJ jury [] l).filter (·.yes)).map (·.who)) (b := jury.filter (zc2 l)) ((List.filter_sublist.map _).nodup h1) fun x hx => by
  obtain ⟨v, hv, rfl⟩ := List.mem_map.1 hx
  rw [List.mem_filter] at hv
  obtain ⟨a, _, c⟩ := h2 v hv.1
  rw [List.mem_filter]
  exact ⟨a, by unfold zc2; rw [c]; exact hv.2⟩
 rw [List.length_map] at this
 exact this
theorem zm8 {jury : List Int} {l : List Vo} (h : (zeU jury l).1 = 1) : (jury.length : Int) < 2 * zea jury l := by
 have := zmA jury l
 unfold zeU at h
 split at h
 ·simp at h
 ·simp only at h
  split at h
  ·omega
  ·split at h <;> simp at h
def zbX (c : Cl) : List Int := if c.again = [] then c.jury else c.again
def zoH (c : Cl) (l : List Vo) : Int := (zeU (zbX c) l).1
def zhb (n : Int) : Bool := decide (0 ≤ n) && decide (n ≤ 1048576)
def zcH (c : Cl) (cover : Int) : Int := max (min c.n cover) 0
/-- What the end of a day does to an open claim. -/
def zcD (c : Cl) (wait period v cover today : Int) : Cl :=
 if v = 1 ∧ 0 < c.proofs then (if 0 < zcH c cover then { c with state := 1, grant := zcH c cover, frm := today + 1 + wait } else { c with state := 3, frm := today })
 else if v = 2 ∨ c.frm ≤ today - period then { c with state := 3, frm := today } else c
def zb4 (c : Cl) (today : Int) : Cl := if c.state = 1 ∧ c.frm ≤ today + 1 then { c with state := 2 } else c
/-- What Step returns. -/
def zce (c : Cl) (b : By) (cover : Int) (l : List Vo) (today : Int) : Cl :=
 if zc8 b = true ∧ zhb today = true then zb4 (if c.state = 0 then zcD c b.wait b.period (zoH c l) cover today else c) today else c
def zdJ (c : Cl) : Cl × Int := if c.state ≠ 0 then (c, 7) else if 1000 ≤ c.proofs then (c, 6) else ({ c with proofs := c.proofs + 1 }, 0)
end Go.Proofs.YtepiegcjnaohjaaGreatDoor
namespace Go.Proofs.YtepiegcjnaohjaaGreatDoor
open Go Go.VL
def zcb (c : Cl) (b : By) (again : List Int) (today : Int) : Cl × Int :=
 if zc8 b = false ∨ zhb today = false ∨ again = [] then (c, 1)
 else if c.state ≠ 3 then (c, 7) else if c.again ≠ [] then (c, 5) else if c.frm < today - b.period then (c, 25) else ({ c with state := 0, again := again, frm := today }, 0)
def zjx (c : Cl) (n : Int) : Cl × Int := if c.state = 1 then (c, 26) else if c.state ≠ 2 then (c, 7) else if c.grant < n then (c, 31) else if n < c.grant then (c, 24) else ({ c with state := 4 }, 0)
structure Ivc (n0 w0 : Int) (one two : List Int) (i : Nat) (c : Cl) : Prop where
 hn : c.n = n0
 hw : c.who = w0
 p0 : 0 ≤ c.proofs
 p1 : c.proofs ≤ i
 s0 : 0 ≤ c.state
 s1 : c.state ≤ 4
 hj : c.jury = one
 ha : c.again = [] ∨ (c.again = two ∧ two ≠ [])
theorem Ivc.next {n0 w0 : Int} {one two : List Int} {i : Nat} {c : Cl} (h : Ivc n0 w0 one two i c) : Ivc n0 w0 one two (i + 1) c :=
 ⟨h.hn, h.hw, h.p0, by have := h.p1; omega, h.s0, h.s1, h.hj, h.ha⟩
theorem zlV {n0 w0 : Int} {one two : List Int} {i : Nat} {c : Cl} (h : Ivc n0 w0 one two i c) (hi : i < 1000) :
  Ivc n0 w0 one two (i + 1) (zdJ c).1 ∧ ((zdJ c).2 = 0 ↔ c.state = 0) ∧ (zdJ c).1.state = c.state ∧ (zdJ c).1.again = c.again := by
 have h1 := h.p1
 unfold zdJ
 split
 ·rename_i hs; exact ⟨h.next, by simp [hs], rfl, rfl⟩
 ·rename_i hs
  rw [if_neg (by omega)]
  have hs' : c.state = 0 := Classical.not_not.1 hs
  exact ⟨⟨h.hn, h.hw, by have := h.p0; simp; omega, by simp; omega, h.s0, h.s1, h.hj, h.ha⟩, by simp [hs'], rfl, rfl⟩
theorem zkw {n0 w0 : Int} {one two : List Int} {i : Nat} {c : Cl} (b : By) (today : Int) (h : Ivc n0 w0 one two i c) :
  Ivc n0 w0 one two (i + 1) (zcb c b two today).1 ∧ (((zcb c b two today).2 = 0 ∧ c.state = 3 ∧ c.again = [] ∧ (zcb c b two today).1.state = 0 ∧ (zcb c b two today).1.again ≠ []) ∨ ((zcb c b two today).2 ≠ 0 ∧ (zcb c b two today).1 = c)) := by
 unfold zcb
 split
 ·exact ⟨h.next, .inr ⟨by simp, rfl⟩⟩
 rename_i h1
 split
 ·exact ⟨h.next, .inr ⟨by simp, rfl⟩⟩
 rename_i h2
 split
 ·exact ⟨h.next, .inr ⟨by simp, rfl⟩⟩
 rename_i h3
 split
 ·exact ⟨h.next, .inr ⟨by simp, rfl⟩⟩
 have ht : two ≠ [] := fun e => h1 (.inr (.inr e))
 have := h.next
 exact ⟨⟨h.hn, h.hw, h.p0, this.p1, by simp, by simp, h.hj, .inr ⟨rfl, ht⟩⟩, .inl ⟨rfl, Classical.not_not.1 h2, Classical.not_not.1 h3, rfl, ht⟩⟩
theorem zod {n0 w0 : Int} {one two : List Int} {i : Nat} {c : Cl} (n : Int) (h : Ivc n0 w0 one two i c) :
  Ivc n0 w0 one two (i + 1) (zjx c n).1 ∧ (zjx c n).1.again = c.again ∧ (((zjx c n).2 = 0 ∧ c.state = 2 ∧ n = c.grant ∧ (zjx c n).1.state = 4) ∨ ((zjx c n).2 ≠ 0 ∧ ¬ (c.state = 2 ∧ n = c.grant) ∧ (zjx c n).1 = c)) := by
 unfold zjx
 split
 ·exact ⟨h.next, rfl, .inr ⟨by simp, by omega, rfl⟩⟩
 split
 ·exact ⟨h.next, rfl, .inr ⟨by simp, by omega, rfl⟩⟩
 split
 ·exact ⟨h.next, rfl, .inr ⟨by simp, by omega, rfl⟩⟩
 split
 ·exact ⟨h.next, rfl, .inr ⟨by simp, by omega, rfl⟩⟩
 have := h.next
 exact ⟨⟨h.hn, h.hw, h.p0, this.p1, by simp, by simp, h.hj, h.ha⟩, rfl, .inl ⟨rfl, by omega, by omega, rfl⟩⟩
theorem znb {n0 w0 : Int} {one two : List Int} {i : Nat} {c : Cl} (b : By) (cover : Int) (vs : List Vo) (today : Int) (h : Ivc n0 w0 one two i c) :
  Ivc n0 w0 one two (i + 1) (zce c b cover vs today) ∧ (zce c b cover vs today).again = c.again ∧
   (c.state = 0 → (zce c b cover vs today).state = 1 ∨ (zce c b cover vs today).state = 2 → ((zbX c).length : Int) < 2 * zea (zbX c) vs ∧ 1 ≤ (zce c b cover vs today).proofs ∧ 1 ≤ (zce c b cover vs today).grant ∧
     (zce c b cover vs today).grant ≤ (zce c b cover vs today).n ∧ (zce c b cover vs today).grant ≤ cover ∧ (zce c b cover vs today).frm = today + 1 + b.wait) ∧
   ((zce c b cover vs today).state = 2 → c.state ≠ 2 → (zce c b cover vs today).frm ≤ today + 1) ∧
   (2 ≤ c.state → (zce c b cover vs today).state = c.state) ∧ (c.state ≤ 3 → (zce c b cover vs today).state ≤ 3) := by
 have hp0 := h.p0
 have hn := h.next
 have hs0 := h.s0
 have hs1 := h.s1
 unfold zce
 split
 case isFalse => exact ⟨hn, rfl, by omega, by omega, by simp, by omega⟩
 by_cases h0 : c.state = 0
 case neg =>
  rw [if_neg h0]
  unfold zb4
  split
  ·rename_i h1
   exact ⟨⟨hn.hn, hn.hw, hn.p0, hn.p1, by simp, by simp, hn.hj, hn.ha⟩, rfl, by omega, fun _ _ => h1.2, by omega, by simp⟩
  ·exact ⟨hn, rfl, by omega, by omega, by simp, by omega⟩
 rw [if_pos h0]
 have hv := zm8 (jury := zbX c) (l := vs)
 unfold zcD zoH
 by_cases c1 : (zeU (zbX c) vs).1 = 1 ∧ 0 < c.proofs
 ·rw [if_pos c1]
  by_cases c2 : 0 < zcH c cover
  ·rw [if_pos c2]
   have hg : 1 ≤ zcH c cover ∧ zcH c cover ≤ c.n ∧ zcH c cover ≤ cover := by unfold zcH at *; omega
   generalize zcH c cover = g at *
   unfold zb4
   have hm := hv c1.1
   split
   ·rename_i h1
    simp only at h1
    exact ⟨⟨hn.hn, hn.hw, hn.p0, hn.p1, by simp, by simp, hn.hj, hn.ha⟩, rfl, fun _ _ => ⟨hm, by simp; omega, hg.1, hg.2.1, hg.2.2, rfl⟩, fun _ _ => h1.2, by omega, by simp⟩
   ·exact ⟨⟨hn.hn, hn.hw, hn.p0, hn.p1, by simp, by simp, hn.hj, hn.ha⟩, rfl, fun _ _ => ⟨hm, by simp; omega, hg.1, hg.2.1, hg.2.2, rfl⟩, by simp, by omega, by simp⟩
  ·rw [if_neg c2]
   unfold zb4
   rw [if_neg (by simp)]
   exact ⟨⟨hn.hn, hn.hw, hn.p0, hn.p1, by simp, by simp, hn.hj, hn.ha⟩, rfl, by simp, by simp, by omega, by simp⟩
 ·rw [if_neg c1]
  split
  ·unfold zb4
   rw [if_neg (by simp)]
   exact ⟨⟨hn.hn, hn.hw, hn.p0, hn.p1, by simp, by simp, hn.hj, hn.ha⟩, rfl, by simp, by simp, by omega, by simp⟩
  ·unfold zb4
   rw [if_neg (by simp [h0])]
   exact ⟨hn, rfl, by omega, by omega, by simp, by omega⟩
end Go.Proofs.YtepiegcjnaohjaaGreatDoor
namespace Go.Proofs.YtepiegcjnaohjaaGreatDoor
open Go Go.VL
def zet (e : En) (mark : Int) (jury : List Int) : Cl := ⟨mark, e.circle, e.author, e.n, e.m, e.day, 0, jury, [], 0, 0, e.day⟩
def znD (e : En) (mark : Int) (jury : List Int) (d : D) : Prop := ∃ (c : Cl) (f : Int), d = .tup [.u (clU c), .u (.int .i64 f)] ∧ ((f = 0 ∧ c = zet e mark jury ∧ zhb e.day = true ∧ 1 ≤ e.n) ∨ f = 1 ∨ f = 26)
def zpx : Cl := ⟨0, 0, 0, 0, 0, 0, 0, [], [], 0, 0, 0⟩
def znx : En := ⟨5, 0, 20, [], 10, 0, 0, 300, 18, -1, [], [], []⟩
theorem zlf : ze8 znx = true := by decide
end Go.Proofs.YtepiegcjnaohjaaGreatDoor
namespace Go.Proofs.YtepiegcjnaohjaaGreatDoor
open Go Go.VL
theorem ziS (c : Cl) (w p v cv t : Int) : (zcD c w p v cv t).jury = c.jury ∧ (zcD c w p v cv t).again = c.again := by
 unfold zcD
 split
 ·split <;> exact ⟨rfl, rfl⟩
 ·split <;> exact ⟨rfl, rfl⟩
theorem zfb (c : Cl) (t : Int) : (zb4 c t).jury = c.jury ∧ (zb4 c t).again = c.again := by unfold zb4; split <;> exact ⟨rfl, rfl⟩
theorem ziO (c : Cl) (b : By) (cv : Int) (l : List Vo) (t : Int) : (zce c b cv l t).jury = c.jury ∧ (zce c b cv l t).again = c.again := by
 unfold zce
 split
 ·rw [(zfb _ t).1, (zfb _ t).2]
  split
  ·exact ziS _ _ _ _ _ _
  ·exact ⟨rfl, rfl⟩
 ·exact ⟨rfl, rfl⟩
end Go.Proofs.YtepiegcjnaohjaaGreatDoor
namespace Go.Proofs.YtepiegcjnaohjaaGreatDoor
open Go Go.VL Go.ChangeShapes Go.WideShapes Go.ChangeAt Go.RowKit
theorem zqb {r : List U} (h : HasRow Tryz.prog 57 r) : ∃ b : By, r = zao b := by
 obtain ⟨rs, hr, h⟩ := h.of_struct zqn
 match rs, h with
 | [a1, a2, a3, a4, a5, a6, a7, a8, a9, a10, a11, a12, a13, a14, a15, a16, a17], h =>
  obtain ⟨h1, h2, h3, h4, h5, h6, h7, h8, h9, h10, h11, h12, h13, h14, h15, h16, h17, _⟩ := h
  obtain ⟨x1, rfl, _⟩ := h1.of_int io3
  obtain ⟨x2, rfl, _⟩ := h2.of_int io3
  obtain ⟨x3, rfl, _⟩ := h3.of_int io3
  obtain ⟨x4, rfl, _⟩ := h4.of_int io3
  obtain ⟨x5, rfl, _⟩ := h5.of_int io3
  obtain ⟨x6, rfl, _⟩ := h6.of_int io3
  obtain ⟨x7, rfl⟩ := h7.of_bool (by simp)
  obtain ⟨x8, rfl, _⟩ := h8.of_int io3
  obtain ⟨x9, rfl, _⟩ := h9.of_int io3
  obtain ⟨x10, rfl, _⟩ := h10.of_int io3
  obtain ⟨x11, rfl, _⟩ := h11.of_int io3
  obtain ⟨rows, rfl, _, h12⟩ := h12.of_slice zrC
  obtain ⟨l, rfl, _⟩ := rows_list (fun l : Let => [.str l.name, .int .i64 l.body.op, .int .i64 l.body.n, .int .i64 l.body.unit, .str l.body.s, .sl (l.body.args.map Exp.row)]) (fun _ => True) (rows := rows) fun r hr => zoZ (h12 r hr)
  obtain ⟨e1, rfl⟩ := zeY h13
  obtain ⟨e2, rfl⟩ := zeY h14
  obtain ⟨e3, rfl⟩ := zeY h15
  obtain ⟨e4, rfl⟩ := zeY h16
  obtain ⟨e5, rfl⟩ := zeY h17
  exact ⟨⟨x1, x2, x3, x4, x5, x6, x7, x8, x9, x10, x11, l, e1, e2, e3, e4, e5⟩, by rw [hr]; rfl⟩
end Go.Proofs.YtepiegcjnaohjaaGreatDoor
namespace Go.Proofs.YtepiegcjnaohjaaGreatDoor
open Go Go.VL Go.ChangeShapes Go.WideShapes Go.ChangeAt Go.RowKit
theorem zlX {rows : List (List U)} (h : ∀ r ∈ rows, HasRow Tryz.prog 3 r) : ∃ l : List Int, rows = l.map fun n => [.int .i64 n] := by
 obtain ⟨l, e, _⟩ := rows_list (fun n : Int => [.int .i64 n]) (fun _ => True) (rows := rows) fun r hr => by
  obtain ⟨n, e, _⟩ := (h r hr).of_int io3
  exact ⟨n, e, trivial⟩
 exact ⟨l, e⟩
theorem zlW {u : U} (h : ArgU Tryz.prog 26 u) : ∃ l : List Int, u = zbV l := by
 obtain ⟨rows, h1, _, h2⟩ := (h.one (by simp) (by simp)).of_slice zp6
 obtain ⟨l, rfl⟩ := zlX h2
 exact ⟨l, by simpa [zbV] using h1⟩
end Go.Proofs.YtepiegcjnaohjaaGreatDoor
namespace Go.Proofs.YtepiegcjnaohjaaGreatDoor
open Go Go.VL
structure Ac where
 act : Int
 n : Int
 who : Int
 yes : Bool
def acU (l : List Ac) : U := .sl (l.map fun a => [.int .i64 a.act, .int .i64 a.n, .int .i64 a.who, .bool a.yes])
structure Ls where
 i : Nat
 c : Cl
 vs : List Vo
 day : Int
 f : Int
 P : Int
 A : Int
structure Ls.Ok (n0 w0 : Int) (one two : List Int) (n : Nat) (s : Ls) : Prop where
 hi : s.i ≤ n
 hv : Ivc n0 w0 one two s.i s.c
 hl : s.vs.length ≤ s.i
 d0 : 0 ≤ s.day
 d1 : s.day ≤ 1048576
 hP : (s.P = 1 ∧ s.c.state = 4) ∨ (s.P = 0 ∧ s.c.state ≠ 4)
 hA : (s.A = 1 ∧ s.c.again ≠ []) ∨ (s.A = 0 ∧ s.c.again = [])
def zmb (e : En) : Bool := decide ((e.knows.length : Int) ≤ 40) && decide ((e.keys.length : Int) ≤ 12) && decide ((e.spans.length : Int) ≤ 12) && decide ((e.text.length : Int) ≤ 300)
theorem zl9 {e : En} (h : zmb e = true) : e.knows.length ≤ 40 ∧ e.keys.length ≤ 12 ∧ e.spans.length ≤ 12 := by
 simp [zmb] at h; omega
end Go.Proofs.YtepiegcjnaohjaaGreatDoor
namespace Go.Proofs.YtepiegcjnaohjaaGreatDoor
open Go Go.VL Go.ChangeShapes Go.WideShapes Go.ChangeAt Go.RowKit
theorem zpt {r : List U} (h : HasRow Tryz.prog 279 r) : ∃ v : Sp, r = [.int .i64 v.mark, .int .i64 v.frm, .int .i64 v.to] ∧ True := by
 obtain ⟨rs, hr, h⟩ := h.of_struct zpu
 match rs, h with
 | [a1, a2, a3], h =>
  obtain ⟨h1, h2, h3, _⟩ := h
  obtain ⟨x1, rfl, _⟩ := h1.of_int io3
  obtain ⟨x2, rfl, _⟩ := h2.of_int io3
  obtain ⟨x3, rfl, _⟩ := h3.of_int io3
  exact ⟨⟨x1, x2, x3⟩, by rw [hr]; rfl, trivial⟩
theorem zp7 {r : List U} (h : HasRow Tryz.prog 84 r) : ∃ e : En, r = zav e := by
 obtain ⟨rs, hr, h⟩ := h.of_struct zqm
 match rs, h with
 | [a1, a2, a3, a4, a5, a6, a7, a8, a9, a10, a11, a12, a13], h =>
  obtain ⟨h1, h2, h3, h4, h5, h6, h7, h8, h9, h10, h11, h12, h13, _⟩ := h
  obtain ⟨x1, rfl, _⟩ := h1.of_int io3
  obtain ⟨x2, rfl, _⟩ := h2.of_int io3
  obtain ⟨x3, rfl, _⟩ := h3.of_int io3
  obtain ⟨r4, rfl, _, h4⟩ := h4.of_slice zp6
  obtain ⟨x4, rfl⟩ := zlX h4
  obtain ⟨x5, rfl, _⟩ := h5.of_int io3
  obtain ⟨x6, rfl, _⟩ := h6.of_int io3
  obtain ⟨x7, rfl, _⟩ := h7.of_int io3
  obtain ⟨x8, rfl, _⟩ := h8.of_int io3
  obtain ⟨x9, rfl, _⟩ := h9.of_int io3
  obtain ⟨x10, rfl, _⟩ := h10.of_int io3
  obtain ⟨r11, rfl, _, h11⟩ := h11.of_slice zp6
  obtain ⟨x11, rfl⟩ := zlX h11
  obtain ⟨r12, rfl, _, h12⟩ := h12.of_slice zrA
  obtain ⟨x12, rfl, _⟩ := rows_list (fun v : Sp => [.int .i64 v.mark, .int .i64 v.frm, .int .i64 v.to]) (fun _ => True) (rows := r12) fun r hr => zpt (h12 r hr)
  obtain ⟨x13, rfl, _⟩ := h13.of_str (by simp)
  exact ⟨⟨x1, x2, x3, x4, x5, x6, x7, x8, x9, x10, x11, x12, x13⟩, by rw [hr]; rfl⟩
theorem zqd {r : List U} (h : HasRow Tryz.prog 93 r) : ∃ v : Ac, r = [.int .i64 v.act, .int .i64 v.n, .int .i64 v.who, .bool v.yes] ∧ True := by
 obtain ⟨rs, hr, h⟩ := h.of_struct zro
 match rs, h with
 | [a1, a2, a3, a4], h =>
  obtain ⟨h1, h2, h3, h4, _⟩ := h
  obtain ⟨x1, rfl, _⟩ := h1.of_int io3
  obtain ⟨x2, rfl, _⟩ := h2.of_int io3
  obtain ⟨x3, rfl, _⟩ := h3.of_int io3
  obtain ⟨x4, rfl⟩ := h4.of_bool (by simp)
  exact ⟨⟨x1, x2, x3, x4⟩, by rw [hr]; rfl, trivial⟩
theorem zou {u : U} (h : ArgU Tryz.prog 85 u) : ∃ l : List Ac, u = acU l := by
 obtain ⟨rows, h1, _, h2⟩ := (h.one (by simp) (by simp)).of_slice zrz
 obtain ⟨l, rfl, _⟩ := rows_list (fun v : Ac => [.int .i64 v.act, .int .i64 v.n, .int .i64 v.who, .bool v.yes]) (fun _ => True) (rows := rows) fun r hr => zqd (h2 r hr)
 exact ⟨l, by simpa [acU] using h1⟩
end Go.Proofs.YtepiegcjnaohjaaGreatDoor
namespace Go.Proofs.YtepiegcjnaohjaaGreatDoor
open Go Go.VL
attribute [local simp] HS zcR zb9 evPure opd uOf zaI St.put St.at getK binD binI binS binB nilD aggD zg9 zit lookD lookR zcz rangeS Go.VL.nextD Go.VL.nextS zcB ziI ziG zga zb6 mkV zbi zbh zcK zbg zbs zbB mapEff zdf zf6 Key.kk shiftI arith unD convD zdK loadD cellsAt fieldAddrD fieldD indexAddrD indexSlD arrAddr indexD sliceD cutD lenD minmaxD nilCheckD buildD fillD zbQ zcV zex setAll zcF zer zcs zhq zcq St.add zaU zbO rowsOf zdE zco zax zac zaa zby zdg za8 entry zbq zbv valD zb7 zcp zgE zdc zdd zbU zbJ zaA zaY zbt delAll effD St.effS zc4 zbj zbb zc5 zbk zbd zcm zbc za0 zcn zcW zbP zch zbw zcf zcg zaP mkD zbR zbF zbI zaA zcr D.ids Op.operands Call.operands zbN makeIfD makeFuncD typeAssertD zis zdw zdx zhx zcA IntKind.bits zcC List.take_of_length_le List.range_succ
attribute [local irreducible] V G H HD HD2 HD4 zmv RetX zan Eff CallP CallV EndOK Fun Ret FinOK LoopI LoopW EndW
theorem zdV (l : List Int) (hl : l.length ≤ 1000000) : Fun Tryz.prog 102 [.u (zbV l)] (· = .u (zbV l)) := by
 cases l with
 | nil =>
  (refine Fun.of_bodyW Tryz.func102 rfl (by simp) fun Γ hn => ?_); simp only [entry, List.zipIdx_cons, List.zipIdx_nil, List.map_cons, List.map_nil, Nat.zero_add, Tryz.ntmps102]
  simp only [zbV, List.map_nil]
  refine zkS (x := 0) rfl ?_ (fun a cp => ?_)
  ·repeat' (first
  | (refine zag ?_; simp)
  | (refine zaj ?_; simp)
  | (refine zah ?_; simp)
  | (refine zai ?_; simp)
  | (refine zas ?_; simp only [zan])
  | fail)
   refine EndW.norm (EndW.here ?_)
   (refine EndOK.val (.inr rfl) ?_; simp [zaC, zaf, zaw, Tryz.results102, zaD, zaE, zck, zcl, frz, zba, frzS, fv, za3, za4, za9, zaH, zaz, zay, zbz, zbL, zbM, za1])
  ·repeat' (first
  | (refine zag ?_; simp)
  | (refine zaj ?_; simp)
  | (refine zah ?_; simp)
  | (refine zai ?_; simp)
  | (refine zas ?_; simp only [zan])
  | (refine zaq ?_; simp only [zan])
  | fail)
   (refine EndW.frzN 1 ?_; simp [frzN, frz1, zaE, zaD, St.frz, St.frzS, frzS, fv, za3, za4, za9, zaH, zaz, zay, del, frz, zba])
   refine EndW.norm (EndW.here ?_)
   (refine EndOK.val (.inr rfl) ?_; simp [zaC, zaf, zaw, Tryz.results102, zaD, zaE, zck, zcl, frz, zba, frzS, fv, za3, za4, za9, zaH, zaz, zay, zbz, zbL, zbM, za1])
 | cons x l =>
  simp only [List.length_cons] at hl
  (refine Fun.of_bodyW Tryz.func102 rfl (by simp) fun Γ hn => ?_); simp only [entry, List.zipIdx_cons, List.zipIdx_nil, List.map_cons, List.map_nil, Nat.zero_add, Tryz.ntmps102]
  simp only [zbV, List.map_cons]
  repeat' (first
  | (refine zag ?_; simp)
  | (refine zaj ?_; simp)
  | (refine ⟨by omega, ?_⟩)
  | (refine zah ?_; simp)
  | (refine zai ?_; simp)
  | (refine zas ?_; simp only [zan])
  | (refine zaq ?_; simp only [zan])
  | fail)
  (refine EndW.frzN 1 ?_; simp [frzN, frz1, zaE, zaD, St.frz, St.frzS, frzS, fv, za3, za4, za9, zaH, zaz, zay, del, frz, zba])
  refine EndW.here ?_
  (refine EndOK.val (.inr rfl) ?_; simp [zaC, zaf, zaw, Tryz.results102, zaD, zaE, zck, zcl, frz, zba, frzS, fv, za3, za4, za9, zaH, zaz, zay, zbz, zbL, zbM, za1])
theorem zdm (c : Cl) (h1 : c.jury.length ≤ 1000000) (h2 : c.again.length ≤ 1000000) : Fun Tryz.prog 103 [.u (clU c)] (· = .u (clU c)) := by
 have e1 := zdV c.jury h1
 have e2 := zdV c.again h2
 unfold zbV at e1 e2
 unfold clU zar
 (refine Fun.of_bodyW Tryz.func103 rfl (by simp) fun Γ hn => ?_); simp only [entry, List.zipIdx_cons, List.zipIdx_nil, List.map_cons, List.map_nil, Nat.zero_add, Tryz.ntmps103]
 repeat' (first
  | (refine zag ?_; simp)
  | (refine zaN rfl ?_; simp)
  | (refine zbu rfl ?_; simp)
  | (refine zaj ?_; simp)
  | (refine zah ?_; simp)
  | (refine zaS (hC _ (by kernel_rfl)) (hk _ ?_); clear hC hk C k; simp only [zan])
  | (refine zaM rfl (by kernel_rfl) (by first | (simp [hn]; done) | (simp [hn]; omega) | fail) fun C k hC hk => ?_; simp)
  | (refine zas ?_; simp only [zan])
  | (refine CallV.fun_ (e1) (by first | rfl | fail) (by first | assumption | (simp; done) | fail) (by first | (simp; done) | (simp; rfl) | fail) (by first | (simp; done) | fail) ?_ <;> (try simp))
  | (refine CallV.fun_ (e2) (by first | rfl | fail) (by first | assumption | (simp; done) | fail) (by first | (simp; done) | (simp; rfl) | fail) (by first | (simp; done) | fail) ?_ <;> (try simp))
  | fail)
 refine EndW.here ?_
 (refine EndOK.val (.inr rfl) ?_; simp [zaC, zaf, zaw, Tryz.results103])
theorem zhk (n : Int) : Fun Tryz.prog 104 [.u (.int .i64 n)] (· = .u (.bool (zhb n))) := by
 unfold zhb
 by_cases c1 : 0 ≤ n
 ·by_cases c2 : n ≤ 1048576
  ·(refine Fun.of_body Tryz.func104 rfl (by simp) fun Γ hn => ?_); simp only [entry, List.zipIdx_cons, List.zipIdx_nil, List.map_cons, List.map_nil, Nat.zero_add, Tryz.ntmps104]
   repeat' (first
  | (refine zag ?_; simp [c1, c2])
  | (refine zaj ?_; simp [c1, c2])
  | (refine zah ?_; simp [c1, c2])
  | (refine zas ?_; simp only [zan])
  | fail)
   (refine EndOK.val (.inr rfl) ?_; simp [zaC, zaf, zaw, Tryz.results104])
   try simp [c1, c2]
  ·(refine Fun.of_body Tryz.func104 rfl (by simp) fun Γ hn => ?_); simp only [entry, List.zipIdx_cons, List.zipIdx_nil, List.map_cons, List.map_nil, Nat.zero_add, Tryz.ntmps104]
   repeat' (first
  | (refine zag ?_; simp [c1, c2])
  | (refine zaj ?_; simp [c1, c2])
  | (refine zah ?_; simp [c1, c2])
  | (refine zas ?_; simp only [zan])
  | fail)
   (refine EndOK.val (.inr rfl) ?_; simp [zaC, zaf, zaw, Tryz.results104])
   try simp [c1, c2]
 ·(refine Fun.of_body Tryz.func104 rfl (by simp) fun Γ hn => ?_); simp only [entry, List.zipIdx_cons, List.zipIdx_nil, List.map_cons, List.map_nil, Nat.zero_add, Tryz.ntmps104]
  repeat' (first
  | (refine zag ?_; simp [c1])
  | (refine zaj ?_; simp [c1])
  | (refine zah ?_; simp [c1])
  | (refine zas ?_; simp only [zan])
  | fail)
  (refine EndOK.val (.inr rfl) ?_; simp [zaC, zaf, zaw, Tryz.results104])
  try simp [c1]
theorem zkv (l : List Int) (hl : l.length ≤ 1000000) : Fun Tryz.prog 226 [.u (zbV l)] (· = .u (.bool (zcG l))) := by
 obtain ⟨R, hR⟩ : ∃ R, R = zcG l := ⟨_, rfl⟩
 rw [← hR]
 by_cases h0 : l.length = 0
 ·have e : l = [] := List.eq_nil_of_length_eq_zero h0
  subst e
  have e2 : R = false := by rw [hR]; rfl
  rw [e2]
  simp only [zbV, List.map_nil]
  (refine Fun.of_body Tryz.func226 rfl (by simp) fun Γ hn => ?_); simp only [entry, List.zipIdx_cons, List.zipIdx_nil, List.map_cons, List.map_nil, Nat.zero_add, Tryz.ntmps226]
  repeat' (first
  | (refine zag ?_; simp)
  | (refine zaj ?_; simp)
  | (refine zah ?_; simp)
  | (refine zai ?_; simp)
  | (refine zas ?_; simp only [zan])
  | fail)
  (refine EndOK.val (.inr rfl) ?_; simp [zaC, zaf, zaw, Tryz.results226])
 have h0' : ¬ (l.length : Int) = 0 := by omega
 have hne0 : l ≠ [] := fun e => h0 (by rw [e]; rfl)
 unfold zbV
 by_cases h60 : 60 < l.length
 ·have h60' : (60 : Int) < l.length := by omega
  have e2 : R = false := by rw [hR, zcG]; simp; omega
  rw [e2]
  (refine Fun.of_body Tryz.func226 rfl (by simp) fun Γ hn => ?_); simp only [entry, List.zipIdx_cons, List.zipIdx_nil, List.map_cons, List.map_nil, Nat.zero_add, Tryz.ntmps226]
  repeat' (first
  | (refine zag ?_; simp [h0, h0', h60', hne0])
  | (refine zaj ?_; simp [h0, h0', h60', hne0])
  | (refine zah ?_; simp [h0, h0', h60', hne0])
  | (refine zai ?_; simp [h0, h0', h60', hne0])
  | (refine zas ?_; simp only [zan])
  | fail)
  (refine EndOK.val (.inr rfl) ?_; simp [zaC, zaf, zaw, Tryz.results226])
 have h60' : ¬ (60 : Int) < l.length := by omega
 (refine Fun.of_body Tryz.func226 rfl (by simp) fun Γ hn => ?_); simp only [entry, List.zipIdx_cons, List.zipIdx_nil, List.map_cons, List.map_nil, Nat.zero_add, Tryz.ntmps226]
 repeat' (first
  | (refine zag ?_; simp [h0, h0', h60', hne0])
  | (refine zaj ?_; simp [h0, h0', h60', hne0])
  | (refine zah ?_; simp [h0, h0', h60', hne0])
  | (refine zai ?_; simp [h0, h0', h60', hne0])
  | (refine zau ?_; simp [h0, h0', h60', hne0])
  | (refine zaq ?_; simp only [zan])
  | fail)
 refine zbr (α := { i : Nat // i ≤ l.length ∧ (l.take i).Nodup ∧ ∀ y ∈ l.take i, 0 ≤ y ∧ y < 200 }) [0, 13, 14] (fun i => [(15, .u (.int .i64 i.1))]) (fun i => l.length - i.1) ⟨0, by omega, by simp, by simp⟩ ?_ ?_
 ·exact (Wk.env rfl rfl rfl (by simp [wkE, St.lp, zak, zaa, getK] <;> (try (intros; simp_all; done)) <;> (try (intros; omega)) <;> (try grind)))
 rintro ⟨i, hi, hd, hb⟩
 simp [St.lp, St.only, zak, zaa, getK]
 rcases hx : l[i]? with _ | x
 ·have hge : l.length ≤ i := by simpa using hx
  obtain rfl : i = l.length := by omega
  rw [List.take_length] at hd hb
  have e2 : R = true := by rw [hR]; exact zfx hne0 (by omega) hd hb
  rw [e2]
  repeat' (first
  | (refine zag ?_; simp [hx])
  | (refine zaj ?_; simp [hx])
  | (refine zah ?_; simp [hx])
  | (refine zas ?_; simp only [zan])
  | (refine zaZ ?_; simp [zan])
  | fail)
  (refine EndOK.val (.inr rfl) ?_; simp [zaC, zaf, zaw, Tryz.results226])
 ·have hlt : i < l.length := (List.getElem?_eq_some_iff.1 hx).1
  have hle : (i : Int) ≤ l.length := by omega
  have hct := zdU (l.take i) x (by rw [List.length_take]; omega)
  simp only [zbV, List.map_take] at hct
  by_cases hr : x < 0 ∨ 200 ≤ x
  ·have e2 : R = false := by rw [hR]; exact zdY hx (.inl hr)
   rw [e2]
   rcases hr with hr | hr
   ·repeat' (first
  | (refine zag ?_; simp [hx, hr])
  | (refine zaj ?_; simp [hx, hr])
  | (refine zah ?_; simp [hx, hr])
  | (refine zai ?_; simp [hx, hr])
  | (refine zas ?_; simp only [zan])
  | (refine zaq ?_; simp only [zan])
  | (refine ⟨?_, by omega⟩)
  | (intro hc <;> (try (exfalso; omega)))
  | fail)
    (refine EndOK.val (.inr rfl) ?_; simp [zaC, zaf, zaw, Tryz.results226])
   ·have hr2 : ¬ x < 0 := by omega
    repeat' (first
  | (refine zag ?_; simp [hx, hr, hr2])
  | (refine zaj ?_; simp [hx, hr, hr2])
  | (refine zah ?_; simp [hx, hr, hr2])
  | (refine zai ?_; simp [hx, hr, hr2])
  | (refine zas ?_; simp only [zan])
  | (refine zaq ?_; simp only [zan])
  | (refine ⟨?_, by omega⟩)
  | (intro hc <;> (try (exfalso; omega)))
  | fail)
    (refine EndOK.val (.inr rfl) ?_; simp [zaC, zaf, zaw, Tryz.results226])
  ·have hr1 : ¬ x < 0 := by omega
   have hr2 : ¬ 200 ≤ x := by omega
   by_cases hm : x ∈ l.take i
   ·rw [decide_eq_true hm] at hct
    have e2 : R = false := by rw [hR]; exact zdY hx (.inr hm)
    rw [e2]
    repeat' (first
  | (refine zag ?_; simp [hx, hr1, hr2, hle])
  | (refine zaj ?_; simp [hx, hr1, hr2, hle])
  | (refine zah ?_; simp [hx, hr1, hr2, hle])
  | (refine zai ?_; simp [hx, hr1, hr2, hle])
  | (refine zas ?_; simp only [zan])
  | (refine zaq ?_; simp only [zan])
  | (refine ⟨?_, by omega⟩)
  | (intro hc <;> (try (exfalso; omega)))
  | (refine CallP.fun_ (hct) (by first | rfl | fail) (by first | assumption | (simp; done) | fail) (by first | (simp [hx, hr1, hr2, hle]; done) | (simp [hx, hr1, hr2, hle]; rfl) | fail) (by first | (simp; done) | fail) (fun d hd => ?_); subst hd; (try simp [hx, hr1, hr2, hle]))
  | fail)
    (refine EndOK.val (.inr rfl) ?_; simp [zaC, zaf, zaw, Tryz.results226])
   ·rw [decide_eq_false hm] at hct
    repeat' (first
  | (refine zag ?_; simp [hx, hr1, hr2, hle])
  | (refine zaj ?_; simp [hx, hr1, hr2, hle])
  | (refine ⟨by omega, ?_⟩)
  | (refine zah ?_; simp [hx, hr1, hr2, hle])
  | (refine zai ?_; simp [hx, hr1, hr2, hle])
  | (refine zap ?_; simp [hx, hr1, hr2, hle])
  | (refine zaq ?_; simp only [zan])
  | (refine ⟨?_, by omega⟩)
  | (intro hc <;> (try (exfalso; omega)))
  | (refine CallP.fun_ (hct) (by first | rfl | fail) (by first | assumption | (simp; done) | fail) (by first | (simp [hx, hr1, hr2, hle]; done) | (simp [hx, hr1, hr2, hle]; rfl) | fail) (by first | (simp; done) | fail) (fun d hd => ?_); subst hd; (try simp [hx, hr1, hr2, hle]))
  | fail)
    refine LoopW.next ⟨i + 1, by omega, ?_, fun y hy => ?_⟩ (by simp; omega) ?_
    ·rw [List.take_succ, hx, List.nodup_append]
     exact ⟨hd, by simp, fun a h1 b h2 => by simp at h2; subst h2; intro e; exact hm (e ▸ h1)⟩
    ·rw [List.take_succ, hx] at hy
     rcases List.mem_append.1 hy with h | h
     ·exact hb y h
     ·simp at h; subst h; omega
    exact (Wk.env rfl rfl rfl (by simp [wkE, St.lp, zak, zaa, getK] <;> (try (intros; simp_all; done)) <;> (try (intros; omega)) <;> (try grind)))
theorem zm9 (jury : List Int) (l : List Vo) (hm : jury.length ≤ 1000000) (hl : l.length ≤ 1000000) : Fun Tryz.prog 178 [.u (zbV jury), .u (voU l)] (· = .tup [.u (.int .i64 (zeU jury l).1), .u (.int .i64 (zeU jury l).2)]) := by
 have h1 := zkv jury hm
 obtain ⟨R, hR⟩ : ∃ R, R = zeU jury l := ⟨_, rfl⟩
 rw [← hR]
 unfold zeU at hR
 cases hv : zcG jury with
 | false =>
  rw [hv] at h1 hR
  rw [if_pos rfl] at hR
  subst hR
  simp only [zbV, voU] at *
  (refine Fun.of_bodyW Tryz.func178 rfl (by simp) fun Γ hn => ?_); simp only [entry, List.zipIdx_cons, List.zipIdx_nil, List.map_cons, List.map_nil, Nat.zero_add, Tryz.ntmps178]
  repeat' (first
  | (refine zag ?_; simp)
  | (refine zaj ?_; simp)
  | (refine zah ?_; simp)
  | (refine zai ?_; simp)
  | (refine zas ?_; simp only [zan])
  | (refine CallP.fun_ (h1) (by first | rfl | fail) (by first | assumption | (simp; done) | fail) (by first | (simp; done) | (simp; rfl) | fail) (by first | (simp; done) | fail) (fun d hd => ?_); subst hd; (try simp))
  | fail)
  refine EndW.here ?_
  (refine EndOK.val (.inr rfl) ?_; simp [zaC, zaf, zaw, Tryz.results178])
 | true =>
  rw [hv] at h1 hR
  rw [if_neg (by simp)] at hR
  simp only at hR
  have h2 : ∀ u, (∀ v ∈ l, v.day ≤ u) → Fun Tryz.prog 60 [.u (zbV jury), .u (voU l), .u (.int .i64 u)] (· = .u (voU (ziJ jury [] l))) := fun u hu => by
   have := zjd jury l u hm hl
   rwa [zmh, if_pos hv, zhg _ _ _ _ hu] at this
  have hcl := zhi jury l []
  generalize ziJ jury [] l = C at *
  have hyl := znK C
  have hd : Int.tdiv (jury.length : Int) 2 = ((jury.length / 2 : Nat) : Int) := by rw [Int.tdiv_eq_ediv_of_nonneg (by omega)]; omega
  simp only [zbV, voU] at *
  (refine Fun.of_bodyW Tryz.func178 rfl (by simp) fun Γ hn => ?_); simp only [entry, List.zipIdx_cons, List.zipIdx_nil, List.map_cons, List.map_nil, Nat.zero_add, Tryz.ntmps178]
  repeat' (first
  | (refine zag ?_; simp)
  | (refine zaj ?_; simp)
  | (refine zah ?_; simp)
  | (refine zai ?_; simp)
  | (refine zau ?_; simp)
  | (refine zaq ?_; simp only [zan])
  | (refine CallP.fun_ (h1) (by first | rfl | fail) (by first | assumption | (simp; done) | fail) (by first | (simp; done) | (simp; rfl) | fail) (by first | (simp; done) | fail) (fun d hd => ?_); subst hd; (try simp))
  | fail)
  refine zbr (α := { q : Nat × Int // q.1 ≤ l.length ∧ ∀ v ∈ l.take q.1, v.day ≤ q.2 }) [0, 1, 17, 18] (fun q => [(6, .u (.int .i64 q.1.2)), (19, .u (.int .i64 q.1.1))]) (fun q => l.length - q.1.1) ⟨(0, 0), by simp⟩ ?_ ?_
  ·exact (Wk.cut rfl (by simp [hn, St.lp]) (by simp [wkO, St.lp, zaa, getK, Ob.under, D.under, zad, zae]) (by simp [wkU, St.lp, zak, zaa, getK, D.under]) (by simp [wkE, St.lp, zak, zaa, getK] <;> (try (intros; simp_all; done)) <;> (try (intros; omega)) <;> (try grind)))
  rintro ⟨⟨i, u⟩, hi, hu⟩
  simp only at hi hu
  simp [St.lp, St.only, zak, zaa, getK]
  rcases hx : l[i]? with _ | v
  ·have hge : l.length ≤ i := by simpa using hx
   obtain rfl : i = l.length := by omega
   rw [List.take_length] at hu
   have h3 := h2 u hu
   repeat' (first
  | (refine zag ?_; simp [hx])
  | (refine zaj ?_; simp [hx])
  | (refine zah ?_; simp [hx])
  | (refine zau ?_; simp [hx])
  | (refine zaZ ?_; simp [zan])
  | (refine CallP.fun_ (h3) (by first | rfl | fail) (by first | assumption | (simp; done) | fail) (by first | (simp [hx]; done) | (simp [hx]; rfl) | fail) (by first | (simp; done) | fail) (fun d hd => ?_); subst hd; (try simp [hx]))
  | fail)
   refine zbr (α := { i : Nat // i ≤ C.length }) [0, 9, 32, 33] (fun i => [(10, .u (.int .i64 (ziF (C.take i.1)))), (34, .u (.int .i64 i.1))]) (fun i => C.length - i.1) ⟨0, by omega⟩ ?_ ?_
   ·exact (Wk.cut rfl (by simp [hn, St.lp]) (by simp [wkO, St.lp, zaa, getK, Ob.under, D.under, zad, zae, ziF]) (by simp [wkU, St.lp, zak, zaa, getK, D.under, ziF]) (by simp [wkE, St.lp, zak, zaa, getK, ziF] <;> (try (intros; simp_all; done)) <;> (try (intros; omega)) <;> (try grind)))
   rintro ⟨i, hi⟩
   simp [St.lp, St.only, zak, zaa, getK]
   rcases hx : C[i]? with _ | v
   ·have hge : C.length ≤ i := by simpa using hx
    obtain rfl : i = C.length := by omega
    simp only [List.take_length]
    generalize ziF C = Y at *
    by_cases c1 : ((jury.length / 2 : Nat) : Int) + 1 ≤ Y
    ·rw [if_pos c1] at hR
     subst hR
     repeat' (first
  | (refine zag ?_; simp [hx, hd, c1])
  | (refine zaj ?_; simp [hx, hd, c1])
  | (refine ⟨by omega, ?_⟩)
  | (refine zah ?_; simp [hx, hd, c1])
  | (refine zai ?_; simp [hx, hd, c1])
  | (refine zas ?_; simp only [zan])
  | (refine zaZ ?_; simp [zan])
  | (refine ⟨?_, by omega⟩)
  | (intro hc <;> (try (exfalso; omega)))
  | fail)
     refine EndW.here ?_
     (refine EndOK.val (.inr rfl) ?_; simp [zaC, zaf, zaw, Tryz.results178])
    ·rw [if_neg c1] at hR
     by_cases c2 : (jury.length : Int) - (((jury.length / 2 : Nat) : Int) + 1) < (C.length : Int) - Y
     ·rw [if_pos c2] at hR
      subst hR
      repeat' (first
  | (refine zag ?_; simp [hx, hd, c1, c2])
  | (refine zaj ?_; simp [hx, hd, c1, c2])
  | (refine ⟨by omega, ?_⟩)
  | (refine zah ?_; simp [hx, hd, c1, c2])
  | (refine zai ?_; simp [hx, hd, c1, c2])
  | (refine zas ?_; simp only [zan])
  | (refine zaZ ?_; simp [zan])
  | (refine ⟨?_, by omega⟩)
  | (intro hc <;> (try (exfalso; omega)))
  | fail)
      refine EndW.here ?_
      (refine EndOK.val (.inr rfl) ?_; simp [zaC, zaf, zaw, Tryz.results178])
     ·rw [if_neg c2] at hR
      subst hR
      repeat' (first
  | (refine zag ?_; simp [hx, hd, c1, c2])
  | (refine zaj ?_; simp [hx, hd, c1, c2])
  | (refine ⟨by omega, ?_⟩)
  | (refine zah ?_; simp [hx, hd, c1, c2])
  | (refine zai ?_; simp [hx, hd, c1, c2])
  | (refine zas ?_; simp only [zan])
  | (refine zaq ?_; simp only [zan])
  | (refine zaZ ?_; simp [zan])
  | (intro hc <;> (try (exfalso; omega)))
  | fail)
      refine EndW.here ?_
      (refine EndOK.val (.inr rfl) ?_; simp [zaC, zaf, zaw, Tryz.results178])
   ·have hlt : i < C.length := (List.getElem?_eq_some_iff.1 hx).1
    have hst := zmz hx
    have hyl := znK (C.take i)
    rw [List.length_take] at hyl
    have hyl2 : ziF (C.take i) ≤ 1000000 := by omega
    cases hvy : v.yes with
    | true =>
     rw [if_pos hvy] at hst
     generalize ziF (C.take i) = Y at *
     repeat' (first
  | (refine zag ?_; simp [hx, hvy])
  | (refine zaj ?_; simp [hx, hvy])
  | (refine ⟨by omega, ?_⟩)
  | (refine zah ?_; simp [hx, hvy])
  | (refine zai ?_; simp [hx, hvy])
  | (refine zap ?_; simp [hx, hvy])
  | (refine zaq ?_; simp only [zan])
  | (refine ⟨?_, by omega⟩)
  | (intro hc <;> (try (exfalso; omega)))
  | fail)
     refine LoopW.next ⟨i + 1, by omega⟩ (by simp; omega) ?_
     exact (Wk.cut rfl (by simp [hn, St.lp]) (by simp [wkO, St.lp, zaa, getK, Ob.under, D.under, zad, zae, hst]) (by simp [wkU, St.lp, zak, zaa, getK, D.under, hst]) (by simp [wkE, St.lp, zak, zaa, getK, hst] <;> (try (intros; simp_all; done)) <;> (try (intros; omega)) <;> (try grind)))
    | false =>
     rw [if_neg (by simp [hvy])] at hst
     generalize ziF (C.take i) = Y at *
     repeat' (first
  | (refine zag ?_; simp [hx, hvy])
  | (refine zaj ?_; simp [hx, hvy])
  | (refine ⟨by omega, ?_⟩)
  | (refine zah ?_; simp [hx, hvy])
  | (refine zai ?_; simp [hx, hvy])
  | (refine zap ?_; simp [hx, hvy])
  | (refine zaq ?_; simp only [zan])
  | (refine ⟨?_, by omega⟩)
  | (intro hc <;> (try (exfalso; omega)))
  | fail)
     refine LoopW.next ⟨i + 1, by omega⟩ (by simp; omega) ?_
     exact (Wk.cut rfl (by simp [hn, St.lp]) (by simp [wkO, St.lp, zaa, getK, Ob.under, D.under, zad, zae, hst]) (by simp [wkU, St.lp, zak, zaa, getK, D.under, hst]) (by simp [wkE, St.lp, zak, zaa, getK, hst] <;> (try (intros; simp_all; done)) <;> (try (intros; omega)) <;> (try grind)))
  ·have hlt : i < l.length := (List.getElem?_eq_some_iff.1 hx).1
   repeat' (first
  | (refine zag ?_; simp [hx])
  | (refine zaj ?_; simp [hx])
  | (refine ⟨by omega, ?_⟩)
  | (refine zah ?_; simp [hx])
  | (refine zap ?_; simp [hx])
  | (refine zaq ?_; simp only [zan])
  | (refine ⟨?_, by omega⟩)
  | (intro hc <;> (try (exfalso; omega)))
  | fail)
   refine LoopW.next ⟨(i + 1, max u v.day), by simp; omega, fun y hy => ?_⟩ (by simp; omega) ?_
   ·simp only at hy ⊢
    rw [List.take_succ, hx] at hy
    rcases List.mem_append.1 hy with h | h
    ·have := hu y h; omega
    ·simp at h; subst h; omega
   exact (Wk.cut rfl (by simp [hn, St.lp]) (by simp [wkO, St.lp, zaa, getK, Ob.under, D.under, zad, zae]) (by simp [wkU, St.lp, zak, zaa, getK, D.under]) (by simp [wkE, St.lp, zak, zaa, getK] <;> (try (intros; simp_all; done)) <;> (try (intros; omega)) <;> (try grind)))
theorem zfd (c : Cl) (l : List Vo) (h1 : c.jury.length ≤ 1000000) (h2 : c.again.length ≤ 1000000) (hl : l.length ≤ 1000000) : Fun Tryz.prog 105 [.u (clU c), .u (voU l)] (· = .u (.int .i64 (zoH c l))) := by
 have hj := zm9 (zbX c) l (by unfold zbX; split <;> assumption) hl
 have hz : (zeU (zbX c) l).2 ≠ 0 → (zeU (zbX c) l).1 = 0 := by
  unfold zeU; split
  ·simp
  ·simp only; split
   ·simp
   ·split <;> simp
 unfold zoH
 unfold zbX at *
 by_cases c1 : c.again = []
 ·rw [if_pos c1] at hj hz ⊢
  have c2 : (0 < c.again.length) = False := by rw [c1]; simp
  generalize zeU c.jury l = J at *
  obtain ⟨j1, j2⟩ := J
  simp only at hj hz ⊢
  unfold clU zar voU
  unfold zbV voU at hj
  by_cases c3 : j2 = 0
  ·(refine Fun.of_bodyW Tryz.func105 rfl (by simp) fun Γ hn => ?_); simp only [entry, List.zipIdx_cons, List.zipIdx_nil, List.map_cons, List.map_nil, Nat.zero_add, Tryz.ntmps105]
   repeat' (first
  | (refine zag ?_; simp [c2, c3])
  | (refine zaj ?_; simp [c2, c3])
  | (refine zah ?_; simp [c2, c3])
  | (refine zai ?_; simp [c2, c3])
  | (refine zas ?_; simp only [zan])
  | (refine zaq ?_; simp only [zan])
  | (refine CallP.fun_ (hj) (by first | rfl | fail) (by first | assumption | (simp; done) | fail) (by first | (simp [c2, c3]; done) | (simp [c2, c3]; rfl) | fail) (by first | (simp; done) | fail) (fun d hd => ?_); subst hd; (try simp [c2, c3]))
  | fail)
   refine EndW.here ?_
   (refine EndOK.val (.inr rfl) ?_; simp [zaC, zaf, zaw, Tryz.results105])
  ·rw [hz c3]
   (refine Fun.of_bodyW Tryz.func105 rfl (by simp) fun Γ hn => ?_); simp only [entry, List.zipIdx_cons, List.zipIdx_nil, List.map_cons, List.map_nil, Nat.zero_add, Tryz.ntmps105]
   repeat' (first
  | (refine zag ?_; simp [c2, c3])
  | (refine zaj ?_; simp [c2, c3])
  | (refine zah ?_; simp [c2, c3])
  | (refine zai ?_; simp [c2, c3])
  | (refine zas ?_; simp only [zan])
  | (refine zaq ?_; simp only [zan])
  | (refine CallP.fun_ (hj) (by first | rfl | fail) (by first | assumption | (simp; done) | fail) (by first | (simp [c2, c3]; done) | (simp [c2, c3]; rfl) | fail) (by first | (simp; done) | fail) (fun d hd => ?_); subst hd; (try simp [c2, c3]))
  | fail)
   refine EndW.here ?_
   (refine EndOK.val (.inr rfl) ?_; simp [zaC, zaf, zaw, Tryz.results105])
 ·rw [if_neg c1] at hj hz ⊢
  have c2 : (c.again = []) = False := eq_false c1
  generalize zeU c.again l = J at *
  obtain ⟨j1, j2⟩ := J
  simp only at hj hz ⊢
  unfold clU zar voU
  unfold zbV voU at hj
  by_cases c3 : j2 = 0
  ·(refine Fun.of_bodyW Tryz.func105 rfl (by simp) fun Γ hn => ?_); simp only [entry, List.zipIdx_cons, List.zipIdx_nil, List.map_cons, List.map_nil, Nat.zero_add, Tryz.ntmps105]
   repeat' (first
  | (refine zag ?_; simp [c2, c3])
  | (refine zaj ?_; simp [c2, c3])
  | (refine zah ?_; simp [c2, c3])
  | (refine zai ?_; simp [c2, c3])
  | (refine zap ?_; simp [c2, c3])
  | (refine zas ?_; simp only [zan])
  | (refine zaq ?_; simp only [zan])
  | (intro hc <;> (try (exfalso; omega)))
  | (refine CallP.fun_ (hj) (by first | rfl | fail) (by first | assumption | (simp; done) | fail) (by first | (simp [c2, c3]; done) | (simp [c2, c3]; rfl) | fail) (by first | (simp; done) | fail) (fun d hd => ?_); subst hd; (try simp [c2, c3]))
  | fail)
   refine EndW.here ?_
   (refine EndOK.val (.inr rfl) ?_; simp [zaC, zaf, zaw, Tryz.results105])
  ·rw [hz c3]
   (refine Fun.of_bodyW Tryz.func105 rfl (by simp) fun Γ hn => ?_); simp only [entry, List.zipIdx_cons, List.zipIdx_nil, List.map_cons, List.map_nil, Nat.zero_add, Tryz.ntmps105]
   repeat' (first
  | (refine zag ?_; simp [c2, c3])
  | (refine zaj ?_; simp [c2, c3])
  | (refine zah ?_; simp [c2, c3])
  | (refine zai ?_; simp [c2, c3])
  | (refine zap ?_; simp [c2, c3])
  | (refine zas ?_; simp only [zan])
  | (intro hc <;> (try (exfalso; omega)))
  | (refine CallP.fun_ (hj) (by first | rfl | fail) (by first | assumption | (simp; done) | fail) (by first | (simp [c2, c3]; done) | (simp [c2, c3]; rfl) | fail) (by first | (simp; done) | fail) (fun d hd => ?_); subst hd; (try simp [c2, c3]))
  | fail)
   refine EndW.here ?_
   (refine EndOK.val (.inr rfl) ?_; simp [zaC, zaf, zaw, Tryz.results105])
theorem zcY {b : By} (h : zc8 b = true) : 1 ≤ b.period ∧ b.period ≤ 1000 ∧ 0 ≤ b.wait ∧ b.wait ≤ 1000 := by
 simp [zc8, zoi, inB] at h
 omega
theorem zjQ {n : Int} (h : zhb n = true) : 0 ≤ n ∧ n ≤ 1048576 := by
 simp [zhb] at h
 exact h
theorem zeu (c : Cl) (b : By) (cover : Int) (l : List Vo) (today : Int) (h1 : c.jury.length ≤ 1000000) (h2 : c.again.length ≤ 1000000) (hl : l.length ≤ 1000000) :
  Fun Tryz.prog 43 [.u (clU c), .u (.agg (zao b)), .u (.int .i64 cover), .u (voU l), .u (.int .i64 today)] (· = .u (clU (zce c b cover l today))) := by
 have e1 := zdm c h1 h2
 have e2 := zdr b
 have e3 := zhk today
 have e4 := zfd c l h1 h2 hl
 obtain ⟨X, hX⟩ : ∃ X, X = zce c b cover l today := ⟨_, rfl⟩
 rw [← hX]
 unfold zce at hX
 generalize zoH c l = v at *
 cases hr : zc8 b with
 | false =>
  rw [hr] at e2 hX
  rw [if_neg (by simp)] at hX
  subst hX
  unfold clU zar zao voU at *
  (refine Fun.of_bodyW Tryz.func43 rfl (by simp) fun Γ hn => ?_); simp only [entry, List.zipIdx_cons, List.zipIdx_nil, List.map_cons, List.map_nil, Nat.zero_add, Tryz.ntmps43]
  repeat' (first
  | (refine zag ?_; simp)
  | (refine zaj ?_; simp)
  | (refine zah ?_; simp)
  | (refine zai ?_; simp)
  | (refine zas ?_; simp only [zan])
  | (refine CallP.fun_ (e1) (by first | rfl | fail) (by first | assumption | (simp; done) | fail) (by first | (simp; done) | (simp; rfl) | fail) (by first | (simp; done) | fail) (fun d hd => ?_); subst hd; (try simp))
  | (refine CallP.fun_ (e2) (by first | rfl | fail) (by first | assumption | (simp; done) | fail) (by first | (simp; done) | (simp; rfl) | fail) (by first | (simp; done) | fail) (fun d hd => ?_); subst hd; (try simp))
  | fail)
  refine EndW.here ?_
  (refine EndOK.val (.inr rfl) ?_; simp [zaC, zaf, zaw, Tryz.results43])
 | true =>
 obtain ⟨p0, p1, p2, p3⟩ := zcY hr
 rw [hr] at e2 hX
 cases hd : zhb today with
 | false =>
  rw [hd] at e3 hX
  rw [if_neg (by simp)] at hX
  subst hX
  unfold clU zar zao voU at *
  (refine Fun.of_bodyW Tryz.func43 rfl (by simp) fun Γ hn => ?_); simp only [entry, List.zipIdx_cons, List.zipIdx_nil, List.map_cons, List.map_nil, Nat.zero_add, Tryz.ntmps43]
  repeat' (first
  | (refine zag ?_; simp)
  | (refine zaj ?_; simp)
  | (refine zah ?_; simp)
  | (refine zai ?_; simp)
  | (refine zas ?_; simp only [zan])
  | (refine CallP.fun_ (e1) (by first | rfl | fail) (by first | assumption | (simp; done) | fail) (by first | (simp; done) | (simp; rfl) | fail) (by first | (simp; done) | fail) (fun d hd => ?_); subst hd; (try simp))
  | (refine CallP.fun_ (e2) (by first | rfl | fail) (by first | assumption | (simp; done) | fail) (by first | (simp; done) | (simp; rfl) | fail) (by first | (simp; done) | fail) (fun d hd => ?_); subst hd; (try simp))
  | (refine CallP.fun_ (e3) (by first | rfl | fail) (by first | assumption | (simp; done) | fail) (by first | (simp; done) | (simp; rfl) | fail) (by first | (simp; done) | fail) (fun d hd => ?_); subst hd; (try simp))
  | fail)
  refine EndW.here ?_
  (refine EndOK.val (.inr rfl) ?_; simp [zaC, zaf, zaw, Tryz.results43])
 | true =>
 obtain ⟨d0, d1⟩ := zjQ hd
 rw [hd] at e3 hX
 rw [if_pos ⟨rfl, rfl⟩] at hX
 by_cases s0 : c.state = 0
 case neg =>
  rw [if_neg s0] at hX
  unfold zb4 at hX
  by_cases s1 : c.state = 1
  ·by_cases s2 : c.frm ≤ today + 1
   ·rw [if_pos ⟨s1, s2⟩] at hX
    subst hX
    unfold clU zar zao voU at *
    (refine Fun.of_bodyW Tryz.func43 rfl (by simp) fun Γ hn => ?_); simp only [entry, List.zipIdx_cons, List.zipIdx_nil, List.map_cons, List.map_nil, Nat.zero_add, Tryz.ntmps43]
    repeat' (first
  | (refine zag ?_; simp [s0, s1, s2])
  | (refine zaj ?_; simp [s0, s1, s2])
  | (refine ⟨by omega, ?_⟩)
  | (refine zah ?_; simp [s0, s1, s2])
  | (refine zai ?_; simp [s0, s1, s2])
  | (refine zap ?_; simp [s0, s1, s2])
  | (refine zas ?_; simp only [zan])
  | (refine zaq ?_; simp only [zan])
  | (refine CallP.fun_ (e1) (by first | rfl | fail) (by first | assumption | (simp; done) | fail) (by first | (simp [s0, s1, s2]; done) | (simp [s0, s1, s2]; rfl) | fail) (by first | (simp; done) | fail) (fun d hd => ?_); subst hd; (try simp [s0, s1, s2]))
  | (refine CallP.fun_ (e2) (by first | rfl | fail) (by first | assumption | (simp; done) | fail) (by first | (simp [s0, s1, s2]; done) | (simp [s0, s1, s2]; rfl) | fail) (by first | (simp; done) | fail) (fun d hd => ?_); subst hd; (try simp [s0, s1, s2]))
  | (refine CallP.fun_ (e3) (by first | rfl | fail) (by first | assumption | (simp; done) | fail) (by first | (simp [s0, s1, s2]; done) | (simp [s0, s1, s2]; rfl) | fail) (by first | (simp; done) | fail) (fun d hd => ?_); subst hd; (try simp [s0, s1, s2]))
  | fail)
    refine EndW.here ?_
    (refine EndOK.val (.inr rfl) ?_; simp [zaC, zaf, zaw, Tryz.results43])
   ·rw [if_neg (fun h => s2 h.2)] at hX
    subst hX
    unfold clU zar zao voU at *
    (refine Fun.of_bodyW Tryz.func43 rfl (by simp) fun Γ hn => ?_); simp only [entry, List.zipIdx_cons, List.zipIdx_nil, List.map_cons, List.map_nil, Nat.zero_add, Tryz.ntmps43]
    repeat' (first
  | (refine zag ?_; simp [s0, s1, s2])
  | (refine zaj ?_; simp [s0, s1, s2])
  | (refine ⟨by omega, ?_⟩)
  | (refine zah ?_; simp [s0, s1, s2])
  | (refine zai ?_; simp [s0, s1, s2])
  | (refine zas ?_; simp only [zan])
  | (refine zaq ?_; simp only [zan])
  | (refine CallP.fun_ (e1) (by first | rfl | fail) (by first | assumption | (simp; done) | fail) (by first | (simp [s0, s1, s2]; done) | (simp [s0, s1, s2]; rfl) | fail) (by first | (simp; done) | fail) (fun d hd => ?_); subst hd; (try simp [s0, s1, s2]))
  | (refine CallP.fun_ (e2) (by first | rfl | fail) (by first | assumption | (simp; done) | fail) (by first | (simp [s0, s1, s2]; done) | (simp [s0, s1, s2]; rfl) | fail) (by first | (simp; done) | fail) (fun d hd => ?_); subst hd; (try simp [s0, s1, s2]))
  | (refine CallP.fun_ (e3) (by first | rfl | fail) (by first | assumption | (simp; done) | fail) (by first | (simp [s0, s1, s2]; done) | (simp [s0, s1, s2]; rfl) | fail) (by first | (simp; done) | fail) (fun d hd => ?_); subst hd; (try simp [s0, s1, s2]))
  | fail)
    refine EndW.here ?_
    (refine EndOK.val (.inr rfl) ?_; simp [zaC, zaf, zaw, Tryz.results43])
  ·rw [if_neg (fun h => s1 h.1)] at hX
   subst hX
   unfold clU zar zao voU at *
   (refine Fun.of_bodyW Tryz.func43 rfl (by simp) fun Γ hn => ?_); simp only [entry, List.zipIdx_cons, List.zipIdx_nil, List.map_cons, List.map_nil, Nat.zero_add, Tryz.ntmps43]
   repeat' (first
  | (refine zag ?_; simp [s0, s1])
  | (refine zaj ?_; simp [s0, s1])
  | (refine zah ?_; simp [s0, s1])
  | (refine zai ?_; simp [s0, s1])
  | (refine zas ?_; simp only [zan])
  | (refine zaq ?_; simp only [zan])
  | (refine CallP.fun_ (e1) (by first | rfl | fail) (by first | assumption | (simp; done) | fail) (by first | (simp [s0, s1]; done) | (simp [s0, s1]; rfl) | fail) (by first | (simp; done) | fail) (fun d hd => ?_); subst hd; (try simp [s0, s1]))
  | (refine CallP.fun_ (e2) (by first | rfl | fail) (by first | assumption | (simp; done) | fail) (by first | (simp [s0, s1]; done) | (simp [s0, s1]; rfl) | fail) (by first | (simp; done) | fail) (fun d hd => ?_); subst hd; (try simp [s0, s1]))
  | (refine CallP.fun_ (e3) (by first | rfl | fail) (by first | assumption | (simp; done) | fail) (by first | (simp [s0, s1]; done) | (simp [s0, s1]; rfl) | fail) (by first | (simp; done) | fail) (fun d hd => ?_); subst hd; (try simp [s0, s1]))
  | fail)
   refine EndW.here ?_
   (refine EndOK.val (.inr rfl) ?_; simp [zaC, zaf, zaw, Tryz.results43])
 rw [if_pos s0] at hX
 by_cases c1 : v = 1 ∧ 0 < c.proofs
 ·by_cases c3 : 0 < zcH c cover
  ·have hru : zcD c b.wait b.period v cover today = { c with state := 1, grant := zcH c cover, frm := today + 1 + b.wait } := by rw [zcD, if_pos c1, if_pos c3]
   obtain ⟨c1, c2⟩ := c1
   rw [hru] at hX
   unfold zb4 at hX
   unfold zcH at hX c3
   by_cases c4 : b.wait = 0
   ·rw [if_pos ⟨rfl, by simp only; omega⟩] at hX
    subst hX
    have c5 : today + 1 + b.wait ≤ today + 1 := by omega
    unfold clU zar zao voU at *
    (refine Fun.of_bodyW Tryz.func43 rfl (by simp) fun Γ hn => ?_); simp only [entry, List.zipIdx_cons, List.zipIdx_nil, List.map_cons, List.map_nil, Nat.zero_add, Tryz.ntmps43]
    repeat' (first
  | (refine zag ?_; simp [s0, c1, c2, c3, c5])
  | (refine zaN rfl ?_; simp [s0, c1, c2, c3, c5])
  | (refine zbu rfl ?_; simp [s0, c1, c2, c3, c5])
  | (refine zaj ?_; simp [s0, c1, c2, c3, c5])
  | (refine ⟨by omega, ?_⟩)
  | (refine zah ?_; simp [s0, c1, c2, c3, c5])
  | (refine zai ?_; simp [s0, c1, c2, c3, c5])
  | (refine zaS (hC _ (by kernel_rfl)) (hk _ ?_); clear hC hk C k; simp only [zan])
  | (refine zaM rfl (by kernel_rfl) (by first | (simp [hn]; done) | (simp [hn]; omega) | fail) fun C k hC hk => ?_; simp [s0, c1, c2, c3, c5])
  | (refine zau ?_; simp [s0, c1, c2, c3, c5])
  | (refine zap ?_; simp [s0, c1, c2, c3, c5])
  | (refine zas ?_; simp only [zan])
  | (refine zaq ?_; simp only [zan])
  | (refine CallP.fun_ (e1) (by first | rfl | fail) (by first | assumption | (simp; done) | fail) (by first | (simp [s0, c1, c2, c3, c5]; done) | (simp [s0, c1, c2, c3, c5]; rfl) | fail) (by first | (simp; done) | fail) (fun d hd => ?_); subst hd; (try simp [s0, c1, c2, c3, c5]))
  | (refine CallP.fun_ (e2) (by first | rfl | fail) (by first | assumption | (simp; done) | fail) (by first | (simp [s0, c1, c2, c3, c5]; done) | (simp [s0, c1, c2, c3, c5]; rfl) | fail) (by first | (simp; done) | fail) (fun d hd => ?_); subst hd; (try simp [s0, c1, c2, c3, c5]))
  | (refine CallP.fun_ (e3) (by first | rfl | fail) (by first | assumption | (simp; done) | fail) (by first | (simp [s0, c1, c2, c3, c5]; done) | (simp [s0, c1, c2, c3, c5]; rfl) | fail) (by first | (simp; done) | fail) (fun d hd => ?_); subst hd; (try simp [s0, c1, c2, c3, c5]))
  | (refine CallP.fun_ (e4) (by first | rfl | fail) (by first | assumption | (simp; done) | fail) (by first | (simp [s0, c1, c2, c3, c5]; done) | (simp [s0, c1, c2, c3, c5]; rfl) | fail) (by first | (simp; done) | fail) (fun d hd => ?_); subst hd; (try simp [s0, c1, c2, c3, c5]))
  | fail)
    refine EndW.here ?_
    (refine EndOK.val (.inr rfl) ?_; simp [zaC, zaf, zaw, Tryz.results43])
   ·rw [if_neg (fun h => by have := h.2; simp only at this; omega)] at hX
    subst hX
    have c5 : ¬ today + 1 + b.wait ≤ today + 1 := by omega
    unfold clU zar zao voU at *
    (refine Fun.of_bodyW Tryz.func43 rfl (by simp) fun Γ hn => ?_); simp only [entry, List.zipIdx_cons, List.zipIdx_nil, List.map_cons, List.map_nil, Nat.zero_add, Tryz.ntmps43]
    repeat' (first
  | (refine zag ?_; simp [s0, c1, c2, c3, c5])
  | (refine zaN rfl ?_; simp [s0, c1, c2, c3, c5])
  | (refine zbu rfl ?_; simp [s0, c1, c2, c3, c5])
  | (refine zaj ?_; simp [s0, c1, c2, c3, c5])
  | (refine ⟨by omega, ?_⟩)
  | (refine zah ?_; simp [s0, c1, c2, c3, c5])
  | (refine zai ?_; simp [s0, c1, c2, c3, c5])
  | (refine zaS (hC _ (by kernel_rfl)) (hk _ ?_); clear hC hk C k; simp only [zan])
  | (refine zaM rfl (by kernel_rfl) (by first | (simp [hn]; done) | (simp [hn]; omega) | fail) fun C k hC hk => ?_; simp [s0, c1, c2, c3, c5])
  | (refine zau ?_; simp [s0, c1, c2, c3, c5])
  | (refine zas ?_; simp only [zan])
  | (refine zaq ?_; simp only [zan])
  | (refine CallP.fun_ (e1) (by first | rfl | fail) (by first | assumption | (simp; done) | fail) (by first | (simp [s0, c1, c2, c3, c5]; done) | (simp [s0, c1, c2, c3, c5]; rfl) | fail) (by first | (simp; done) | fail) (fun d hd => ?_); subst hd; (try simp [s0, c1, c2, c3, c5]))
  | (refine CallP.fun_ (e2) (by first | rfl | fail) (by first | assumption | (simp; done) | fail) (by first | (simp [s0, c1, c2, c3, c5]; done) | (simp [s0, c1, c2, c3, c5]; rfl) | fail) (by first | (simp; done) | fail) (fun d hd => ?_); subst hd; (try simp [s0, c1, c2, c3, c5]))
  | (refine CallP.fun_ (e3) (by first | rfl | fail) (by first | assumption | (simp; done) | fail) (by first | (simp [s0, c1, c2, c3, c5]; done) | (simp [s0, c1, c2, c3, c5]; rfl) | fail) (by first | (simp; done) | fail) (fun d hd => ?_); subst hd; (try simp [s0, c1, c2, c3, c5]))
  | (refine CallP.fun_ (e4) (by first | rfl | fail) (by first | assumption | (simp; done) | fail) (by first | (simp [s0, c1, c2, c3, c5]; done) | (simp [s0, c1, c2, c3, c5]; rfl) | fail) (by first | (simp; done) | fail) (fun d hd => ?_); subst hd; (try simp [s0, c1, c2, c3, c5]))
  | fail)
    refine EndW.here ?_
    (refine EndOK.val (.inr rfl) ?_; simp [zaC, zaf, zaw, Tryz.results43])
  ·have hru : zcD c b.wait b.period v cover today = { c with state := 3, frm := today } := by rw [zcD, if_pos c1, if_neg c3]
   obtain ⟨c1, c2⟩ := c1
   rw [hru] at hX
   unfold zb4 at hX
   unfold zcH at c3
   rw [if_neg (fun h => by have := h.1; simp at this)] at hX
   subst hX
   unfold clU zar zao voU at *
   (refine Fun.of_bodyW Tryz.func43 rfl (by simp) fun Γ hn => ?_); simp only [entry, List.zipIdx_cons, List.zipIdx_nil, List.map_cons, List.map_nil, Nat.zero_add, Tryz.ntmps43]
   repeat' (first
  | (refine zag ?_; simp [s0, c1, c2, c3])
  | (refine zaj ?_; simp [s0, c1, c2, c3])
  | (refine zah ?_; simp [s0, c1, c2, c3])
  | (refine zai ?_; simp [s0, c1, c2, c3])
  | (refine zau ?_; simp [s0, c1, c2, c3])
  | (refine zap ?_; simp [s0, c1, c2, c3])
  | (refine zas ?_; simp only [zan])
  | (refine zaq ?_; simp only [zan])
  | (refine CallP.fun_ (e1) (by first | rfl | fail) (by first | assumption | (simp; done) | fail) (by first | (simp [s0, c1, c2, c3]; done) | (simp [s0, c1, c2, c3]; rfl) | fail) (by first | (simp; done) | fail) (fun d hd => ?_); subst hd; (try simp [s0, c1, c2, c3]))
  | (refine CallP.fun_ (e2) (by first | rfl | fail) (by first | assumption | (simp; done) | fail) (by first | (simp [s0, c1, c2, c3]; done) | (simp [s0, c1, c2, c3]; rfl) | fail) (by first | (simp; done) | fail) (fun d hd => ?_); subst hd; (try simp [s0, c1, c2, c3]))
  | (refine CallP.fun_ (e3) (by first | rfl | fail) (by first | assumption | (simp; done) | fail) (by first | (simp [s0, c1, c2, c3]; done) | (simp [s0, c1, c2, c3]; rfl) | fail) (by first | (simp; done) | fail) (fun d hd => ?_); subst hd; (try simp [s0, c1, c2, c3]))
  | (refine CallP.fun_ (e4) (by first | rfl | fail) (by first | assumption | (simp; done) | fail) (by first | (simp [s0, c1, c2, c3]; done) | (simp [s0, c1, c2, c3]; rfl) | fail) (by first | (simp; done) | fail) (fun d hd => ?_); subst hd; (try simp [s0, c1, c2, c3]))
  | fail)
   refine EndW.here ?_
   (refine EndOK.val (.inr rfl) ?_; simp [zaC, zaf, zaw, Tryz.results43])
 by_cases c2 : v = 2
 ·have hru : zcD c b.wait b.period v cover today = { c with state := 3, frm := today } := by rw [zcD, if_neg c1, if_pos (.inl c2)]
  rw [hru] at hX
  unfold zb4 at hX
  rw [if_neg (fun h => by have := h.1; simp at this)] at hX
  subst hX
  have c3 : ¬ v = 1 := by omega
  unfold clU zar zao voU at *
  (refine Fun.of_bodyW Tryz.func43 rfl (by simp) fun Γ hn => ?_); simp only [entry, List.zipIdx_cons, List.zipIdx_nil, List.map_cons, List.map_nil, Nat.zero_add, Tryz.ntmps43]
  repeat' (first
  | (refine zag ?_; simp [s0, c2, c3])
  | (refine zaj ?_; simp [s0, c2, c3])
  | (refine zah ?_; simp [s0, c2, c3])
  | (refine zai ?_; simp [s0, c2, c3])
  | (refine zau ?_; simp [s0, c2, c3])
  | (refine zap ?_; simp [s0, c2, c3])
  | (refine zas ?_; simp only [zan])
  | (refine zaq ?_; simp only [zan])
  | (refine CallP.fun_ (e1) (by first | rfl | fail) (by first | assumption | (simp; done) | fail) (by first | (simp [s0, c2, c3]; done) | (simp [s0, c2, c3]; rfl) | fail) (by first | (simp; done) | fail) (fun d hd => ?_); subst hd; (try simp [s0, c2, c3]))
  | (refine CallP.fun_ (e2) (by first | rfl | fail) (by first | assumption | (simp; done) | fail) (by first | (simp [s0, c2, c3]; done) | (simp [s0, c2, c3]; rfl) | fail) (by first | (simp; done) | fail) (fun d hd => ?_); subst hd; (try simp [s0, c2, c3]))
  | (refine CallP.fun_ (e3) (by first | rfl | fail) (by first | assumption | (simp; done) | fail) (by first | (simp [s0, c2, c3]; done) | (simp [s0, c2, c3]; rfl) | fail) (by first | (simp; done) | fail) (fun d hd => ?_); subst hd; (try simp [s0, c2, c3]))
  | (refine CallP.fun_ (e4) (by first | rfl | fail) (by first | assumption | (simp; done) | fail) (by first | (simp [s0, c2, c3]; done) | (simp [s0, c2, c3]; rfl) | fail) (by first | (simp; done) | fail) (fun d hd => ?_); subst hd; (try simp [s0, c2, c3]))
  | fail)
  refine EndW.here ?_
  (refine EndOK.val (.inr rfl) ?_; simp [zaC, zaf, zaw, Tryz.results43])
 by_cases c3 : c.frm ≤ today - b.period
 ·have hru : zcD c b.wait b.period v cover today = { c with state := 3, frm := today } := by rw [zcD, if_neg c1, if_pos (.inr c3)]
  rw [hru] at hX
  unfold zb4 at hX
  rw [if_neg (fun h => by have := h.1; simp at this)] at hX
  subst hX
  unfold clU zar zao voU at *
  by_cases c4 : v = 1
  ·have c5 : ¬ 0 < c.proofs := fun h => c1 ⟨c4, h⟩
   (refine Fun.of_bodyW Tryz.func43 rfl (by simp) fun Γ hn => ?_); simp only [entry, List.zipIdx_cons, List.zipIdx_nil, List.map_cons, List.map_nil, Nat.zero_add, Tryz.ntmps43]
   repeat' (first
  | (refine zag ?_; simp [s0, c2, c3, c4, c5])
  | (refine zaj ?_; simp [s0, c2, c3, c4, c5])
  | (refine ⟨by omega, ?_⟩)
  | (refine zah ?_; simp [s0, c2, c3, c4, c5])
  | (refine zai ?_; simp [s0, c2, c3, c4, c5])
  | (refine zau ?_; simp [s0, c2, c3, c4, c5])
  | (refine zap ?_; simp [s0, c2, c3, c4, c5])
  | (refine zas ?_; simp only [zan])
  | (refine zaq ?_; simp only [zan])
  | (refine CallP.fun_ (e1) (by first | rfl | fail) (by first | assumption | (simp; done) | fail) (by first | (simp [s0, c2, c3, c4, c5]; done) | (simp [s0, c2, c3, c4, c5]; rfl) | fail) (by first | (simp; done) | fail) (fun d hd => ?_); subst hd; (try simp [s0, c2, c3, c4, c5]))
  | (refine CallP.fun_ (e2) (by first | rfl | fail) (by first | assumption | (simp; done) | fail) (by first | (simp [s0, c2, c3, c4, c5]; done) | (simp [s0, c2, c3, c4, c5]; rfl) | fail) (by first | (simp; done) | fail) (fun d hd => ?_); subst hd; (try simp [s0, c2, c3, c4, c5]))
  | (refine CallP.fun_ (e3) (by first | rfl | fail) (by first | assumption | (simp; done) | fail) (by first | (simp [s0, c2, c3, c4, c5]; done) | (simp [s0, c2, c3, c4, c5]; rfl) | fail) (by first | (simp; done) | fail) (fun d hd => ?_); subst hd; (try simp [s0, c2, c3, c4, c5]))
  | (refine CallP.fun_ (e4) (by first | rfl | fail) (by first | assumption | (simp; done) | fail) (by first | (simp [s0, c2, c3, c4, c5]; done) | (simp [s0, c2, c3, c4, c5]; rfl) | fail) (by first | (simp; done) | fail) (fun d hd => ?_); subst hd; (try simp [s0, c2, c3, c4, c5]))
  | fail)
   refine EndW.here ?_
   (refine EndOK.val (.inr rfl) ?_; simp [zaC, zaf, zaw, Tryz.results43])
  ·skip
   (refine Fun.of_bodyW Tryz.func43 rfl (by simp) fun Γ hn => ?_); simp only [entry, List.zipIdx_cons, List.zipIdx_nil, List.map_cons, List.map_nil, Nat.zero_add, Tryz.ntmps43]
   repeat' (first
  | (refine zag ?_; simp [s0, c2, c3, c4])
  | (refine zaj ?_; simp [s0, c2, c3, c4])
  | (refine ⟨by omega, ?_⟩)
  | (refine zah ?_; simp [s0, c2, c3, c4])
  | (refine zai ?_; simp [s0, c2, c3, c4])
  | (refine zau ?_; simp [s0, c2, c3, c4])
  | (refine zap ?_; simp [s0, c2, c3, c4])
  | (refine zas ?_; simp only [zan])
  | (refine zaq ?_; simp only [zan])
  | (refine CallP.fun_ (e1) (by first | rfl | fail) (by first | assumption | (simp; done) | fail) (by first | (simp [s0, c2, c3, c4]; done) | (simp [s0, c2, c3, c4]; rfl) | fail) (by first | (simp; done) | fail) (fun d hd => ?_); subst hd; (try simp [s0, c2, c3, c4]))
  | (refine CallP.fun_ (e2) (by first | rfl | fail) (by first | assumption | (simp; done) | fail) (by first | (simp [s0, c2, c3, c4]; done) | (simp [s0, c2, c3, c4]; rfl) | fail) (by first | (simp; done) | fail) (fun d hd => ?_); subst hd; (try simp [s0, c2, c3, c4]))
  | (refine CallP.fun_ (e3) (by first | rfl | fail) (by first | assumption | (simp; done) | fail) (by first | (simp [s0, c2, c3, c4]; done) | (simp [s0, c2, c3, c4]; rfl) | fail) (by first | (simp; done) | fail) (fun d hd => ?_); subst hd; (try simp [s0, c2, c3, c4]))
  | (refine CallP.fun_ (e4) (by first | rfl | fail) (by first | assumption | (simp; done) | fail) (by first | (simp [s0, c2, c3, c4]; done) | (simp [s0, c2, c3, c4]; rfl) | fail) (by first | (simp; done) | fail) (fun d hd => ?_); subst hd; (try simp [s0, c2, c3, c4]))
  | fail)
   refine EndW.here ?_
   (refine EndOK.val (.inr rfl) ?_; simp [zaC, zaf, zaw, Tryz.results43])
 ·have hru : zcD c b.wait b.period v cover today = c := by rw [zcD, if_neg c1, if_neg (by omega)]
  rw [hru] at hX
  unfold zb4 at hX
  rw [if_neg (by omega)] at hX
  rw [hX]
  clear hX
  unfold clU zar zao voU at *
  by_cases c4 : v = 1
  ·have c5 : ¬ 0 < c.proofs := fun h => c1 ⟨c4, h⟩
   (refine Fun.of_bodyW Tryz.func43 rfl (by simp) fun Γ hn => ?_); simp only [entry, List.zipIdx_cons, List.zipIdx_nil, List.map_cons, List.map_nil, Nat.zero_add, Tryz.ntmps43]
   repeat' (first
  | (refine zag ?_; simp [s0, c2, c3, c4, c5])
  | (refine zaj ?_; simp [s0, c2, c3, c4, c5])
  | (refine ⟨by omega, ?_⟩)
  | (refine zah ?_; simp [s0, c2, c3, c4, c5])
  | (refine zai ?_; simp [s0, c2, c3, c4, c5])
  | (refine zau ?_; simp [s0, c2, c3, c4, c5])
  | (refine zap ?_; simp [s0, c2, c3, c4, c5])
  | (refine zas ?_; simp only [zan])
  | (refine zaq ?_; simp only [zan])
  | (refine CallP.fun_ (e1) (by first | rfl | fail) (by first | assumption | (simp; done) | fail) (by first | (simp [s0, c2, c3, c4, c5]; done) | (simp [s0, c2, c3, c4, c5]; rfl) | fail) (by first | (simp; done) | fail) (fun d hd => ?_); subst hd; (try simp [s0, c2, c3, c4, c5]))
  | (refine CallP.fun_ (e2) (by first | rfl | fail) (by first | assumption | (simp; done) | fail) (by first | (simp [s0, c2, c3, c4, c5]; done) | (simp [s0, c2, c3, c4, c5]; rfl) | fail) (by first | (simp; done) | fail) (fun d hd => ?_); subst hd; (try simp [s0, c2, c3, c4, c5]))
  | (refine CallP.fun_ (e3) (by first | rfl | fail) (by first | assumption | (simp; done) | fail) (by first | (simp [s0, c2, c3, c4, c5]; done) | (simp [s0, c2, c3, c4, c5]; rfl) | fail) (by first | (simp; done) | fail) (fun d hd => ?_); subst hd; (try simp [s0, c2, c3, c4, c5]))
  | (refine CallP.fun_ (e4) (by first | rfl | fail) (by first | assumption | (simp; done) | fail) (by first | (simp [s0, c2, c3, c4, c5]; done) | (simp [s0, c2, c3, c4, c5]; rfl) | fail) (by first | (simp; done) | fail) (fun d hd => ?_); subst hd; (try simp [s0, c2, c3, c4, c5]))
  | fail)
   refine EndW.here ?_
   (refine EndOK.val (.inr rfl) ?_; simp [zaC, zaf, zaw, Tryz.results43])
  ·skip
   (refine Fun.of_bodyW Tryz.func43 rfl (by simp) fun Γ hn => ?_); simp only [entry, List.zipIdx_cons, List.zipIdx_nil, List.map_cons, List.map_nil, Nat.zero_add, Tryz.ntmps43]
   repeat' (first
  | (refine zag ?_; simp [s0, c2, c3, c4])
  | (refine zaj ?_; simp [s0, c2, c3, c4])
  | (refine ⟨by omega, ?_⟩)
  | (refine zah ?_; simp [s0, c2, c3, c4])
  | (refine zai ?_; simp [s0, c2, c3, c4])
  | (refine zau ?_; simp [s0, c2, c3, c4])
  | (refine zap ?_; simp [s0, c2, c3, c4])
  | (refine zas ?_; simp only [zan])
  | (refine zaq ?_; simp only [zan])
  | (refine CallP.fun_ (e1) (by first | rfl | fail) (by first | assumption | (simp; done) | fail) (by first | (simp [s0, c2, c3, c4]; done) | (simp [s0, c2, c3, c4]; rfl) | fail) (by first | (simp; done) | fail) (fun d hd => ?_); subst hd; (try simp [s0, c2, c3, c4]))
  | (refine CallP.fun_ (e2) (by first | rfl | fail) (by first | assumption | (simp; done) | fail) (by first | (simp [s0, c2, c3, c4]; done) | (simp [s0, c2, c3, c4]; rfl) | fail) (by first | (simp; done) | fail) (fun d hd => ?_); subst hd; (try simp [s0, c2, c3, c4]))
  | (refine CallP.fun_ (e3) (by first | rfl | fail) (by first | assumption | (simp; done) | fail) (by first | (simp [s0, c2, c3, c4]; done) | (simp [s0, c2, c3, c4]; rfl) | fail) (by first | (simp; done) | fail) (fun d hd => ?_); subst hd; (try simp [s0, c2, c3, c4]))
  | (refine CallP.fun_ (e4) (by first | rfl | fail) (by first | assumption | (simp; done) | fail) (by first | (simp [s0, c2, c3, c4]; done) | (simp [s0, c2, c3, c4]; rfl) | fail) (by first | (simp; done) | fail) (fun d hd => ?_); subst hd; (try simp [s0, c2, c3, c4]))
  | fail)
   refine EndW.here ?_
   (refine EndOK.val (.inr rfl) ?_; simp [zaC, zaf, zaw, Tryz.results43])
theorem zhL (c : Cl) (h0 : 0 ≤ c.proofs) (h1 : c.jury.length ≤ 1000000) (h2 : c.again.length ≤ 1000000) : Fun Tryz.prog 42 [.u (clU c)] (· = .tup [.u (clU (zdJ c).1), .u (.int .i64 (zdJ c).2)]) := by
 have e1 := zdm c h1 h2
 unfold zdJ
 by_cases c1 : c.state = 0
 ·rw [if_neg (by simp [c1])]
  by_cases c2 : 1000 ≤ c.proofs
  ·rw [if_pos c2]
   unfold clU zar at *
   (refine Fun.of_bodyW Tryz.func42 rfl (by simp) fun Γ hn => ?_); simp only [entry, List.zipIdx_cons, List.zipIdx_nil, List.map_cons, List.map_nil, Nat.zero_add, Tryz.ntmps42]
   repeat' (first
  | (refine zag ?_; simp [c1, c2])
  | (refine zaj ?_; simp [c1, c2])
  | (refine zah ?_; simp [c1, c2])
  | (refine zai ?_; simp [c1, c2])
  | (refine zas ?_; simp only [zan])
  | (refine CallP.fun_ (e1) (by first | rfl | fail) (by first | assumption | (simp; done) | fail) (by first | (simp [c1, c2]; done) | (simp [c1, c2]; rfl) | fail) (by first | (simp; done) | fail) (fun d hd => ?_); subst hd; (try simp [c1, c2]))
  | fail)
   refine EndW.here ?_
   (refine EndOK.val (.inr rfl) ?_; simp [zaC, zaf, zaw, Tryz.results42])
  ·rw [if_neg c2]
   unfold clU zar at *
   (refine Fun.of_bodyW Tryz.func42 rfl (by simp) fun Γ hn => ?_); simp only [entry, List.zipIdx_cons, List.zipIdx_nil, List.map_cons, List.map_nil, Nat.zero_add, Tryz.ntmps42]
   repeat' (first
  | (refine zag ?_; simp [c1, c2])
  | (refine zaj ?_; simp [c1, c2])
  | (refine ⟨by omega, ?_⟩)
  | (refine zah ?_; simp [c1, c2])
  | (refine zai ?_; simp [c1, c2])
  | (refine zas ?_; simp only [zan])
  | (refine zaq ?_; simp only [zan])
  | (refine CallP.fun_ (e1) (by first | rfl | fail) (by first | assumption | (simp; done) | fail) (by first | (simp [c1, c2]; done) | (simp [c1, c2]; rfl) | fail) (by first | (simp; done) | fail) (fun d hd => ?_); subst hd; (try simp [c1, c2]))
  | fail)
   refine EndW.here ?_
   (refine EndOK.val (.inr rfl) ?_; simp [zaC, zaf, zaw, Tryz.results42])
 ·rw [if_pos c1]
  unfold clU zar at *
  (refine Fun.of_bodyW Tryz.func42 rfl (by simp) fun Γ hn => ?_); simp only [entry, List.zipIdx_cons, List.zipIdx_nil, List.map_cons, List.map_nil, Nat.zero_add, Tryz.ntmps42]
  repeat' (first
  | (refine zag ?_; simp [c1])
  | (refine zaj ?_; simp [c1])
  | (refine zah ?_; simp [c1])
  | (refine zai ?_; simp [c1])
  | (refine zas ?_; simp only [zan])
  | (refine CallP.fun_ (e1) (by first | rfl | fail) (by first | assumption | (simp; done) | fail) (by first | (simp [c1]; done) | (simp [c1]; rfl) | fail) (by first | (simp; done) | fail) (fun d hd => ?_); subst hd; (try simp [c1]))
  | fail)
  refine EndW.here ?_
  (refine EndOK.val (.inr rfl) ?_; simp [zaC, zaf, zaw, Tryz.results42])
theorem zi0 (c : Cl) (n : Int) (h1 : c.jury.length ≤ 1000000) (h2 : c.again.length ≤ 1000000) : Fun Tryz.prog 46 [.u (clU c), .u (.int .i64 n)] (· = .tup [.u (clU (zjx c n).1), .u (.int .i64 (zjx c n).2)]) := by
 have e1 := zdm c h1 h2
 unfold zjx
 by_cases c1 : c.state = 1
 ·rw [if_pos c1]
  unfold clU zar at *
  (refine Fun.of_bodyW Tryz.func46 rfl (by simp) fun Γ hn => ?_); simp only [entry, List.zipIdx_cons, List.zipIdx_nil, List.map_cons, List.map_nil, Nat.zero_add, Tryz.ntmps46]
  repeat' (first
  | (refine zag ?_; simp [c1])
  | (refine zaj ?_; simp [c1])
  | (refine zah ?_; simp [c1])
  | (refine zai ?_; simp [c1])
  | (refine zas ?_; simp only [zan])
  | (refine CallP.fun_ (e1) (by first | rfl | fail) (by first | assumption | (simp; done) | fail) (by first | (simp [c1]; done) | (simp [c1]; rfl) | fail) (by first | (simp; done) | fail) (fun d hd => ?_); subst hd; (try simp [c1]))
  | fail)
  refine EndW.here ?_
  (refine EndOK.val (.inr rfl) ?_; simp [zaC, zaf, zaw, Tryz.results46])
 rw [if_neg c1]
 by_cases c2 : c.state = 2
 case neg =>
  rw [if_pos c2]
  unfold clU zar at *
  (refine Fun.of_bodyW Tryz.func46 rfl (by simp) fun Γ hn => ?_); simp only [entry, List.zipIdx_cons, List.zipIdx_nil, List.map_cons, List.map_nil, Nat.zero_add, Tryz.ntmps46]
  repeat' (first
  | (refine zag ?_; simp [c1, c2])
  | (refine zaj ?_; simp [c1, c2])
  | (refine zah ?_; simp [c1, c2])
  | (refine zai ?_; simp [c1, c2])
  | (refine zas ?_; simp only [zan])
  | (refine CallP.fun_ (e1) (by first | rfl | fail) (by first | assumption | (simp; done) | fail) (by first | (simp [c1, c2]; done) | (simp [c1, c2]; rfl) | fail) (by first | (simp; done) | fail) (fun d hd => ?_); subst hd; (try simp [c1, c2]))
  | fail)
  refine EndW.here ?_
  (refine EndOK.val (.inr rfl) ?_; simp [zaC, zaf, zaw, Tryz.results46])
 rw [if_neg (fun h => h c2)]
 by_cases c3 : c.grant < n
 ·rw [if_pos c3]
  unfold clU zar at *
  (refine Fun.of_bodyW Tryz.func46 rfl (by simp) fun Γ hn => ?_); simp only [entry, List.zipIdx_cons, List.zipIdx_nil, List.map_cons, List.map_nil, Nat.zero_add, Tryz.ntmps46]
  repeat' (first
  | (refine zag ?_; simp [c1, c2, c3])
  | (refine zaj ?_; simp [c1, c2, c3])
  | (refine zah ?_; simp [c1, c2, c3])
  | (refine zai ?_; simp [c1, c2, c3])
  | (refine zas ?_; simp only [zan])
  | (refine CallP.fun_ (e1) (by first | rfl | fail) (by first | assumption | (simp; done) | fail) (by first | (simp [c1, c2, c3]; done) | (simp [c1, c2, c3]; rfl) | fail) (by first | (simp; done) | fail) (fun d hd => ?_); subst hd; (try simp [c1, c2, c3]))
  | fail)
  refine EndW.here ?_
  (refine EndOK.val (.inr rfl) ?_; simp [zaC, zaf, zaw, Tryz.results46])
 rw [if_neg c3]
 by_cases c4 : n < c.grant
 ·rw [if_pos c4]
  unfold clU zar at *
  (refine Fun.of_bodyW Tryz.func46 rfl (by simp) fun Γ hn => ?_); simp only [entry, List.zipIdx_cons, List.zipIdx_nil, List.map_cons, List.map_nil, Nat.zero_add, Tryz.ntmps46]
  repeat' (first
  | (refine zag ?_; simp [c1, c2, c3, c4])
  | (refine zaj ?_; simp [c1, c2, c3, c4])
  | (refine zah ?_; simp [c1, c2, c3, c4])
  | (refine zai ?_; simp [c1, c2, c3, c4])
  | (refine zas ?_; simp only [zan])
  | (refine CallP.fun_ (e1) (by first | rfl | fail) (by first | assumption | (simp; done) | fail) (by first | (simp [c1, c2, c3, c4]; done) | (simp [c1, c2, c3, c4]; rfl) | fail) (by first | (simp; done) | fail) (fun d hd => ?_); subst hd; (try simp [c1, c2, c3, c4]))
  | fail)
  refine EndW.here ?_
  (refine EndOK.val (.inr rfl) ?_; simp [zaC, zaf, zaw, Tryz.results46])
 ·rw [if_neg c4]
  unfold clU zar at *
  (refine Fun.of_bodyW Tryz.func46 rfl (by simp) fun Γ hn => ?_); simp only [entry, List.zipIdx_cons, List.zipIdx_nil, List.map_cons, List.map_nil, Nat.zero_add, Tryz.ntmps46]
  repeat' (first
  | (refine zag ?_; simp [c1, c2, c3, c4])
  | (refine zaj ?_; simp [c1, c2, c3, c4])
  | (refine zah ?_; simp [c1, c2, c3, c4])
  | (refine zai ?_; simp [c1, c2, c3, c4])
  | (refine zas ?_; simp only [zan])
  | (refine zaq ?_; simp only [zan])
  | (refine CallP.fun_ (e1) (by first | rfl | fail) (by first | assumption | (simp; done) | fail) (by first | (simp [c1, c2, c3, c4]; done) | (simp [c1, c2, c3, c4]; rfl) | fail) (by first | (simp; done) | fail) (fun d hd => ?_); subst hd; (try simp [c1, c2, c3, c4]))
  | fail)
  refine EndW.here ?_
  (refine EndOK.val (.inr rfl) ?_; simp [zaC, zaf, zaw, Tryz.results46])
theorem ze6 (c : Cl) (b : By) (again : List Int) (today : Int) (h1 : c.jury.length ≤ 1000000) (h2 : c.again.length ≤ 1000000) (h3 : again.length ≤ 1000000) :
  Fun Tryz.prog 45 [.u (clU c), .u (.agg (zao b)), .u (zbV again), .u (.int .i64 today)] (· = .tup [.u (clU (zcb c b again today).1), .u (.int .i64 (zcb c b again today).2)]) := by
 have e1 := zdm c h1 h2
 have e2 := zdr b
 have e3 := zhk today
 have e4 := zdV again h3
 obtain ⟨X, hX⟩ : ∃ X, X = zcb c b again today := ⟨_, rfl⟩
 rw [← hX]
 unfold zcb at hX
 cases hr : zc8 b with
 | false =>
  rw [hr] at e2 hX
  rw [if_pos (.inl rfl)] at hX
  subst hX
  unfold clU zar zao zbV at *
  (refine Fun.of_bodyW Tryz.func45 rfl (by simp) fun Γ hn => ?_); simp only [entry, List.zipIdx_cons, List.zipIdx_nil, List.map_cons, List.map_nil, Nat.zero_add, Tryz.ntmps45]
  repeat' (first
  | (refine zag ?_; simp)
  | (refine zaj ?_; simp)
  | (refine zah ?_; simp)
  | (refine zai ?_; simp)
  | (refine zas ?_; simp only [zan])
  | (refine CallP.fun_ (e1) (by first | rfl | fail) (by first | assumption | (simp; done) | fail) (by first | (simp; done) | (simp; rfl) | fail) (by first | (simp; done) | fail) (fun d hd => ?_); subst hd; (try simp))
  | (refine CallP.fun_ (e2) (by first | rfl | fail) (by first | assumption | (simp; done) | fail) (by first | (simp; done) | (simp; rfl) | fail) (by first | (simp; done) | fail) (fun d hd => ?_); subst hd; (try simp))
  | fail)
  refine EndW.here ?_
  (refine EndOK.val (.inr rfl) ?_; simp [zaC, zaf, zaw, Tryz.results45])
 | true =>
 obtain ⟨p0, p1, p2, p3⟩ := zcY hr
 rw [hr] at e2 hX
 cases hd : zhb today with
 | false =>
  rw [hd] at e3 hX
  rw [if_pos (.inr (.inl rfl))] at hX
  subst hX
  unfold clU zar zao zbV at *
  (refine Fun.of_bodyW Tryz.func45 rfl (by simp) fun Γ hn => ?_); simp only [entry, List.zipIdx_cons, List.zipIdx_nil, List.map_cons, List.map_nil, Nat.zero_add, Tryz.ntmps45]
  repeat' (first
  | (refine zag ?_; simp)
  | (refine zaj ?_; simp)
  | (refine zah ?_; simp)
  | (refine zai ?_; simp)
  | (refine zas ?_; simp only [zan])
  | (refine CallP.fun_ (e1) (by first | rfl | fail) (by first | assumption | (simp; done) | fail) (by first | (simp; done) | (simp; rfl) | fail) (by first | (simp; done) | fail) (fun d hd => ?_); subst hd; (try simp))
  | (refine CallP.fun_ (e2) (by first | rfl | fail) (by first | assumption | (simp; done) | fail) (by first | (simp; done) | (simp; rfl) | fail) (by first | (simp; done) | fail) (fun d hd => ?_); subst hd; (try simp))
  | (refine CallP.fun_ (e3) (by first | rfl | fail) (by first | assumption | (simp; done) | fail) (by first | (simp; done) | (simp; rfl) | fail) (by first | (simp; done) | fail) (fun d hd => ?_); subst hd; (try simp))
  | fail)
  refine EndW.here ?_
  (refine EndOK.val (.inr rfl) ?_; simp [zaC, zaf, zaw, Tryz.results45])
 | true =>
 obtain ⟨d0, d1⟩ := zjQ hd
 rw [hd] at e3 hX
 by_cases c1 : again = []
 ·rw [if_pos (.inr (.inr c1))] at hX
  subst hX
  subst c1
  unfold clU zar zao zbV at *
  (refine Fun.of_bodyW Tryz.func45 rfl (by simp) fun Γ hn => ?_); simp only [entry, List.zipIdx_cons, List.zipIdx_nil, List.map_cons, List.map_nil, Nat.zero_add, Tryz.ntmps45]
  repeat' (first
  | (refine zag ?_; simp)
  | (refine zaj ?_; simp)
  | (refine zah ?_; simp)
  | (refine zai ?_; simp)
  | (refine zas ?_; simp only [zan])
  | (refine CallP.fun_ (e1) (by first | rfl | fail) (by first | assumption | (simp; done) | fail) (by first | (simp; done) | (simp; rfl) | fail) (by first | (simp; done) | fail) (fun d hd => ?_); subst hd; (try simp))
  | (refine CallP.fun_ (e2) (by first | rfl | fail) (by first | assumption | (simp; done) | fail) (by first | (simp; done) | (simp; rfl) | fail) (by first | (simp; done) | fail) (fun d hd => ?_); subst hd; (try simp))
  | (refine CallP.fun_ (e3) (by first | rfl | fail) (by first | assumption | (simp; done) | fail) (by first | (simp; done) | (simp; rfl) | fail) (by first | (simp; done) | fail) (fun d hd => ?_); subst hd; (try simp))
  | fail)
  refine EndW.here ?_
  (refine EndOK.val (.inr rfl) ?_; simp [zaC, zaf, zaw, Tryz.results45])
 have c1' : (again = []) = False := eq_false c1
 rw [if_neg (by simp [c1])] at hX
 by_cases c2 : c.state = 3
 case neg =>
  rw [if_pos c2] at hX
  subst hX
  unfold clU zar zao zbV at *
  (refine Fun.of_bodyW Tryz.func45 rfl (by simp) fun Γ hn => ?_); simp only [entry, List.zipIdx_cons, List.zipIdx_nil, List.map_cons, List.map_nil, Nat.zero_add, Tryz.ntmps45]
  repeat' (first
  | (refine zag ?_; simp [c1', c2])
  | (refine zaj ?_; simp [c1', c2])
  | (refine zah ?_; simp [c1', c2])
  | (refine zai ?_; simp [c1', c2])
  | (refine zas ?_; simp only [zan])
  | (refine CallP.fun_ (e1) (by first | rfl | fail) (by first | assumption | (simp; done) | fail) (by first | (simp [c1', c2]; done) | (simp [c1', c2]; rfl) | fail) (by first | (simp; done) | fail) (fun d hd => ?_); subst hd; (try simp [c1', c2]))
  | (refine CallP.fun_ (e2) (by first | rfl | fail) (by first | assumption | (simp; done) | fail) (by first | (simp [c1', c2]; done) | (simp [c1', c2]; rfl) | fail) (by first | (simp; done) | fail) (fun d hd => ?_); subst hd; (try simp [c1', c2]))
  | (refine CallP.fun_ (e3) (by first | rfl | fail) (by first | assumption | (simp; done) | fail) (by first | (simp [c1', c2]; done) | (simp [c1', c2]; rfl) | fail) (by first | (simp; done) | fail) (fun d hd => ?_); subst hd; (try simp [c1', c2]))
  | fail)
  refine EndW.here ?_
  (refine EndOK.val (.inr rfl) ?_; simp [zaC, zaf, zaw, Tryz.results45])
 rw [if_neg (fun h => h c2)] at hX
 by_cases c3 : c.again = []
 case neg =>
  rw [if_pos c3] at hX
  subst hX
  have c4 : (c.again = []) = False := eq_false c3
  unfold clU zar zao zbV at *
  (refine Fun.of_bodyW Tryz.func45 rfl (by simp) fun Γ hn => ?_); simp only [entry, List.zipIdx_cons, List.zipIdx_nil, List.map_cons, List.map_nil, Nat.zero_add, Tryz.ntmps45]
  repeat' (first
  | (refine zag ?_; simp [c1', c2, c4])
  | (refine zaj ?_; simp [c1', c2, c4])
  | (refine zah ?_; simp [c1', c2, c4])
  | (refine zai ?_; simp [c1', c2, c4])
  | (refine zas ?_; simp only [zan])
  | (intro hc <;> (try (exfalso; omega)))
  | (refine CallP.fun_ (e1) (by first | rfl | fail) (by first | assumption | (simp; done) | fail) (by first | (simp [c1', c2, c4]; done) | (simp [c1', c2, c4]; rfl) | fail) (by first | (simp; done) | fail) (fun d hd => ?_); subst hd; (try simp [c1', c2, c4]))
  | (refine CallP.fun_ (e2) (by first | rfl | fail) (by first | assumption | (simp; done) | fail) (by first | (simp [c1', c2, c4]; done) | (simp [c1', c2, c4]; rfl) | fail) (by first | (simp; done) | fail) (fun d hd => ?_); subst hd; (try simp [c1', c2, c4]))
  | (refine CallP.fun_ (e3) (by first | rfl | fail) (by first | assumption | (simp; done) | fail) (by first | (simp [c1', c2, c4]; done) | (simp [c1', c2, c4]; rfl) | fail) (by first | (simp; done) | fail) (fun d hd => ?_); subst hd; (try simp [c1', c2, c4]))
  | fail)
  refine EndW.here ?_
  (refine EndOK.val (.inr rfl) ?_; simp [zaC, zaf, zaw, Tryz.results45])
 rw [if_neg (fun h => h c3)] at hX
 have c4 : (0 < c.again.length) = False := by rw [c3]; simp
 by_cases c5 : c.frm < today - b.period
 ·rw [if_pos c5] at hX
  subst hX
  unfold clU zar zao zbV at *
  (refine Fun.of_bodyW Tryz.func45 rfl (by simp) fun Γ hn => ?_); simp only [entry, List.zipIdx_cons, List.zipIdx_nil, List.map_cons, List.map_nil, Nat.zero_add, Tryz.ntmps45]
  repeat' (first
  | (refine zag ?_; simp [c1', c2, c4, c5])
  | (refine zaj ?_; simp [c1', c2, c4, c5])
  | (refine ⟨by omega, ?_⟩)
  | (refine zah ?_; simp [c1', c2, c4, c5])
  | (refine zai ?_; simp [c1', c2, c4, c5])
  | (refine zas ?_; simp only [zan])
  | (refine CallP.fun_ (e1) (by first | rfl | fail) (by first | assumption | (simp; done) | fail) (by first | (simp [c1', c2, c4, c5]; done) | (simp [c1', c2, c4, c5]; rfl) | fail) (by first | (simp; done) | fail) (fun d hd => ?_); subst hd; (try simp [c1', c2, c4, c5]))
  | (refine CallP.fun_ (e2) (by first | rfl | fail) (by first | assumption | (simp; done) | fail) (by first | (simp [c1', c2, c4, c5]; done) | (simp [c1', c2, c4, c5]; rfl) | fail) (by first | (simp; done) | fail) (fun d hd => ?_); subst hd; (try simp [c1', c2, c4, c5]))
  | (refine CallP.fun_ (e3) (by first | rfl | fail) (by first | assumption | (simp; done) | fail) (by first | (simp [c1', c2, c4, c5]; done) | (simp [c1', c2, c4, c5]; rfl) | fail) (by first | (simp; done) | fail) (fun d hd => ?_); subst hd; (try simp [c1', c2, c4, c5]))
  | fail)
  refine EndW.here ?_
  (refine EndOK.val (.inr rfl) ?_; simp [zaC, zaf, zaw, Tryz.results45])
 ·rw [if_neg c5] at hX
  subst hX
  unfold clU zar zao zbV at *
  (refine Fun.of_bodyW Tryz.func45 rfl (by simp) fun Γ hn => ?_); simp only [entry, List.zipIdx_cons, List.zipIdx_nil, List.map_cons, List.map_nil, Nat.zero_add, Tryz.ntmps45]
  repeat' (first
  | (refine zag ?_; simp [c1', c2, c4, c5])
  | (refine zaj ?_; simp [c1', c2, c4, c5])
  | (refine ⟨by omega, ?_⟩)
  | (refine zah ?_; simp [c1', c2, c4, c5])
  | (refine zai ?_; simp [c1', c2, c4, c5])
  | (refine zas ?_; simp only [zan])
  | (refine zaq ?_; simp only [zan])
  | (refine CallP.fun_ (e1) (by first | rfl | fail) (by first | assumption | (simp; done) | fail) (by first | (simp [c1', c2, c4, c5]; done) | (simp [c1', c2, c4, c5]; rfl) | fail) (by first | (simp; done) | fail) (fun d hd => ?_); subst hd; (try simp [c1', c2, c4, c5]))
  | (refine CallP.fun_ (e2) (by first | rfl | fail) (by first | assumption | (simp; done) | fail) (by first | (simp [c1', c2, c4, c5]; done) | (simp [c1', c2, c4, c5]; rfl) | fail) (by first | (simp; done) | fail) (fun d hd => ?_); subst hd; (try simp [c1', c2, c4, c5]))
  | (refine CallP.fun_ (e3) (by first | rfl | fail) (by first | assumption | (simp; done) | fail) (by first | (simp [c1', c2, c4, c5]; done) | (simp [c1', c2, c4, c5]; rfl) | fail) (by first | (simp; done) | fail) (fun d hd => ?_); subst hd; (try simp [c1', c2, c4, c5]))
  | (refine CallP.fun_ (e4) (by first | rfl | fail) (by first | assumption | (simp; done) | fail) (by first | (simp [c1', c2, c4, c5]; done) | (simp [c1', c2, c4, c5]; rfl) | fail) (by first | (simp; done) | fail) (fun d hd => ?_); subst hd; (try simp [c1', c2, c4, c5]))
  | fail)
  refine EndW.here ?_
  (refine EndOK.val (.inr rfl) ?_; simp [zaC, zaf, zaw, Tryz.results45])
theorem zd0 (n : Int) : Fun Tryz.prog 174 [.u (.int .i64 n)] (· = .u (.bool (zf9 n))) := by
 unfold zf9
 by_cases c1 : 0 ≤ n
 ·by_cases c2 : n ≤ 1073741824
  all_goals
   (refine Fun.of_body Tryz.func174 rfl (by simp) fun Γ hn => ?_); simp only [entry, List.zipIdx_cons, List.zipIdx_nil, List.map_cons, List.map_nil, Nat.zero_add, Tryz.ntmps174]
   repeat' (first
  | (refine zag ?_; simp [c1, c2])
  | (refine zaj ?_; simp [c1, c2])
  | (refine zah ?_; simp [c1, c2])
  | (refine zas ?_; simp only [zan])
  | fail)
   (refine EndOK.val (.inr rfl) ?_; simp [zaC, zaf, zaw, Tryz.results174])
   try simp [c1, c2]
 ·(refine Fun.of_body Tryz.func174 rfl (by simp) fun Γ hn => ?_); simp only [entry, List.zipIdx_cons, List.zipIdx_nil, List.map_cons, List.map_nil, Nat.zero_add, Tryz.ntmps174]
  repeat' (first
  | (refine zag ?_; simp [c1])
  | (refine zaj ?_; simp [c1])
  | (refine zah ?_; simp [c1])
  | (refine zas ?_; simp only [zan])
  | fail)
  (refine EndOK.val (.inr rfl) ?_; simp [zaC, zaf, zaw, Tryz.results174])
  try simp [c1]
theorem zeT (n : Int) : Fun Tryz.prog 170 [.u (.int .i64 n)] (· = .u (.bool (zm7 n))) := by
 unfold zm7
 by_cases c1 : 0 ≤ n
 ·by_cases c2 : n < 200
  all_goals
   (refine Fun.of_body Tryz.func170 rfl (by simp) fun Γ hn => ?_); simp only [entry, List.zipIdx_cons, List.zipIdx_nil, List.map_cons, List.map_nil, Nat.zero_add, Tryz.ntmps170]
   repeat' (first
  | (refine zag ?_; simp [c1, c2])
  | (refine zaj ?_; simp [c1, c2])
  | (refine zah ?_; simp [c1, c2])
  | (refine zas ?_; simp only [zan])
  | fail)
   (refine EndOK.val (.inr rfl) ?_; simp [zaC, zaf, zaw, Tryz.results170])
   try simp [c1, c2]
 ·(refine Fun.of_body Tryz.func170 rfl (by simp) fun Γ hn => ?_); simp only [entry, List.zipIdx_cons, List.zipIdx_nil, List.map_cons, List.map_nil, Nat.zero_add, Tryz.ntmps170]
  repeat' (first
  | (refine zag ?_; simp [c1])
  | (refine zaj ?_; simp [c1])
  | (refine zah ?_; simp [c1])
  | (refine zas ?_; simp only [zan])
  | fail)
  (refine EndOK.val (.inr rfl) ?_; simp [zaC, zaf, zaw, Tryz.results170])
  try simp [c1]
theorem zeG (n : Int) : Fun Tryz.prog 171 [.u (.int .i64 n)] (· = .u (.bool (zhb n))) := by
 unfold zhb
 by_cases c1 : 0 ≤ n
 ·by_cases c2 : n ≤ 1048576
  all_goals
   (refine Fun.of_body Tryz.func171 rfl (by simp) fun Γ hn => ?_); simp only [entry, List.zipIdx_cons, List.zipIdx_nil, List.map_cons, List.map_nil, Nat.zero_add, Tryz.ntmps171]
   repeat' (first
  | (refine zag ?_; simp [c1, c2])
  | (refine zaj ?_; simp [c1, c2])
  | (refine zah ?_; simp [c1, c2])
  | (refine zas ?_; simp only [zan])
  | fail)
   (refine EndOK.val (.inr rfl) ?_; simp [zaC, zaf, zaw, Tryz.results171])
   try simp [c1, c2]
 ·(refine Fun.of_body Tryz.func171 rfl (by simp) fun Γ hn => ?_); simp only [entry, List.zipIdx_cons, List.zipIdx_nil, List.map_cons, List.map_nil, Nat.zero_add, Tryz.ntmps171]
  repeat' (first
  | (refine zag ?_; simp [c1])
  | (refine zaj ?_; simp [c1])
  | (refine zah ?_; simp [c1])
  | (refine zas ?_; simp only [zan])
  | fail)
  (refine EndOK.val (.inr rfl) ?_; simp [zaC, zaf, zaw, Tryz.results171])
  try simp [c1]
theorem zji (l : List Int) (hl : l.length ≤ 1000000) : Fun Tryz.prog 173 [.u (zbV l)] (· = .u (.bool (zoO l))) := by
 obtain ⟨R, hR⟩ : ∃ R, R = zoO l := ⟨_, rfl⟩
 rw [← hR]
 unfold zoO at hR
 unfold zbV
 (refine Fun.of_body Tryz.func173 rfl (by simp) fun Γ hn => ?_); simp only [entry, List.zipIdx_cons, List.zipIdx_nil, List.map_cons, List.map_nil, Nat.zero_add, Tryz.ntmps173]
 repeat' (first
  | (refine zag ?_; simp)
  | (refine zaj ?_; simp)
  | (refine zah ?_; simp)
  | (refine zau ?_; simp)
  | fail)
 refine zbr (α := { i : Nat // 1 ≤ i ∧ (i ≤ l.length ∨ i = 1) ∧ ∀ j, j + 1 < i → l.getD j 0 < l.getD (j + 1) 0 }) [0] (fun i => [(3, .u (.int .i64 i.1))]) (fun i => l.length - i.1) ⟨1, by omega, by omega, by omega⟩ ?_ ?_
 ·exact (Wk.env rfl rfl rfl (by simp [wkE, St.lp, zak, zaa, getK] <;> (try (intros; simp_all; done)) <;> (try (intros; omega)) <;> (try grind)))
 rintro ⟨i, hi1, hi, hb⟩
 simp [St.lp, St.only, zak, zaa, getK]
 by_cases hlt : i < l.length
 ·have hlt' : (i : Int) < l.length := by omega
  have h1 : l[i]? = some (l.getD i 0) := by simp [List.getD, hlt]
  have h2 : l[i - 1]? = some (l.getD (i - 1) 0) := by simp [List.getD, show i - 1 < l.length by omega]
  have h3 : ((i : Int) - 1).toNat = i - 1 := by omega
  have h4 := hb (i - 2)
  have e : i - 1 + 1 = i := by omega
  generalize hx : l.getD i 0 = x at *
  generalize hy : l.getD (i - 1) 0 = y at *
  by_cases c1 : x ≤ y
  ·have : R = false := by
    rw [hR, decide_eq_false_iff_not]
    intro h
    have := h ⟨i - 1, by omega⟩
    simp only [e, hx, hy] at this
    omega
   rw [this]
   repeat' (first
  | (refine zag ?_; simp [hlt', h1, h2, h3, c1])
  | (refine zaN rfl ?_; simp [hlt', h1, h2, h3, c1])
  | (refine zaj ?_; simp [hlt', h1, h2, h3, c1])
  | (refine ⟨by omega, ?_⟩)
  | (refine zah ?_; simp [hlt', h1, h2, h3, c1])
  | (refine zai ?_; simp [hlt', h1, h2, h3, c1])
  | (refine zaS (hC _ (by kernel_rfl)) (hk _ ?_); clear hC hk C k; simp only [zan])
  | (refine zaM rfl (by kernel_rfl) (by first | (simp [hn]; done) | (simp [hn]; omega) | fail) fun C k hC hk => ?_; simp [hlt', h1, h2, h3, c1])
  | (refine zas ?_; simp only [zan])
  | (refine zaq ?_; simp only [zan])
  | fail)
   (refine EndOK.val (.inr rfl) ?_; simp [zaC, zaf, zaw, Tryz.results173])
  ·repeat' (first
  | (refine zag ?_; simp [hlt', h1, h2, h3, c1])
  | (refine zaN rfl ?_; simp [hlt', h1, h2, h3, c1])
  | (refine zaj ?_; simp [hlt', h1, h2, h3, c1])
  | (refine ⟨by omega, ?_⟩)
  | (refine zah ?_; simp [hlt', h1, h2, h3, c1])
  | (refine zai ?_; simp [hlt', h1, h2, h3, c1])
  | (refine zaS (hC _ (by kernel_rfl)) (hk _ ?_); clear hC hk C k; simp only [zan])
  | (refine zaM rfl (by kernel_rfl) (by first | (simp [hn]; done) | (simp [hn]; omega) | fail) fun C k hC hk => ?_; simp [hlt', h1, h2, h3, c1])
  | (refine zap ?_; simp [hlt', h1, h2, h3, c1])
  | (refine zaq ?_; simp only [zan])
  | fail)
   refine LoopW.next ⟨i + 1, by omega, by omega, fun j hj => ?_⟩ (by simp; omega) ?_
   ·by_cases hj2 : j + 1 < i
    ·exact hb j hj2
    ·obtain rfl : j = i - 1 := by omega
     rw [e, hx, hy]; omega
   exact (Wk.env rfl rfl rfl (by simp [wkE, St.lp, zak, zaa, getK] <;> (try (intros; simp_all; done)) <;> (try (intros; omega)) <;> (try grind)))
 ·have hlt' : ¬ (i : Int) < l.length := by omega
  have : R = true := by
   rw [hR, decide_eq_true_iff]
   exact fun j => hb j (by have := j.2; omega)
  rw [this]
  repeat' (first
  | (refine zag ?_; simp [hlt'])
  | (refine zaj ?_; simp [hlt'])
  | (refine zah ?_; simp [hlt'])
  | (refine zai ?_; simp [hlt'])
  | (refine zas ?_; simp only [zan])
  | (refine zaZ ?_; simp [zan])
  | fail)
  (refine EndOK.val (.inr rfl) ?_; simp [zaC, zaf, zaw, Tryz.results173])
theorem zoS (s : Sp) : Fun Tryz.prog 225 [.u (.agg [.int .i64 s.mark, .int .i64 s.frm, .int .i64 s.to])] (· = .u (.bool (svB s))) := by
 have h1 := zd0 s.mark
 unfold svB
 generalize zf9 s.mark = b at *
 by_cases c1 : 0 ≤ s.frm
 ·by_cases c2 : s.frm < s.to
  ·by_cases c3 : s.to ≤ 1048576
   all_goals
    cases b
    all_goals
     (refine Fun.of_bodyW Tryz.func225 rfl (by simp) fun Γ hn => ?_); simp only [entry, List.zipIdx_cons, List.zipIdx_nil, List.map_cons, List.map_nil, Nat.zero_add, Tryz.ntmps225]
     repeat' (first
  | (refine zag ?_; simp [c1, c2, c3])
  | (refine zaj ?_; simp [c1, c2, c3])
  | (refine zah ?_; simp [c1, c2, c3])
  | (refine zas ?_; simp only [zan])
  | (refine CallP.fun_ (h1) (by first | rfl | fail) (by first | assumption | (simp; done) | fail) (by first | (simp [c1, c2, c3]; done) | (simp [c1, c2, c3]; rfl) | fail) (by first | (simp; done) | fail) (fun d hd => ?_); subst hd; (try simp [c1, c2, c3]))
  | fail)
     refine EndW.here ?_
     (refine EndOK.val (.inr rfl) ?_; simp [zaC, zaf, zaw, Tryz.results225])
     try simp [c1, c2, c3]
  ·cases b
   all_goals
    (refine Fun.of_bodyW Tryz.func225 rfl (by simp) fun Γ hn => ?_); simp only [entry, List.zipIdx_cons, List.zipIdx_nil, List.map_cons, List.map_nil, Nat.zero_add, Tryz.ntmps225]
    repeat' (first
  | (refine zag ?_; simp [c1, c2])
  | (refine zaj ?_; simp [c1, c2])
  | (refine zah ?_; simp [c1, c2])
  | (refine zas ?_; simp only [zan])
  | (refine CallP.fun_ (h1) (by first | rfl | fail) (by first | assumption | (simp; done) | fail) (by first | (simp [c1, c2]; done) | (simp [c1, c2]; rfl) | fail) (by first | (simp; done) | fail) (fun d hd => ?_); subst hd; (try simp [c1, c2]))
  | fail)
    refine EndW.here ?_
    (refine EndOK.val (.inr rfl) ?_; simp [zaC, zaf, zaw, Tryz.results225])
    try simp [c1, c2]
 ·cases b
  all_goals
   (refine Fun.of_bodyW Tryz.func225 rfl (by simp) fun Γ hn => ?_); simp only [entry, List.zipIdx_cons, List.zipIdx_nil, List.map_cons, List.map_nil, Nat.zero_add, Tryz.ntmps225]
   repeat' (first
  | (refine zag ?_; simp [c1])
  | (refine zaj ?_; simp [c1])
  | (refine zah ?_; simp [c1])
  | (refine zas ?_; simp only [zan])
  | (refine CallP.fun_ (h1) (by first | rfl | fail) (by first | assumption | (simp; done) | fail) (by first | (simp [c1]; done) | (simp [c1]; rfl) | fail) (by first | (simp; done) | fail) (fun d hd => ?_); subst hd; (try simp [c1]))
  | fail)
   refine EndW.here ?_
   (refine EndOK.val (.inr rfl) ?_; simp [zaC, zaf, zaw, Tryz.results225])
   try simp [c1]
end Go.Proofs.YtepiegcjnaohjaaGreatDoor
