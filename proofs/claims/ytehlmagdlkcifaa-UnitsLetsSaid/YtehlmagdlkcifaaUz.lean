/- Plain laws of units: operands replaced, names that nothing names, the last let put in. -/
import Derived.Test.YtehlmagdlkcifaaUx
import Derived.Test.YtehlmagdlkcifaaUB
import Derived.Test.YtehlmagdlkcifaaUq
set_option linter.all false
set_option maxRecDepth 100000
set_option maxHeartbeats 8000000
namespace Go.Proofs.Ytehlmagdlkcifaa
open Go Go.VL
theorem unitsS_map {g m} : ∀ {l l' : List Exp}, l.map (unitS g m) = l'.map (unitS g m) → unitsS g m l = unitsS g m l'
  | [], [], _ => rfl
  | [], _ :: _, h => by simp at h
  | _ :: _, [], h => by simp at h
  | a :: l, b :: l', h => by
    simp only [List.map_cons, List.cons.injEq] at h
    rw [unitsS, unitsS, h.1, unitsS_map h.2]
theorem unitP_zero {lets : List Let} {given : List Var} {e : Exp} (h : (unitP lets given e).2 = 0) : rightAll lets e = true ∧ given.all unitOK = true ∧ unitP lets given e = unitF lets given e := by
  rw [unitP_F] at h ⊢
  split at h
  · rename_i hc
    rw [if_pos hc]
    simp only [Bool.and_eq_true] at hc
    exact ⟨hc.1, hc.2, rfl⟩
  · simp at h
theorem unitP_right {lets : List Let} {given : List Var} {e x : Exp} (h1 : rightAll lets e = true) (h2 : given.all unitOK = true) (hx : rightB 12 x = true) : unitP lets given x = unitF lets given x := by
  rw [unitP_F, if_pos]
  simp only [rightAll, Bool.and_eq_true] at h1 ⊢
  exact ⟨⟨⟨h1.1.1, hx⟩, h1.2⟩, h2⟩
def putAt (e : Exp) (k : Nat) (y : Exp) : Exp := .mk e.op e.n e.unit e.s (e.args.take k ++ [y] ++ e.args.drop (k + 1))
theorem map_put {β : Type} (f : Exp → β) {l : List Exp} {k : Nat} {y z : Exp} (hz : l[k]? = some z) (hf : f y = f z) : (l.take k ++ [y] ++ l.drop (k + 1)).map f = l.map f := by
  obtain ⟨hk, rfl⟩ := List.getElem?_eq_some_iff.1 hz
  have : l = l.take k ++ [l[k]] ++ l.drop (k + 1) := by simp
  conv => rhs; rw [this]
  simp only [List.map_append, List.map_cons, List.map_nil, hf]
theorem replace_unit {lets : List Let} {given : List Var} {e y z : Exp} {k : Nat} (hz : e.args[k]? = some z) (h : (unitP lets given e).2 = 0) (hy : unitF lets given y = ((unitP lets given z).1, 0)) (hr : rightB 12 (putAt e k y) = true) :
    unitP lets given (putAt e k y) = unitP lets given e := by
  obtain ⟨h1, h2, h3⟩ := unitP_zero h
  have hre : rightB 12 e = true := by simp only [rightAll, Bool.and_eq_true] at h1; exact h1.1.2
  obtain ⟨ha, hb, hc, hd⟩ := right_args hre
  have hk : k < e.args.length := (List.getElem?_eq_some_iff.1 hz).1
  have h0 : e.op ≠ 0 := fun h0 => by rw [h0] at ha; simp [operandsI] at ha; rw [ha] at hk; simp at hk
  have hn : e.op ≠ 1 := fun h0 => by rw [h0] at ha; simp [operandsI] at ha; rw [ha] at hk; simp at hk
  have hrz := rightB_mono 11 z (hd h0 hn z (List.mem_of_getElem? hz))
  rw [unitP_right h1 h2 hrz] at hy
  rw [unitP_right h1 h2 hr, h3]
  rw [h3] at h
  have hok : ∀ x ∈ e.args, (unitF lets given x).2 = 0 := by
    unfold unitF at h ⊢
    rw [unitS_eq, if_neg h0, if_neg hn] at h
    cases hl : unitsS (firstG given) (lastA (scOf given lets)) e.args with
    | error b =>
      rw [hl] at h
      simp only at h
      exact absurd h (unitsS_ne hl)
    | ok l => exact (unitsS_of_ok hl).1
  have hyz : unitF lets given y = unitF lets given z := by rw [hy, ← hok z (List.mem_of_getElem? hz)]
  unfold unitF at hyz ⊢
  have hm := unitsS_map (map_put (unitS (firstG given) (lastA (scOf given lets))) hz hyz)
  clear hok h hn h0 hd hc hb ha hre h3 hr hy
  cases e with | mk op n u s args =>
  simp only [Exp.args] at hm
  rw [putAt]
  simp only [Exp.op, Exp.n, Exp.unit, Exp.s, Exp.args]
  rw [unitS, unitS, hm]
section
variable {g g' : List UInt8 → Option Int} {m m' : List UInt8 → Option (Int × Int)} {s : List UInt8}
mutual
theorem unitS_agree (hg : ∀ n, n ≠ s → g n = g' n) (hm : ∀ n, n ≠ s → m n = m' n) : ∀ e : Exp, usesS s e = false → unitS g m e = unitS g' m' e
  | .mk op n u t args, h => by
    rw [usesS, Bool.or_eq_false_iff] at h
    rw [unitS, unitS, unitsS_agree hg hm args h.2]
    by_cases h0 : op = 0
    · rw [if_pos h0, if_pos h0]
    by_cases h1 : op = 1
    · have ht : t ≠ s := fun ht => by simp [h1, ht] at h
      rw [if_neg h0, if_neg h0, if_pos h1, if_pos h1, hg t ht, hm t ht]
    · rw [if_neg h0, if_neg h0, if_neg h1, if_neg h1]
theorem unitsS_agree (hg : ∀ n, n ≠ s → g n = g' n) (hm : ∀ n, n ≠ s → m n = m' n) : ∀ l : List Exp, usesL s l = false → unitsS g m l = unitsS g' m' l
  | [], _ => by rw [unitsS, unitsS]
  | e :: l, h => by
    rw [usesL, Bool.or_eq_false_iff] at h
    rw [unitsS, unitsS, unitS_agree hg hm e h.1, unitsS_agree hg hm l h.2]
end
end
section
variable {m m' : List UInt8 → Bool} {s : List UInt8}
mutual
theorem shareS_agree (hm : ∀ n, n ≠ s → m n = m' n) : ∀ e : Exp, usesS s e = false → shareS m e = shareS m' e
  | .mk op n u t args, h => by
    rw [usesS, Bool.or_eq_false_iff] at h
    have ha := shareN_agree hm args h.2
    rw [shareS, shareS, ha, ha]
    by_cases h0 : op = 0
    · rw [if_pos h0, if_pos h0]
    by_cases h1 : op = 1
    · have ht : t ≠ s := fun ht => by simp [h1, ht] at h
      rw [if_neg h0, if_neg h0, if_pos h1, if_pos h1, hm t ht]
    · rw [if_neg h0, if_neg h0, if_neg h1, if_neg h1]
theorem shareN_agree (hm : ∀ n, n ≠ s → m n = m' n) : ∀ l : List Exp, usesL s l = false → ∀ i, shareN m l i = shareN m' l i
  | [], _, _ => by rw [shareN, shareN]
  | e :: l, h, i => by
    rw [usesL, Bool.or_eq_false_iff] at h
    cases i with
    | zero => rw [shareN, shareN, shareS_agree hm e h.1]
    | succ i => rw [shareN, shareN, shareN_agree hm l h.2]
end
end
theorem sc_agree {given given' : List Var} {s : List UInt8} (hg : ∀ n, n ≠ s → firstG given n = firstG given' n) : ∀ (l : List Let) (sc sc' : SC), (∀ n, n ≠ s → lastA sc n = lastA sc' n) → (∀ x ∈ l, usesS s x.body = false) →
    ∀ n, n ≠ s → lastA (l.foldl (fun sc l => sc ++ [(l.name, unitS (firstG given) (lastA sc) l.body)]) sc) n = lastA (l.foldl (fun sc l => sc ++ [(l.name, unitS (firstG given') (lastA sc) l.body)]) sc') n
  | [], _, _, h, _ => h
  | a :: l, sc, sc', h, hu => by
    rw [List.foldl_cons, List.foldl_cons]
    refine sc_agree hg l _ _ (fun n hn => ?_) fun x hx => hu x (by simp [hx])
    rw [lastA_append, lastA_append, h n hn, unitS_agree hg h a.body (hu a (by simp))]
theorem sh_agree {s : List UInt8} : ∀ (l : List Let) (sh sh' : SB), (∀ n, n ≠ s → bF sh n = bF sh' n) → (∀ x ∈ l, usesS s x.body = false) →
    ∀ n, n ≠ s → bF (l.foldl (fun sh l => sh ++ [(l.name, shareS (bF sh) l.body)]) sh) n = bF (l.foldl (fun sh l => sh ++ [(l.name, shareS (bF sh) l.body)]) sh') n
  | [], _, _, h, _ => h
  | a :: l, sc, sc', h, hu => by
    rw [List.foldl_cons, List.foldl_cons]
    refine sh_agree l _ _ (fun n hn => ?_) fun x hx => hu x (by simp [hx])
    have := h n hn
    simp only [bF] at this ⊢
    rw [lastA_append, lastA_append]
    have hs := shareS_agree (m := bF sc) (m' := bF sc') (s := s) h a.body (hu a (by simp))
    by_cases hna : a.name = n
    · rw [if_pos hna, if_pos hna]; exact hs
    · rw [if_neg hna, if_neg hna, this]
theorem firstG_more {v : Var} {n : List UInt8} (h : n ≠ v.name) : ∀ l : List Var, firstG (l ++ [v]) n = firstG l n
  | [] => by simp [firstG, Ne.symm h]
  | a :: l => by rw [List.cons_append, firstG, firstG, firstG_more h l]
theorem unitP_more {lets : List Let} {given : List Var} {e : Exp} {v : Var} (hv : unitOK v = true) (he : usesS v.name e = false) (hl : ∀ x ∈ lets, usesS v.name x.body = false) : unitP lets (given ++ [v]) e = unitP lets given e := by
  have hg : ∀ n, n ≠ v.name → firstG (given ++ [v]) n = firstG given n := fun n hn => firstG_more hn given
  have hF : unitF lets (given ++ [v]) e = unitF lets given e := unitS_agree hg (sc_agree hg lets [] [] (fun _ _ => rfl) hl) e he
  rw [unitP_F, unitP_F, hF]
  simp [List.all_append, hv]
theorem rightAll_spare {lets : List Let} {e : Exp} {v : Let} (hv : rightB 12 v.body = true) (hn : (lets.length : Int) < 20) : rightAll (v :: lets) e = rightAll lets e := by
  have h1 : (v :: lets).length ≤ 20 := by simp; omega
  have h2 : lets.length ≤ 20 := by omega
  simp only [rightAll, h1, h2, List.any_cons, hv]
  simp
theorem unitP_spare {lets : List Let} {given : List Var} {e : Exp} {v : Let} (hv : rightB 12 v.body = true) (hn : (lets.length : Int) < 20) (he : usesS v.name e = false) (hl : ∀ x ∈ lets, usesS v.name x.body = false) : unitP (v :: lets) given e = unitP lets given e := by
  have hF : unitF (v :: lets) given e = unitF lets given e := by
    refine unitS_agree (fun _ _ => rfl) (fun n hne => ?_) e he
    unfold scOf
    rw [List.foldl_cons]
    refine sc_agree (fun _ _ => rfl) lets _ _ (fun n hne => ?_) hl n hne
    rw [lastA_append, if_neg (Ne.symm hne)]
  rw [unitP_F, unitP_F, hF, rightAll_spare hv hn]
theorem shareP_spare {lets : List Let} {e : Exp} {v : Let} (hv : rightB 12 v.body = true) (hn : (lets.length : Int) < 20) (he : usesS v.name e = false) (hl : ∀ x ∈ lets, usesS v.name x.body = false) : shareP (v :: lets) e = shareP lets e := by
  rw [shareP_eq, shareP_eq]
  unfold shareR
  rw [rightAll_spare hv hn]
  congr 1
  refine shareS_agree (fun n hne => ?_) e he
  unfold shOf
  rw [List.foldl_cons]
  refine sh_agree lets _ _ (fun n hne => ?_) hl n hne
  unfold bF
  rw [lastA_append, if_neg (Ne.symm hne)]
section
variable {g : List UInt8 → Option Int} {m : List UInt8 → Option (Int × Int)} {s : List UInt8} {b : Exp}
mutual
theorem unitS_put (hg : g s = none) (hm : m s = some (unitS g m b)) : ∀ e : Exp, unitS g m (putS s b e) = unitS g m e
  | .mk op n u t args => by
    rw [putS]
    split
    · rename_i hc
      obtain ⟨rfl, rfl⟩ := hc
      rw [unitS, if_neg (by decide), if_pos rfl, hg, hm]
    · rw [unitS, unitS, unitsS_put hg hm args]
theorem unitsS_put (hg : g s = none) (hm : m s = some (unitS g m b)) : ∀ l : List Exp, unitsS g m (putL s b l) = unitsS g m l
  | [] => by rw [putL]
  | e :: l => by rw [putL, unitsS, unitsS, unitS_put hg hm e, unitsS_put hg hm l]
end
end
theorem unitP_put {lets : List Let} {given : List Var} {e : Exp} {last : Let} {n : Nat} (hl : lets[n]? = some last) (hn : lets.length = n + 1) (hgv : ∀ v ∈ given, ¬ v.name = last.name) (hu : usesS last.name last.body = false)
    (hx : rightB 12 (putS last.name last.body e) = true) (hb : (unitP lets given e).2 ≠ 1) : unitP lets given (putS last.name last.body e) = unitP lets given e := by
  have hc : (rightAll lets e && given.all unitOK) = true := by
    rw [unitP_F] at hb
    split at hb
    · assumption
    · simp at hb
  have hc' := hc
  rw [Bool.and_eq_true] at hc'
  rw [unitP_right hc'.1 hc'.2 hx, unitP_F, if_pos hc]
  have hlets : lets = lets.take n ++ [last] := by
    obtain ⟨hk, rfl⟩ := List.getElem?_eq_some_iff.1 hl
    conv => lhs; rw [← List.take_length (l := lets), hn, List.take_succ_eq_append_getElem hk]
  have hsc : scOf given lets = scOf given (lets.take n) ++ [(last.name, unitS (firstG given) (lastA (scOf given (lets.take n))) last.body)] := by
    have := scOf_succ (given := given) hl
    rw [← hn, List.take_length] at this
    exact this
  unfold unitF
  refine unitS_put (firstG_none hgv) ?_ e
  rw [hsc, lastA_append, if_pos rfl]
  congr 1
  refine unitS_agree (fun _ _ => rfl) (fun k hk => ?_) last.body hu
  rw [lastA_append, if_neg (Ne.symm hk)]
theorem few_thin : ∀ (L : Nat) (e : Exp) (most : Int), 0 ≤ most → most ≤ 1000 → nodesS L e most ≤ most → thinS e = true
  | 0, e, most, _, _, h => by rw [nodesS] at h; omega
  | L + 1, e, most, h0, h1000, h => by
    rw [nodesS_succ] at h
    by_cases hs : 60 < e.s.length
    · rw [if_pos hs] at h; omega
    rw [if_neg hs] at h
    have key : ∀ (l : List Exp) (n : Int), 1 ≤ n → l.foldl (fun n x => if n ≤ most then n + nodesS L x (most - n) else n) n ≤ most → n + l.length ≤ most ∧ ∀ x ∈ l, thinS x = true := by
      intro l
      induction l with
      | nil => intro n _ h; exact ⟨by simpa using h, by simp⟩
      | cons a l ih =>
        intro n h1 h2
        rw [List.foldl_cons] at h2
        by_cases hn : n ≤ most
        · rw [if_pos hn] at h2
          have hb := nodes_bound L a (most - n) (by omega)
          have h3 := ih _ (by omega) h2
          have h4 : n + nodesS L a (most - n) ≤ most := by
            rcases Int.lt_or_le most (n + nodesS L a (most - n)) with h5 | h5
            · rw [foldl_done _ _ (by omega)] at h2; omega
            · exact h5
          have h5 := few_thin L a (most - n) (by omega) (by omega) (by omega)
          refine ⟨by simp only [List.length_cons]; omega, fun x hx => ?_⟩
          rcases List.mem_cons.1 hx with rfl | hx
          · exact h5
          · exact h3.2 x hx
        · rw [if_neg hn, foldl_done _ _ hn] at h2; omega
    have h1 := key e.args 1 (by omega) h
    exact (thinS_iff e).2 ⟨by omega, h1.2⟩
theorem fewE_thin {e : Exp} {n : Int} (h0 : 0 ≤ n) (h1 : n ≤ 1000) (h : fewE e n = true) : thinS e = true := few_thin 16 e n h0 h1 (by simpa [fewE] using h)
theorem few3_out {lets : List Let} {given : List Var} {e : Exp} (h : few3 lets given e = true) : lets.length ≤ 10 ∧ given.length ≤ 10 ∧ thinS e = true := by
  simp only [few3, fewL, fewN, Bool.and_eq_true, decide_eq_true_eq] at h
  exact ⟨by omega, by omega, fewE_thin (by decide) (by decide) h.2⟩
end Go.Proofs.Ytehlmagdlkcifaa
