/- The plain laws: the program says what the reference says. -/
import Derived.Test.YtehlmagdlkcifaaUl
set_option linter.all false
set_option maxRecDepth 100000
set_option maxHeartbeats 8000000
namespace Go.Proofs.Ytehlmagdlkcifaa
open Go Go.VL
theorem asc_gstep (g : GM) (v : Var) (n : List UInt8) : asc (if asc g v.name = none then ascPut g v.name v.unit else g) n = match asc g n with | some u => some u | none => if v.name = n then some v.unit else none := by
  by_cases h : asc g v.name = none
  · rw [if_pos h, asc_put]
    by_cases hn : n = v.name
    · subst hn; rw [if_pos rfl, h]; simp
    · rw [if_neg hn]
      cases asc g n with
      | some u => rfl
      | none => simp [Ne.symm hn]
  · rw [if_neg h]
    cases hg : asc g n with
    | some u => rfl
    | none =>
      have : ¬ v.name = n := fun e => h (by rw [e]; exact hg)
      simp [this]
theorem gOf_fold : ∀ (l : List Var) (g : GM) (n : List UInt8), asc (l.foldl (fun g v => if asc g v.name = none then ascPut g v.name v.unit else g) g) n = match asc g n with | some u => some u | none => firstG l n
  | [], g, n => by simp only [List.foldl_nil, firstG]; cases asc g n <;> rfl
  | v :: l, g, n => by
    rw [List.foldl_cons, gOf_fold l, asc_gstep, firstG]
    cases asc g n with
    | some u => rfl
    | none =>
      simp only
      by_cases h : v.name = n
      · simp [h]
      · simp [h]
theorem gF_gOf (names : List Var) : gF (gOf names) = firstG names := funext fun n => by
  unfold gF gOf
  rw [gOf_fold]
  rfl
theorem err_zero {g : List UInt8 → Option Int} {m : List UInt8 → Option (Int × Int)} (hm : ∀ n r, m n = some r → r.2 ≠ 0 → r.1 = 0) (e : Exp) (h : (unitS g m e).2 ≠ 0) : (unitS g m e).1 = 0 := by
  rw [unitS_eq] at h ⊢
  by_cases h0 : e.op = 0
  · rw [if_pos h0] at h; simp at h
  rw [if_neg h0] at h ⊢
  by_cases h1 : e.op = 1
  · rw [if_pos h1] at h ⊢
    cases hg : g e.s with
    | some u => rw [hg] at h; simp at h
    | none =>
      rw [hg] at h
      cases hmm : m e.s with
      | none => simp
      | some r => rw [hmm] at h; simpa using hm e.s r hmm h
  rw [if_neg h1] at h ⊢
  cases hu : unitsS g m e.args with
  | error b => simp
  | ok l =>
    rw [hu] at h
    by_cases hc : (combS e.op l).2 = true
    · simp [hc] at h
    · simp [hc]
theorem lastA_append {β : Type} (sc : List (List UInt8 × β)) (k : List UInt8) (r : β) (n : List UInt8) : lastA (sc ++ [(k, r)]) n = if k = n then some r else lastA sc n := by
  induction sc with
  | nil => simp [lastA]
  | cons p l ih =>
    rw [List.cons_append, lastA, ih, lastA]
    by_cases h : k = n
    · simp [h]
    · simp [h]
theorem mOf_fold (given : List Var) (g : GM) (hg : gF g = firstG given) : ∀ (l : List Let) (m : LM) (sc : SC), mF m = lastA sc → (∀ n r, lastA sc n = some r → r.2 ≠ 0 → r.1 = 0) →
    mF (l.foldl (fun m l => ascPut m l.name ((unitS (gF g) (mF m) l.body).1, (unitS (gF g) (mF m) l.body).2, shareS (sF m) l.body)) m) = lastA (l.foldl (fun sc l => sc ++ [(l.name, unitS (firstG given) (lastA sc) l.body)]) sc) ∧
    ∀ n r, lastA (l.foldl (fun sc l => sc ++ [(l.name, unitS (firstG given) (lastA sc) l.body)]) sc) n = some r → r.2 ≠ 0 → r.1 = 0
  | [], m, sc, h, hz => ⟨h, hz⟩
  | a :: l, m, sc, h, hz => by
    rw [List.foldl_cons, List.foldl_cons]
    refine mOf_fold given g hg l _ _ (funext fun n => ?_) fun n r hr hne => ?_
    · rw [lastA_append, hg, h]
      unfold mF
      rw [asc_put]
      by_cases hn : n = a.name
      · subst hn; simp
      · rw [if_neg hn, if_neg (Ne.symm hn)]
        exact congrFun h n
    · rw [lastA_append] at hr
      split at hr
      · cases hr; exact err_zero hz a.body hne
      · exact hz n r hr hne
theorem mF_mOf (given : List Var) (lets : List Let) : mF (mOf (gOf given) lets) = lastA (scOf given lets) ∧ ∀ n r, lastA (scOf given lets) n = some r → r.2 ≠ 0 → r.1 = 0 :=
  mOf_fold given (gOf given) (gF_gOf given) lets [] [] (funext fun n => rfl) fun n r h => by cases h
/-- The unit of an expression, as both say it. -/
def unitF (lets : List Let) (given : List Var) : Exp → Int × Int := unitS (firstG given) (lastA (scOf given lets))
theorem unitP_F (lets : List Let) (given : List Var) (e : Exp) : unitP lets given e = if (rightAll lets e && given.all unitOK) = true then unitF lets given e else (0, 1) := by
  unfold unitP okJ unitF
  rw [gF_gOf, (mF_mOf given lets).1]
theorem unitP_eq (lets : List Let) (given : List Var) (e : Exp) : unitP lets given e = unitR lets given e := by
  rw [unitP_F]
  unfold unitR unitF
  by_cases h : (rightAll lets e && given.all unitOK) = true
  · rw [if_pos h, if_pos h]
    by_cases h2 : (unitS (firstG given) (lastA (scOf given lets)) e).2 = 0
    · rw [if_neg (by simpa using h2)]
      exact Prod.ext rfl h2
    · rw [if_pos h2]
      exact Prod.ext (err_zero (mF_mOf given lets).2 e h2) rfl
  · rw [if_neg h, if_neg h]
theorem sOf_fold (g : GM) : ∀ (l : List Let) (m : LM) (sh : SB), sF m = bF sh →
    sF (l.foldl (fun m l => ascPut m l.name ((unitS (gF g) (mF m) l.body).1, (unitS (gF g) (mF m) l.body).2, shareS (sF m) l.body)) m) = bF (l.foldl (fun sh l => sh ++ [(l.name, shareS (bF sh) l.body)]) sh)
  | [], m, sh, h => h
  | a :: l, m, sh, h => by
    rw [List.foldl_cons, List.foldl_cons]
    refine sOf_fold g l _ _ (funext fun n => ?_)
    rw [h]
    unfold sF bF
    rw [asc_put, lastA_append]
    by_cases hn : n = a.name
    · subst hn; simp [bF]
    · rw [if_neg hn, if_neg (Ne.symm hn)]
      exact congrFun h n
theorem shareP_eq (lets : List Let) (e : Exp) : shareP lets e = shareR lets e := by
  unfold shareP shareR mOf shOf
  rw [sOf_fold [] lets [] [] (funext fun n => rfl)]
theorem checkPC_eq (b : By) : ∀ C : List (List UInt8), checkPC b C = checkC b C
  | [] => rfl
  | c :: r => by
    rw [checkPC, checkC, checkP1, unitP_eq, checkPC_eq b r]
    by_cases h : (unitR b.lets (namesS c) (expS b c)).2 = 0
    · by_cases h3 : (unitR b.lets (namesS c) (expS b c)).1 = 3 <;> simp [h, h3]
    · simp [h]
theorem checkP_eq (b : By) : checkP b = checkR b := by
  unfold checkP checkR
  split
  · rfl
  · split
    · rename_i l h; simp only [h]
    · rename_i h; simp only [h]; exact checkPC_eq b _
end Go.Proofs.Ytehlmagdlkcifaa
