/- Layer 26, plain: what a level pays. -/
import Derived.IntWalk
set_option linter.all false
set_option maxRecDepth 100000
set_option maxHeartbeats 8000000
set_option linter.all false
namespace Go.Proofs.Ytjmddlekokodfaa
def maxC : Int := 1099511627776
def below (vs : List Int) (h : Int) : Int := (vs.map fun v => min v h).sum
theorem perm_sum {l l' : List Int} (h : l.Perm l') : l.sum = l'.sum := by
  induction h with
  | nil => rfl
  | cons x _ ih => simp [ih]
  | swap x y l => simp only [List.sum_cons]; omega
  | trans _ _ h1 h2 => rw [h1, h2]
theorem below_perm {l l' : List Int} (h : l.Perm l') (n : Int) : below l n = below l' n := perm_sum (h.map _)
theorem below_cons (v : Int) (vs : List Int) (h : Int) : below (v :: vs) h = min v h + below vs h := by simp [below]
theorem below_snoc (v : Int) (vs : List Int) (h : Int) : below (vs ++ [v]) h = below vs h + min v h := by simp [below]
theorem below_mono {vs : List Int} {h h' : Int} (hh : h ≤ h') : below vs h ≤ below vs h' := by
  induction vs with
  | nil => simp [below]
  | cons v vs ih => rw [below_cons, below_cons]; omega
theorem below_all {vs : List Int} {h : Int} (hv : ∀ v ∈ vs, v ≤ h) : below vs h = vs.sum := by
  induction vs with
  | nil => rfl
  | cons v vs ih =>
    have h1 := hv v (by simp)
    rw [below_cons, ih fun x hx => hv x (by simp [hx]), List.sum_cons]; omega
theorem below_none {vs : List Int} {h : Int} (hv : ∀ v ∈ vs, h ≤ v) : below vs h = vs.length * h := by
  induction vs with
  | nil => simp [below]
  | cons v vs ih =>
    have h1 := hv v (by simp)
    rw [below_cons, ih fun x hx => hv x (by simp [hx]), List.length_cons, Int.natCast_add, Int.add_mul]; omega
theorem below_nonneg {vs : List Int} {h : Int} (hv : ∀ v ∈ vs, 0 ≤ v) (hh : 0 ≤ h) : 0 ≤ below vs h := by
  induction vs with
  | nil => simp [below]
  | cons v vs ih =>
    have h1 := hv v (by simp)
    have h2 := ih fun x hx => hv x (by simp [hx])
    rw [below_cons]; omega
theorem below_le_sum {vs : List Int} {h : Int} : below vs h ≤ vs.sum := by
  induction vs with
  | nil => simp [below]
  | cons v vs ih => rw [below_cons, List.sum_cons]; omega
theorem sum_le {vs : List Int} {b : Int} (hv : ∀ v ∈ vs, v ≤ b) : vs.sum ≤ vs.length * b := by
  induction vs with
  | nil => simp
  | cons v vs ih =>
    have h1 := hv v (by simp)
    have h2 := ih fun x hx => hv x (by simp [hx])
    rw [List.sum_cons, List.length_cons, Int.natCast_add, Int.add_mul]; omega
theorem sum_nonneg {vs : List Int} (hv : ∀ v ∈ vs, 0 ≤ v) : 0 ≤ vs.sum := by
  induction vs with
  | nil => simp
  | cons v vs ih =>
    have h1 := hv v (by simp)
    have h2 := ih fun x hx => hv x (by simp [hx])
    rw [List.sum_cons]; omega
/-- The program's height of a sorted list. -/
def heightP : List Int → Int → Int
  | [], _ => maxC
  | m :: l, a => if a / ((l.length : Int) + 1) < m then a / ((l.length : Int) + 1) else heightP l (a - m)
/-- What height is meant to be. -/
def IsH (vs : List Int) (a h : Int) : Prop := 0 ≤ h ∧ h ≤ maxC ∧ below vs h ≤ a ∧ (h = maxC ∨ a < below vs (h + 1))
theorem IsH.unique {vs : List Int} {a h h' : Int} (h1 : IsH vs a h) (h2 : IsH vs a h') : h = h' := by
  obtain ⟨a1, a2, a3, a4⟩ := h1
  obtain ⟨b1, b2, b3, b4⟩ := h2
  rcases Int.lt_trichotomy h h' with h3 | h3 | h3
  · have := below_mono (vs := vs) (show h + 1 ≤ h' by omega); omega
  · exact h3
  · have := below_mono (vs := vs) (show h' + 1 ≤ h by omega); omega
theorem heightP_ok : ∀ (l : List Int) (a b : Int), l.Pairwise (· ≤ ·) → (∀ v ∈ l, b ≤ v ∧ v ≤ maxC) → b * l.length ≤ a → 0 ≤ b → b ≤ maxC → 0 ≤ a →
    b ≤ heightP l a ∧ heightP l a ≤ maxC ∧ below l (heightP l a) ≤ a ∧ (heightP l a = maxC ∨ a < below l (heightP l a + 1))
  | [], a, b, _, _, h3, h4, h5, h6 => by
    simp only [heightP, below, List.map_nil, List.sum_nil]
    exact ⟨h5, Int.le_refl _, h6, .inl trivial⟩
  | m :: l, a, b, h1, h2, h3, h4, h5, h6 => by
    have hm := h2 m (by simp)
    obtain ⟨h7, h8⟩ := List.pairwise_cons.1 h1
    have hn : (0 : Int) < (l.length : Int) + 1 := by omega
    have hb : b ≤ a / ((l.length : Int) + 1) := (Int.le_ediv_iff_mul_le hn).2 (by simpa using h3)
    have hd := Int.mul_ediv_self_le (x := a) (k := (l.length : Int) + 1) (by omega)
    have hd2 := Int.lt_mul_ediv_self_add (x := a) (k := (l.length : Int) + 1) hn
    unfold heightP
    by_cases hc : a / ((l.length : Int) + 1) < m
    · rw [if_pos hc]
      generalize a / ((l.length : Int) + 1) = h at *
      have h9 : ∀ v ∈ m :: l, h + 1 ≤ v := fun v hv => by
        rcases List.mem_cons.1 hv with rfl | hv
        · omega
        · have := h7 v hv; omega
      refine ⟨hb, by omega, ?_, .inr ?_⟩
      · rw [below_none (fun v hv => by have := h9 v hv; omega)]
        simpa using hd
      · rw [below_none h9]
        have : ((l.length : Int) + 1) * (h + 1) = ((l.length : Int) + 1) * h + ((l.length : Int) + 1) := by rw [Int.mul_add, Int.mul_one]
        simp only [List.length_cons, Int.natCast_add, Int.natCast_one]
        omega
    · rw [if_neg hc]
      have hma : m * ((l.length : Int) + 1) ≤ a := (Int.le_ediv_iff_mul_le hn).1 (by omega)
      have hml : m * (l.length : Int) + m ≤ a := by rw [Int.mul_add, Int.mul_one] at hma; exact hma
      have hm0 : 0 ≤ m * (l.length : Int) := Int.mul_nonneg (by omega) (by omega)
      obtain ⟨r1, r2, r3, r4⟩ := heightP_ok l (a - m) m h8 (fun v hv => ⟨h7 v hv, (h2 v (by simp [hv])).2⟩) (by omega) (by omega) hm.2 (by omega)
      refine ⟨by omega, r2, ?_, ?_⟩
      · rw [below_cons]; omega
      · rcases r4 with r4 | r4
        · exact .inl r4
        · right; rw [below_cons]; omega
/-- Who pays one coin more. -/
def ones1 : List Int → Int → Int → List Int
  | [], _, _ => []
  | v :: vs, h, m => if h < v ∧ 0 < m then 1 :: ones1 vs h (m - 1) else 0 :: ones1 vs h m
theorem ones1_len : ∀ (vs : List Int) (h m : Int), (ones1 vs h m).length = vs.length
  | [], _, _ => rfl
  | v :: vs, h, m => by unfold ones1; split <;> simp [ones1_len]
/-- How many of some means are greater. -/
def over (vs : List Int) (h : Int) : Int := below vs (h + 1) - below vs h
theorem over_cons (v : Int) (vs : List Int) (h : Int) : over (v :: vs) h = (if h < v then 1 else 0) + over vs h := by
  unfold over
  rw [below_cons, below_cons]
  split <;> omega
theorem over_nonneg (vs : List Int) (h : Int) : 0 ≤ over vs h := by have := below_mono (vs := vs) (show h ≤ h + 1 by omega); unfold over; omega
theorem ones1_sum : ∀ (vs : List Int) (h m : Int), 0 ≤ m → (ones1 vs h m).sum = min m (over vs h)
  | [], h, m, hm => by simp [ones1, over, below]; omega
  | v :: vs, h, m, hm => by
    rw [over_cons]
    have h0 := over_nonneg vs h
    unfold ones1
    by_cases h1 : h < v
    · by_cases h2 : 0 < m
      · rw [if_pos ⟨h1, h2⟩, if_pos h1, List.sum_cons, ones1_sum vs h (m - 1) (by omega)]; omega
      · rw [if_neg (by omega), if_pos h1, List.sum_cons, ones1_sum vs h m hm]; omega
    · rw [if_neg (by omega), if_neg h1, List.sum_cons, ones1_sum vs h m hm]; omega
theorem ones1_get : ∀ (vs : List Int) (h m : Int) (k : Nat) (v : Int), 0 ≤ m → vs[k]? = some v → (ones1 vs h m)[k]? = some (if h < v ∧ 0 < m - (ones1 (vs.take k) h m).sum then 1 else 0)
  | [], _, _, k, v, _, hx => by simp at hx
  | w :: vs, h, m, 0, v, hm, hx => by
    simp at hx; subst hx
    unfold ones1
    simp only [List.take_zero, ones1, List.sum_nil, Int.sub_zero]
    split <;> simp
  | w :: vs, h, m, k + 1, v, hm, hx => by
    have hx : vs[k]? = some v := by simpa using hx
    rw [List.take_succ_cons]
    unfold ones1
    by_cases h1 : h < w ∧ 0 < m
    · rw [if_pos h1, if_pos h1, List.getElem?_cons_succ, ones1_get vs h (m - 1) k v (by omega) hx, List.sum_cons, show m - 1 - (ones1 (vs.take k) h (m - 1)).sum = m - (1 + (ones1 (vs.take k) h (m - 1)).sum) by omega]
    · rw [if_neg h1, if_neg h1, List.getElem?_cons_succ, ones1_get vs h m k v hm hx, List.sum_cons, show m - (ones1 (vs.take k) h m).sum = m - (0 + (ones1 (vs.take k) h m).sum) by omega]
theorem ones1_take : ∀ (vs : List Int) (h m : Int) (k : Nat), (ones1 vs h m).take k = ones1 (vs.take k) h m
  | [], _, _, k => by simp [ones1]
  | w :: vs, h, m, 0 => by simp [ones1]
  | w :: vs, h, m, k + 1 => by
    rw [List.take_succ_cons]
    unfold ones1
    split <;> simp [ones1_take]
/-- What the members of a level pay. -/
def paysL (vs : List Int) (h m : Int) : List Int := List.zipWith (· + ·) (vs.map fun v => min v h) (ones1 vs h m)
theorem paysL_len (vs : List Int) (h m : Int) : (paysL vs h m).length = vs.length := by simp [paysL, ones1_len]
theorem zip_sum : ∀ (a b : List Int), a.length = b.length → (List.zipWith (· + ·) a b).sum = a.sum + b.sum
  | [], [], _ => rfl
  | x :: a, y :: b, h => by
    simp only [List.zipWith_cons_cons, List.sum_cons]
    rw [zip_sum a b (by simpa using h)]; omega
theorem paysL_sum (vs : List Int) (h m : Int) (hm : 0 ≤ m) : (paysL vs h m).sum = below vs h + min m (over vs h) := by
  rw [paysL, zip_sum _ _ (by simp [ones1_len]), ones1_sum _ _ _ hm]; rfl
theorem paysL_get {vs : List Int} {h m : Int} {k : Nat} {v : Int} (hm : 0 ≤ m) (hx : vs[k]? = some v) :
    ∃ p, (paysL vs h m)[k]? = some p ∧ (p = min v h ∨ p = h + 1 ∧ h < v) := by
  have h1 := ones1_get vs h m k v hm hx
  refine ⟨min v h + (if h < v ∧ 0 < m - (ones1 (vs.take k) h m).sum then 1 else 0), ?_, ?_⟩
  · rw [paysL, List.getElem?_zipWith, List.getElem?_map, hx, h1]; rfl
  · split
    · right; omega
    · left; omega
end Go.Proofs.Ytjmddlekokodfaa
