/- Layer 26, plain: debts apart, debts that grow. -/
import Derived.Test.YtjmddlekokodfaaBo
set_option linter.all false
set_option maxRecDepth 100000
set_option maxHeartbeats 8000000
set_option linter.all false
namespace Go.Proofs.Ytjmddlekokodfaa
open Go Go.VL
theorem vsOf_congr {level : List Nat} {M M' : Nat → Int} (h : ∀ i ∈ level, M i = M' i) : vsOf level M = vsOf level M' := List.map_congr_left h
theorem payL_congr {level : List Nat} {M M' : Nat → Int} (h : ∀ i ∈ level, M i = M' i) (a : Int) : payL level M a = payL level M' a := by
  unfold payL; rw [vsOf_congr h]
theorem payQ_congr {level : List Nat} {M M' : Nat → Int} (h : ∀ i ∈ level, M i = M' i) (a : Int) : payQ level M a = payQ level M' a := by
  unfold payQ; rw [payL_congr h]
theorem payLeft_congr {level : List Nat} {M M' : Nat → Int} (h : ∀ i ∈ level, M i = M' i) (a : Int) : payLeft level M a = payLeft level M' a := by
  unfold payLeft; rw [payL_congr h]
theorem goL_same : ∀ {ls : List (List Nat)} {M M' : Nat → Int} {a : Int}, (∀ l ∈ ls, ∀ i ∈ l, M i = M' i) → (∀ i, (goL ls M a).1 i = (goL ls M' a).1 i) ∧ (goL ls M a).2 = (goL ls M' a).2
  | [], _, _, _, _ => ⟨fun _ => rfl, rfl⟩
  | l :: ls, M, M', a, h => by
    have h1 := h l (by simp)
    have h2 := goL_same (ls := ls) (M := fun j => M j - payQ l M a j) (M' := fun j => M' j - payQ l M' a j) (a := payLeft l M a) fun m hm i hi => by
      rw [h m (by simp [hm]) i hi, payQ_congr h1]
    simp only [goL]
    refine ⟨fun i => ?_, ?_⟩
    · rw [h2.1 i, payQ_congr h1, payLeft_congr h1]
    · rw [h2.2, payLeft_congr h1]
theorem goL_cons {n : Nat} {l : List Nat} {ls : List (List Nat)} (h : OkL n (l :: ls)) (M : Nat → Int) (a : Int) :
    (∀ i, (goL (l :: ls) M a).1 i = payQ l M a i + (goL ls M (payLeft l M a)).1 i) ∧ (goL (l :: ls) M a).2 = (goL ls M (payLeft l M a)).2 := by
  have hap := (List.pairwise_cons.1 h.ap).1
  have h2 := goL_same (ls := ls) (M := fun j => M j - payQ l M a j) (M' := M) (a := payLeft l M a) fun m hm i hi => by
    have : i ∉ l := fun hl => hap m hm i hl hi
    rw [payQ_out this]; omega
  simp only [goL]
  exact ⟨fun i => by rw [h2.1 i], h2.2⟩
/-- What a debtor's guarantors pay, when the earlier debts do not touch them. -/
theorem solo {n : Nat} {B : List (List Int)} {D M : Nat → Int} (hM : OkM n M) (hD : ∀ d, d < n → 0 ≤ D d) {d : Nat} (hd : d < n)
    (h : ∀ k, k < d → D k = 0 ∨ ∀ l ∈ levelsOf n B d, ∀ i ∈ l, ∀ m ∈ levelsOf n B k, i ∉ m) :
    (∀ i, paidAt n B D M i d = (goL (levelsOf n B d) M (D d)).1 i) ∧ leftAt n B D M d = (goL (levelsOf n B d) M (D d)).2 := by
  have key : ∀ k, k ≤ d → ∀ l ∈ levelsOf n B d, ∀ i ∈ l, meansAt n B D M k i = M i := by
    intro k
    induction k with
    | zero => intro _ l _ i _; rfl
    | succ k ih =>
      intro hk l hl i hi
      have e1 := ih (by omega) l hl i hi
      simp only [meansAt]
      rcases h k (by omega) with h0 | h0
      · rw [h0, (goL_zero (levelsOf_ok n B k) (meansAt_ok hM hD k (by omega))).1 i ((levelsOf_ok n B d).lt l hl i hi)]; omega
      · rw [goL_out (h0 l hl i hi)]; omega
  exact goL_same (key d (Nat.le_refl _))
def one (x : Nat) (v : Int) : Nat → Int := fun d => if d = x then v else 0
def two (x y : Nat) (v w : Int) : Nat → Int := fun d => if d = y then w else if d = x then v else 0
theorem one_self (x : Nat) (v : Int) : one x v x = v := if_pos rfl
theorem solo_one {n : Nat} {B : List (List Int)} {M : Nat → Int} (hM : OkM n M) {x : Nat} (hx : x < n) {v : Int} (hv : 0 ≤ v) :
    (∀ i, paidAt n B (one x v) M i x = (goL (levelsOf n B x) M v).1 i) ∧ leftAt n B (one x v) M x = (goL (levelsOf n B x) M v).2 := by
  have := solo (B := B) (D := one x v) hM (fun d _ => by unfold one; split <;> omega) hx fun k hk => .inl (if_neg (by omega))
  rwa [one_self] at this
theorem apart_two {n : Nat} {B : List (List Int)} {M : Nat → Int} (hM : OkM n M) {x y : Nat} (hx : x < n) (hy : y < n) (hxy : x ≠ y) {v w : Int} (hv : 0 ≤ v) (hw : 0 ≤ w)
    (h : ∀ i, i < n → lvOf n B x i < 0 ∨ lvOf n B y i < 0) :
    (∀ i, paidAt n B (two x y v w) M i x = paidAt n B (one x v) M i x ∧ paidAt n B (two x y v w) M i y = paidAt n B (one y w) M i y) ∧
    leftAt n B (two x y v w) M x = leftAt n B (one x v) M x ∧ leftAt n B (two x y v w) M y = leftAt n B (one y w) M y := by
  have hD : ∀ d, d < n → 0 ≤ two x y v w d := fun d _ => by unfold two; (repeat' split) <;> omega
  have ho : ∀ i l, i ∈ l → l ∈ levelsOf n B x → ∀ m ∈ levelsOf n B y, i ∉ m := fun i l hi hl m hm => by
    have hin := (levelsOf_ok n B x).lt l hl i hi
    rcases h i hin with h1 | h1
    · exact absurd hi (lvOf_out h1 l hl)
    · exact lvOf_out h1 m hm
  have ho2 : ∀ i l, i ∈ l → l ∈ levelsOf n B y → ∀ m ∈ levelsOf n B x, i ∉ m := fun i l hi hl m hm hm2 => ho i m hm2 hm l hl hi
  have s1 := solo (B := B) hM hD hx fun k hk => by
    by_cases hk2 : k = y
    · subst hk2; right; exact fun l hl i hi => ho i l hi hl
    · left; unfold two; rw [if_neg hk2, if_neg (by omega)]
  have s2 := solo (B := B) hM hD hy fun k hk => by
    by_cases hk2 : k = x
    · subst hk2; right; exact fun l hl i hi => ho2 i l hi hl
    · left; unfold two; rw [if_neg (by omega), if_neg hk2]
  have e1 : two x y v w x = v := by unfold two; rw [if_neg hxy, if_pos rfl]
  have e2 : two x y v w y = w := by unfold two; rw [if_pos rfl]
  rw [e1] at s1
  rw [e2] at s2
  have t1 := solo_one (B := B) hM hx hv
  have t2 := solo_one (B := B) hM hy hw
  exact ⟨fun i => ⟨by rw [s1.1, t1.1], by rw [s2.1, t2.1]⟩, by rw [s1.2, t1.2], by rw [s2.2, t2.2]⟩
theorem left_none {n : Nat} {B : List (List Int)} {M : Nat → Int} (hM : OkM n M) {x : Nat} (hx : x < n) {v : Int} (hv : 0 ≤ v) (h : levelsOf n B x = []) : leftAt n B (one x v) M x = v := by
  rw [(solo_one (B := B) hM hx hv).2, h]; rfl
-- growing
theorem ones1_mono : ∀ (vs : List Int) (h m m' : Int) (k : Nat) (p q : Int), m ≤ m' → (ones1 vs h m)[k]? = some p → (ones1 vs h m')[k]? = some q → p ≤ q
  | [], _, _, _, k, p, q, _, h1, _ => by simp [ones1] at h1
  | v :: vs, h, m, m', 0, p, q, hm, h1, h2 => by
    unfold ones1 at h1 h2
    split at h1 <;> split at h2 <;> simp at h1 h2 <;> omega
  | v :: vs, h, m, m', k + 1, p, q, hm, h1, h2 => by
    unfold ones1 at h1 h2
    split at h1 <;> split at h2 <;> simp only [List.getElem?_cons_succ] at h1 h2 <;> exact ones1_mono vs h _ _ k p q (by omega) h1 h2
theorem pay_grows {n : Nat} {M : Nat → Int} (hM : OkM n M) {level : List Nat} (hl : ∀ i ∈ level, i < n) (hd : level.Nodup) {a a' : Int} (ha : 0 ≤ a) (haa : a ≤ a') (i : Nat) : payQ level M a i ≤ payQ level M a' i := by
  by_cases hi : i ∈ level
  case neg => rw [payQ_out hi, payQ_out hi]; omega
  have hh := hgt_ok (vs_ok hM hl) ha
  have hh' := hgt_ok (vs_ok hM hl) (a := a') (by omega)
  rcases Int.lt_trichotomy (hgt (vsOf level M) a) (hgt (vsOf level M) a') with hc | hc | hc
  · rcases payQ_get hM hl hd ha hi with h1 | ⟨h1, h2⟩ <;> rcases payQ_get hM hl hd (show 0 ≤ a' by omega) hi with h3 | ⟨h3, h4⟩ <;> omega
  · obtain ⟨k, hk, e⟩ := List.mem_iff_getElem.1 hi
    have hk1 : level[k]? = some i := by rw [List.getElem?_eq_getElem hk, e]
    have hk2 : (vsOf level M)[k]? = some (M i) := by simp [vsOf, hk1]
    have hh3 := hh.2.2.1
    have hh4 := hh'.2.2.1
    have g1 := ones1_get (vsOf level M) (hgt (vsOf level M) a) (a - below (vsOf level M) (hgt (vsOf level M) a)) k (M i) (by omega) hk2
    have g2 := ones1_get (vsOf level M) (hgt (vsOf level M) a') (a' - below (vsOf level M) (hgt (vsOf level M) a')) k (M i) (by omega) hk2
    have e1 : ∀ b, (payL level M b)[k]? = (ones1 (vsOf level M) (hgt (vsOf level M) b) (b - below (vsOf level M) (hgt (vsOf level M) b)))[k]?.map (min (M i) (hgt (vsOf level M) b) + ·) := fun b => by
      rw [payL, paysL, List.getElem?_zipWith, List.getElem?_map, hk2]
      cases (ones1 (vsOf level M) (hgt (vsOf level M) b) (b - below (vsOf level M) (hgt (vsOf level M) b)))[k]? <;> rfl
    have p1 : payQ level M a i = _ := pf_in level _ k i _ hd hk1 ((e1 a).trans (by rw [g1]; rfl))
    have p2 : payQ level M a' i = _ := pf_in level _ k i _ hd hk1 ((e1 a').trans (by rw [g2]; rfl))
    rw [p1, p2]
    generalize hgt (vsOf level M) a = h0 at *
    subst hc
    have := ones1_mono (vsOf level M) (hgt (vsOf level M) a') _ _ k _ _ (by omega) g1 g2
    simp only
    omega
  · exfalso
    obtain ⟨b1, b2, b3, b4⟩ := hh
    obtain ⟨c1, c2, c3, c4⟩ := hh'
    have := below_mono (vs := vsOf level M) (show hgt (vsOf level M) a' + 1 ≤ hgt (vsOf level M) a by omega)
    omega
theorem goL_mono {n : Nat} : ∀ {ls : List (List Nat)} {M : Nat → Int} {a a' : Int}, OkL n ls → OkM n M → 0 ≤ a → a ≤ a' → ∀ i, (goL ls M a).1 i ≤ (goL ls M a').1 i
  | [], _, _, _, _, _, _, _, _ => Int.le_refl _
  | l :: ls, M, a, a', h, hM, ha, haa, i => by
    have h1 := h.lt l (by simp)
    have h2 := h.nd l (by simp)
    rw [(goL_cons h M a).1 i, (goL_cons h M a').1 i]
    have h3 := payLeft_range hM h1 ha
    have h4 : payLeft l M a ≤ payLeft l M a' := by rw [payLeft_eq hM h1 ha, payLeft_eq hM h1 (by omega)]; omega
    have h5 := goL_mono h.tail hM h3.1 h4 i
    have h6 := pay_grows hM h1 h2 ha haa i
    omega
/-- The means of those who are reached. -/
def capOf (n : Nat) (B : List (List Int)) (d : Nat) (M : Nat → Int) (i : Nat) : Int := if lvOf n B d i < 0 then 0 else M i
theorem lst_sum_mono {n : Nat} {f g : Nat → Int} (h : ∀ i, i < n → f i ≤ g i) : (lst n f).sum ≤ (lst n g).sum := by
  induction n with
  | zero => simp [lst]
  | succ n ih =>
    rw [lst_snoc, lst_snoc]
    simp only [List.sum_append, List.sum_cons, List.sum_nil]
    have h1 := ih fun i hi => h i (by omega)
    have h2 := h n (by omega)
    omega
theorem left_cap {n : Nat} {B : List (List Int)} {M : Nat → Int} (hM : OkM n M) {d : Nat} {a : Int} (ha : 0 ≤ a) : (goL (levelsOf n B d) M a).2 = max 0 (a - (lst n (capOf n B d M)).sum) := by
  have hs := goL_sum (M := M) (a := a) (levelsOf_ok n B d)
  have hr := goL_range (a := a) (levelsOf_ok n B d) hM ha
  have h1 : (lst n (goL (levelsOf n B d) M a).1).sum ≤ (lst n (capOf n B d M)).sum := lst_sum_mono fun i hi => by
    unfold capOf
    split
    · rename_i h; rw [goL_out (lvOf_out h)]; omega
    · exact (hr.1 i hi).2
  by_cases hp : 0 < (goL (levelsOf n B d) M a).2
  · have h2 : (lst n (goL (levelsOf n B d) M a).1) = (lst n (capOf n B d M)) := lst_ext fun i hi => by
      unfold capOf
      split
      · rename_i h; rw [goL_out (lvOf_out h)]
      · rename_i h
        obtain ⟨x, l, _, h3, h4⟩ := lvOf_in (Int.not_lt.1 h)
        exact goL_used (levelsOf_ok n B d) hM ha hp l (List.mem_of_getElem? h3) i h4
    rw [h2] at hs
    omega
  · omega
-- what is right
theorem rightB_swap {D D' M M' : List Int} {B : List (List Int)} (h : rightB D B M = true) (h1 : D'.length = D.length) (h2 : M'.length = M.length) (h3 : ∀ v ∈ D', 0 ≤ v ∧ v ≤ maxC) (h4 : ∀ v ∈ M', 0 ≤ v ∧ v ≤ maxC) : rightB D' B M' = true := by
  simp only [rightB, Bool.and_eq_true, decide_eq_true_eq] at h ⊢
  obtain ⟨⟨⟨a1, a2⟩, a3⟩, a4⟩ := h
  refine ⟨⟨⟨by omega, by omega⟩, by omega⟩, fun i hi => ?_⟩
  have a5 := a4 i (by omega)
  simp only [memB, Bool.and_eq_true] at a5 ⊢
  refine ⟨⟨by rw [h1]; exact a5.1.1, ?_⟩, ?_⟩
  · rw [List.getD_eq_getElem?_getD, List.getElem?_eq_getElem hi]
    exact decide_eq_true (h3 _ (List.getElem_mem _))
  · rw [List.getD_eq_getElem?_getD, List.getElem?_eq_getElem (by omega)]
    exact decide_eq_true (h4 _ (List.getElem_mem _))
theorem Dof_lst {n : Nat} {f : Nat → Int} (hf : ∀ d, n ≤ d → f d = 0) : Dof (lst n f) = f := by
  funext d
  simp only [Dof, List.getD_eq_getElem?_getD]
  by_cases hd : d < n
  · rw [lst_get _ hd]; rfl
  · rw [hf d (by omega), List.getElem?_eq_none (by rw [lst_len]; omega)]; rfl
theorem lst_mem_of {n : Nat} {f : Nat → Int} (h : ∀ d, d < n → 0 ≤ f d ∧ f d ≤ maxC) : ∀ v ∈ lst n f, 0 ≤ v ∧ v ≤ maxC := fun v hv => by
  obtain ⟨i, hi, rfl⟩ := lst_mem hv
  exact h i hi
theorem Dof_out {l : List Int} {d : Nat} (h : l.length ≤ d) : Dof l d = 0 := by simp [Dof, List.getD_eq_getElem?_getD, h]
theorem move_lst {n : Nat} {f g : Nat → Int} {B : List (List Int)} (hn : n ≤ 60) (h1 : B.length ≤ 1000) (h2 : ∀ r ∈ B, r.length ≤ 1000) (hf : ∀ d, n ≤ d → f d = 0) (hg : ∀ d, n ≤ d → g d = 0) (hr : rightB (lst n f) B (lst n g) = true) :
    Fun Try.prog 10 [.u (ints (lst n f)), .u (lists B), .u (ints (lst n g))] (· = .tup [.u (lists (matL n (paidAt n B f g))), .u (ints (lst n (leftAt n B f g))), .u (.int .i64 0)]) := by
  have h := move_fun (lst n f) B (lst n g) (by rw [lst_len]; omega) h1 (by rw [lst_len]; omega) h2
  rw [moveD_ok hr rfl rfl] at h
  unfold moveP moveL at h
  rwa [Dof_lst hf, Dof_lst hg, lst_len] at h
end Go.Proofs.Ytjmddlekokodfaa
