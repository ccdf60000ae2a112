/- Layer 13, plain: what solving means: the greatest solution, cycles, chains; the greatest difference. -/
import Derived.Test.YtdkadmchdocjbaaDb
set_option linter.all false
set_option maxRecDepth 100000
set_option maxHeartbeats 8000000
set_option linter.all false
namespace Go.Proofs.Ytdkadmchdocjbaa
def lst (n : Nat) (f : Nat → Int) : List Int := (List.range n).map f
theorem lst_len (n : Nat) (f : Nat → Int) : (lst n f).length = n := by simp [lst]
theorem lst_get {n : Nat} (f : Nat → Int) {i : Nat} (h : i < n) : (lst n f)[i]? = some (f i) := by simp [lst, h]
theorem lst_getE (n : Nat) (f : Nat → Int) (i : Nat) (h : i < (lst n f).length) : (lst n f)[i] = f i := by simp [lst]
theorem lst_set (n : Nat) (f : Nat → Int) (i : Nat) (x : Int) : (lst n f).set i x = lst n (fun j => if j = i then x else f j) := by
  apply List.ext_getElem?
  intro j
  simp only [lst, List.getElem?_set, List.length_map, List.length_range, List.getElem?_map]
  by_cases hj : i = j
  · subst hj
    by_cases hi : i < n <;> simp [hi]
  · rw [if_neg hj]
    by_cases hj2 : j < n
    · simp [hj2, Ne.symm hj]
    · simp [hj2]
theorem lst_ext {n : Nat} {f g : Nat → Int} (h : ∀ i, i < n → f i = g i) : lst n f = lst n g := by
  unfold lst
  exact List.map_congr_left fun i hi => h i (List.mem_range.1 hi)
theorem lst_rep (n : Nat) (v : Int) : List.replicate n v = lst n fun _ => v := by
  apply List.ext_getElem?
  intro j
  by_cases hj : j < n <;> simp [lst, hj]
def bgAll (n : Nat) : Nat → Bool := fun x => decide (x < n)
def bgOne (b : Nat) : Nat → Bool := fun x => decide (x = b)
/-- The greatest values that satisfy all constraints, none of which is positive. -/
structure Great (n : Nat) (l : List Con) (f : Nat → Int) : Prop where
  sol : Sol l f
  neg : ∀ x, x < n → f x ≤ 0
  tight : ∀ x, x < n → f x = 0 ∨ ∃ c ∈ l, c.a = x ∧ f c.b + c.N = f x
  most : ∀ y, Sol l y → (∀ x, x < n → y x ≤ 0) → ∀ x, x < n → y x ≤ f x
theorem OkC.ab {n : Nat} {l : List Con} (h : OkC n l) {c : Con} (hc : c ∈ l) : c.a < n ∧ c.b < n := by
  obtain ⟨h1, h2, h3, h4, _⟩ := h c hc
  simp only [Con.a, Con.b]
  omega
theorem great_of {n : Nat} {l : List Con} {g : GS} (hl : OkC n l) (hi : Inv l (bgAll n) g) (hf : Fix l g) : Great n l g.val where
  sol c hc := (hf.step hc (hi.beg _ (by simp [bgAll, (hl.ab hc).2])).1).2
  neg x hx := (hi.beg x (by simp [bgAll, hx])).2
  tight x hx := by
    have hk := (hi.beg x (by simp [bgAll, hx])).1
    cases hq : g.pre x with
    | none => exact .inl (hi.root x hk hq).2
    | some i =>
      obtain ⟨c, h1, h2, h3, h4, h5⟩ := hi.pre x i hq
      have hm := List.mem_of_getElem? h1
      have := (hf.step hm h4).2
      rw [h2] at this
      exact .inr ⟨c, hm, h2, by omega⟩
  most y hy hn x hx := (hi.low (fun x => x < n) y ⟨fun z hz => ⟨by simpa [bgAll] using hz, hn z (by simpa [bgAll] using hz)⟩, fun c hc _ => ⟨(hl.ab hc).1, hy c hc⟩⟩ x (hi.beg x (by simp [bgAll, hx])).1).2
theorem Great.one {n : Nat} {l l' : List Con} {f f' : Nat → Int} (h : Great n l f) (h' : Great n l' f') (hl : ∀ c, c ∈ l ↔ c ∈ l') : lst n f = lst n f' := by
  refine lst_ext fun x hx => ?_
  have h1 := h.most f' (fun c hc => h'.sol c ((hl c).1 hc)) h'.neg x hx
  have h2 := h'.most f (fun c hc => h.sol c ((hl c).2 hc)) h.neg x hx
  omega
theorem Outcome.unsat {n : Nat} {l : List Con} {bg t g ret} (hl : OkC n l) (h : Outcome n l bg t g ret) (hr : ¬ ret = -1) : ∀ y, ¬ Sol l y := fun y hy => by
  obtain ⟨hi, _, h1 | ⟨h1, h2, L, h3, h4⟩⟩ := h
  · exact hr h1.1
  · obtain ⟨_, k, h5, h6, h7, h8⟩ := h3.cycle hl hi (by omega) h4
    exact hy.nocycle hi h5 h7 h8
-- chains as lists
def preI (d : Int) (g : GS) (x : Nat) : Int := match g.pre x with
  | some i => (i : Int)
  | none => d
def pl (l : List Con) (d : Int) (g : GS) : Nat → Nat → List Int
  | 0, _ => []
  | k + 1, x => preI d g x :: pl l d g k (bk l g x)
theorem pl_len (l : List Con) (d : Int) (g : GS) : ∀ k x, (pl l d g k x).length = k
  | 0, _ => rfl
  | k + 1, x => by simp [pl, pl_len l d g k]
theorem pl_snoc (l : List Con) (d : Int) (g : GS) : ∀ k x, pl l d g (k + 1) x = pl l d g k x ++ [preI d g (it l g k x)]
  | 0, x => rfl
  | k + 1, x => by rw [pl, pl_snoc l d g k, pl, it]; rfl
def sumS (l : List Con) : Int → List Int → Option (Int × Int)
  | at', [] => some (0, at')
  | at', i :: r => if 0 ≤ i then match l[i.toNat]? with
    | some c => if c.B = at' then (sumS l c.A r).map fun p => (p.1 + c.N, p.2) else none
    | none => none
    else none
theorem sumS_append (l : List Con) : ∀ (a b : List Int) (u : Int) (s v : Int), sumS l u a = some (s, v) → sumS l u (a ++ b) = (sumS l v b).map fun p => (p.1 + s, p.2)
  | [], b, u, s, v, h => by
    simp only [sumS, Option.some.injEq, Prod.mk.injEq] at h
    obtain ⟨rfl, rfl⟩ := h
    simp
  | i :: r, b, u, s, v, h => by
    simp only [sumS, List.cons_append] at h ⊢
    split at h
    · rename_i h0
      rw [if_pos h0]
      split at h
      · rename_i c hc
        split at h
        · rename_i hb
          rw [if_pos hb]
          cases hq : sumS l c.A r with
          | none => rw [hq] at h; cases h
          | some p =>
            obtain ⟨s', v'⟩ := p
            rw [hq] at h
            simp only [Option.map_some, Option.some.injEq, Prod.mk.injEq] at h
            obtain ⟨rfl, rfl⟩ := h
            rw [sumS_append l r b c.A s' v' hq]
            cases sumS l v' b <;> simp [Int.add_assoc]
        · cases h
      · cases h
    · cases h
theorem sum_pl {n : Nat} {l : List Con} {bg : Nat → Bool} {g : GS} (d : Int) (hl : OkC n l) (hi : Inv l bg g) : ∀ (k x : Nat), al l g k x → sumS l ((it l g k x : Nat) : Int) (pl l d g k x).reverse = some (sm l g k x, (x : Int))
  | 0, x, _ => by simp [pl, sumS, it, sm]
  | k + 1, x, ha => by
    cases hq : g.pre x with
    | none => exact absurd hq ha.1
    | some j =>
      obtain ⟨c, e1, e2, e3, e4, e5⟩ := hi.pre x j hq
      have h2 := ha.2
      rw [bk_of hq e1] at h2
      have ih := sum_pl d hl hi k c.b h2
      obtain ⟨h3, h4, h5, h6, _⟩ := hl c (List.mem_of_getElem? e1)
      rw [pl, it, sm, bk_of hq e1, wt_of hq e1, List.reverse_cons, sumS_append l _ _ _ _ _ ih]
      simp only [preI, hq, sumS]
      rw [if_pos (by omega), Int.toNat_natCast, e1]
      simp only
      rw [if_pos (by simp only [Con.b]; omega)]
      simp only [Option.map_some, Int.zero_add, Option.some.injEq, Prod.mk.injEq]
      exact ⟨trivial, by rw [← e2]; simp only [Con.a]; omega⟩
theorem mem_pl {l : List Con} {bg : Nat → Bool} {g : GS} (d : Int) (hi : Inv l bg g) : ∀ (k x : Nat), al l g k x → ∀ i ∈ pl l d g k x, 0 ≤ i ∧ i < l.length
  | 0, x, _, i, hm => by cases hm
  | k + 1, x, ha, i, hm => by
    cases hq : g.pre x with
    | none => exact absurd hq ha.1
    | some j =>
      obtain ⟨c, e1, _⟩ := hi.pre x j hq
      rcases List.mem_cons.1 hm with rfl | hm
      · have := (List.getElem?_eq_some_iff.1 e1).1
        simp only [preI, hq]
        omega
      · exact mem_pl d hi k _ ha.2 i hm
theorem first_of {P : Nat → Prop} {k : Nat} (hk : 0 < k) (h : P k) : ∃ m, 0 < m ∧ m ≤ k ∧ P m ∧ ∀ j, 0 < j → j < m → ¬ P j := by
  induction k using Nat.strongRecOn with
  | ind k ih =>
    by_cases hx : ∃ j, 0 < j ∧ j < k ∧ P j
    · obtain ⟨j, h1, h2, h3⟩ := hx
      obtain ⟨m, a, b, c, d⟩ := ih j h2 h1 h3
      exact ⟨m, a, by omega, c, d⟩
    · exact ⟨k, hk, Nat.le_refl k, h, fun j h1 h2 h3 => hx ⟨j, h1, h2, h3⟩⟩
/-- A list of constraints that leads in a circle, with a negative sum. -/
structure CycOK (n : Nat) (l : List Con) (C : List Int) : Prop where
  pos : 1 ≤ C.length
  le : C.length ≤ n
  mem : ∀ i ∈ C, 0 ≤ i ∧ i < l.length
  sum : ∃ s u, sumS l u C = some (s, u) ∧ s < 0
/-- From a variable that got its value too late, n steps back: a circle from there on. -/
theorem Outcome.circle {n : Nat} {l : List Con} {bg t g ret} (d : Int) (hl : OkC n l) (h : Outcome n l bg t g ret) (hr : ¬ ret = -1) :
    al l g n ret.toNat ∧ ∃ m, 0 < m ∧ m ≤ n ∧ al l g m (it l g n ret.toNat) ∧ it l g m (it l g n ret.toNat) = it l g n ret.toNat ∧ (∀ j, 0 < j → j < m → it l g j (it l g n ret.toNat) ≠ it l g n ret.toNat) ∧ CycOK n l (pl l d g m (it l g n ret.toNat)).reverse := by
  obtain ⟨hi, _, h1 | ⟨h1, h2, L, h3, h4⟩⟩ := h
  · exact absurd h1.1 hr
  · obtain ⟨ha, k, h5, h6, h7, h8⟩ := h3.cycle hl hi (by omega) h4
    refine ⟨ha, ?_⟩
    obtain ⟨m, a, b, c, e⟩ := first_of (P := fun j => it l g j (it l g n ret.toNat) = it l g n ret.toNat) h5 h8
    have hal := al_round h5 h7 h8 m
    refine ⟨m, a, by omega, hal, c, e, ⟨by simp [pl_len]; omega, by simp [pl_len]; omega, fun i hm => mem_pl d hi m _ hal i (by simpa using hm), ?_⟩⟩
    have hs := sum_pl d hl hi m _ hal
    rw [c] at hs
    refine ⟨_, _, hs, ?_⟩
    obtain ⟨q, rfl⟩ : ∃ q, m = q + 1 := ⟨m - 1, by omega⟩
    exact hi.cyc q _ hal c
-- the greatest difference
/-- What can be reached from one variable, with the chains to it, if the constraints can be satisfied. -/
theorem Fix.ends {n : Nat} {l : List Con} {g : GS} {b : Nat} {y : Nat → Int} (hl : OkC n l) (hy : Sol l y) (hi : Inv l (bgOne b) g) (hf : Fix l g) : g.pre b = none ∧ g.val b = 0 ∧
    ∀ a, a < n → g.kn a = true → ∃ m, m < n ∧ al l g m a ∧ it l g m a = b ∧ ∀ j, j < m → it l g j a ≠ b := by
  have hstop : ∀ x, x < n → ¬ al l g n x ∨ g.pre (it l g n x) = none := fun x hx => by
    by_cases ha : al l g n x
    · right
      cases hq : g.pre (it l g n x) with
      | none => rfl
      | some j =>
        obtain ⟨k, h1, h2, h3, h4⟩ := cycle_of_al hl hx ha (by rw [hq]; simp)
        exact (hy.nocycle hi h1 h3 h4).elim
    · exact .inl ha
  have hkn : ∀ (k x : Nat), g.kn x = true → al l g k x → g.kn (it l g k x) = true := by
    intro k
    induction k with
    | zero => intro x hx _; exact hx
    | succ k ih =>
      intro x hx ha
      cases hq : g.pre x with
      | none => exact absurd hq ha.1
      | some j =>
        obtain ⟨c, e1, e2, e3, e4, e5⟩ := hi.pre x j hq
        have h2 := ha.2
        rw [it, bk_of hq e1]
        rw [bk_of hq e1] at h2
        exact ih c.b e4 h2
  -- a chain from a known variable comes to an end before n steps
  have hend : ∀ x, x < n → g.kn x = true → ∃ m, m < n ∧ al l g m x ∧ g.pre (it l g m x) = none := fun x hx hkx => by
    apply Classical.byContradiction
    intro hno
    have hall : ∀ k, k ≤ n → al l g k x := by
      intro k
      induction k with
      | zero => intro _; trivial
      | succ k ih =>
        intro hk
        have h1 := ih (by omega)
        refine (al_add l g k 1 x).2 ⟨h1, ?_, trivial⟩
        intro e
        exact hno ⟨k, by omega, h1, e⟩
    obtain ⟨i, j, hij, hj, e⟩ := two_equal (fun j => it l g j x) fun j _ => it_lt hl j hx
    have h1 := hall n (Nat.le_refl n)
    have h2 := ((al_add l g i (n - i) x).1 (by rw [show i + (n - i) = n by omega]; exact h1)).2
    have h3 : al l g (j - i) (it l g i x) := ((al_add l g (j - i) (n - j) _).1 (by rw [show j - i + (n - j) = n - i by omega]; exact h2)).1
    exact hy.nocycle hi (by omega) h3 (by rw [← it_add, show i + (j - i) = j by omega]; exact e.symm)
  have hroot : ∀ x, g.kn x = true → g.pre x = none → x = b := fun x h1 h2 => by simpa [bgOne] using (hi.root x h1 h2).1
  have hbk : g.kn b = true := (hi.beg b (by simp [bgOne])).1
  have hb0 : g.pre b = none := by
    cases hq : g.pre b with
    | none => rfl
    | some j =>
      obtain ⟨c, e1, e2, e3, e4, e5⟩ := hi.pre b j hq
      have hbn : b < n := by rw [← e2]; exact (hl.ab (List.mem_of_getElem? e1)).1
      obtain ⟨m, h1, h2, h3⟩ := hend b hbn hbk
      have := hroot _ (hkn m b hbk h2) h3
      rw [this, hq] at h3
      cases h3
  refine ⟨hb0, (hi.root b hbk hb0).2, fun a ha hka => ?_⟩
  obtain ⟨m, h1, h2, h3⟩ := hend a ha hka
  have h4 := hroot _ (hkn m a hka h2) h3
  refine ⟨m, h1, h2, h4, fun j hj e => ?_⟩
  have := al_at h2 hj
  rw [e] at this
  exact this hb0
/-- A number that is greater than all of a list. -/
theorem above (l : List Int) : ∃ K, ∀ x ∈ l, x ≤ K := by
  induction l with
  | nil => exact ⟨0, by simp⟩
  | cons a l ih =>
    obtain ⟨K, h⟩ := ih
    refine ⟨max a K, fun x hx => ?_⟩
    rcases List.mem_cons.1 hx with rfl | hx
    · omega
    · have := h x hx; omega
/-- Values that satisfy all constraints, where what is reached keeps its values, and all else is as great as one likes. -/
theorem lift_sol {l : List Con} {bg : Nat → Bool} {g : GS} {z : Nat → Int} (hi : Inv l bg g) (hf : Fix l g) (hz : Sol l z) (D : Int) : ∃ y, Sol l y ∧ (∀ x, g.kn x = true → y x = g.val x) ∧ ∃ K, D ≤ K ∧ ∀ x, g.kn x = false → y x = z x + K := by
  obtain ⟨K, hK⟩ := above (D :: l.map fun c => g.val c.a - z c.b - c.N)
  refine ⟨fun x => if g.kn x = true then g.val x else z x + K, fun c hc => ?_, fun x hx => by simp [hx], K, hK D (by simp), fun x hx => by simp [hx]⟩
  simp only
  cases hb : g.kn c.b with
  | true =>
    obtain ⟨h1, h2⟩ := hf.step hc hb
    simp [h1, h2]
  | false =>
    cases ha : g.kn c.a with
    | true =>
      have := hK (g.val c.a - z c.b - c.N) (by simp only [List.mem_cons, List.mem_map]; exact .inr ⟨c, hc, rfl⟩)
      simp
      omega
    | false =>
      have := hz c hc
      simp
      omega
/-- No values have a greater difference. -/
theorem diff_le {l : List Con} {b : Nat} {g : GS} {y : Nat → Int} (hi : Inv l (bgOne b) g) (hy : Sol l y) {a : Nat} (ha : g.kn a = true) : y a - y b ≤ g.val a := by
  have := hi.low (fun _ => True) (fun x => y x - y b) ⟨fun x hx => ⟨trivial, by have : x = b := by simpa [bgOne] using hx
                                                                                subst this; omega⟩, fun c hc _ => ⟨trivial, by have := hy c hc; omega⟩⟩ a ha
  exact this.2
end Go.Proofs.Ytdkadmchdocjbaa
