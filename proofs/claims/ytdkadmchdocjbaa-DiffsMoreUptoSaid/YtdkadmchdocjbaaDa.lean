/- Layer 13, plain: constraints, relaxing one of them, and what every state that is so reached satisfies. -/
import Derived.IntWalk
set_option linter.all false
set_option maxRecDepth 100000
set_option maxHeartbeats 8000000
set_option linter.all false
namespace Go.Proofs.Ytdkadmchdocjbaa
structure Con where
  A : Int
  B : Int
  N : Int
abbrev Con.a (c : Con) : Nat := c.A.toNat
abbrev Con.b (c : Con) : Nat := c.B.toNat
abbrev maxN : Int := 1099511627776
/-- Values, what is known, and the constraint that gave each variable its value. -/
structure GS where
  val : Nat → Int
  kn : Nat → Bool
  pre : Nat → Option Nat
def GS.zero (bg : Nat → Bool) : GS := ⟨fun _ => 0, bg, fun _ => none⟩
def GS.can (g : GS) (c : Con) : Bool := g.kn c.b && (!g.kn c.a || decide (g.val c.b + c.N < g.val c.a))
def GS.upd (g : GS) (i : Nat) (c : Con) : GS := ⟨fun x => if x = c.a then g.val c.b + c.N else g.val x, fun x => if x = c.a then true else g.kn x, fun x => if x = c.a then some i else g.pre x⟩
/-- The variable ahead of a variable, and the number of the constraint between them. -/
def bk (l : List Con) (g : GS) (x : Nat) : Nat := match g.pre x with
  | some i => match l[i]? with
    | some c => c.b
    | none => x
  | none => x
def wt (l : List Con) (g : GS) (x : Nat) : Int := match g.pre x with
  | some i => match l[i]? with
    | some c => c.N
    | none => 0
  | none => 0
def it (l : List Con) (g : GS) : Nat → Nat → Nat
  | 0, x => x
  | k + 1, x => it l g k (bk l g x)
def sm (l : List Con) (g : GS) : Nat → Nat → Int
  | 0, _ => 0
  | k + 1, x => wt l g x + sm l g k (bk l g x)
def al (l : List Con) (g : GS) : Nat → Nat → Prop
  | 0, _ => True
  | k + 1, x => g.pre x ≠ none ∧ al l g k (bk l g x)
/-- Values that satisfy what follows from the beginning. -/
structure Sub (l : List Con) (bg : Nat → Bool) (K : Nat → Prop) (y : Nat → Int) : Prop where
  beg : ∀ x, bg x = true → K x ∧ y x ≤ 0
  step : ∀ c ∈ l, K c.b → K c.a ∧ y c.a ≤ y c.b + c.N
structure Inv (l : List Con) (bg : Nat → Bool) (g : GS) : Prop where
  beg : ∀ x, bg x = true → g.kn x = true ∧ g.val x ≤ 0
  pre : ∀ x i, g.pre x = some i → ∃ c, l[i]? = some c ∧ c.a = x ∧ g.kn x = true ∧ g.kn c.b = true ∧ g.val c.b + c.N ≤ g.val x
  root : ∀ x, g.kn x = true → g.pre x = none → bg x = true ∧ g.val x = 0
  cyc : ∀ k x, al l g (k + 1) x → it l g (k + 1) x = x → sm l g (k + 1) x < 0
  low : ∀ K y, Sub l bg K y → ∀ x, g.kn x = true → K x ∧ y x ≤ g.val x
theorem Inv.zero (l : List Con) (bg : Nat → Bool) : Inv l bg (GS.zero bg) where
  beg x h := ⟨h, by simp [GS.zero]⟩
  pre x i h := by simp [GS.zero] at h
  root x h _ := ⟨h, rfl⟩
  cyc k x h _ := by simp [al, GS.zero] at h
  low K y h x hx := h.beg x hx
theorem bk_of {l : List Con} {g : GS} {x i : Nat} {c : Con} (h : g.pre x = some i) (hc : l[i]? = some c) : bk l g x = c.b := by simp [bk, h, hc]
theorem wt_of {l : List Con} {g : GS} {x i : Nat} {c : Con} (h : g.pre x = some i) (hc : l[i]? = some c) : wt l g x = c.N := by simp [wt, h, hc]
theorem GS.can_iff {g : GS} {c : Con} : g.can c = true ↔ g.kn c.b = true ∧ (g.kn c.a = false ∨ g.val c.b + c.N < g.val c.a) := by
  unfold GS.can
  cases g.kn c.b <;> cases g.kn c.a <;> simp
/-- A chain in the new state is one in the old state, or the values fall along it. -/
theorem Inv.chain {l : List Con} {bg : Nat → Bool} {g : GS} {i : Nat} {c : Con} (h : Inv l bg g) (hc : l[i]? = some c) (hr : g.can c = true) :
    ∀ (k x : Nat), (g.upd i c).kn x = true → al l (g.upd i c) k x →
      let p := fun x => if g.kn x = true then g.val x else g.val c.b + c.N + 1
      p (it l (g.upd i c) k x) + sm l (g.upd i c) k x < p x ∨ (al l g k x ∧ it l g k x = it l (g.upd i c) k x ∧ sm l g k x = sm l (g.upd i c) k x ∧ p (it l (g.upd i c) k x) + sm l (g.upd i c) k x ≤ p x) := by
  obtain ⟨hb, hd⟩ := GS.can_iff.1 hr
  intro k
  induction k with
  | zero => intro x _ _; right; simp only [al, it, sm, Int.add_zero]; exact ⟨trivial, trivial, trivial, Int.le_refl _⟩
  | succ k ih =>
    intro x hx ha
    obtain ⟨h1, h2⟩ := ha
    simp only
    by_cases hxa : x = c.a
    · have hp : (g.upd i c).pre x = some i := by simp [GS.upd, hxa]
      have hbk := bk_of hp hc
      have hwt := wt_of hp hc
      rw [hbk] at h2
      have hkb : (g.upd i c).kn c.b = true := by simp [GS.upd, hb]
      have := ih c.b hkb h2
      simp only [hb, if_true] at this
      left
      simp only [it, sm, hbk, hwt]
      have hlt : g.val c.b + c.N < (if g.kn x = true then g.val x else g.val c.b + c.N + 1) := by
        rw [hxa]
        rcases hd with hd | hd
        · rw [hd]; simp only [Bool.false_eq_true, if_false]; omega
        · split <;> omega
      rcases this with this | ⟨_, _, _, this⟩ <;> omega
    · have hp : (g.upd i c).pre x = g.pre x := by simp [GS.upd, hxa]
      have hkx : g.kn x = true := by simpa [GS.upd, hxa] using hx
      cases hq : g.pre x with
      | none => rw [hp, hq] at h1; exact absurd rfl h1
      | some j =>
        obtain ⟨d, e1, e2, e3, e4, e5⟩ := h.pre x j hq
        have hbk : bk l (g.upd i c) x = d.b := bk_of (hp.trans hq) e1
        have hwt : wt l (g.upd i c) x = d.N := wt_of (hp.trans hq) e1
        have hbk' : bk l g x = d.b := bk_of hq e1
        have hwt' : wt l g x = d.N := wt_of hq e1
        rw [hbk] at h2
        have := ih d.b (by simp [GS.upd, e4]) h2
        simp only [e4, if_true] at this
        simp only [it, sm, al, hbk, hwt, hbk', hwt', hkx, if_true]
        rcases this with this | ⟨a1, a2, a3, this⟩
        · left; omega
        · right
          exact ⟨⟨by rw [hq]; simp, a1⟩, a2, by rw [a3], by omega⟩
theorem Inv.upd {l : List Con} {bg : Nat → Bool} {g : GS} {i : Nat} {c : Con} (h : Inv l bg g) (hc : l[i]? = some c) (hr : g.can c = true) : Inv l bg (g.upd i c) := by
  obtain ⟨hb, hd⟩ := GS.can_iff.1 hr
  have hdown : ∀ x, g.kn x = true → (g.upd i c).val x ≤ g.val x := fun x hx => by
    simp only [GS.upd]
    split
    · rename_i e
      subst e
      rcases hd with hd | hd
      · rw [hd] at hx; cases hx
      · omega
    · exact Int.le_refl _
  have hkn : ∀ x, g.kn x = true → (g.upd i c).kn x = true := fun x hx => by simp [GS.upd, hx]
  refine ⟨fun x hx => ?_, fun x j hj => ?_, fun x hx hp => ?_, fun k x ha he => ?_, fun K y hs x hx => ?_⟩
  · obtain ⟨h1, h2⟩ := h.beg x hx
    have := hdown x h1
    exact ⟨hkn x h1, by omega⟩
  · by_cases hxa : x = c.a
    · have : j = i := by simpa [GS.upd, hxa, eq_comm] using hj
      subst this
      refine ⟨c, hc, hxa.symm, by simp [GS.upd, hxa], hkn _ hb, ?_⟩
      have := hdown c.b hb
      rw [hxa]
      have e : (g.upd j c).val c.a = g.val c.b + c.N := by simp [GS.upd]
      omega
    · have hq : g.pre x = some j := by simpa [GS.upd, hxa] using hj
      obtain ⟨d, e1, e2, e3, e4, e5⟩ := h.pre x j hq
      have := hdown d.b e4
      have e : (g.upd i c).val x = g.val x := by simp [GS.upd, hxa]
      exact ⟨d, e1, e2, hkn x e3, hkn _ e4, by omega⟩
  · by_cases hxa : x = c.a
    · simp [GS.upd, hxa] at hp
    · have hp' : g.pre x = none := by simpa [GS.upd, hxa] using hp
      have hx' : g.kn x = true := by simpa [GS.upd, hxa] using hx
      obtain ⟨h1, h2⟩ := h.root x hx' hp'
      exact ⟨h1, by simp [GS.upd, hxa, h2]⟩
  · have hkx : (g.upd i c).kn x = true := by
      by_cases hxa : x = c.a
      · simp [GS.upd, hxa]
      · cases hq : g.pre x with
        | none => exact absurd (show (g.upd i c).pre x = none by simp [GS.upd, hxa, hq]) ha.1
        | some j =>
          obtain ⟨d, _, _, e3, _⟩ := h.pre x j hq
          exact hkn x e3
    have := h.chain hc hr (k + 1) x hkx ha
    simp only [he] at this
    rcases this with this | ⟨a1, a2, a3, _⟩
    · omega
    · rw [← a3]
      exact h.cyc k x a1 a2
  · by_cases hxa : x = c.a
    · obtain ⟨h1, h2⟩ := h.low K y hs c.b hb
      obtain ⟨h3, h4⟩ := hs.step c (List.mem_of_getElem? hc) h1
      subst hxa
      exact ⟨h3, by simp only [GS.upd, if_true]; omega⟩
    · have hx' : g.kn x = true := by simpa [GS.upd, hxa] using hx
      have := h.low K y hs x hx'
      simpa [GS.upd, hxa] using this
-- chains
theorem it_add (l : List Con) (g : GS) : ∀ (j k x : Nat), it l g (j + k) x = it l g k (it l g j x)
  | 0, k, x => by simp [it]
  | j + 1, k, x => by rw [Nat.add_right_comm, it, it, it_add l g j k]
theorem al_add (l : List Con) (g : GS) : ∀ (j k x : Nat), al l g (j + k) x ↔ al l g j x ∧ al l g k (it l g j x)
  | 0, k, x => by simp [it, al]
  | j + 1, k, x => by rw [Nat.add_right_comm, al, al, it, al_add l g j k, and_assoc]
theorem sm_add (l : List Con) (g : GS) : ∀ (j k x : Nat), sm l g (j + k) x = sm l g j x + sm l g k (it l g j x)
  | 0, k, x => by simp [it, sm]
  | j + 1, k, x => by rw [Nat.add_right_comm, sm, sm, it, sm_add l g j k]; omega
theorem al_at {l : List Con} {g : GS} {k x j : Nat} (h : al l g k x) (hj : j < k) : g.pre (it l g j x) ≠ none := by
  have := (al_add l g j (1 + (k - j - 1)) x).1 (by rw [show j + (1 + (k - j - 1)) = k by omega]; exact h)
  rw [Nat.add_comm 1] at this
  exact this.2.1
/-- Where a chain comes back, it goes on for ever. -/
theorem al_round {l : List Con} {g : GS} {k x : Nat} (hk : 0 < k) (ha : al l g k x) (he : it l g k x = x) : ∀ m, al l g m x := by
  intro m
  induction m using Nat.strongRecOn with
  | ind m ih =>
    by_cases h : m ≤ k
    · exact ((al_add l g m (k - m) x).1 (by rw [show m + (k - m) = k by omega]; exact ha)).1
    · have := ih (m - k) (by omega)
      rw [show m = k + (m - k) by omega, al_add, he]
      exact ⟨ha, this⟩
theorem nodup_le {l : List Nat} {n : Nat} (hd : l.Nodup) (h : ∀ x ∈ l, x < n) : l.length ≤ n := by
  have : l ⊆ List.range n := fun x hx => List.mem_range.2 (h x hx)
  have h2 := List.Nodup.length_le_of_subset hd this
  simpa using h2
/-- n + 1 numbers below n: two of them are equal. -/
theorem two_equal {n : Nat} (f : Nat → Nat) (h : ∀ j, j ≤ n → f j < n) : ∃ i j, i < j ∧ j ≤ n ∧ f i = f j := by
  apply Classical.byContradiction
  intro hno
  have hd : ((List.range (n + 1)).map f).Nodup := by
    rw [List.Nodup, List.pairwise_map]
    refine List.Pairwise.imp_of_mem (fun {a b} ha hb hab e => hno ⟨a, b, hab, ?_, e⟩) List.pairwise_lt_range
    have := List.mem_range.1 hb
    omega
  have := nodup_le (n := n) hd fun x hx => by
    obtain ⟨j, hj, rfl⟩ := List.mem_map.1 hx
    have := List.mem_range.1 hj
    exact h j (by omega)
  simp at this
  omega
/-- Constraints between variables below n. -/
def OkC (n : Nat) (l : List Con) : Prop := ∀ c ∈ l, 0 ≤ c.A ∧ c.A < n ∧ 0 ≤ c.B ∧ c.B < n ∧ -maxN ≤ c.N ∧ c.N ≤ maxN
theorem bk_lt {n : Nat} {l : List Con} {g : GS} {x : Nat} (hl : OkC n l) (hx : x < n) : bk l g x < n := by
  unfold bk
  split
  · split
    · rename_i c hc
      have := hl c (List.mem_of_getElem? hc)
      simp only [Con.b]
      omega
    · exact hx
  · exact hx
theorem it_lt {n : Nat} {l : List Con} {g : GS} (hl : OkC n l) : ∀ (k : Nat) {x : Nat}, x < n → it l g k x < n
  | 0, _, hx => hx
  | k + 1, _, hx => it_lt hl k (bk_lt hl hx)
/-- A chain of n steps is on a cycle at its end. -/
theorem cycle_of_al {n : Nat} {l : List Con} {g : GS} (hl : OkC n l) {x : Nat} (hx : x < n) (ha : al l g n x) (hp : g.pre (it l g n x) ≠ none) :
    ∃ k, 0 < k ∧ k ≤ n ∧ al l g k (it l g n x) ∧ it l g k (it l g n x) = it l g n x := by
  obtain ⟨i, j, hij, hj, e⟩ := two_equal (fun j => it l g j x) fun j _ => it_lt hl j hx
  have hall : al l g (j - i) (it l g i x) := by
    have h1 : al l g (n + 1) x := (al_add l g n 1 x).2 ⟨ha, hp, trivial⟩
    have h2 := (al_add l g i (n + 1 - i) x).1 (by rw [show i + (n + 1 - i) = n + 1 by omega]; exact h1)
    exact ((al_add l g (j - i) (n + 1 - j) _).1 (by rw [show j - i + (n + 1 - j) = n + 1 - i by omega]; exact h2.2)).1
  have hback : it l g (j - i) (it l g i x) = it l g i x := by rw [← it_add, show i + (j - i) = j by omega]; exact e.symm
  have hinf := al_round (by omega) hall hback
  have he : it l g n x = it l g (n - i) (it l g i x) := by rw [← it_add, show i + (n - i) = n by omega]
  refine ⟨j - i, by omega, by omega, ?_, ?_⟩
  · rw [he]
    exact ((al_add l g (n - i) (j - i) _).1 (hinf _)).2
  · rw [he, ← it_add, Nat.add_comm, it_add, hback]
/-- How late a variable got its value, and how late the one ahead of it. -/
structure Rank (l : List Con) (g : GS) (L : Nat → Nat) : Prop where
  pre : ∀ x i c, g.pre x = some i → l[i]? = some c → L x ≤ L c.b + 1
  unset : ∀ x, g.pre x = none → L x = 0
theorem Rank.alive {l : List Con} {bg : Nat → Bool} {g : GS} {L : Nat → Nat} (hi : Inv l bg g) (h : Rank l g L) : ∀ (k : Nat) {x : Nat}, k < L x → al l g (k + 1) x
  | 0, x, hx => ⟨fun e => by rw [h.unset x e] at hx; omega, trivial⟩
  | k + 1, x, hx => by
    cases hq : g.pre x with
    | none => rw [h.unset x hq] at hx; omega
    | some j =>
      obtain ⟨d, e1, _⟩ := hi.pre x j hq
      have := h.pre x j d hq e1
      refine ⟨by rw [hq]; simp, ?_⟩
      rw [bk_of hq e1]
      exact Rank.alive hi h k (by omega)
theorem Rank.cycle {n : Nat} {l : List Con} {bg : Nat → Bool} {g : GS} {L : Nat → Nat} (hl : OkC n l) (hi : Inv l bg g) (h : Rank l g L) {x : Nat} (hx : x < n) (hL : n < L x) :
    al l g n x ∧ ∃ k, 0 < k ∧ k ≤ n ∧ al l g k (it l g n x) ∧ it l g k (it l g n x) = it l g n x := by
  have h1 := h.alive hi n hL
  rw [al_add] at h1
  exact ⟨h1.1, cycle_of_al hl hx h1.1 h1.2.1⟩
/-- Values that satisfy all constraints. -/
def Sol (l : List Con) (y : Nat → Int) : Prop := ∀ c ∈ l, y c.a ≤ y c.b + c.N
theorem Sol.along {l : List Con} {bg : Nat → Bool} {g : GS} {y : Nat → Int} (hi : Inv l bg g) (h : Sol l y) : ∀ (k x : Nat), al l g k x → y x ≤ y (it l g k x) + sm l g k x
  | 0, x, _ => by simp [it, sm]
  | k + 1, x, ha => by
    cases hq : g.pre x with
    | none => exact absurd hq ha.1
    | some j =>
      obtain ⟨d, e1, e2, _⟩ := hi.pre x j hq
      have h1 := h d (List.mem_of_getElem? e1)
      have h2 := ha.2
      rw [bk_of hq e1] at h2
      have := Sol.along hi h k d.b h2
      rw [it, sm, bk_of hq e1, wt_of hq e1]
      rw [e2] at h1
      omega
theorem Sol.nocycle {l : List Con} {bg : Nat → Bool} {g : GS} {y : Nat → Int} (hi : Inv l bg g) (h : Sol l y) {k x : Nat} (hk : 0 < k) (ha : al l g k x) (he : it l g k x = x) : False := by
  obtain ⟨k, rfl⟩ : ∃ j, k = j + 1 := ⟨k - 1, by omega⟩
  have h1 := hi.cyc k x ha he
  have h2 := h.along hi (k + 1) x ha
  rw [he] at h2
  omega
/-- Nothing is left to relax. -/
def Fix (l : List Con) (g : GS) : Prop := ∀ c ∈ l, g.can c = false
theorem Fix.step {l : List Con} {g : GS} (h : Fix l g) {c : Con} (hc : c ∈ l) (hk : g.kn c.b = true) : g.kn c.a = true ∧ g.val c.a ≤ g.val c.b + c.N := by
  have := h c hc
  unfold GS.can at this
  rw [hk] at this
  cases hka : g.kn c.a with
  | false => rw [hka] at this; simp at this
  | true => rw [hka] at this; simp at this; exact ⟨rfl, this⟩
theorem Fix.sub {l l' : List Con} {bg : Nat → Bool} {g : GS} (hi : Inv l bg g) (h : Fix l g) (hl : ∀ c, c ∈ l' → c ∈ l) : Sub l' bg (fun x => g.kn x = true) g.val :=
  ⟨hi.beg, fun _ hc hk => h.step (hl _ hc) hk⟩
/-- What is known at the end, and with which values, is settled by the constraints. -/
theorem Fix.one {l l' : List Con} {bg : Nat → Bool} {g g' : GS} (hi : Inv l bg g) (h : Fix l g) (hi' : Inv l' bg g') (h' : Fix l' g') (hl : ∀ c, c ∈ l ↔ c ∈ l') (x : Nat) : g.kn x = g'.kn x ∧ (g.kn x = true → g.val x = g'.val x) := by
  have h1 := fun x => hi.low _ _ (h'.sub hi' fun c hc => (hl c).1 hc) x
  have h2 := fun x => hi'.low _ _ (h.sub hi fun c hc => (hl c).2 hc) x
  refine ⟨?_, fun hx => ?_⟩
  · rw [Bool.eq_iff_iff]
    exact ⟨fun e => (h1 x e).1, fun e => (h2 x e).1⟩
  · have h3 := h1 x hx
    have h4 := h2 x h3.1
    omega
/-- At the end the values fall along a chain by just what the constraints say. -/
theorem Fix.along {l : List Con} {bg : Nat → Bool} {g : GS} (hi : Inv l bg g) (h : Fix l g) : ∀ (k x : Nat), al l g k x → g.val x = g.val (it l g k x) + sm l g k x
  | 0, x, _ => by simp [it, sm]
  | k + 1, x, ha => by
    cases hq : g.pre x with
    | none => exact absurd hq ha.1
    | some j =>
      obtain ⟨d, e1, e2, e3, e4, e5⟩ := hi.pre x j hq
      have h1 := h.step (List.mem_of_getElem? e1) e4
      have h2 := ha.2
      rw [bk_of hq e1] at h2
      have := Fix.along hi h k d.b h2
      rw [it, sm, bk_of hq e1, wt_of hq e1]
      rw [e2] at h1
      omega
end Go.Proofs.Ytdkadmchdocjbaa
