/- Layer 13, plain: rounds of a queue, and sweeps through all constraints. -/
import Derived.Test.YtdkadmchdocjbaaDa
set_option linter.all false
set_option maxRecDepth 100000
set_option maxHeartbeats 8000000
set_option linter.all false
namespace Go.Proofs.Ytdkadmchdocjbaa
theorem toNat_inj {a b : Int} (ha : 0 ≤ a) (hb : 0 ≤ b) (h : a.toNat = b.toNat) : a = b := by omega
/-- What was to be relaxed after a step was so before, but behind the variable that changed. -/
theorem can_of_upd {g : GS} {i : Nat} {c d : Con} (hr : g.can c = true) (hd : d.b ≠ c.a) (h : (g.upd i c).can d = true) : g.can d = true ∧ d.a ≠ c.a ∨ g.can d = true ∧ (d.a = c.a ∧ g.val d.b + d.N < g.val c.b + c.N) := by
  obtain ⟨hb, hc⟩ := GS.can_iff.1 hr
  obtain ⟨h1, h2⟩ := GS.can_iff.1 h
  have hkb : g.kn d.b = true := by simpa [GS.upd, hd] using h1
  have hvb : (g.upd i c).val d.b = g.val d.b := by simp [GS.upd, hd]
  by_cases hda : d.a = c.a
  · right
    refine ⟨GS.can_iff.2 ⟨hkb, ?_⟩, hda, ?_⟩
    · rcases h2 with h2 | h2
      · simp [GS.upd, hda] at h2
      · rw [hvb] at h2
        have : (g.upd i c).val d.a = g.val c.b + c.N := by simp [GS.upd, hda]
        rcases hc with hc | hc
        · left; rw [hda]; exact hc
        · right; rw [hda]; omega
    · rcases h2 with h2 | h2
      · simp [GS.upd, hda] at h2
      · rw [hvb] at h2
        have : (g.upd i c).val d.a = g.val c.b + c.N := by simp [GS.upd, hda]
        omega
  · left
    refine ⟨GS.can_iff.2 ⟨hkb, ?_⟩, hda⟩
    rcases h2 with h2 | h2
    · left; simpa [GS.upd, hda] using h2
    · right
      rw [hvb] at h2
      simpa [GS.upd, hda] using h2
def up (L : Nat → Nat) (a r : Nat) : Nat → Nat := fun x => if x = a then r else L x
theorem Rank.upd {l : List Con} {g : GS} {L : Nat → Nat} {i r : Nat} {c : Con} (h : Rank l g L) (hle : ∀ x, L x ≤ r + 1) (hc : l[i]? = some c) (hL : r ≤ L c.b) : Rank l (g.upd i c) (up L c.a (r + 1)) := by
  refine ⟨fun x j d hj hd => ?_, fun x hx => ?_⟩
  · have hmono : L d.b ≤ up L c.a (r + 1) d.b := by unfold up; split; exact hle _; exact Nat.le_refl _
    by_cases hxa : x = c.a
    · have : i = j := by simpa [GS.upd, hxa] using hj
      subst this
      rw [hc] at hd
      cases hd
      have h1 : up L c.a (r + 1) x = r + 1 := by simp [up, hxa]
      omega
    · have hq : g.pre x = some j := by simpa [GS.upd, hxa] using hj
      have := h.pre x j d hq hd
      have h1 : up L c.a (r + 1) x = L x := by simp [up, hxa]
      omega
  · by_cases hxa : x = c.a
    · simp [GS.upd, hxa] at hx
    · have hq : g.pre x = none := by simpa [GS.upd, hxa] using hx
      have := h.unset x hq
      simpa [up, hxa] using this
/-- Values within bounds. -/
def Bd (t : Nat) (g : GS) : Prop := ∀ x, -(maxN * t) ≤ g.val x ∧ g.val x ≤ maxN * t
theorem Bd.mono {t u : Nat} {g : GS} (h : Bd t g) (htu : t ≤ u) : Bd u g := fun x => by
  have := h x
  have h2 : maxN * (t : Int) ≤ maxN * (u : Int) := Int.mul_le_mul_of_nonneg_left (by omega) (by decide)
  omega
theorem Bd.zero (bg : Nat → Bool) : Bd 0 (GS.zero bg) := fun x => by simp [GS.zero]
theorem Bd.upd {t i : Nat} {g : GS} {c : Con} (h : Bd t g) (h1 : -maxN ≤ c.N) (h2 : c.N ≤ maxN) : Bd (t + 1) (g.upd i c) := fun x => by
  have e : maxN * ((t + 1 : Nat) : Int) = maxN * (t : Int) + maxN := by rw [Int.natCast_add, Int.mul_add]; simp
  simp only [GS.upd]
  split
  · have := h c.b
    omega
  · have := h x
    have : (0 : Int) ≤ maxN := by decide
    omega
-- the program: rounds of a queue
def fromS (l : List Con) (v : Nat) : List Nat := (List.range l.length).filter fun i => match l[i]? with
  | some c => decide (c.b = v)
  | none => false
theorem mem_fromS {l : List Con} {v i : Nat} : i ∈ fromS l v ↔ ∃ c, l[i]? = some c ∧ c.b = v := by
  unfold fromS
  rw [List.mem_filter, List.mem_range]
  constructor
  · rintro ⟨h1, h2⟩
    rw [List.getElem?_eq_getElem h1] at h2
    exact ⟨_, List.getElem?_eq_getElem h1, by simpa using h2⟩
  · rintro ⟨c, h1, h2⟩
    exact ⟨(List.getElem?_eq_some_iff.1 h1).1, by rw [h1]; simpa using h2⟩
theorem fromS_len (l : List Con) (v : Nat) : (fromS l v).length ≤ l.length := by
  have := List.length_filter_le (fun i => match l[i]? with | some c => decide (c.b = v) | none => false) (List.range l.length)
  simpa [fromS] using this
def relP (l : List Con) (st : GS × List Int) (i : Nat) : GS × List Int := match l[i]? with
  | some c => if (!st.1.kn c.a || decide (st.1.val c.b + c.N < st.1.val c.a)) = true then (st.1.upd i c, st.2 ++ [c.A]) else st
  | none => st
def visitP (l : List Con) (st : GS × List Int) (v : Int) : GS × List Int := (fromS l v.toNat).foldl (relP l) st
def roundP (l : List Con) (g : GS) (todo : List Int) : GS × List Int := todo.foldl (visitP l) (g, [])
/-- The state within a round: rest is still to be visited, es are the constraints left at v. -/
structure PM (n : Nat) (l : List Con) (bg : Nat → Bool) (r : Nat) (all rest : List Int) (v : Nat) (es : List Nat) (t : Nat) (st : GS × List Int) (L : Nat → Nat) : Prop where
  inv : Inv l bg st.1
  rank : Rank l st.1 L
  le : ∀ x, L x ≤ r + 1
  all : ∀ x ∈ all, 0 ≤ x ∧ x < n ∧ st.1.kn x.toNat = true ∧ r ≤ L x.toNat
  nx : ∀ x ∈ st.2, 0 ≤ x ∧ x < n ∧ st.1.kn x.toNat = true ∧ L x.toNat = r + 1
  viol : ∀ i c, l[i]? = some c → st.1.can c = true → c.B ∈ rest ∨ c.B ∈ st.2 ∨ (c.b = v ∧ i ∈ es)
  bd : Bd t st.1
  len : st.2.length ≤ t
theorem PM.mono {n l bg r all rest v es t u st L} (h : PM n l bg r all rest v es t st L) (htu : t ≤ u) : PM n l bg r all rest v es u st L :=
  { h with bd := h.bd.mono htu, len := Nat.le_trans h.len htu }
theorem PM.step {n : Nat} {l : List Con} {bg r all rest es t st L} {v i : Nat} {c : Con} (hl : OkC n l) (hc : l[i]? = some c) (hv : (v : Int) ∈ all) (hcv : c.b = v) (h : PM n l bg r all rest v (i :: es) t st L) :
    ∃ L', PM n l bg r all rest v es (t + 1) (relP l st i) L' := by
  obtain ⟨g, nx⟩ := st
  obtain ⟨hv0, hvn, hvk, hvL⟩ := h.all v hv
  simp only [Int.toNat_natCast] at hvk hvL
  have hcm := List.mem_of_getElem? hc
  obtain ⟨ha0, han, hb0, hbn, hN1, hN2⟩ := hl c hcm
  by_cases hcan : g.can c = true
  · have e : relP l (g, nx) i = (g.upd i c, nx ++ [c.A]) := by
      unfold relP
      rw [hc]
      simp only
      rw [if_pos]
      unfold GS.can at hcan
      rw [hcv, hvk] at hcan
      simpa [hcv] using hcan
    rw [e]
    have hkn : ∀ x, g.kn x = true → (g.upd i c).kn x = true := fun x hx => by simp [GS.upd, hx]
    have hmono : ∀ x, L x ≤ up L c.a (r + 1) x := fun x => by unfold up; split; exact h.le _; exact Nat.le_refl _
    refine ⟨up L c.a (r + 1), h.inv.upd hc hcan, h.rank.upd h.le hc (by rw [hcv]; exact hvL), fun x => ?_, fun x hx => ?_, fun x hx => ?_, fun j d hd hj => ?_, h.bd.upd hN1 hN2, ?_⟩
    · unfold up; split; exact Nat.le_refl _; exact h.le x
    · obtain ⟨h1, h2, h3, h4⟩ := h.all x hx
      exact ⟨h1, h2, hkn _ h3, Nat.le_trans h4 (hmono _)⟩
    · rcases List.mem_append.1 hx with hx | hx
      · obtain ⟨h1, h2, h3, h4⟩ := h.nx x hx
        refine ⟨h1, h2, hkn _ h3, ?_⟩
        unfold up; split; rfl; exact h4
      · simp only [List.mem_singleton] at hx
        subst hx
        exact ⟨ha0, han, by simp [GS.upd, Con.a], by simp [up, Con.a]⟩
    · obtain ⟨_, _, hdb0, _⟩ := hl d (List.mem_of_getElem? hd)
      by_cases hda : d.b = c.a
      · right; left
        have : d.B = c.A := toNat_inj hdb0 ha0 hda
        simp [this]
      · have hold : g.can d = true := by
          rcases can_of_upd hcan hda hj with h1 | h1
          · exact h1.1
          · exact h1.1
        rcases h.viol j d hd hold with h1 | h1 | ⟨h1, h2⟩
        · exact .inl h1
        · exact .inr (.inl (by simp [h1]))
        · rcases List.mem_cons.1 h2 with rfl | h2
          · rw [hc] at hd
            cases hd
            rcases can_of_upd hcan hda hj with h3 | h3
            · exact absurd rfl h3.2
            · have := h3.2.2; omega
          · exact .inr (.inr ⟨h1, h2⟩)
    · have := h.len
      simp only [List.length_append, List.length_singleton] at this ⊢
      omega
  · have e : relP l (g, nx) i = (g, nx) := by
      unfold relP
      rw [hc]
      simp only
      rw [if_neg]
      unfold GS.can at hcan
      rw [hcv, hvk] at hcan
      simpa [hcv] using hcan
    rw [e]
    refine ⟨L, h.inv, h.rank, h.le, h.all, h.nx, fun j d hd hj => ?_, h.bd.mono (by omega), Nat.le_trans h.len (by omega)⟩
    rcases h.viol j d hd hj with h1 | h1 | ⟨h1, h2⟩
    · exact .inl h1
    · exact .inr (.inl h1)
    · rcases List.mem_cons.1 h2 with rfl | h2
      · rw [hc] at hd
        cases hd
        exact absurd hj hcan
      · exact .inr (.inr ⟨h1, h2⟩)
theorem PM.next {n : Nat} {l : List Con} {bg r all rest t st L} {u : Nat} {v : Int} (hl : OkC n l) (h : PM n l bg r all (v :: rest) u [] t st L) : PM n l bg r all rest v.toNat (fromS l v.toNat) t st L := by
  refine ⟨h.inv, h.rank, h.le, h.all, h.nx, fun i c hc hj => ?_, h.bd, h.len⟩
  rcases h.viol i c hc hj with h1 | h1 | h1
  · rcases List.mem_cons.1 h1 with h1 | h1
    · exact .inr (.inr ⟨by rw [Con.b, h1], mem_fromS.2 ⟨c, hc, by rw [Con.b, h1]⟩⟩)
    · exact .inl h1
  · exact .inr (.inl h1)
  · cases h1.2
/-- Between the rounds. -/
structure PI (n : Nat) (l : List Con) (bg : Nat → Bool) (r : Nat) (todo : List Int) (t : Nat) (g : GS) (L : Nat → Nat) : Prop where
  inv : Inv l bg g
  rank : Rank l g L
  le : ∀ x, L x ≤ r
  old : ∀ x ∈ todo, 0 ≤ x ∧ x < n ∧ g.kn x.toNat = true ∧ L x.toNat = r
  viol : ∀ c ∈ l, g.can c = true → c.B ∈ todo
  bd : Bd t g
theorem PI.start {n l bg r todo t g L} (h : PI n l bg r todo t g L) : PM n l bg r todo todo 0 [] t (g, []) L where
  inv := h.inv
  rank := h.rank
  le x := Nat.le_trans (h.le x) (by omega)
  all x hx := let ⟨a, b, c, d⟩ := h.old x hx; ⟨a, b, c, by omega⟩
  nx x hx := by cases hx
  viol i c hc hj := .inl (h.viol c (List.mem_of_getElem? hc) hj)
  bd := h.bd
  len := by simp
theorem PM.fin {n l bg r all v t st L} (h : PM n l bg r all [] v [] t st L) {todo : List Int} (ht : ∀ x, x ∈ todo ↔ x ∈ st.2) : PI n l bg (r + 1) todo t st.1 L where
  inv := h.inv
  rank := h.rank
  le := h.le
  old x hx := h.nx x ((ht x).1 hx)
  viol c hc hj := by
    obtain ⟨i, hi⟩ := List.getElem?_of_mem hc
    rcases h.viol i c hi hj with h1 | h1 | ⟨_, h1⟩
    · cases h1
    · exact (ht _).2 h1
    · cases h1
  bd := h.bd
theorem PM.done {n l bg r all v t g L} (h : PM n l bg r all [] v [] t (g, []) L) : Fix l g := fun c hc => by
  cases hq : g.can c with
  | false => rfl
  | true =>
    obtain ⟨i, hi⟩ := List.getElem?_of_mem hc
    rcases h.viol i c hi hq with h1 | h1 | ⟨_, h1⟩ <;> cases h1
/-- What a search ends with: nothing is left to do, or a variable that got its value too late. -/
def Outcome (n : Nat) (l : List Con) (bg : Nat → Bool) (t : Nat) (g : GS) (ret : Int) : Prop :=
  Inv l bg g ∧ Bd t g ∧ ((ret = -1 ∧ Fix l g) ∨ (0 ≤ ret ∧ ret < n ∧ ∃ L, Rank l g L ∧ n < L ret.toNat))
theorem PI.zero {n : Nat} {l : List Con} (hl : OkC n l) {bg : Nat → Bool} {todo : List Int} (ht : ∀ x, x ∈ todo ↔ 0 ≤ x ∧ x < n ∧ bg x.toNat = true) : PI n l bg 0 todo 0 (GS.zero bg) (fun _ => 0) where
  inv := .zero l bg
  rank := ⟨fun _ _ _ h => by simp [GS.zero] at h, fun _ _ => rfl⟩
  le _ := Nat.le_refl _
  old x hx := let ⟨a, b, c⟩ := (ht x).1 hx; ⟨a, b, c, rfl⟩
  viol c hc hj := by
    obtain ⟨_, _, h3, h4, _⟩ := hl c hc
    exact (ht _).2 ⟨h3, h4, (GS.can_iff.1 hj).1⟩
  bd := .zero bg
-- the reference: sweeps
def relR (l : List Con) (st : GS × Int) (i : Nat) : GS × Int := match l[i]? with
  | some c => if st.1.can c = true then (st.1.upd i c, c.A) else st
  | none => st
structure SM (n : Nat) (l : List Con) (bg : Nat → Bool) (r i t : Nat) (st : GS × Int) (L : Nat → Nat) : Prop where
  inv : Inv l bg st.1
  rank : Rank l st.1 L
  le : ∀ x, L x ≤ r + 1
  last : (st.2 = -1 ∧ ∀ x, L x ≤ r) ∨ (0 ≤ st.2 ∧ st.2 < n ∧ L st.2.toNat = r + 1)
  viol : ∀ j c, l[j]? = some c → st.1.can c = true → (j < i → L c.b = r + 1) ∧ r ≤ L c.b
  bd : Bd t st.1
theorem SM.step {n : Nat} {l : List Con} {bg r i t st L} {c : Con} (hl : OkC n l) (hc : l[i]? = some c) (h : SM n l bg r i t st L) : ∃ L', SM n l bg r (i + 1) (t + 1) (relR l st i) L' := by
  obtain ⟨g, last⟩ := st
  obtain ⟨ha0, han, hb0, hbn, hN1, hN2⟩ := hl c (List.mem_of_getElem? hc)
  by_cases hcan : g.can c = true
  · have e : relR l (g, last) i = (g.upd i c, c.A) := by
      unfold relR
      rw [hc]
      simp [hcan]
    rw [e]
    have hmono : ∀ x, L x ≤ up L c.a (r + 1) x := fun x => by unfold up; split; exact h.le _; exact Nat.le_refl _
    refine ⟨up L c.a (r + 1), h.inv.upd hc hcan, h.rank.upd h.le hc (h.viol i c hc hcan).2, fun x => ?_, .inr ⟨ha0, han, by simp [up, Con.a]⟩, fun j d hd hj => ?_, h.bd.upd hN1 hN2⟩
    · unfold up; split; exact Nat.le_refl _; exact h.le x
    · by_cases hda : d.b = c.a
      · have e2 : up L c.a (r + 1) d.b = r + 1 := by simp [up, hda]
        rw [e2]
        exact ⟨fun _ => rfl, by omega⟩
      · have hold : g.can d = true := by
          rcases can_of_upd hcan hda hj with h1 | h1
          · exact h1.1
          · exact h1.1
        obtain ⟨h1, h2⟩ := h.viol j d hd hold
        have e2 : up L c.a (r + 1) d.b = L d.b := by simp [up, hda]
        rw [e2]
        refine ⟨fun hji => ?_, h2⟩
        by_cases hji2 : j < i
        · exact h1 hji2
        · obtain rfl : j = i := by omega
          rw [hc] at hd
          cases hd
          rcases can_of_upd hcan hda hj with h3 | h3
          · exact absurd rfl h3.2
          · have := h3.2.2; omega
  · have e : relR l (g, last) i = (g, last) := by
      unfold relR
      rw [hc]
      simp [hcan]
    rw [e]
    refine ⟨L, h.inv, h.rank, h.le, h.last, fun j d hd hj => ?_, h.bd.mono (by omega)⟩
    obtain ⟨h1, h2⟩ := h.viol j d hd hj
    refine ⟨fun hji => ?_, h2⟩
    by_cases hji2 : j < i
    · exact h1 hji2
    · obtain rfl : j = i := by omega
      rw [hc] at hd
      cases hd
      exact absurd hj hcan
structure SI (n : Nat) (l : List Con) (bg : Nat → Bool) (r t : Nat) (g : GS) (L : Nat → Nat) : Prop where
  inv : Inv l bg g
  rank : Rank l g L
  le : ∀ x, L x ≤ r
  viol : ∀ c ∈ l, g.can c = true → r ≤ L c.b
  bd : Bd t g
theorem SI.zero {n : Nat} {l : List Con} (bg : Nat → Bool) : SI n l bg 0 0 (GS.zero bg) (fun _ => 0) :=
  ⟨.zero l bg, ⟨fun _ _ _ h => by simp [GS.zero] at h, fun _ _ => rfl⟩, fun _ => Nat.le_refl _, fun _ _ _ => Nat.le_refl _, .zero bg⟩
theorem SI.start {n l bg r t g L} (h : SI n l bg r t g L) : SM n l bg r 0 t (g, -1) L :=
  ⟨h.inv, h.rank, fun x => Nat.le_trans (h.le x) (by omega), .inl ⟨rfl, h.le⟩, fun j c hc hj => ⟨fun hh => absurd hh (by omega), h.viol c (List.mem_of_getElem? hc) hj⟩, h.bd⟩
theorem SM.fin {n l bg r t st L} (h : SM n l bg r l.length t st L) : SI n l bg (r + 1) t st.1 L :=
  ⟨h.inv, h.rank, h.le, fun c hc hj => by
    obtain ⟨i, hi⟩ := List.getElem?_of_mem hc
    have := (h.viol i c hi hj).1 (List.getElem?_eq_some_iff.1 hi).1
    omega, h.bd⟩
theorem SM.out {n l bg r t st L} (h : SM n l bg r l.length t st L) (hr : n ≤ r) : Outcome n l bg t st.1 st.2 := by
  refine ⟨h.inv, h.bd, ?_⟩
  rcases h.last with ⟨h1, h2⟩ | ⟨h1, h2, h3⟩
  · left
    refine ⟨h1, fun c hc => ?_⟩
    cases hq : st.1.can c with
    | false => rfl
    | true =>
      obtain ⟨i, hi⟩ := List.getElem?_of_mem hc
      have := (h.viol i c hi hq).1 (List.getElem?_eq_some_iff.1 hi).1
      have := h2 c.b
      omega
  · right
    exact ⟨h1, h2, L, h.rank, by omega⟩
theorem SM.fix {n l bg r t st L} (h : SM n l bg r l.length t st L) (h1 : st.2 < 0) : st.2 = -1 ∧ Fix l st.1 := by
  rcases h.last with ⟨h1, h2⟩ | ⟨h2, _⟩
  · refine ⟨h1, fun c hc => ?_⟩
    cases hq : st.1.can c with
    | false => rfl
    | true =>
      obtain ⟨i, hi⟩ := List.getElem?_of_mem hc
      have := (h.viol i c hi hq).1 (List.getElem?_eq_some_iff.1 hi).1
      have := h2 c.b
      omega
  · omega
end Go.Proofs.Ytdkadmchdocjbaa
