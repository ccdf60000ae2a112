/- Layer 26, plain: what moving does: sums, who is used up, who pays alike. -/
import Derived.Test.YtjmddlekokodfaaBi
set_option linter.all false
set_option maxRecDepth 100000
set_option maxHeartbeats 8000000
set_option linter.all false
namespace Go.Proofs.Ytjmddlekokodfaa
open Go Go.VL
theorem lst_sum_add (n : Nat) (f g : Nat → Int) : (lst n fun i => f i + g i).sum = (lst n f).sum + (lst n g).sum := by
  induction n with
  | zero => simp [lst]
  | succ n ih => rw [lst_snoc, lst_snoc, lst_snoc]; simp only [List.sum_append, List.sum_cons, List.sum_nil, ih]; omega
theorem lst_sum_one (n j : Nat) (p : Int) (hj : j < n) : (lst n fun i => if i = j then p else 0).sum = p := by
  induction n with
  | zero => omega
  | succ n ih =>
    rw [lst_snoc]
    simp only [List.sum_append, List.sum_cons, List.sum_nil]
    by_cases h : j = n
    · subst h
      have : lst j (fun i => if i = j then p else 0) = lst j fun _ => 0 := lst_ext fun i hi => by rw [if_neg (by omega)]
      rw [this, ← lst_rep]; simp
    · rw [ih (by omega), if_neg (by omega)]; omega
theorem lst_sum_zero (n : Nat) : (lst n fun _ => 0).sum = 0 := by rw [← lst_rep]; simp
theorem pf_sum (n : Nat) : ∀ (lv : List Nat) (ps : List Int), (∀ i ∈ lv, i < n) → lv.length = ps.length → (lst n (pf lv ps)).sum = ps.sum
  | [], [], _, _ => by
    rw [show lst n (pf [] []) = lst n fun _ => 0 from lst_ext fun i _ => rfl, lst_sum_zero]; rfl
  | j :: lv, p :: ps, h, hl => by
    have e : lst n (pf (j :: lv) (p :: ps)) = lst n fun i => (if i = j then p else 0) + pf lv ps i := lst_ext fun i _ => rfl
    rw [e, lst_sum_add n (fun i => if i = j then p else 0) (pf lv ps), lst_sum_one n j p (h j (by simp)), pf_sum n lv ps (fun i hi => h i (by simp [hi])) (by simpa using hl), List.sum_cons]
  | [], _ :: _, _, h => by simp at h
  | _ :: _, [], _, h => by simp at h
theorem payQ_sum {n : Nat} {M : Nat → Int} {level : List Nat} (hl : ∀ i ∈ level, i < n) (a : Int) : (lst n (payQ level M a)).sum = a - payLeft level M a := by
  have := pf_sum n level (payL level M a) hl (by rw [payL, paysL_len]; simp [vsOf])
  rw [payLeft]
  show (lst n (pf level (payL level M a))).sum = _
  rw [this]; omega
theorem goL_sum {n : Nat} : ∀ {ls : List (List Nat)} {M : Nat → Int} {a : Int}, OkL n ls → (lst n (goL ls M a).1).sum + (goL ls M a).2 = a
  | [], M, a, _ => by simp only [goL]; rw [lst_sum_zero]; omega
  | l :: ls, M, a, h => by
    have h1 := payQ_sum (M := M) (h.lt l (by simp)) a
    have h2 := goL_sum (M := fun j => M j - payQ l M a j) (a := payLeft l M a) h.tail
    simp only [goL]
    rw [lst_sum_add]
    omega
theorem goL_out : ∀ {ls : List (List Nat)} {M : Nat → Int} {a : Int} {i : Nat}, (∀ l ∈ ls, i ∉ l) → (goL ls M a).1 i = 0
  | [], _, _, _, _ => rfl
  | l :: ls, M, a, i, h => by
    simp only [goL]
    rw [payQ_out (h l (by simp)), goL_out fun m hm => h m (by simp [hm])]; rfl
/-- If something is left, a level is used up. -/
theorem pay_used {n : Nat} {M : Nat → Int} (h : OkM n M) {level : List Nat} (hl : ∀ i ∈ level, i < n) (hd : level.Nodup) {a : Int} (ha : 0 ≤ a) (hp : 0 < payLeft level M a) {i : Nat} (hi : i ∈ level) : payQ level M a i = M i := by
  have hv := vs_ok h hl
  have hh := hgt_ok hv ha
  have hs := paysL_sum (vsOf level M) (hgt (vsOf level M) a) (a - below (vsOf level M) (hgt (vsOf level M) a)) (by have := hh.2.2.1; omega)
  have hs : (payL level M a).sum = below (vsOf level M) (hgt (vsOf level M) a) + min (a - below (vsOf level M) (hgt (vsOf level M) a)) (over (vsOf level M) (hgt (vsOf level M) a)) := hs
  unfold payLeft at hp
  rcases over_le _ _ _ hh (fun v hx => (hv v hx).2) with ⟨h1, h2⟩ | ⟨h1, h2, h3⟩
  · omega
  · have hM := h.hi i (hl i hi)
    rcases payQ_get h hl hd ha hi with h4 | ⟨h4, h5⟩ <;> omega
theorem goL_used {n : Nat} : ∀ {ls : List (List Nat)} {M : Nat → Int} {a : Int}, OkL n ls → OkM n M → 0 ≤ a → 0 < (goL ls M a).2 → ∀ l ∈ ls, ∀ i ∈ l, (goL ls M a).1 i = M i
  | [], _, _, _, _, _, _, l, hl, _, _ => by simp at hl
  | m :: ls, M, a, h, hM, ha, hp, l, hl, i, hi => by
    have h1 := h.lt m (by simp)
    have h2 := h.nd m (by simp)
    have h3 := payLeft_range hM h1 ha
    have h4 := goL_range h.tail (payM_ok hM h1 h2 ha) h3.1
    simp only [goL] at hp ⊢
    have hap := (List.pairwise_cons.1 h.ap).1
    rcases List.mem_cons.1 hl with rfl | hl
    · rw [goL_out (fun b hb => hap b hb i hi), pay_used hM h1 h2 ha (by omega) hi]; omega
    · have h5 := goL_used h.tail (payM_ok hM h1 h2 ha) h3.1 hp l hl i hi
      rw [h5]; omega
/-- Who pays in a later level pays when the earlier ones are used up. -/
theorem goL_later {n : Nat} : ∀ {ls : List (List Nat)} {M : Nat → Int} {a : Int}, OkL n ls → OkM n M → 0 ≤ a → ∀ (x y : Nat) (l m : List Nat) (i k : Nat), x < y → ls[x]? = some l → ls[y]? = some m → k ∈ l → i ∈ m → 0 < (goL ls M a).1 i → (goL ls M a).1 k = M k
  | [], _, _, _, _, _, x, y, l, m, i, k, _, hx, _, _, _, _ => by simp at hx
  | b :: ls, M, a, h, hM, ha, x, y, l, m, i, k, hxy, hx, hy, hk, hi, hp => by
    have h1 := h.lt b (by simp)
    have h2 := h.nd b (by simp)
    have h3 := payLeft_range hM h1 ha
    have hap := (List.pairwise_cons.1 h.ap).1
    obtain ⟨y', rfl⟩ : ∃ y', y = y' + 1 := ⟨y - 1, by omega⟩
    have hy : ls[y']? = some m := by simpa using hy
    have hmm := List.mem_of_getElem? hy
    have hib : i ∉ b := fun hib => hap m hmm i hib hi
    simp only [goL] at hp ⊢
    rw [payQ_out hib] at hp
    have hp : 0 < (goL ls (fun j => M j - payQ b M a j) (payLeft b M a)).1 i := by omega
    cases x with
    | zero =>
      simp at hx
      subst hx
      have hpos : 0 < payLeft b M a := by
        rcases Int.lt_or_eq_of_le h3.1 with h5 | h5
        · exact h5
        · rw [← h5] at hp
          have h6 := (goL_zero h.tail (payM_ok hM h1 h2 ha)).1 i (h.tail.lt m hmm i hi)
          omega
      rw [goL_out (fun c hc => hap c hc k hk), pay_used hM h1 h2 ha hpos hk]; omega
    | succ x =>
      have hx : ls[x]? = some l := by simpa using hx
      have h5 := goL_later h.tail (payM_ok hM h1 h2 ha) h3.1 x y' l m i k (by omega) hx hy hk hi hp
      rw [h5]; omega
/-- In one level nobody pays less by more than one coin, but who is used up. -/
theorem goL_fair {n : Nat} : ∀ {ls : List (List Nat)} {M : Nat → Int} {a : Int}, OkL n ls → OkM n M → 0 ≤ a → ∀ l ∈ ls, ∀ i ∈ l, ∀ k ∈ l, (goL ls M a).1 i < (goL ls M a).1 k - 1 → (goL ls M a).1 i = M i
  | [], _, _, _, _, _, l, hl, _, _, _, _ => by simp at hl
  | b :: ls, M, a, h, hM, ha, l, hl, i, hi, k, hk => by
    have h1 := h.lt b (by simp)
    have h2 := h.nd b (by simp)
    have h3 := payLeft_range hM h1 ha
    have hap := (List.pairwise_cons.1 h.ap).1
    simp only [goL]
    rcases List.mem_cons.1 hl with rfl | hl
    · rw [goL_out (fun c hc => hap c hc i hi), goL_out (fun c hc => hap c hc k hk)]
      intro hp
      rcases payQ_get hM h1 h2 ha hi with h4 | ⟨h4, h5⟩ <;> rcases payQ_get hM h1 h2 ha hk with h6 | ⟨h6, h7⟩ <;> omega
    · have hib : i ∉ b := fun hib => hap l hl i hib hi
      have hkb : k ∉ b := fun hkb => hap l hl k hkb hk
      rw [payQ_out hib, payQ_out hkb]
      intro hp
      have h5 := goL_fair h.tail (payM_ok hM h1 h2 ha) h3.1 l hl i hi k hk (by omega)
      rw [h5, payQ_out hib]; omega
/-- Means only become less. -/
theorem meansAt_le {n : Nat} {B : List (List Int)} {D M0 : Nat → Int} (hM : OkM n M0) (hD : ∀ d, d < n → 0 ≤ D d) {i : Nat} (hi : i < n) : ∀ k j, j ≤ k → k ≤ n → meansAt n B D M0 k i ≤ meansAt n B D M0 j i := by
  intro k j hjk
  induction hjk with
  | refl => intro _; exact Int.le_refl _
  | step h ih =>
    rename_i m
    intro hm
    have h1 := ih (by omega)
    have h2 := (goL_range (levelsOf_ok n B m) (meansAt_ok (B := B) hM hD m (by omega)) (hD m (by omega))).1 i hi
    simp only [meansAt]
    omega
end Go.Proofs.Ytjmddlekokodfaa
