/- Layer 26, plain: levels, and what moving does. -/
import Derived.Test.YtjmddlekokodfaaBc
set_option linter.all false
set_option maxRecDepth 100000
set_option maxHeartbeats 8000000
set_option linter.all false
namespace Go.Proofs.Ytjmddlekokodfaa
open Go Go.VL
def lst (n : Nat) (f : Nat → Int) : List Int := (List.range n).map f
theorem lst_len (n : Nat) (f : Nat → Int) : (lst n f).length = n := by simp [lst]
theorem lst_get {n : Nat} (f : Nat → Int) {i : Nat} (h : i < n) : (lst n f)[i]? = some (f i) := by simp [lst, h]
theorem lst_getE (n : Nat) (f : Nat → Int) (i : Nat) (h : i < (lst n f).length) : (lst n f)[i] = f i := by simp [lst]
theorem lst_set (n : Nat) (f : Nat → Int) (i : Nat) (x : Int) : (lst n f).set i x = lst n (fun j => if j = i then x else f j) := by
  apply List.ext_getElem?
  intro j
  simp only [lst, List.getElem?_set, List.length_map, List.length_range, List.getElem?_map]
  by_cases hj : i = j
  · subst hj
    by_cases hi : i < n <;> simp [hi]
  · rw [if_neg hj]
    by_cases hj2 : j < n
    · simp [hj2, Ne.symm hj]
    · simp [hj2]
theorem lst_ext {n : Nat} {f g : Nat → Int} (h : ∀ i, i < n → f i = g i) : lst n f = lst n g := by
  unfold lst
  exact List.map_congr_left fun i hi => h i (List.mem_range.1 hi)
theorem lst_mem {n : Nat} {f : Nat → Int} {x : Int} (h : x ∈ lst n f) : ∃ i, i < n ∧ x = f i := by
  obtain ⟨i, hi, e⟩ := List.mem_map.1 h
  exact ⟨i, List.mem_range.1 hi, e.symm⟩
theorem lst_self (l : List Int) : lst l.length (fun i => l.getD i 0) = l := by
  apply List.ext_getElem?
  intro j
  by_cases hj : j < l.length
  · rw [lst_get _ hj]; simp [hj]
  · simp [lst, hj]
theorem lst_rep (n : Nat) : List.replicate n (0 : Int) = lst n fun _ => 0 := by
  apply List.ext_getElem?
  intro j
  by_cases hj : j < n <;> simp [lst, hj]
/-- Rows of a matrix, each an object of its own. -/
def rowsOb (t n : Nat) (P : Nat → Nat → Int) (k : Nat) : List Ob := (List.range k).map fun i => .vec t 1 (intR (lst n (P i)))
theorem rowsOb_len (t n P k) : (rowsOb t n P k).length = k := by simp [rowsOb]
theorem rowsOb_get (t n P) {k i : Nat} (h : i < k) : (rowsOb t n P k)[i]? = some (.vec t 1 (intR (lst n (P i)))) := by simp [rowsOb, h]
theorem rowsOb_set (t n P) (k i : Nat) (q : Nat → Int) : (rowsOb t n P k).set i (.vec t 1 (intR (lst n q))) = rowsOb t n (fun j => if j = i then q else P j) k := by
  apply List.ext_getElem?
  intro j
  simp only [rowsOb, List.getElem?_set, List.length_map, List.length_range, List.getElem?_map]
  by_cases hj : i = j
  · subst hj
    by_cases hi : i < k <;> simp [hi]
  · rw [if_neg hj]
    by_cases hj2 : j < k
    · simp [hj2, Ne.symm hj]
    · simp [hj2]
theorem rowsOb_snoc (t n P k) : rowsOb t n P (k + 1) = rowsOb t n P k ++ [.vec t 1 (intR (lst n (P k)))] := by simp [rowsOb, List.range_succ]
theorem rowsOb_ext {t n k : Nat} {P Q : Nat → Nat → Int} (h : ∀ i, i < k → ∀ j, j < n → P i j = Q i j) : rowsOb t n P k = rowsOb t n Q k := by
  unfold rowsOb
  exact List.map_congr_left fun i hi => by rw [lst_ext (h i (List.mem_range.1 hi))]
theorem rowsOb_pure (t n P k) : famPure (rowsOb t n P k) = True := eq_true fun o ho => by
  obtain ⟨i, _, rfl⟩ := List.mem_map.1 ho
  exact ⟨_, _, _, rfl, pure_intR _⟩
-- levels
def reach (B : List (List Int)) (last : List Nat) (i : Nat) : Bool := last.any fun j => decide ((i : Int) ∈ B.getD j [])
def nextR (n : Nat) (B : List (List Int)) (seen last : List Nat) : List Nat := (List.range n).filter fun i => !decide (i ∈ seen) && reach B last i
theorem mem_nextR {n B seen last i} : i ∈ nextR n B seen last ↔ i < n ∧ i ∉ seen ∧ ∃ j ∈ last, (i : Int) ∈ B.getD j [] := by
  simp [nextR, reach]
theorem nextR_nodup (n B seen last) : (nextR n B seen last).Nodup := List.Nodup.sublist List.filter_sublist List.nodup_range
theorem nextR_sorted (n B seen last) : (nextR n B seen last).Pairwise (· < ·) := List.Pairwise.sublist List.filter_sublist List.pairwise_lt_range
def lvls (n : Nat) (B : List (List Int)) : Nat → List Nat → List Nat → List (List Nat)
  | 0, _, _ => []
  | f + 1, seen, last => if nextR n B seen last = [] then [] else nextR n B seen last :: lvls n B f (seen ++ nextR n B seen last) (nextR n B seen last)
def levelsOf (n : Nat) (B : List (List Int)) (d : Nat) : List (List Nat) := lvls n B n [d] [d]
theorem nextR_disj {n B seen last i} (h : i ∈ nextR n B seen last) : i ∉ seen := (mem_nextR.1 h).2.1
theorem seen_len {n : Nat} {seen : List Nat} (hd : seen.Nodup) (hs : ∀ i ∈ seen, i < n) : seen.length ≤ n := by
  have := List.Nodup.length_le_of_subset hd (l₂ := List.range n) fun i hi => List.mem_range.2 (hs i hi)
  simpa using this
theorem seen_next {n : Nat} {B seen last} (hd : seen.Nodup) (hs : ∀ i ∈ seen, i < n) : (seen ++ nextR n B seen last).Nodup ∧ ∀ i ∈ seen ++ nextR n B seen last, i < n := by
  refine ⟨List.nodup_append.2 ⟨hd, nextR_nodup _ _ _ _, fun x hx y hy e => nextR_disj hy (e ▸ hx)⟩, fun i hi => ?_⟩
  rcases List.mem_append.1 hi with h | h
  · exact hs i h
  · exact (mem_nextR.1 h).1
-- what members pay
def pf : List Nat → List Int → Nat → Int
  | j :: lv, p :: ps, i => (if i = j then p else 0) + pf lv ps i
  | _, _, _ => 0
theorem pf_nil (ps : List Int) (i : Nat) : pf [] ps i = 0 := by cases ps <;> rfl
theorem pf_snoc : ∀ (lv : List Nat) (ps : List Int) (j : Nat) (p : Int) (i : Nat), lv.length = ps.length → pf (lv ++ [j]) (ps ++ [p]) i = pf lv ps i + if i = j then p else 0
  | [], [], j, p, i, _ => by simp [pf]
  | k :: lv, q :: ps, j, p, i, h => by
    simp only [List.cons_append, pf]
    rw [pf_snoc lv ps j p i (by simpa using h)]; omega
  | [], _ :: _, _, _, _, h => by simp at h
  | _ :: _, [], _, _, _, h => by simp at h
theorem pf_out : ∀ (lv : List Nat) (ps : List Int) (i : Nat), i ∉ lv → pf lv ps i = 0
  | [], ps, i, _ => pf_nil ps i
  | j :: lv, [], i, _ => rfl
  | j :: lv, p :: ps, i, h => by
    simp only [List.mem_cons, not_or] at h
    simp only [pf]
    rw [if_neg h.1, pf_out lv ps i h.2]; rfl
theorem pf_in : ∀ (lv : List Nat) (ps : List Int) (k i : Nat) (p : Int), lv.Nodup → lv[k]? = some i → ps[k]? = some p → pf lv ps i = p
  | [], _, k, _, _, _, h, _ => by simp at h
  | _ :: _, [], k, _, _, _, _, h => by simp at h
  | j :: lv, q :: ps, 0, i, p, hd, h1, h2 => by
    simp at h1 h2; subst h1; subst h2
    simp only [pf, if_true]
    rw [pf_out lv ps _ (List.nodup_cons.1 hd).1]; omega
  | j :: lv, q :: ps, k + 1, i, p, hd, h1, h2 => by
    have h1 : lv[k]? = some i := by simpa using h1
    have h2 : ps[k]? = some p := by simpa using h2
    have hd := List.nodup_cons.1 hd
    simp only [pf]
    have hij : ¬ i = j := fun e => hd.1 (by subst e; exact List.mem_of_getElem? h1)
    rw [if_neg hij, pf_in lv ps k i p hd.2 h1 h2]; omega
theorem pf_add : ∀ (lv : List Nat) (ps qs : List Int) (i : Nat), ps.length = qs.length → pf lv (List.zipWith (· + ·) ps qs) i = pf lv ps i + pf lv qs i
  | [], ps, qs, i, _ => by simp [pf_nil]
  | j :: lv, [], [], i, _ => rfl
  | j :: lv, p :: ps, q :: qs, i, h => by
    simp only [List.zipWith_cons_cons, pf]
    rw [pf_add lv ps qs i (by simpa using h)]
    split <;> omega
  | _ :: _, [], _ :: _, _, h => by simp at h
  | _ :: _, _ :: _, [], _, h => by simp at h
def vsOf (level : List Nat) (M : Nat → Int) : List Int := level.map M
def payL (level : List Nat) (M : Nat → Int) (a : Int) : List Int := paysL (vsOf level M) (hgt (vsOf level M) a) (a - below (vsOf level M) (hgt (vsOf level M) a))
def payQ (level : List Nat) (M : Nat → Int) (a : Int) : Nat → Int := pf level (payL level M a)
def payLeft (level : List Nat) (M : Nat → Int) (a : Int) : Int := a - (payL level M a).sum
def goL : List (List Nat) → (Nat → Int) → Int → (Nat → Int) × Int
  | [], _, a => (fun _ => 0, a)
  | l :: ls, M, a => (fun i => payQ l M a i + (goL ls (fun j => M j - payQ l M a j) (payLeft l M a)).1 i, (goL ls (fun j => M j - payQ l M a j) (payLeft l M a)).2)
def meansAt (n : Nat) (B : List (List Int)) (D M0 : Nat → Int) : Nat → Nat → Int
  | 0 => M0
  | k + 1 => fun i => meansAt n B D M0 k i - (goL (levelsOf n B k) (meansAt n B D M0 k) (D k)).1 i
def paidAt (n : Nat) (B : List (List Int)) (D M0 : Nat → Int) (i d : Nat) : Int := (goL (levelsOf n B d) (meansAt n B D M0 d) (D d)).1 i
def leftAt (n : Nat) (B : List (List Int)) (D M0 : Nat → Int) (d : Nat) : Int := (goL (levelsOf n B d) (meansAt n B D M0 d) (D d)).2
/-- What is paid, as far as the debtor d. -/
def paidTo (n : Nat) (B : List (List Int)) (D M0 : Nat → Int) (k i d : Nat) : Int := if d < k then paidAt n B D M0 i d else 0
def leftTo (n : Nat) (B : List (List Int)) (D M0 : Nat → Int) (k d : Nat) : Int := if d < k then leftAt n B D M0 d else D d
-- what a level pays, in bounds
structure OkM (n : Nat) (M : Nat → Int) : Prop where
  lo : ∀ i, i < n → 0 ≤ M i
  hi : ∀ i, i < n → M i ≤ maxC
theorem vs_ok {n : Nat} {M : Nat → Int} (h : OkM n M) {level : List Nat} (hl : ∀ i ∈ level, i < n) : ∀ v ∈ vsOf level M, 0 ≤ v ∧ v ≤ maxC := fun v hv => by
  obtain ⟨i, hi, rfl⟩ := List.mem_map.1 hv
  exact ⟨h.lo i (hl i hi), h.hi i (hl i hi)⟩
theorem over_le (vs : List Int) (a h : Int) (hh : IsH vs a h) (hv : ∀ v ∈ vs, v ≤ maxC) : (min (a - below vs h) (over vs h) = a - below vs h ∧ h < maxC) ∨ (min (a - below vs h) (over vs h) = 0 ∧ h = maxC ∧ below vs h = vs.sum) := by
  obtain ⟨h1, h2, h3, h4⟩ := hh
  by_cases he : h = maxC
  · right
    have h5 := below_all (h := h) (fun v hx => by have := hv v hx; omega)
    have h6 := below_all (h := h + 1) (fun v hx => by have := hv v hx; omega)
    refine ⟨?_, he, h5⟩
    unfold over
    omega
  · left
    refine ⟨?_, by omega⟩
    unfold over
    omega
/-- What a level pays: the amount, or all that it has. -/
theorem payL_sum {n : Nat} {M : Nat → Int} (h : OkM n M) {level : List Nat} (hl : ∀ i ∈ level, i < n) {a : Int} (ha : 0 ≤ a) : (payL level M a).sum = min a (vsOf level M).sum := by
  have hv := vs_ok h hl
  have hh := hgt_ok hv ha
  have hs := paysL_sum (vsOf level M) (hgt (vsOf level M) a) (a - below (vsOf level M) (hgt (vsOf level M) a)) (by have := hh.2.2.1; omega)
  have hb := below_le_sum (vs := vsOf level M) (h := hgt (vsOf level M) a + 1)
  unfold payL
  rw [hs]
  rcases over_le _ _ _ hh (fun v hx => (hv v hx).2) with ⟨h1, h2⟩ | ⟨h1, h2, h3⟩
  · rw [h1]
    obtain ⟨_, _, h3, h4⟩ := hh
    omega
  · rw [h1]
    obtain ⟨_, _, h4, _⟩ := hh
    omega
theorem payLeft_eq {n : Nat} {M : Nat → Int} (h : OkM n M) {level : List Nat} (hl : ∀ i ∈ level, i < n) {a : Int} (ha : 0 ≤ a) : payLeft level M a = a - min a (vsOf level M).sum := by rw [payLeft, payL_sum h hl ha]
/-- What one member of a level pays. -/
theorem payQ_get {n : Nat} {M : Nat → Int} (h : OkM n M) {level : List Nat} (hl : ∀ i ∈ level, i < n) (hd : level.Nodup) {a : Int} (ha : 0 ≤ a) {i : Nat} (hi : i ∈ level) :
    payQ level M a i = min (M i) (hgt (vsOf level M) a) ∨ (payQ level M a i = hgt (vsOf level M) a + 1 ∧ hgt (vsOf level M) a < M i) := by
  obtain ⟨k, hk, e⟩ := List.mem_iff_getElem.1 hi
  have hk1 : level[k]? = some i := by rw [List.getElem?_eq_getElem hk, e]
  have hk2 : (vsOf level M)[k]? = some (M i) := by simp [vsOf, hk1]
  have hh := hgt_ok (vs_ok h hl) ha
  obtain ⟨p, hp1, hp2⟩ := paysL_get (h := hgt (vsOf level M) a) (m := a - below (vsOf level M) (hgt (vsOf level M) a)) (by have := hh.2.2.1; omega) hk2
  have hpi : payQ level M a i = p := pf_in level _ k i p hd hk1 hp1
  rw [hpi]
  exact hp2
theorem payQ_out {level : List Nat} {M : Nat → Int} {a : Int} {i : Nat} (hi : i ∉ level) : payQ level M a i = 0 := pf_out _ _ _ hi
theorem payQ_range {n : Nat} {M : Nat → Int} (h : OkM n M) {level : List Nat} (hl : ∀ i ∈ level, i < n) (hd : level.Nodup) {a : Int} (ha : 0 ≤ a) {i : Nat} (hi : i < n) : 0 ≤ payQ level M a i ∧ payQ level M a i ≤ M i := by
  have h0 := h.lo i hi
  by_cases hm : i ∈ level
  · have hh := (hgt_ok (vs_ok h hl) ha).1
    rcases payQ_get h hl hd ha hm with h1 | ⟨h1, h2⟩ <;> omega
  · rw [payQ_out hm]; omega
theorem payM_ok {n : Nat} {M : Nat → Int} (h : OkM n M) {level : List Nat} (hl : ∀ i ∈ level, i < n) (hd : level.Nodup) {a : Int} (ha : 0 ≤ a) : OkM n fun j => M j - payQ level M a j := by
  refine ⟨fun i hi => ?_, fun i hi => ?_⟩ <;> have h1 := payQ_range h hl hd ha hi <;> have h2 := h.hi i hi <;> omega
theorem sum_vs_nonneg {n : Nat} {M : Nat → Int} (h : OkM n M) {level : List Nat} (hl : ∀ i ∈ level, i < n) : 0 ≤ (vsOf level M).sum := sum_nonneg fun v hv => (vs_ok h hl v hv).1
theorem payLeft_range {n : Nat} {M : Nat → Int} (h : OkM n M) {level : List Nat} (hl : ∀ i ∈ level, i < n) {a : Int} (ha : 0 ≤ a) : 0 ≤ payLeft level M a ∧ payLeft level M a ≤ a := by
  rw [payLeft_eq h hl ha]
  have := sum_vs_nonneg h hl
  omega
/-- Levels: without twins, below n, apart. -/
structure OkL (n : Nat) (ls : List (List Nat)) : Prop where
  lt : ∀ l ∈ ls, ∀ i ∈ l, i < n
  nd : ∀ l ∈ ls, l.Nodup
  ap : ls.Pairwise fun a b => ∀ i ∈ a, i ∉ b
theorem lvls_ok (n : Nat) (B : List (List Int)) : ∀ (f : Nat) (seen last : List Nat), OkL n (lvls n B f seen last) ∧ ∀ l ∈ lvls n B f seen last, ∀ i ∈ l, i ∉ seen
  | 0, _, _ => ⟨⟨by simp [lvls], by simp [lvls], by simp [lvls]⟩, by simp [lvls]⟩
  | f + 1, seen, last => by
    unfold lvls
    split
    · exact ⟨⟨by simp, by simp, by simp⟩, by simp⟩
    · obtain ⟨⟨h1, h2, h3⟩, h4⟩ := lvls_ok n B f (seen ++ nextR n B seen last) (nextR n B seen last)
      refine ⟨⟨fun l hl i hi => ?_, fun l hl => ?_, List.pairwise_cons.2 ⟨fun b hb i hi hib => ?_, h3⟩⟩, fun l hl i hi => ?_⟩
      · rcases List.mem_cons.1 hl with rfl | hl
        · exact (mem_nextR.1 hi).1
        · exact h1 l hl i hi
      · rcases List.mem_cons.1 hl with rfl | hl
        · exact nextR_nodup _ _ _ _
        · exact h2 l hl
      · exact h4 b hb i hib (List.mem_append.2 (.inr hi))
      · rcases List.mem_cons.1 hl with rfl | hl
        · exact nextR_disj hi
        · exact fun hs => h4 l hl i hi (List.mem_append.2 (.inl hs))
theorem levelsOf_ok (n : Nat) (B : List (List Int)) (d : Nat) : OkL n (levelsOf n B d) := (lvls_ok n B n [d] [d]).1
theorem OkL.tail {n l ls} (h : OkL n (l :: ls)) : OkL n ls := ⟨fun a ha => h.lt a (by simp [ha]), fun a ha => h.nd a (by simp [ha]), (List.pairwise_cons.1 h.ap).2⟩
theorem goL_range {n : Nat} : ∀ {ls : List (List Nat)} {M : Nat → Int} {a : Int}, OkL n ls → OkM n M → 0 ≤ a → (∀ i, i < n → 0 ≤ (goL ls M a).1 i ∧ (goL ls M a).1 i ≤ M i) ∧ 0 ≤ (goL ls M a).2 ∧ (goL ls M a).2 ≤ a
  | [], M, a, _, hM, ha => by
    simp only [goL]
    exact ⟨fun i hi => ⟨Int.le_refl _, hM.lo i hi⟩, ha, Int.le_refl _⟩
  | l :: ls, M, a, hL, hM, ha => by
    have h1 := hL.lt l (by simp)
    have h2 := hL.nd l (by simp)
    have h3 := payLeft_range hM h1 ha
    obtain ⟨r1, r2, r3⟩ := goL_range (a := payLeft l M a) hL.tail (payM_ok hM h1 h2 ha) h3.1
    simp only [goL]
    refine ⟨fun i hi => ?_, r2, by omega⟩
    have h4 := payQ_range hM h1 h2 ha hi
    have h5 := r1 i hi
    omega
theorem meansAt_ok {n : Nat} {B : List (List Int)} {D M0 : Nat → Int} (hM : OkM n M0) (hD : ∀ d, d < n → 0 ≤ D d) : ∀ k, k ≤ n → OkM n (meansAt n B D M0 k)
  | 0, _ => hM
  | k + 1, hk => by
    have ih := meansAt_ok (B := B) hM hD k (by omega)
    have hg := (goL_range (levelsOf_ok n B k) ih (hD k (by omega))).1
    refine ⟨fun i hi => ?_, fun i hi => ?_⟩ <;> have h1 := hg i hi <;> have h2 := ih.hi i hi <;> simp only [meansAt] <;> omega
end Go.Proofs.Ytjmddlekokodfaa
