/- The calculus of values: places, parts, lengths; all operations that leave the memory as it is, under one name. -/
import Derived.Test.YtblmompdcammeaaVLc
set_option linter.all false
namespace Go.VL
open Go

def fieldAddrD (P : Program) (t : TypeId) (x : D) (f : Nat) (ret : D → Prop) : Prop :=
  match fldAt P t f with
  | none => False
  | some (off, _, _) => match x with
    | .u (.row cells o) => ret (.u (.row cells (o + off)))
    | .ptr i o => ret (.ptr i (o + off))
    | .elt i sz idx o => ret (.elt i sz idx (o + off))
    | _ => False
theorem fldAt_some {P : Program} {t f off n l} (h : fldAt P t f = some (off, n, l)) :
    ∃ fs fd, P.underlying t = some (.struct fs) ∧ fs[f]? = some fd ∧ fd.offset = off ∧ 0 < n ∧ tsz P fd.type = some n ∧ ldSz P fd.type = some l := by
  unfold fldAt at h
  split at h
  · rename_i fs hu
    split at h
    · rename_i fd hf
      split at h
      · rename_i m l' h1 h2
        simp at h
        obtain ⟨rfl, rfl, rfl⟩ := h
        exact ⟨fs, fd, hu, hf, rfl, by omega, h1, h2⟩
      · cases h
    · cases h
  · cases h
theorem sizeOf_run {P : Program} {t n} (h : tsz P t = some n) (w : World) : (sizeOf t).run P w = .ok n w := by
  unfold tsz at h
  cases hi : P.info? t with
  | none => simp [hi] at h
  | some i => simp [hi] at h; subst h; simp [sizeOf, typeInfo, hi]
theorem fieldAddrD_run {P : Program} {t x f ret} (h : fieldAddrD P t x f ret) {k v} (w : World) (hx : Rep k x v) :
    ∃ d, ret d ∧ ∃ u, (Instr.fieldAt t v f).run P w = .ok u w ∧ Rep k d u := by
  unfold fieldAddrD at h
  split at h
  · exact h.elim
  · rename_i off n l hf
    obtain ⟨fs, fd, hu, hfd, rfl, hn, hsz, _⟩ := fldAt_some hf
    have hrun : ∀ b o, (Instr.fieldAt t (.pointer (some ⟨b, o, none⟩)) f).run P w = .ok (.pointer (some ⟨b, o + fd.offset, none⟩)) w := fun b o => by
      simp [Instr.fieldAt, run_underlying hu, hfd, Instr.sureAddr, fieldPlace, sizeOf_run hsz w, show n ≠ 0 by omega, addr_add]
    split at h
    · rename_i cells o'
      cases hx with
      | u _ _ hx => cases hx with
        | row _ _ b o g hm hr => exact ⟨_, h, _, hrun _ _, .u _ _ (by rw [Nat.add_assoc]; exact .row cells _ b o g hm hr)⟩
    · obtain ⟨b, c, hh, rfl⟩ := rep_ptr hx
      exact ⟨_, h, _, hrun _ _, .ptr _ _ b c hh⟩
    · obtain ⟨b, c, hh, rfl⟩ := rep_elt hx
      exact ⟨_, h, _, hrun _ _, by rw [Nat.add_assoc]; exact .elt _ _ _ _ b c hh⟩
    · exact h.elim

def fieldD (P : Program) (t : TypeId) (x : D) (f : Nat) (ret : D → Prop) : Prop :=
  match fldAt P t f with
  | none => False
  | some (off, _, l) => match x with
    | .u (.agg cells) => cellsAt cells off l (ret <| .u ·) (ret <| .u <| .agg ·)
    | .agg cells => cellsAt cells off l ret (ret <| mkAgg ·)
    | _ => False
theorem extract_list (vs : List Value) (o n : Nat) : vs.toArray.extract o (o + n) = ((vs.drop o).take n).toArray := by
  simp [List.extract_toArray, List.extract_eq_take_drop]
theorem fieldD_run {P : Program} {t x f ret} (h : fieldD P t x f ret) {k v} (w : World) (hx : Rep k x v) :
    ∃ d, ret d ∧ ∃ u, (Instr.field t v f).run P w = .ok u w ∧ Rep k d u := by
  unfold fieldD at h
  split at h
  · exact h.elim
  · rename_i off n l hf
    obtain ⟨fs, fd, hu, hfd, rfl, hn, hsz, hl⟩ := fldAt_some hf
    have hone : l = none → ∀ (vs : List Value), fd.offset < vs.length → (Instr.field t (.agg vs.toArray) f).run P w = .ok (vs.getD fd.offset undef) w := fun e vs hlt => by
      subst e
      simp [Instr.field, run_underlying hu, hfd, part, isAgg_none hl w, asAgg, hlt]
    have hmany : ∀ m, l = some m → ∀ (vs : List Value), (Instr.field t (.agg vs.toArray) f).run P w = .ok (.agg ((vs.drop fd.offset).take m).toArray) w := fun m e vs => by
      subst e
      simp [Instr.field, run_underlying hu, hfd, part, (isAgg_some hl w).1, (isAgg_some hl w).2, asAgg, extract_list]
    split at h
    · obtain ⟨vs, hlen, rfl, hr⟩ := rep_uagg hx
      unfold cellsAt at h
      cases l with
      | none =>
        obtain ⟨u, hu, hret⟩ := h
        exact ⟨_, hret, _, hone rfl vs (by have := (List.getElem?_eq_some_iff.1 hu).1; omega), .u _ _ (hr _ _ hu)⟩
      | some m =>
        obtain ⟨hle, hret⟩ := h
        refine ⟨_, hret, _, hmany m rfl vs, .u _ _ (.agg _ _ (by simp; omega) fun j u hj => ?_)⟩
        have hj' : j < m := by have := (List.getElem?_eq_some_iff.1 hj).1; simp at this; omega
        rw [get_take_drop _ _ _ _ hj'] at hj
        rw [List.getD_eq_getElem?_getD, get_take_drop _ _ _ _ hj', ← List.getD_eq_getElem?_getD]
        exact hr _ _ hj
    · obtain ⟨vs, hlen, rfl, hr⟩ := rep_agg hx
      unfold cellsAt at h
      cases l with
      | none =>
        obtain ⟨u, hu, hret⟩ := h
        exact ⟨_, hret, _, hone rfl vs (by have := (List.getElem?_eq_some_iff.1 hu).1; omega), hr _ _ hu⟩
      | some m =>
        obtain ⟨hle, hret⟩ := h
        refine ⟨_, hret, _, hmany m rfl vs, mkAgg_rep (by simp; omega) fun j u hj => ?_⟩
        have hj' : j < m := by have := (List.getElem?_eq_some_iff.1 hj).1; simp at this; omega
        rw [get_take_drop _ _ _ _ hj'] at hj
        rw [List.getD_eq_getElem?_getD, get_take_drop _ _ _ _ hj', ← List.getD_eq_getElem?_getD]
        exact hr _ _ hj
    · exact h.elim

/-- The address of an element. -/
def indexAddrD (P : Program) (s : St) (t : TypeId) (x i : D) (ret : D → Prop) : Prop :=
  match elSz P t, i with
  | some (_, sz), .u (.int _ i) => match x with
    | .u (.sl rows) => 0 ≤ i ∧ ∃ r, rows[i.toNat]? = some r ∧ r.length = sz ∧ ret (.u (.row r 0))
    | .vec v len => 0 ≤ i ∧ i.toNat < len ∧ ret (.elt v sz i.toNat 0) ∧ (match getK s.obs v with | some (.vec _ sz' rows) => sz = sz' ∧ len ≤ rows.length | _ => False)
    | _ => False
  | _, _ => False
theorem elSz_some {P : Program} {t e sz} (h : elSz P t = some (e, sz)) : P.underlying t = some (.slice e) ∧ tsz P e = some sz := by
  unfold elSz at h
  split at h
  · rename_i e' hu
    unfold tsz
    cases hi : P.info? e' with
    | none => simp [hi] at h
    | some i => simp [hi] at h; obtain ⟨rfl, rfl⟩ := h; exact ⟨hu, by simp [hi]⟩
  · cases h
theorem indexAddrD_run {P : Program} {s t x i ret} (h : indexAddrD P s t x i ret) {k own a w v iv} (hs : Sim k own s a w) (hx : Rep k x v) (hi : Rep k i iv) :
    ∃ d, ret d ∧ ∃ u, (Instr.indexAt t v iv).run P w = .ok u w ∧ Rep k d u := by
  unfold indexAddrD at h
  split at h
  · rename_i e sz kd i' he
    obtain ⟨hu, hsz⟩ := elSz_some he
    obtain rfl := rep_int hi
    have hrun : ∀ b o len c, 0 ≤ i' → i'.toNat < len → (Instr.indexAt t (.slice (some ⟨b, o, none⟩) len c) (.int kd i')).run P w = .ok (.pointer (some ⟨b, o + i'.toNat * sz, none⟩)) w := fun b o len c h0 hlt => by
      have : 0 ≤ i' ∧ i' < (len : Int) := ⟨h0, by omega⟩
      simp [Instr.indexAt, asIntOf, run_underlying hu, this, sizeOf_run hsz w, addr_add]
    split at h
    · obtain ⟨h0, r, hr, hrl, hret⟩ := h
      have hlt := (List.getElem?_eq_some_iff.1 hr).1
      cases hx with
      | u _ _ hx => cases hx with
        | slE => simp at hr
        | sl _ b o sz' c f hcap hcx h1 h2 h3 =>
          have hz : sz' = sz := (h1 r (List.mem_of_getElem? hr)).symm.trans hrl
          subst hz
          refine ⟨_, hret, _, hrun b o _ c h0 hlt, .u _ _ ?_⟩
          have := RepU.row (m := k.mem) r 0 b (o + i'.toNat * sz') (f i'.toNat) (fun j hj => h2 _ hlt j (by omega)) (h3 _ r hr)
          simpa using this
    · obtain ⟨h0, hlt, hret, hob⟩ := h
      obtain ⟨g, hg, rfl⟩ := rep_vec hx
      split at hob
      · rename_i e' sz' rows hgo
        obtain ⟨rfl, hlen⟩ := hob
        obtain ⟨g', xs, hg', hrow, _⟩ := (hs.sat.ob _ _ hgo).vec
        rw [hg] at hg'
        simp only [Option.some.injEq] at hg'
        subst hg'
        obtain ⟨gb, gc⟩ := g
        cases gb with
        | none =>
          rcases hrow.2 with ⟨_, hz⟩ | ⟨_, _, _, hv, _⟩
          · omega
          · simp [headVal] at hv
        | some b => exact ⟨_, hret, _, hrun b 0 _ gc h0 hlt, by simpa using Rep.elt _ _ _ 0 b gc hg⟩
      · exact hob.elim
    · exact h.elim
  · exact h.elim

def indexD (P : Program) (t : TypeId) (x i : D) (ret : D → Prop) : Prop :=
  match x, i with
  | .u (.str l), .u (.int _ i) => isStr P t = true ∧ 0 ≤ i ∧ ∃ b, l[i.toNat]? = some b ∧ ret (.u (.int .u8 b.toNat))
  | _, _ => False
theorem isStr_some {P : Program} {t} (h : isStr P t = true) : P.underlying t = some .string := by
  unfold isStr at h
  split at h
  · assumption
  · cases h
theorem indexD_run {P : Program} {t x i ret} (h : indexD P t x i ret) {k v iv} (w : World) (hx : Rep k x v) (hi : Rep k i iv) :
    ∃ d, ret d ∧ ∃ u, (Instr.index t v iv).run P w = .ok u w ∧ Rep k d u := by
  unfold indexD at h
  split at h
  · obtain ⟨ht, h0, b, hb, hret⟩ := h
    obtain rfl := rep_str hx
    obtain rfl := rep_int hi
    rename_i l kd i'
    have hlt := (List.getElem?_eq_some_iff.1 hb).1
    refine ⟨_, hret, _, ?_, .u _ _ (.int _ _)⟩
    have hget : (⟨l.toArray⟩ : ByteArray)[i'.toNat]? = some b := by
      rw [getElem?_pos _ _ (by show i'.toNat < l.toArray.size; simpa using hlt)]
      congr 1
      show l.toArray[i'.toNat] = b
      simpa using (List.getElem?_eq_some_iff.1 hb).2
    simp [Instr.index, asIntOf, run_underlying (isStr_some ht), h0, hget]
  · exact h.elim

/-- The bounds of a cut of n elements. -/
def cutD (n : Nat) (lo hi : Option D) (go : Nat → Nat → Prop) : Prop :=
  match lo, hi with
  | none, none => go 0 n
  | some (.u (.int _ l)), none => (0 ≤ l ∧ l ≤ n) ∧ go l.toNat n
  | none, some (.u (.int _ h)) => (0 ≤ h ∧ h ≤ n) ∧ go 0 h.toNat
  | some (.u (.int _ l)), some (.u (.int _ h)) => (0 ≤ l ∧ l ≤ h ∧ h ≤ n) ∧ go l.toNat h.toNat
  | _, _ => False
/-- All rows have this length. -/
def lenR {α : Type} (sz : Nat) (rs : List (List α)) : Prop := ∀ r ∈ rs, r.length = sz
section
variable {α β : Type} {sz : Nat}
@[simp] theorem lenR_nil : lenR sz ([] : List (List α)) := by simp [lenR]
@[simp] theorem lenR_cons (r : List α) (l : List (List α)) : lenR sz (r :: l) ↔ r.length = sz ∧ lenR sz l := by simp [lenR]
@[simp] theorem lenR_append (a b : List (List α)) : lenR sz (a ++ b) ↔ lenR sz a ∧ lenR sz b := by
  simp only [lenR, List.mem_append]
  exact ⟨fun h => ⟨fun r hr => h r (.inl hr), fun r hr => h r (.inr hr)⟩, fun ⟨h, g⟩ r hr => hr.elim (h r) (g r)⟩
@[simp] theorem lenR_map (f : β → List α) (l : List β) : lenR sz (l.map f) ↔ ∀ x ∈ l, (f x).length = sz := by simp [lenR]
@[simp] theorem lenR_replicate (n : Nat) (r : List α) (h : r.length = sz) : lenR sz (List.replicate n r) := fun x hx => by
  rw [List.mem_replicate] at hx
  rw [hx.2]; exact h
@[simp] theorem lenR_take (n : Nat) (l : List (List α)) (h : lenR sz l) : lenR sz (l.take n) := fun r hr => h r (List.mem_of_mem_take hr)
@[simp] theorem lenR_drop (n : Nat) (l : List (List α)) (h : lenR sz l) : lenR sz (l.drop n) := fun r hr => h r (List.mem_of_mem_drop hr)
@[simp] theorem lenR_set (n : Nat) (r : List α) (l : List (List α)) (hr : r.length = sz) (h : lenR sz l) : lenR sz (l.set n r) := fun x hx => by
  rcases List.mem_or_eq_of_mem_set hx with hm | rfl
  · exact h x hm
  · exact hr
end
def sliceD (P : Program) (s : St) (t : TypeId) (x : D) (lo hi : Option D) (ret : D → Prop) : Prop :=
  match x with
  | .u (.str b) => isStr P t = true ∧ cutD b.length lo hi fun l h => ret (.u (.str ((b.take h).drop l)))
  | .u (.sl rows) => match elSz P t with
    | some (_, sz) => lenR sz rows ∧ cutD rows.length lo hi fun l h => ret (.u (.sl ((rows.take h).drop l)))
    | none => False
  | .vec i len => match elSz P t, getK s.obs i with
    | some (_, sz), some (.vec _ sz' rows) => sz = sz' ∧ len ≤ rows.length ∧ cutD len lo hi fun l h => l = 0 ∧ ret (.vec i h)
    | _, _ => False
  | _ => False

/-- The machine's bounds of a cut. -/
theorem cut_run {P : Program} (k : Kr) (isS : Bool) (n cap : Nat) (hc : n ≤ cap) (lo hi : Option D) (lv hv : Option Value) (w : World) (go : Nat → Nat → Prop)
    (hl : ∀ d, lo = some d → ∃ v, lv = some v ∧ Rep k d v) (hl' : lo = none → lv = none) (hh : ∀ d, hi = some d → ∃ v, hv = some v ∧ Rep k d v) (hh' : hi = none → hv = none)
    (h : cutD n lo hi go) : ∃ l h, go l h ∧ l ≤ h ∧ h ≤ n ∧ (Instr.sliceBounds isS n cap lv hv none).run P w = .ok (l, h, cap) w := by
  unfold cutD at h
  split at h
  · rw [hl' rfl, hh' rfl]
    exact ⟨0, n, h, by omega, by omega, by simp [Instr.sliceBounds]⟩
  · rename_i kd l
    obtain ⟨⟨h0, h1⟩, h⟩ := h
    obtain ⟨v, rfl, hr⟩ := hl _ rfl
    obtain rfl := rep_int hr
    rw [hh' rfl]
    have : 0 ≤ l ∧ l ≤ (n : Int) := ⟨h0, h1⟩
    exact ⟨_, _, h, by omega, by omega, by simp [Instr.sliceBounds, Instr.sliceBound, asIntOf, this]⟩
  · rename_i kd l
    obtain ⟨⟨h0, h1⟩, h⟩ := h
    obtain ⟨v, rfl, hr⟩ := hh _ rfl
    obtain rfl := rep_int hr
    rw [hl' rfl]
    have : 0 ≤ l ∧ l ≤ (cap : Int) := ⟨h0, by omega⟩
    exact ⟨_, _, h, by omega, by omega, by simp [Instr.sliceBounds, Instr.sliceBound, asIntOf, this]⟩
  · rename_i kd l kd' l'
    obtain ⟨⟨h0, h1, h2⟩, h⟩ := h
    obtain ⟨v, rfl, hr⟩ := hl _ rfl
    obtain rfl := rep_int hr
    obtain ⟨v, rfl, hr⟩ := hh _ rfl
    obtain rfl := rep_int hr
    have : 0 ≤ l' ∧ l' ≤ (cap : Int) := ⟨by omega, by omega⟩
    have g2 : 0 ≤ l ∧ l ≤ ((l'.toNat : Nat) : Int) := ⟨h0, by omega⟩
    have g3 : ¬ max l' 0 < l := by omega
    exact ⟨_, _, h, by omega, by omega, by simp [Instr.sliceBounds, Instr.sliceBound, asIntOf, this, g2]; omega⟩
  · exact h.elim

theorem sliceD_run {P : Program} {s t x lo hi ret} (h : sliceD P s t x lo hi ret) {k own a w v} {lv hv : Option Value} (hs : Sim k own s a w) (hx : Rep k x v)
    (hl : ∀ d, lo = some d → ∃ v, lv = some v ∧ Rep k d v) (hl' : lo = none → lv = none) (hh : ∀ d, hi = some d → ∃ v, hv = some v ∧ Rep k d v) (hh' : hi = none → hv = none) :
    ∃ d, ret d ∧ ∃ u, (Instr.slice t v lv hv none).run P w = .ok u w ∧ Rep k d u := by
  unfold sliceD at h
  split at h
  · rename_i b
    obtain ⟨ht, h⟩ := h
    obtain rfl := rep_str hx
    obtain ⟨l, e, hret, hle, hen, hrun⟩ := cut_run (P := P) k false _ b.length (Nat.le_refl _) lo hi lv hv w _ hl hl' hh hh' h
    have hsz : (⟨b.toArray⟩ : ByteArray).size = b.length := by show b.toArray.size = _; simp
    refine ⟨_, hret, .string ((⟨b.toArray⟩ : ByteArray).extract l e), ?_, .u _ _ ?_⟩
    · simp [Instr.slice, run_underlying (isStr_some ht), hsz, hrun]
    · have : (⟨b.toArray⟩ : ByteArray).extract l e = ⟨((b.take e).drop l).toArray⟩ := by
        apply ByteArray.ext
        rw [ByteArray.data_extract]
        simp [List.extract_toArray, List.extract_eq_take_drop, List.drop_take]
      rw [this]
      exact .str _
  · rename_i rows
    split at h
    · rename_i e sz he
      obtain ⟨hall, h⟩ := h
      obtain ⟨hu, hsz⟩ := elSz_some he
      cases hx with
      | u _ _ hx => cases hx with
        | slE a c hnc =>
          obtain ⟨l, e', hret, hle, hen, hrun⟩ := cut_run (P := P) k true _ c (by simp) lo hi lv hv w _ hl hl' hh hh' h
          simp at hen
          subst hen
          simp at hle
          subst hle
          refine ⟨_, hret, .slice (if c = 0 then a else a.map (·.add (0 * sz))) (0 - 0) (c - 0), ?_, ?_⟩
          · simp only [List.length_nil] at hrun
            simp [Instr.slice, run_underlying hu, hrun, sizeOf_run hsz w]
          simp
          refine .u _ _ (.slE _ _ fun e => ?_)
          by_cases hc0 : c = 0
          · simp [hc0]
          · rw [if_neg hc0] at e
            simp at e
            exact absurd (hnc e) hc0
        | sl _ b o sz' c f hcap hcx h1 h2 h3 =>
          obtain ⟨l, e', hret, hle, hen, hrun⟩ := cut_run (P := P) k true _ c hcap lo hi lv hv w _ hl hl' hh hh' h
          refine ⟨_, hret, .slice (if c = l then some ⟨b, o, none⟩ else some ⟨b, o + l * sz, none⟩) (e' - l) (c - l), ?_, .u _ _ ?_⟩
          · simp only [Instr.slice, run_underlying hu, Sem.run_bind, Result.andThen_ok, hrun, sizeOf_run hsz w]
            split <;> simp [addr_add]
          · have hlen : ((rows.take e').drop l).length = e' - l := by simp; omega
            by_cases hz : e' - l = 0
            · rw [List.eq_nil_of_length_eq_zero (hlen.trans hz), hz]
              refine .slE _ _ fun e => ?_
              split at e <;> cases e
            · have hrow0 : sz' = sz := by
                have hp : 0 < rows.length := by omega
                have hm : rows[0] ∈ rows := List.getElem_mem hp
                exact (h1 _ hm).symm.trans (hall _ hm)
              subst hrow0
              rw [if_neg (by omega), ← hlen]
              refine .sl _ b _ sz' _ (fun i => f (l + i)) (by omega) (by omega) (fun r hr => h1 r (List.mem_of_mem_take (List.mem_of_mem_drop hr))) (fun i hi j hj => ?_) (fun i r hr j u hu => ?_)
              · rw [hlen] at hi
                have := h2 (l + i) (by omega) j hj
                rw [Nat.add_mul] at this
                rw [Nat.add_assoc o]
                exact this
              · rw [List.getElem?_drop] at hr
                have := List.getElem?_take (l := rows) (i := e') (j := l + i)
                rw [this] at hr
                split at hr
                · exact h3 _ r hr j u hu
                · cases hr
    · exact h.elim
  · rename_i i len
    split at h
    · rename_i e sz e' sz' rows he hg
      obtain ⟨rfl, hlen, h⟩ := h
      obtain ⟨hu, hsz⟩ := elSz_some he
      obtain ⟨g, hg', rfl⟩ := rep_vec hx
      obtain ⟨g2, xs, hg2, hrow, _⟩ := (hs.sat.ob _ _ hg).vec
      rw [hg'] at hg2
      simp only [Option.some.injEq] at hg2
      subst hg2
      obtain ⟨gb, gc⟩ := g
      have hcap : rows.length ≤ gc := by
        rcases hrow.2 with ⟨hv, hz⟩ | ⟨_, _, _, hv, _, _, hle, _⟩
        · omega
        · simp only [headVal, Value.slice.injEq] at hv
          omega
      obtain ⟨l, e', hret, hle, hen, hrun⟩ := cut_run (P := P) k true len gc (by omega) lo hi lv hv w _ hl hl' hh hh' h
      obtain ⟨rfl, hret⟩ := hret
      refine ⟨_, hret, headVal (gb, gc) e', ?_, .vec _ _ _ hg'⟩
      have e0 : (gb.map fun b => (⟨b, 0, none⟩ : Addr)).map (·.add (0 * sz)) = gb.map fun b => (⟨b, 0, none⟩ : Addr) := by
        cases gb <;> simp [addr_add]
      have e1 : ∀ (x : Option Addr), x.map (·.add (0 * sz)) = x := fun x => by cases x <;> simp [Addr.add]
      simp only [headVal, Instr.slice, run_underlying hu, Sem.run_bind, Result.andThen_ok, hrun, sizeOf_run hsz w, e1]
      simp
    · exact h.elim
  · exact h.elim

end Go.VL
