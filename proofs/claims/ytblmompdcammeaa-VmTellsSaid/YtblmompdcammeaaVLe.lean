/- The calculus of values: putting structs together; lengths, conversions; all operations that leave the memory as it is, under one name. -/
import Derived.Test.YtblmompdcammeaaVLd
set_option linter.all false
namespace Go.VL
open Go

/-- A value of one cell. -/
def isOne : D → Bool
  | .u (.agg _) | .agg _ | .tup _ | .any => false
  | .u (.oth v) => v.oneCell'
  | _ => true
theorem isOne_rep {k : Kr} {d : D} {v : Value} (h : isOne d = true) (hr : Rep k d v) : v.oneCell' = true ∧ v.cells = #[v] := by
  have key : v.oneCell' = true := by
    cases hr with
    | u x v hu => cases hu <;> simp_all [isOne, Value.oneCell']
    | any v => simp [isOne] at h
    | ptr => rfl
    | vec => rfl
    | elt => rfl
    | fnc => rfl
    | agg => simp [isOne] at h
    | tup => simp [isOne] at h
  refine ⟨key, ?_⟩
  cases v <;> simp_all [Value.oneCell', Value.cells]

/-- The cells of a value. -/
def cellsD : D → Option (List D)
  | .agg cs => some cs
  | .u (.agg us) => some (us.map .u)
  | d => if isOne d then some [d] else none
theorem cellsD_rep {k : Kr} {d : D} {cs : List D} {v : Value} (h : cellsD d = some cs) (hr : Rep k d v) :
    v.cells.size = cs.length ∧ ∀ j c, cs[j]? = some c → Rep k c (v.cells.getD j undef) := by
  unfold cellsD at h
  split at h
  · rename_i l
    simp at h; subst h
    obtain ⟨vs, hl, rfl, hc⟩ := rep_agg hr
    exact ⟨by simp [Value.cells, hl], fun j c hj => by simpa [Value.cells] using hc j c hj⟩
  · rename_i us
    simp at h; subst h
    obtain ⟨vs, hl, rfl, hc⟩ := rep_uagg hr
    refine ⟨by simp [Value.cells, hl], fun j c hj => ?_⟩
    rw [List.getElem?_map] at hj
    cases hu : us[j]? with
    | none => simp [hu] at hj
    | some x => simp [hu] at hj; subst hj; simpa [Value.cells] using Rep.u (k := k) _ _ (hc j x hu)
  · split at h
    · rename_i hone
      simp at h; subst h
      have hv := (isOne_rep hone hr).2
      refine ⟨by simp [hv], fun j c hj => ?_⟩
      cases j with
      | zero => simp at hj; subst hj; simpa [hv] using hr
      | succ j => simp at hj
    · cases h

def setAll {α : Type} : List α → Nat → List α → List α
  | cs, _, [] => cs
  | cs, o, d :: ds => setAll (cs.set o d) (o + 1) ds
theorem setAll_length {α : Type} : ∀ (ds cs : List α) (o : Nat), (setAll cs o ds).length = cs.length
  | [], _, _ => rfl
  | d :: ds, cs, o => by rw [setAll, setAll_length ds]; simp

/-- Cells that stand for cells. -/
def RepL (k : Kr) (ds : List D) (vs : Array Value) : Prop := vs.size = ds.length ∧ ∀ j d, ds[j]? = some d → Rep k d (vs.getD j undef)
theorem RepL.set {k ds vs} (h : RepL k ds vs) (o : Nat) {d v} (hr : Rep k d v) : RepL k (ds.set o d) (vs.setIfInBounds o v) := by
  refine ⟨by simp [h.1], fun j c hj => ?_⟩
  rw [List.getElem?_set] at hj
  by_cases he : o = j
  · subst he
    simp at hj
    obtain ⟨hlt, rfl⟩ := hj
    have : o < vs.size := by rw [h.1]; exact hlt
    simpa [this] using hr
  · rw [if_neg he] at hj
    have := h.2 j c hj
    simpa [Array.getElem?_setIfInBounds_ne he] using this
theorem RepL.setAll {k : Kr} : ∀ (news : List D) (nv : List Value) (ds : List D) (vs : Array Value) (o : Nat), RepL k ds vs → news.length = nv.length → (∀ j c, news[j]? = some c → Rep k c (nv.getD j undef)) →
    RepL k (setAll ds o news) ((nv.zipIdx 0).foldl (fun cs (x : Value × Nat) => cs.setIfInBounds (o + x.2) x.1) vs)
  | [], nv, ds, vs, o, h, hl, _ => by
    have : nv = [] := List.eq_nil_of_length_eq_zero hl.symm
    subst this
    simpa [VL.setAll] using h
  | d :: news, [], ds, vs, o, h, hl, _ => by simp at hl
  | d :: news, v :: nv, ds, vs, o, h, hl, hr => by
    have h1 := h.set o (hr 0 d rfl)
    have ih := RepL.setAll news nv _ _ (o + 1) h1 (by simpa using hl) (fun j c hj => by simpa using hr (j + 1) c (by simpa using hj))
    simp only [VL.setAll, List.zipIdx_cons, List.foldl_cons, Nat.add_zero]
    have e : ∀ (l : List Value) (n : Nat) (a : Array Value), (l.zipIdx (n + 1)).foldl (fun cs (x : Value × Nat) => cs.setIfInBounds (o + x.2) x.1) a =
        (l.zipIdx n).foldl (fun cs (x : Value × Nat) => cs.setIfInBounds (o + 1 + x.2) x.1) a := by
      intro l
      induction l with
      | nil => intro n a; rfl
      | cons y l ih =>
        intro n a
        simp only [List.zipIdx_cons, List.foldl_cons, ih]
        congr 2
        omega
    rw [Nat.zero_add, ← Nat.zero_add 1, e]
    exact ih

/-- The zero cells of a struct type, and its fields' places. -/
def zp (P : Program) (t : TypeId) : Option (List Value × List (Nat × Nat)) :=
  match P.info? t, P.underlying t with
  | some it, some (.struct fields) =>
    match it.zero, fields.toList.mapM (fun f => (P.info? f.type).map fun i => (f.offset, i.size)) with
    | some z, some places => some (z.cells.toList, places)
    | _, _ => none
  | _, _ => none

def fillD (places : List (Nat × Nat)) : List (Nat × D) → List D → (List D → Prop) → Prop
  | [], cs, k => k cs
  | (f, d) :: rest, cs, k => match places[f]?, cellsD d with
    | some (off, n), some new => new.length = n ∧ off + n ≤ cs.length ∧ fillD places rest (setAll cs off new) k
    | _, _ => False
theorem fillD_run {k : Kr} {places : List (Nat × Nat)} : ∀ {parts : List (Nat × D)} {pv : List (Nat × Value)} {cs : List D} {vs : Array Value} {K : List D → Prop},
    fillD places parts cs K → RepL k cs vs → parts.length = pv.length → (∀ (j : Nat) (p : Nat × D) (q : Nat × Value), parts[j]? = some p → pv[j]? = some q → q.1 = p.1 ∧ Rep k p.2 q.2) →
    ∃ cs' vs', K cs' ∧ RepL k cs' vs' ∧ Instr.fill (places[·]?) vs pv = some vs'
  | [], pv, cs, vs, K, h, hr, hl, _ => by
    have : pv = [] := List.eq_nil_of_length_eq_zero hl.symm
    subst this
    exact ⟨cs, vs, h, hr, rfl⟩
  | (f, d) :: parts, [], cs, vs, K, h, hr, hl, _ => by simp at hl
  | (f, d) :: parts, (g, v) :: pv, cs, vs, K, h, hr, hl, hp => by
    obtain ⟨hfg, hdv⟩ := hp 0 (f, d) (g, v) rfl rfl
    simp only at hfg hdv
    subst hfg
    unfold fillD at h
    split at h
    · rename_i off n new hpl hcd
      obtain ⟨hn, hle, h⟩ := h
      obtain ⟨h1, h2⟩ := cellsD_rep hcd hdv
      have h3 := RepL.setAll new v.cells.toList cs vs off hr (by simp [h1]) (fun j c hj => by simpa using h2 j c hj)
      obtain ⟨cs', vs', hk, hr', hf⟩ := fillD_run (pv := pv) h h3 (by simpa using hl) (fun j p q hj hq => hp (j + 1) p q (by simpa using hj) (by simpa using hq))
      refine ⟨cs', vs', hk, hr', ?_⟩
      have hg : ¬ (v.cells.size ≠ n ∨ off + v.cells.size > vs.size) := by
        rw [h1, hr.1]
        omega
      have e : (v.cells.zipIdx.foldl (fun cs (x : Value × Nat) => cs.setIfInBounds (off + x.2) x.1) vs) = (v.cells.toList.zipIdx 0).foldl (fun cs (x : Value × Nat) => cs.setIfInBounds (off + x.2) x.1) vs := by
        rw [← Array.foldl_toList]
        simp
      simp only [Instr.fill, hpl]
      rw [if_neg (by simpa using hg)]
      rw [e]
      exact hf
    · exact h.elim

def buildD (P : Program) (t : TypeId) (parts : List (Nat × D)) (ret : D → Prop) : Prop :=
  match zp P t with
  | some (z, places) => fillD places parts (z.map fun v => .u (uOf v)) fun cs => ret (mkAgg cs)
  | none => False
theorem repL_zero (k : Kr) (z : List Value) : RepL k (z.map fun v => .u (uOf v)) z.toArray := by
  refine ⟨by simp, fun j d hj => ?_⟩
  rw [List.getElem?_map] at hj
  cases hz : z[j]? with
  | none => simp [hz] at hj
  | some v =>
    simp [hz] at hj
    subst hj
    have : z.toArray.getD j undef = v := by simp [hz]
    rw [this]
    exact .u _ _ (uOf_rep _ _)
theorem buildD_run {P : Program} {k : Kr} {t parts ret} (h : buildD P t parts ret) (w : World) (pv : List (Nat × Value)) (hl : parts.length = pv.length)
    (hp : ∀ (j : Nat) (p : Nat × D) (q : Nat × Value), parts[j]? = some p → pv[j]? = some q → q.1 = p.1 ∧ Rep k p.2 q.2) :
    ∃ d, ret d ∧ ∃ u, (Instr.build t pv.toArray).run P w = .ok u w ∧ Rep k d u := by
  unfold buildD at h
  split at h
  · rename_i z places hz
    obtain ⟨cs', vs', hk, hr', hf⟩ := fillD_run h (repL_zero k z) hl hp
    refine ⟨_, hk, .agg vs', ?_, ?_⟩
    · refine run_build w t pv.toArray vs' ?_
      unfold zp at hz
      unfold Program.built
      split at hz
      · rename_i it fields hi hu
        split at hz
        · rename_i zv pl hzero hpl
          simp at hz
          obtain ⟨rfl, rfl⟩ := hz
          simp only [hi, hu, hzero, hpl]
          simpa using hf
        · cases hz
      · cases hz
    · have := mkAgg_rep (k := k) (cells := cs') (vs := vs'.toList) (by simp [hr'.1]) (fun j d hj => by simpa using hr'.2 j d hj)
      simpa using this
  · exact h.elim

def lenD (P : Program) (s : St) (t : TypeId) (x : D) (ret : D → Prop) : Prop :=
  match x with
  | .u (.str l) => isStr P t = true ∧ ret (.u (.int .i64 l.length))
  | .u (.sl rows) => (elSz P t).isSome = true ∧ ret (.u (.int .i64 rows.length))
  | .u .nil => (elSz P t).isSome = true ∧ ret (.u (.int .i64 0))
  | .vec i len => (elSz P t).isSome = true ∧ (match getK s.obs i with
    | some (.vec _ _ rows) => len ≤ rows.length ∧ ret (.u (.int .i64 len))
    | _ => False)
  | _ => False
theorem lenD_run {P : Program} {s t x ret} (h : lenD P s t x ret) {k own a w v} (hs : Sim k own s a w) (ty : TypeId) (hx : Rep k x v) :
    ∃ d, ret d ∧ ∃ u, (Builtin.len_ #[t] ty #[v]).run P w = .ok u w ∧ Rep k d u := by
  have hsl : (elSz P t).isSome = true → ∃ e, P.underlying t = some (.slice e) := fun hh => by
    obtain ⟨⟨e, sz⟩, he⟩ := Option.isSome_iff_exists.1 hh
    exact ⟨e, (elSz_some he).1⟩
  unfold lenD at h
  split at h
  · obtain ⟨ht, h⟩ := h
    rename_i l
    obtain rfl := rep_str hx
    have hsz : (⟨l.toArray⟩ : ByteArray).size = l.length := by show l.toArray.size = _; simp
    exact ⟨_, h, goInt l.length, by simp [Builtin.len_, run_underlying (isStr_some ht), hsz], .u _ _ (.int _ _)⟩
  · obtain ⟨ht, h⟩ := h
    rename_i rows
    obtain ⟨e, hu⟩ := hsl ht
    cases hx with
    | u _ _ hx => cases hx with
      | slE a c _ => exact ⟨_, h, goInt 0, by simp [Builtin.len_, run_underlying hu], .u _ _ (.int _ _)⟩
      | sl _ b o sz c f hc hcx =>
        exact ⟨_, h, goInt rows.length, by simp [Builtin.len_, run_underlying hu], .u _ _ (.int _ _)⟩
  · obtain ⟨ht, h⟩ := h
    obtain ⟨e, hu⟩ := hsl ht
    obtain rfl := rep_nil hx
    exact ⟨_, h, goInt 0, by simp [Builtin.len_, run_underlying hu], .u _ _ (.int _ _)⟩
  · obtain ⟨ht, h⟩ := h
    rename_i i len
    obtain ⟨e, hu⟩ := hsl ht
    split at h
    · rename_i e' sz' rows hg
      obtain ⟨hle, h⟩ := h
      obtain ⟨g, hg', rfl⟩ := rep_vec hx
      obtain ⟨g2, xs, hg2, hrow, _⟩ := (hs.sat.ob _ _ hg).vec
      exact ⟨_, h, goInt len, by simp [headVal, Builtin.len_, run_underlying hu], .u _ _ (.int _ _)⟩
    · exact h.elim
  · exact h.elim

/-- min and max of integers. -/
def minmaxD (isMax : Bool) (l : List D) (ret : D → Prop) : Prop :=
  match l with
  | [.u (.int k a), .u (.int k' b)] => k = k' ∧ ret (.u (.int k (if isMax then max a b else min a b)))
  | [.u (.int k a), .u (.int k' b), .u (.int k'' c)] => k = k' ∧ k = k'' ∧ ret (.u (.int k (if isMax then max (max a b) c else min (min a b) c)))
  | _ => False

theorem min2_run {P : Program} (k k' : IntKind) (a b : Int) (w : World) : (Builtin.min2 (.int k a) (.int k' b)).run P w = .ok (.int k (min a b)) w := by
  have : (if b < a then b else a) = min a b := by rw [Int.min_def]; split <;> split <;> omega
  simp [Builtin.min2, this]
theorem max2_run {P : Program} (k k' : IntKind) (a b : Int) (w : World) : (Builtin.max2 (.int k a) (.int k' b)).run P w = .ok (.int k (max a b)) w := by
  have : (if a < b then b else a) = max a b := by rw [Int.max_def]; split <;> split <;> omega
  simp [Builtin.max2, this]

end Go.VL
