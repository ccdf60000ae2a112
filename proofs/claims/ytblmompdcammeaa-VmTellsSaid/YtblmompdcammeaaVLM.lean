/- From a function told by value to the given statement: the arguments, the call, the row. -/
import Derived.Test.YtblmompdcammeaaVLL
set_option linter.all false
namespace Go.VL
open Go Go.ChangeShapes Go.WideShapes Go.ChangeAt Go.RowKit Go.Deep

def HasRows (P : Program) : List TypeId → List (List U) → Prop
  | [], [] => True
  | t :: ts, r :: rs => HasRow P t r ∧ HasRows P ts rs
  | _, _ => False
section
variable {P : Program} {t : TypeId} {r : List U}
theorem HasRow.of_int {k : IntKind} (h : HasRow P t r) (ht : intOfT P t = some k) : ∃ n, r = [.int k n] ∧ k.min ≤ n ∧ n ≤ k.max := by
  have hu := intOfT_some ht
  cases h with
  | int h h1 h2 => rw [hu] at h; cases h; exact ⟨_, rfl, h1, h2⟩
  | other h => rw [hu] at h; exact h.elim
  | struct rs h => rw [hu] at h; cases h
  | _ h => rw [hu] at h; cases h
theorem HasRow.of_bool (h : HasRow P t r) (hu : P.underlying t = some .bool) : ∃ b, r = [.bool b] := by
  cases h with
  | bool h => exact ⟨_, rfl⟩
  | other h => rw [hu] at h; exact h.elim
  | struct rs h => rw [hu] at h; cases h
  | _ h => rw [hu] at h; cases h
theorem HasRow.of_str (h : HasRow P t r) (ht : isStr P t = true) : ∃ l, r = [.str l] ∧ l.length ≤ maxLen := by
  have hu := isStr_some ht
  cases h with
  | str h h1 => exact ⟨_, rfl, h1⟩
  | other h => rw [hu] at h; exact h.elim
  | struct rs h => rw [hu] at h; cases h
  | _ h => rw [hu] at h; cases h
theorem HasRow.of_slice {e sz : Nat} (h : HasRow P t r) (ht : elSz P t = some (e, sz + 1)) : ∃ rows, r = [.sl rows] ∧ rows.length ≤ maxLen ∧ ∀ q ∈ rows, HasRow P e q := by
  obtain ⟨hu, hs⟩ := elSz_some ht
  cases h with
  | slice h h1 h2 => rw [hu] at h; cases h; exact ⟨_, rfl, h1, h2⟩
  | other h =>
    rw [hu] at h
    unfold tsz at hs
    unfold Program.cellsOf at h
    simp only at h
    rw [hs] at h
    simp at h
  | struct rs h => rw [hu] at h; cases h
  | _ h => rw [hu] at h; cases h
theorem HasRow.of_struct {ts : List TypeId} (h : HasRow P t r) (ht : stT P t = some ts) : ∃ rs, r = rs.flatten ∧ HasRows P ts rs := by
  unfold stT at ht
  split at ht
  · rename_i fs hu
    cases ht
    cases h with
    | struct rs h h1 h2 =>
      rw [hu] at h
      cases h
      refine ⟨rs, rfl, ?_⟩
      have key : ∀ (l : List Field) (rs : List (List U)), rs.length = l.length → (∀ (i : Nat) (f : Field) (r : List U), l[i]? = some f → rs[i]? = some r → HasRow P f.type r) → HasRows P (l.map (·.type)) rs := by
        intro l
        induction l with
        | nil => intro rs hl _; simp at hl; subst hl; trivial
        | cons f l ih =>
          intro rs hl h
          cases rs with
          | nil => simp at hl
          | cons r rs => exact ⟨h 0 f r rfl rfl, ih rs (by simpa using hl) fun i f r h1 h2 => h (i + 1) f r (by simpa using h1) (by simpa using h2)⟩
      exact key fs.toList rs (by simpa using h1) fun i f r hf hr => h2 i f r (by simpa using hf) hr
    | other h => rw [hu] at h; exact h.elim
    | _ h => rw [hu] at h; cases h
  · cases ht
end
/-- Rows that all come of a typed thing are those of a list of such things. -/
theorem rows_list {α : Type} (f : α → List U) (Q : α → Prop) : ∀ {rows : List (List U)}, (∀ r ∈ rows, ∃ x, r = f x ∧ Q x) → ∃ l : List α, rows = l.map f ∧ ∀ x ∈ l, Q x
  | [], _ => ⟨[], rfl, by simp⟩
  | r :: rows, h => by
    obtain ⟨x, rfl, hx⟩ := h r (by simp)
    obtain ⟨l, rfl, hl⟩ := rows_list f Q (rows := rows) fun r hr => h r (by simp [hr])
    exact ⟨x :: l, rfl, by simpa using ⟨hx, hl⟩⟩

def ArgU (P : Program) (t : TypeId) (u : U) : Prop := match P.underlying t with
  | some (.struct _) => ∃ r, u = .agg r ∧ HasRow P t r
  | some (.array _ _) => True
  | _ => HasRow P t [u]
theorem ArgU.one {P : Program} {t u} (h : ArgU P t u) (hn : stT P t = none) (ha : notArr P t = true) : HasRow P t [u] := by
  unfold ArgU at h
  unfold stT at hn
  unfold notArr at ha
  split at h <;> simp_all
theorem ArgU.agg {P : Program} {t u ts} (h : ArgU P t u) (hn : stT P t = some ts) : ∃ r, u = .agg r ∧ HasRow P t r := by
  unfold ArgU at h
  unfold stT at hn
  split at h <;> simp_all
def ArgsU (P : Program) : List TypeId → List U → Prop
  | [], [] => True
  | t :: ts, u :: us => ArgU P t u ∧ ArgsU P ts us
  | _, _ => False
theorem okWide_one {P : Program} {w r b t v} (h : Value.okWide P w r b t v) (h1 : ∀ fs, P.underlying t ≠ some (.struct fs)) (h2 : ∀ n e, P.underlying t ≠ some (.array n e)) : v.cells = #[v] := by
  unfold Value.okWide at h
  split at h
  · rename_i fs hu; exact absurd hu (h1 fs)
  · rename_i n e hu; exact absurd hu (h2 n e)
  · cases v <;> first | rfl | (exfalso; unfold Cell.okWide at h; split at h <;> simp_all [Cell.ok])
theorem args_rep {H : Type} {enc : TypeId × Value → H} {P : Program} (hseq : seqAll P = true) {w : World} {spare : Nat → Bool} {held : Bool} {r : Reach} {b : Nat} : ∀ {ts : List TypeId} {vs : List Value} {ds : List (DataW H)} {p : List MemPlace},
    DataW.TrodAll enc P w 0 spare held ts vs ds p → (∀ t ∈ ts, t < P.types.size) → (∀ (j : Nat) t v, ts[j]? = some t → vs[j]? = some v → Value.okWide P w r b t v) → ∃ us, ArgsU P ts us ∧ RepRow (wmem w) us vs
  | [], [], [], _, _, _, _ => ⟨[], trivial, rfl, by simp⟩
  | t :: ts, v :: vs, d :: ds, p, h, hlt, hok => by
    obtain ⟨p1, q1, ⟨fuel, h1⟩, h2, _⟩ := h
    obtain ⟨us, h3, h4⟩ := args_rep hseq h2 (fun t ht => hlt t (by simp [ht])) fun j t v ht hv => hok (j + 1) t v (by simpa using ht) (by simpa using hv)
    have hv := hok 0 t v rfl rfl
    obtain ⟨row, h5, h6⟩ := trod_rep hseq fuel (hlt t (by simp)) h1
    have hone : ∀ (_ : ∀ fs, P.underlying t ≠ some (.struct fs)) (_ : ∀ n e, P.underlying t ≠ some (.array n e)), ∃ u, HasRow P t [u] ∧ RepU (wmem w) u v := fun n1 n2 => by
      have hc := okWide_one hv n1 n2
      rw [hc] at h6
      have hl := h6.1
      match row, hl with
      | [u], _ => exact ⟨u, h5, by simpa using h6.2 0 u rfl⟩
    have hcons : ∀ u, ArgU P t u → RepU (wmem w) u v → ∃ us, ArgsU P (t :: ts) us ∧ RepRow (wmem w) us (v :: vs) := fun u hu hr => ⟨u :: us, ⟨hu, h3⟩, (RepRow.one hr).append h4⟩
    cases hu : P.underlying t with
    | none =>
      obtain ⟨u, h7, h8⟩ := hone (fun fs e => by rw [hu] at e; cases e) (fun n x e => by rw [hu] at e; cases e)
      exact hcons u (by unfold ArgU; rw [hu]; exact h7) h8
    | some td =>
      cases td with
      | struct fs =>
        unfold Value.okWide at hv
        rw [hu] at hv
        obtain ⟨cs, rfl, _⟩ := hv
        refine hcons (.agg row) (by unfold ArgU; rw [hu]; exact ⟨row, rfl, h5⟩) ?_
        have := RepU.agg (m := wmem w) row cs.toList (by simpa [Value.cells] using h6.1) (by simpa [Value.cells] using h6.2)
        simpa using this
      | array n e => exact hcons (.oth v) (by unfold ArgU; rw [hu]; trivial) (.oth v)
      | _ =>
        obtain ⟨u, h7, h8⟩ := hone (fun fs e => by rw [hu] at e; cases e) (fun n x e => by rw [hu] at e; cases e)
        exact hcons u (by unfold ArgU; rw [hu]; exact h7) h8

/-- The call out of a contract by value. -/
theorem calls_of_fun {P : Program} {f : FuncId} {us : List U} {b : Bool} (h : Fun P f (us.map .u) (· = .u (.bool b))) {W : World} {args : Array Value} (ha : RepRow (wmem W) us args.toList) :
    Calls P f args W fun e W' => e = .returned (.bool b) ∧ Below W.heap.size W W' := by
  have := h ⟨wmem W, fun _ => none⟩ (W.heap.size ≤ ·) W args ⟨fun _ _ _ h => h, by simp [getK], by simp [getK]⟩ (fun _ _ => rfl) (fun _ h => h)
    ⟨by simpa using ha.1.symm, fun j d hj => by
      rw [List.getElem?_map] at hj
      cases hu : us[j]? with
      | none => rw [hu] at hj; cases hj
      | some u =>
        rw [hu] at hj
        cases hj
        have := ha.2 j u hu
        have e : args.getD j undef = args.toList.getD j undef := by simp
        rw [e]
        exact Rep.u _ _ this⟩
  refine this.mono ?_
  rintro e W' ⟨v, d, o, n, k', rfl, hin, _, _, _, hr, _, rfl⟩
  exact ⟨by rw [rep_bool hr], ⟨hin.os, hin.tape, hin.output, hin.size, fun k hk => hin.block k (by omega)⟩⟩

theorem trodAll_below {H : Type} {enc : TypeId × Value → H} {P : Program} (hl : laidOutB P = true) {W W' : World} (hb : Below W.heap.size W W') {sp : Nat → Bool} : ∀ {ts : List TypeId} {vs : List Value} {ds : List (DataW H)} {ps : List MemPlace},
    (∀ t ∈ ts, P.readableRec t = true ∧ t < P.types.size) → DataW.TrodAll enc P W 0 (fun _ => true) true ts vs ds ps → (∀ x ∈ ps, x.block < W.heap.size) → (∀ x ∈ ps, sp x.block = true) → DataW.TrodAll enc P W' 0 sp true ts vs ds ps
  | [], [], [], _, _, h, _, _ => h
  | t :: ts, v :: vs, d :: ds, ps, hr, h, hlt, hsp => by
    obtain ⟨p, q, h1, h2, rfl⟩ := h
    obtain ⟨h3, h4⟩ := hr t (by simp)
    refine ⟨p, q, WideElems.Trod_stays hl h3 h4 h1 (fun x hx => hb.same (hlt x (by simp [hx]))) (fun x hx => hsp x (by simp [hx])), trodAll_below hl hb (fun t ht => hr t (by simp [ht])) h2 (fun x hx => hlt x (by simp [hx])) (fun x hx => hsp x (by simp [hx])), rfl⟩

theorem post_below {H : Type} {enc : TypeId × Value → H} {P : Program} {f : Func} {s : ChangeSpec} {apart fresh handsOn again : Bool} {W W' : World} {args : Array Value} {v : Value} {ds gs : List (DataW H)} {before pa pv : List MemPlace}
    (hW : DataW.Whole enc P f.params.toList s.vars apart W args.toList ds gs before)
    (hres : ∀ (b : Nat) (sp : Nat → Bool) (hd : Bool), DataW.TrodAll enc P W' b sp hd f.resultTypes.toList (v.resultList f.resultTypes.size) (s.fn H (ds ++ gs)).results [])
    (hargs : ∀ sp : Nat → Bool, (∀ p ∈ before, sp p.block = true) → DataW.TrodAll enc P W' 0 sp true f.params.toList args.toList (s.fn H (ds ++ gs)).args pa)
    (hvars : ∀ sp : Nat → Bool, (∀ p ∈ before, sp p.block = true) → DataW.TrodVars enc P W' sp s.vars (s.fn H (ds ++ gs)).vars pv)
    (hps : before = pa ++ pv) (hb : Below W.heap.size W W')
    (hok : ∀ (j : Nat) (t : TypeId) (r : Value), f.resultTypes[j]? = some t → (v.resultList f.resultTypes.size)[j]? = some r → Value.okWide P W' .any 0 t r) :
    s.post enc P f apart fresh handsOn again W args v W' := by
  have hlt : ∀ p ∈ before, p.block < W.heap.size := fun p hp => hW.lt p hp
  have hold : ∀ p ∈ before, (fun b => decide (b < W.heap.size)) p.block = true := fun p hp => by simpa using hlt p hp
  refine ⟨ds, gs, before, [], pa, pv, hW, hres _ _ _, hargs _ hold, hvars _ hold, World.keptBut_mono (fun p hp => ⟨hp, ?_⟩) (hb.frame (· ∈ before)), fun _ => ?_⟩
  · rw [hps, List.mem_append] at hp
    exact Or.inr hp
  · obtain ⟨_, _, _, _, _, hz, hn⟩ := hW
    refine ⟨hok, _, _, ([] ++ pa) ++ pv, ⟨[] ++ pa, pv, trodAll_append (hargs _ (fun _ _ => rfl)) (hres _ _ _), hvars _ (fun _ _ => rfl), rfl, ?_, ?_⟩, ?_⟩
    · intro b off hp
      have hin : MemPlace.cell b off ∈ before := by rw [hps]; simpa using hp
      rw [hb.frozen (hlt _ hin)]
      exact hz b off hin
    · intro ha
      have := hn ha
      rw [hps] at this
      simpa using this
    · intro p hp _
      rw [hps]
      simpa using hp

/-- A law of plain data, told by value for every input, as the row's own statement. -/
theorem law_lifted {H : Type} {enc : TypeId × Value → H} {C : Checked} {os : Os} {f : FuncId} {fn : Func} {s : ChangeSpec} {conds : List PathCond} {apart fresh handsOn again : Bool} {tb : TypeId}
    (own : ownKnob C.prog.godebug = none) (started : os.Started) (noInit : C.prog.inits.idxOf? f = none) (hfn : C.prog.funcs[f]? = some fn)
    (witness : ∃ (w : World) (tape : Tape) (i : Input), w.os = os ∧ (w.forCall tape i).Shaped C.prog ∧ i.vars = [] ∧ Input.okWide C.prog (w.forCall tape i) .any w.heap.size f i ∧
      s.pre6 enc C.prog fn conds apart (w.forCall tape i).memory i.args ∧ (({} : Assume)).holds C.prog (lone (Frame.enter C.prog f i.args .normal) [] (w.forCall tape i)))
    (hl : laidOutB C.prog = true) (hseq : seqAll C.prog = true) (hpar : (fn.params.toList.all fun t => C.prog.readableRec t && decide (t < C.prog.types.size)) = true)
    (hvars : s.vars = []) (hspec : ∀ ds : List (DataW H), ds.length = fn.params.size → s.fn H ds = { results := [.lit (.bool true)], args := ds })
    (hres : fn.resultTypes = #[tb]) (htb : C.prog.underlying tb = some .bool)
    (hfun : ∀ us : List U, ArgsU C.prog fn.params.toList us → Fun C.prog f (us.map .u) (· = .u (.bool true))) :
    ReturnsInHanded {} C os f .any (s.pre6 enc C.prog fn conds apart) (s.post enc C.prog fn apart fresh handsOn again) := by
  refine returnsInHanded_of_change own started noInit hfn witness ?_
  intro W base args ds gs before hval hW _ _
  have hpar' : ∀ t ∈ fn.params.toList, C.prog.readableRec t = true ∧ t < C.prog.types.size := by
    intro t ht
    have := List.all_eq_true.1 hpar t ht
    simpa using this
  have hW' := hW
  obtain ⟨p, q, hA, hV, rfl, hfz, hnd⟩ := hW
  rw [hvars] at hV
  obtain ⟨rfl, rfl⟩ := trodVars_none hV
  have hlt : ∀ x ∈ p, x.block < W.heap.size := fun x hx => hW'.lt x (by simp [hx])
  obtain ⟨us, h1, h2⟩ := args_rep hseq hA (fun t ht => (hpar' t ht).2) (fun j t v ht hv => hval j t v (by simpa using ht) (by simpa using hv))
  refine (calls_of_fun (hfun us h1) h2).mono ?_
  rintro e W' ⟨rfl, hb⟩
  have hdl : ds.length = fn.params.size := by
    have : ∀ {ts : List TypeId} {vs : List Value} {ds : List (DataW H)} {p : List MemPlace}, DataW.TrodAll enc C.prog W 0 (fun _ => true) true ts vs ds p → ds.length = ts.length := by
      intro ts
      induction ts with
      | nil => intro vs ds p h; cases vs <;> cases ds <;> simp_all [DataW.TrodAll]
      | cons t ts ih =>
        intro vs ds p h
        cases vs <;> cases ds <;> simp only [DataW.TrodAll] at h
        obtain ⟨p, q, _, h2, _⟩ := h
        simp [ih h2]
    simpa using this hA
  have hs := hspec ds hdl
  refine ⟨_, rfl, post_below (pa := p) (pv := []) hW' (fun b sp hd => ?_) (fun sp hsp => ?_) (fun sp _ => ?_) rfl hb (fun j t r ht hr => ?_)⟩
  · rw [List.append_nil, hs, hres]
    exact trodAll_mk1 ⟨1, by simp [DataW.trod, Value.cells, htb]⟩
  · rw [List.append_nil, hs]
    exact trodAll_below hl hb hpar' hA hlt fun x hx => hsp x (by simp [hx])
  · rw [List.append_nil, hs, hvars]
    rfl
  · rw [hres] at ht hr
    cases j with
    | zero =>
      simp at ht
      subst ht
      simp [Value.resultList] at hr
      subst hr
      simp [Value.okWide, htb, Cell.okWide, Cell.ok]
    | succ j => simp at ht
end Go.VL
