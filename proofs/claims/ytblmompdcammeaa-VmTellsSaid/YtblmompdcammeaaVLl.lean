/- The calculus of values: lists of operations, functions, calls. -/
import Derived.Test.YtblmompdcammeaaVLk
set_option linter.all false
namespace Go.VL
open Go

/-- A list of operations from a state on. -/
def G (P : Program) (Γ : Ctx) (all : Array Oper) (ops : List Oper) (s : St) (k : St → Prop) : Prop :=
  ∀ K a w, In Γ K w → Sim K Γ.own s a w → ∀ (Q : Exit → Act → World → Prop), (∀ K' a' w' s', In Γ K' w' → Sim K' Γ.own s' a' w' → k s' → Q .normal a' w') → wpList P all Q ops a w

section
variable {P : Program} {Γ : Ctx} {all : Array Oper} {rest : List Oper} {s : St} {k : St → Prop}

theorem G_nil (h : k s) : G P Γ all [] s k := fun K a w hin hs Q hQ => hQ K a w s hin hs h

theorem G_eff {dst : Option Tmp} {op : Op} {type : TypeId} {pos : String} {after : Array Edge}
    (h : Eff P Γ { dst, op, type, pos, after, guard := none } s fun s' => G P Γ all rest s' k) : G P Γ all ({ dst, op, type, pos, after, guard := none } :: rest) s k :=
  fun K a w hin hs Q hQ => wpList_plain rfl fun Kont hK => h K a w hin hs Kont Q fun K' a' w' s' h1 h2 h3 => hK a' w' (h3 K' a' w' h1 h2 Q hQ)

def guardTmp (all : Array Oper) (j : Nat) : Option Tmp := (all[j]?).bind (·.dst)

theorem Sim.getK {k own s a w} (h : Sim k own s a w) {x d} (hx : getK s.env x = some d) : x < a.tmps.size ∧ Rep k d (a.tmps.getD x undef) :=
  ⟨by rw [h.size]; exact (h.env x d hx).1, (h.env x d hx).2⟩

/-- What the slot of an operation holds that was not wanted. -/
abbrev D.un : D := .u (.oth undef)
/-- A guarded operation whose guard was not wanted itself. -/
theorem G_guardU {dst : Option Tmp} {op : Op} {type : TypeId} {pos : String} {after : Array Edge} {j : Nat} {want : Bool} {t : Tmp}
    (hj : guardTmp all j = some t) (hb : getK s.env t = some .un) (hp : putOK dst s) (hn : G P Γ all rest (s.put dst .un) k) :
    G P Γ all ({ dst, op, type, pos, after, guard := some (j, want) } :: rest) s k := by
  intro K a w hin hs Q hQ
  obtain ⟨hlt, hr⟩ := hs.getK hb
  have hv := rep_oth hr
  have hyd : yielded all a.tmps j = none := by
    unfold yielded
    unfold guardTmp at hj
    rw [hj]
    simp only [Option.bind_some]
    have : a.tmps[t]? = some undef := by
      rw [Array.getElem?_eq_getElem hlt]
      simp [hlt] at hv
      rw [hv]
    rw [this]
    rfl
  have e1 : Region.wanted { dst, op, type, pos, after, guard := some (j, want) } (yielded all a.tmps) = false := by
    simp [Region.wanted, hyd]
  refine wpList_skip e1 ?_
  exact hn K _ w hin (hs.put hp (.u _ _ (.oth _))) Q hQ
/-- A guarded operation: the ways part. -/
theorem G_guard {dst : Option Tmp} {op : Op} {type : TypeId} {pos : String} {after : Array Edge} {j : Nat} {want b : Bool} {t : Tmp}
    (hj : guardTmp all j = some t) (hb : getK s.env t = some (.u (.bool b))) (hp : putOK dst s)
    (hy : b = want → G P Γ all ({ dst, op, type, pos, after, guard := none } :: rest) (s.put (some t) (.u (.bool want))) k)
    (hn : b = !want → G P Γ all rest ((s.put (some t) (.u (.bool (!want)))).put dst .un) k) :
    G P Γ all ({ dst, op, type, pos, after, guard := some (j, want) } :: rest) s k := by
  intro K a w hin hs Q hQ
  obtain ⟨hlt, hr⟩ := hs.getK hb
  have hv := rep_bool hr
  have hyd : yielded all a.tmps j = some b := by
    unfold yielded
    unfold guardTmp at hj
    rw [hj]
    simp only [Option.bind_some]
    have : a.tmps[t]? = some (.bool b) := by
      rw [Array.getElem?_eq_getElem hlt]
      simp [hlt] at hv
      rw [hv]
    rw [this]
  have same : ∀ b', b = b' → Sim K Γ.own (s.put (some t) (.u (.bool b'))) a w := fun b' e => by
    subst e
    refine ⟨hs.sat, hs.defers, hs.size, fun x d hx => ?_, hs.hdr⟩
    simp only [St.put, getK_cons] at hx
    split at hx
    · rename_i e
      subst e
      cases hx
      exact hs.env _ _ hb
    · exact hs.env x d hx
  by_cases hw : b = want
  · have := hy hw K a w hin (same want hw) Q hQ
    unfold wpList at this ⊢
    have e1 : Region.wanted { dst, op, type, pos, after, guard := some (j, want) } (yielded all a.tmps) = true := by
      simp [Region.wanted, hyd, hw]
    have e2 : Region.wanted { dst, op, type, pos, after, guard := none } (yielded all a.tmps) = true := rfl
    rw [if_pos e2] at this
    rw [if_pos e1]
    exact this
  · have hb' : b = !want := by cases b <;> cases want <;> simp_all
    have e1 : Region.wanted { dst, op, type, pos, after, guard := some (j, want) } (yielded all a.tmps) = false := by
      simp [Region.wanted, hyd, hw]
    refine wpList_skip e1 ?_
    exact hn hb' K _ w hin ((same _ hb').put (by cases dst <;> simp_all [putOK, St.put]) (.u _ _ (.oth _))) Q hQ

theorem V_region {Q : Exit → St → Prop} {kt : Kt} {id : Nat} {l : List Oper} (h : G P Γ l.toArray l s (RunK P Γ Q kt .normal)) : V P Γ (.region id l.toArray false) s (RunK P Γ Q kt) :=
  fun K a w hin hs => wp_region_lit (h K a w hin hs _ fun K' a' w' s' h1 h2 h3 => ⟨K', s', h1, h2, h3⟩)
end

-- functions
def resD (P : Program) (s : St) : List ResultVar → (List D → Prop) → Prop
  | [], k => k []
  | .tmp t :: r, k => resD P s r fun ds => k (s.at t :: ds)
  | .cell a t :: r, k => loadD P s t (s.at a) fun d => resD P s r fun ds => k (d :: ds)
def oneOrTup : List D → D
  | [d] => d
  | ds => .tup ds
theorem resD_run {P : Program} {s : St} {k : Kr} {own a w} (hs : Sim k own s a w) : ∀ (rs : List ResultVar) (K : List D → Prop), resD P s rs K →
    ∃ ds vs, K ds ∧ (rs.mapM (fun (r : ResultVar) => match r with | .tmp t => (pure (a.tmps.getD t undef) : Sem Value) | .cell x t => do loadVar t (← asAddr (a.tmps.getD x undef)))).run P w = .ok vs w ∧
      ds.length = vs.length ∧ ∀ j d, ds[j]? = some d → Rep k d (vs.getD j undef)
  | [], K, h => ⟨[], [], h, by simp, rfl, by simp⟩
  | .tmp t :: r, K, h => by
    obtain ⟨ds, vs, h1, h2, h3, h4⟩ := resD_run hs r _ h
    refine ⟨_, a.tmps.getD t undef :: vs, h1, ?_, by simp [h3], fun j d hj => ?_⟩
    · simp only [List.mapM_cons, Sem.run_bind, Sem.run_pure, Result.andThen_ok, h2]
    · cases j with
      | zero => simp at hj; subst hj; exact hs.at t
      | succ j => simpa using h4 j d (by simpa using hj)
  | .cell x t :: r, K, h => by
    obtain ⟨d0, h, u, hu, hr⟩ := loadD_run h hs (hs.at x)
    obtain ⟨ds, vs, h1, h2, h3, h4⟩ := resD_run hs r _ h
    have hload : (do loadVar t (← asAddr (a.tmps.getD x undef)) : Sem Value).run P w = .ok u w := by
      unfold Instr.loadAt Instr.sureAddr at hu
      split at hu
      · rename_i ad hv
        rw [hv]
        simpa [asAddr] using hu
      · simp at hu
    refine ⟨_, u :: vs, h1, ?_, by simp [h3], fun j d hj => ?_⟩
    · simp only [List.mapM_cons, Sem.run_bind, Result.andThen_ok, Sem.run_pure] at hload ⊢
      rw [hload]
      simp only [Result.andThen_ok, h2]
    · cases j with
      | zero => simp at hj; subst hj; simpa using hr
      | succ j => simpa using h4 j d (by simpa using hj)

/-- What a call gives back. -/
def Ret (P : Program) (f : FuncId) (ds : List D) (obs : List (Nat × Ob)) (nx : Nat) (post : D → List (Nat × Ob) → Nat → Prop) : Prop :=
  ∀ (k : Kr) (own : Nat → Prop) (w : World) (vs : Array Value), Sat k own obs w → (∀ i, nx ≤ i → k.hdr i = none) → (∀ b, w.heap.size ≤ b → own b) → RepL k ds vs →
    Calls P f vs w fun e w' => ∃ v d obs' nx' k', e = .returned v ∧ In ⟨own, k, nx, w⟩ k' w' ∧ Sat k' own obs' w' ∧ (∀ i, nx' ≤ i → k'.hdr i = none) ∧ nx ≤ nx' ∧ Rep k' d v ∧ post d obs' nx'

/-- At a function's end. -/
def FinOK (n0 : Nat) (post : D → List (Nat × Ob) → Nat → Prop) (s : St) (d : D) : Prop :=
  (∃ s' ρ d', St.Le n0 ρ s s' ∧ D.le ρ d d' ∧ d'.under s'.next = true ∧ n0 ≤ s'.next ∧ post d' s'.obs s'.next) ∨ (n0 ≤ s.next ∧ post d s.obs s.next)

def EndOK (P : Program) (fn : Func) (n0 : Nat) (post : D → List (Nat × Ob) → Nat → Prop) (e : Exit) (s : St) : Prop :=
  (e = .normal ∨ e = .ret) ∧ resD P s fn.results.toList fun ds => FinOK n0 post s (oneOrTup ds)

def entry (ds : List D) (nt : Nat) (obs : List (Nat × Ob)) (nx : Nat) : St := { n := nt, env := (ds.zipIdx 0).map fun p => (p.2, p.1), obs, next := nx }

theorem getK_zipIdx (ds : List D) (i x : Nat) : getK ((ds.zipIdx i).map fun p => (p.2, p.1)) x = if i ≤ x then ds[x - i]? else none := by
  induction ds generalizing i with
  | nil => simp [getK]
  | cons d ds ih =>
    simp only [List.zipIdx_cons, List.map_cons, getK_cons, ih]
    by_cases h1 : x = i
    · subst h1; simp
    · rw [if_neg h1]
      by_cases h2 : i + 1 ≤ x
      · rw [if_pos h2, if_pos (by omega)]
        have : x - i = (x - (i + 1)) + 1 := by omega
        rw [this, List.getElem?_cons_succ]
      · rw [if_neg h2, if_neg (by omega)]

theorem Ret.of_body {P f fn c ds obs nx post} (hf : P.funcs[f]? = some fn) (hb : fn.body = some c) (hn : ds.length ≤ fn.ntmps)
    (h : ∀ Γ : Ctx, Γ.n0 = nx → V P Γ c (entry ds fn.ntmps obs nx) (RunK P Γ (EndOK P fn nx post) .done)) : Ret P f ds obs nx post := by
  intro k own w vs hsat hhdr hfresh hrep
  have hsz : vs.size = ds.length := hrep.1
  refine calls_of_wp hf hb (wp_mono (h ⟨own, k, nx, w⟩ rfl k _ w ⟨.refl _, hhdr, fun b o v e => .inl e, hfresh, rfl, rfl, rfl, Nat.le_refl _, fun _ _ => rfl⟩
    ⟨hsat, rfl, ?_, fun x d hx => ?_, hhdr⟩) ?_)
  · simp [entry, hsz]; omega
  · simp only [entry, getK_zipIdx, Nat.zero_le, if_true, Nat.sub_zero] at hx
    have hlt := (List.getElem?_eq_some_iff.1 hx).1
    refine ⟨by simp [entry]; omega, ?_⟩
    have := hrep.2 x d hx
    have e : (vs ++ Array.replicate (fn.ntmps - vs.size) undef).getD x undef = vs.getD x undef := by
      simp [Array.getElem?_append, show x < vs.size by omega]
    rw [e]
    exact this
  · rintro e a' w' ⟨K', s', hin, hs, hend⟩
    obtain ⟨he, hres⟩ := (hend : EndOK P fn nx post e s')
    obtain ⟨rs, rv, hfin, hrun, hlen, hr⟩ := resD_run hs _ _ hres
    have hres' : (results fn a'.tmps).run P w' = .ok (if h : rv.toArray.size = 1 then rv.toArray[0] else .tuple rv.toArray) w' := by
      unfold results
      rw [Array.mapM_eq_mapM_toList]
      have e : (fn.results.toList.mapM fun (x : ResultVar) => match x with | .tmp t => (pure (a'.tmps.getD t undef) : Sem Value) | .cell a t => do loadVar t (← asAddr (a'.tmps.getD a undef))).run P w' = .ok rv w' := hrun
      simp only [Sem.run_bind, Sem.run_map, Result.andThen_ok]
      erw [e]
      simp
    have hrepv : Rep K' (oneOrTup rs) (if h : rv.toArray.size = 1 then rv.toArray[0] else .tuple rv.toArray) := by
      match rs, rv, hlen, hr with
      | [], [], _, hr => exact .tup [] [] rfl (by simp)
      | [d], [v], _, hr => simpa [oneOrTup] using hr 0 d rfl
      | d :: d1 :: ds, v :: v1 :: vs, hlen, hr =>
        simp only [oneOrTup]
        rw [dif_neg (by simp)]
        exact .tup _ _ hlen hr
    have hfinal : bodyPost P fn (fun e w' => ∃ v d obs' nx' k', e = .returned v ∧ In ⟨own, k, nx, w⟩ k' w' ∧ Sat k' own obs' w' ∧ (∀ i, nx' ≤ i → k'.hdr i = none) ∧ nx ≤ nx' ∧ Rep k' d v ∧ post d obs' nx') .ret a' w' := by
      rcases hfin with ⟨s2, ρ, d', hle, hd, hu, hnx, hpost⟩ | ⟨hnx, hpost⟩
      · obtain ⟨h1, h2⟩ := Sim.weak hin hs hle
        exact ⟨hs.defers, _, hres', _, d', s2.obs, s2.next, _, rfl, h1, h2.sat, h2.hdr, hnx, hrepv.weak hd hu, hpost⟩
      · exact ⟨hs.defers, _, hres', _, _, s'.obs, s'.next, K', rfl, hin, hs.sat, hs.hdr, hnx, hrepv, hpost⟩
    rcases he with rfl | rfl
    · exact hfinal
    · exact hfinal

end Go.VL
