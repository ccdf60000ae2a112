/- Appending to a slice of the call's own whose old header is read later: both are told as values from then on. -/
import Derived.Test.YtdkadmchdocjbaaVLC
set_option linter.all false
set_option maxRecDepth 100000
set_option maxHeartbeats 8000000
set_option linter.all false
namespace Go.VL
open Go
theorem append_keep {P : Program} {t e sz bytes z} (he : elInf P t = some (e, sz, bytes, z)) (w : World) (ty : TypeId) {v : Value} {n : Nat} {xs : List Value} (hown : w.ownsRow 0 e sz v n xs)
    {A : Option Addr} {m c : Nat} {news : List Value} (hl : news.length = m * sz) (hA : m = 0 ∨ ∃ b o, A = some ⟨b, o, none⟩ ∧ ∀ j u, news[j]? = some u → w.cell? ⟨b, o + j, none⟩ = some u)
    (h1 : ∀ u ∈ news, u.oneCell' = true) (h63 : n + m ≤ 9223372036854775807) (hby : (n + m) * bytes ≤ 140737488355328) :
    ∃ v' w', (Builtin.append_ #[t, t] ty #[v, .slice A m c]).run P w = .ok v' w' ∧ w'.ownsRow 0 e sz v' (n + m) (xs ++ news) ∧ w.grownBy w' v.ownBlock ∧
      (v'.ownBlock = v.ownBlock ∨ v'.ownBlock = some w.heap.size) ∧ (v'.ownBlock = v.ownBlock ∨ w.grownBy w' none) := by
  obtain ⟨v', w', hrun, hown', hgrow, hob⟩ := append_run he w ty hown hl hA h1 h63 hby (c := c)
  refine ⟨v', w', hrun, hown', hgrow, hob, ?_⟩
  obtain ⟨hu, ⟨i, zv, hi, hsz, hb, hz, hvz⟩, hzl, hpos, _⟩ := elInf_some he
  rcases hA with rfl | ⟨b, o, rfl, hc⟩
  · have hn : news = [] := List.eq_nil_of_length_eq_zero (by simpa using hl)
    subst hn
    have := run_append_of_nil (P := P) w 0 t ty e i sz hu hi v n xs hown A c
    rw [this] at hrun
    cases hrun
    exact .inl rfl
  · subst hsz
    subst hb
    rcases hown.2 with ⟨rfl, rfl⟩ | ⟨g, cap, cur, rfl, hbg, hg, hnc, hcm, hcs, htake⟩
    · exact .inr hgrow
    · by_cases hroom : n + m ≤ cap
      · have hr := run_append_room (P := P) w t ty e i hu hi g n cap cur hg ⟨b, o, none⟩ m c news hl (fun j u hj => by rw [addr_add]; exact hc j u hj) h1 hroom
          (by rw [hl, hcs, ← Nat.add_mul]; exact Nat.mul_le_mul_right _ hroom)
        rw [hr] at hrun
        cases hrun
        exact .inl rfl
      · have hr := run_append_grow (P := P) w t ty e i zv hu hi hz ⟨g, 0, none⟩ n cap xs hown.1 (hown.cells (g := g) rfl) ⟨b, o, none⟩ m c news hl (fun j u hj => by rw [addr_add]; exact hc j u hj) (by omega) (by omega)
          (growslice_fits (by omega) hby)
        rw [hr] at hrun
        cases hrun
        exact .inr ⟨rfl, rfl, rfl, by simp, fun k hk _ => heap_alloc_old w.drew _ hk⟩
/-- Rows that lie in memory, told as a value. -/
theorem RepU_rows {m : Mem} {w : World} {e sz : Nat} {xs : List Value} {us : List (List U)} {h : Option Nat × Nat} (hrow : w.ownsRow 0 e sz (headVal h us.length) us.length xs) (hlen : ∀ r ∈ us, r.length = sz)
    (hm : ∀ b, h.1 = some b → ∀ (j : Nat) u, xs[j]? = some u → m b j = some (.val u)) (hc : ∀ (i : Nat) r, us[i]? = some r → ∀ (j : Nat) u, r[j]? = some u → RepU m u (xs.getD (i * sz + j) undef))
    {len : Nat} (hl : len ≤ us.length) : RepU m (.sl (us.take len)) (headVal h len) := by
  by_cases h0 : len = 0
  · subst h0
    rw [List.take_zero]
    exact .slE _ _ fun e => ownsRow_capNone hrow (by simpa using e)
  · rcases hrow.2 with ⟨hv, hz⟩ | ⟨g, cap, cur, hv, _, hheap, hncap, hcm, _, htake⟩
    · omega
    · obtain ⟨hb1, hb2⟩ : h.1 = some g ∧ h.2 = cap := by
        simp only [headVal, Value.slice.injEq, Option.map_eq_some_iff] at hv
        obtain ⟨⟨b, hb, e⟩, _, e2⟩ := hv
        simp only [Addr.mk.injEq] at e
        exact ⟨by rw [hb, e.1], e2⟩
      have hxl := hrow.1
      have := RepU.sl (m := m) (us.take len) g 0 sz h.2 (fun p q => xs.getD (p * sz + q) undef) (by simp; omega) (by omega) (fun r hr => hlen r (List.mem_of_mem_take hr)) (fun p hp q hq => ?_) (fun p r hr q u hq => ?_)
      · simpa [headVal, hb1, Nat.min_eq_left hl] using this
      · have hp' : p < us.length := by simp at hp; omega
        have hb : p * sz + q < us.length * sz := by
          have : (p + 1) * sz ≤ us.length * sz := Nat.mul_le_mul_right _ hp'
          rw [Nat.add_mul, Nat.one_mul] at this
          omega
        refine hm g hb1 _ _ ?_
        rw [Nat.zero_add, List.getD_eq_getElem?_getD, List.getElem?_eq_getElem (by omega)]
        rfl
      · rw [List.getElem?_take] at hr
        split at hr
        · exact hc p r hr q u hq
        · cases hr
/-- What is known when an append keeps the old header's rows. -/
def appendKD (P : Program) (t : TypeId) (x y : D) (s : St) (dst : Option Tmp) (k : St → Prop) : Prop :=
  match elInf P t, rowsOf s y with
  | some (e, sz, bytes, _), some rs => lenR sz rs ∧ onesR rs ∧ putOK dst s ∧ match x with
    | .vec i len => match getK s.obs i with
      | some (.vec e' sz' rows) => match allU2 rows, allU2 rs with
        | some us, some vs => e = e' ∧ sz = sz' ∧ len = us.length ∧ (len + rs.length) * bytes ≤ 140737488355328 ∧ len + rs.length ≤ 9223372036854775807 ∧
          k ((s.frz i us []).put dst (.u (.sl (us ++ vs))))
        | _, _ => False
      | _ => False
    | _ => False
  | _, _ => False
theorem Eff.appendK {P Γ o s k x y t} (ho : o.op = .call { callee := .builtin .append, args := #[x, y], argTypes := #[t, t] }) (h : appendKD P t (opd s x) (opd s y) s o.dst k) : Eff P Γ o s k := by
  intro K a w hin hs Kont Q hK
  obtain ⟨dst, op, type, pos, after, guard⟩ := o
  simp only at ho h
  subst ho
  unfold appendKD at h
  split at h
  case h_2 => exact h.elim
  rename_i e sz bytes z rs he hrs
  obtain ⟨hsz, hone, hp, h⟩ := h
  obtain ⟨_, _, _, hpos, _⟩ := elInf_some he
  obtain ⟨A, c, news, hyv, hnl, hA, hnews⟩ := rowsOf_rep hs hrs (opd_rep hs y) hsz hpos hone
  have hA' : rs.length = 0 ∨ ∃ b o, A = some ⟨b, o, none⟩ ∧ ∀ j u, news[j]? = some u → w.cell? ⟨b, o + j, none⟩ = some u := hA.imp (fun e => by simp [e]) id
  have hn1 := news_one hpos hnl hsz hnews
  split at h
  case h_2 => exact h.elim
  rename_i i len hx
  split at h
  case h_2 => exact h.elim
  rename_i e' sz' rows hg
  split at h
  case h_2 => exact h.elim
  rename_i us vs hus hvs
  obtain ⟨rfl, rfl, hlen0, hby, h63, hk⟩ := h
  have hrw := allU2_inv hus
  have hrv := allU2_inv hvs
  have hul : us.length = rows.length := by rw [hrw]; simp
  have hvl : vs.length = rs.length := by rw [hrv]; simp
  have hxr := opd_rep hs x
  rw [hx] at hxr
  obtain ⟨gi, hgi, hxv⟩ := rep_vec hxr
  obtain ⟨g2, xs, hg2, hrow, _, hlen, hcs, hno⟩ := (hs.sat.ob _ _ hg).vec
  rw [hgi] at hg2
  simp only [Option.some.injEq] at hg2
  subst hg2
  obtain rfl : len = rows.length := by omega
  obtain ⟨v', w', hrun, hown, hgrow, hob, hkeep⟩ := append_keep he w type hrow hnl hA' hn1 h63 hby (c := c)
  obtain ⟨g, hv', hgv⟩ := own_head hown
  subst hv'
  have hrun' : (execOp a.eval { dst, op := .call { callee := .builtin .append, args := #[x, y], argTypes := #[t, t] }, type, pos, after, guard }).run P w = .ok (.value (headVal g (rows.length + rs.length))) w' := by
    simp only [execOp]
    simp [resolve, invoke, builtin, hxv, hyv, hrun]
  unfold Oper.wp
  rw [hrun']
  have hvb : (headVal gi rows.length).ownBlock = gi.1 := by
    obtain ⟨gb, gc⟩ := gi
    cases gb <;> rfl
  rw [hvb] at hgrow hob hkeep
  rw [← hgv] at hob hkeep
  -- the old header's cells, behind the step
  have hold : ∀ b, gi.1 = some b → ∀ j u, xs[j]? = some u → w'.cell? ⟨b, j, none⟩ = some u := fun b hb j u hj => by
    rcases hkeep with hk' | hk'
    · have := hown.cells (g := b) (by rw [← hgv, hk', hb]) j u (by rw [List.getElem?_append_left (List.getElem?_eq_some_iff.1 hj).1]; exact hj)
      rwa [addr_add, Nat.zero_add] at this
    · have := hrow.cells (g := b) (by rw [hvb, hb]) j u hj
      rw [addr_add, Nat.zero_add] at this
      have hbl : b < w.heap.size := hs.sat.lt ⟨i, _, gi, hg, hgi, hb⟩
      rw [World.cell?_of_block (a := ⟨b, j, none⟩) (hk'.block b hbl (by simp))]
      exact this
  have hnew : ∀ b, g.1 = some b → ∀ j u, (xs ++ news)[j]? = some u → w'.cell? ⟨b, j, none⟩ = some u := fun b hb j u hj => by
    have := hown.cells (g := b) (by rw [← hgv, hb]) j u hj
    rwa [addr_add, Nat.zero_add] at this
  have hB : ∀ b, (gi.1 = some b ∨ g.1 = some b) → Γ.own b ∧ (∀ o, K.mem b o = none) ∧ ∀ j oj gj, getK s.obs j = some oj → j ≠ i → K.hdr j = some gj → gj.1 ≠ some b := fun b hb => by
    have hi : gi.1 = some b → Γ.own b ∧ (∀ o, K.mem b o = none) ∧ ∀ j oj gj, getK s.obs j = some oj → j ≠ i → K.hdr j = some gj → gj.1 ≠ some b := fun hb =>
      ⟨(hno b hb).1, (hno b hb).2, fun j oj gj h1 h2 h3 => hs.sat.apart i j _ oj gi gj b hg h1 (Ne.symm h2) hgi h3 hb⟩
    rcases hb with hb | hb
    · exact hi hb
    · rcases hob with ho | ho
      · exact hi (by rw [← ho, hb])
      · rw [ho] at hb
        simp only [Option.some.injEq] at hb
        subst hb
        refine ⟨hin.own_of_ge (Nat.le_refl _), fun o => ?_, fun j oj gj h1 h2 h3 h4 => absurd (hs.sat.lt ⟨j, oj, gj, h1, h3, h4⟩) (by omega)⟩
        cases hm : K.mem w.heap.size o with
        | none => rfl
        | some v => exact absurd (hs.sat.memLt hm) (by omega)
  have hkeepO : ∀ b, ¬ (gi.1 = some b ∨ g.1 = some b) → b < w.heap.size → w'.heap[b]? = w.heap[b]? := fun b hb hl => hgrow.block b hl fun e => hb (.inl e.symm)
  classical
  have hgl : K.mem.le (fun b o => if gi.1 = some b ∨ g.1 = some b then look w' b o else K.mem b o) := fun b o v hv => by
    show (if _ then _ else _) = _
    rw [if_neg fun hb => by rw [(hB b hb).2.1 o] at hv; cases hv]
    exact hv
  let K' : Kr := { mem := fun b o => if gi.1 = some b ∨ g.1 = some b then look w' b o else K.mem b o, hdr := K.hdr, glob := K.glob.mono hgl }
  have hle : K.le K' := ⟨hgl, fun _ _ h => h⟩
  have hin' : In Γ K' w' := (hin.grown hgrow fun b e => (hno b e).1).step hle (fun b o v hv => by
    have hv' : (if gi.1 = some b ∨ g.1 = some b then look w' b o else K.mem b o) = some v := hv
    split at hv'
    · rename_i hb; exact .inr (hB b hb).1
    · exact .inl hv') rfl rfl rfl (Nat.le_refl _) fun _ _ => rfl
  have hm1 : ∀ b, gi.1 = some b → ∀ (j : Nat) u, xs[j]? = some u → K'.mem b j = some (.val u) := fun b hb j u hj => by
    show (if _ then _ else _) = _
    rw [if_pos (.inl hb)]
    exact look_cell (hold b hb j u hj)
  have hm2 : ∀ b, g.1 = some b → ∀ (j : Nat) u, (xs ++ news)[j]? = some u → K'.mem b j = some (.val u) := fun b hb j u hj => by
    show (if _ then _ else _) = _
    rw [if_pos (.inr hb)]
    exact look_cell (hnew b hb j u hj)
  have hcU : ∀ (i : Nat) r, us[i]? = some r → ∀ (j : Nat) u, r[j]? = some u → RepU K'.mem u (xs.getD (i * sz + j) undef) := fun p r hr q u hq => by
    have hr' : rows[p]? = some (r.map D.u) := by rw [hrw, List.getElem?_map, hr]; rfl
    have hd := (hcs p _ hr' q (.u u) (by rw [List.getElem?_map, hq]; rfl)).2
    cases hd with | u _ _ hd => exact hd.mono hle.mem
  have hlu : ∀ r ∈ us, r.length = sz := fun r hr => by
    have : r.map D.u ∈ rows := by rw [hrw]; exact List.mem_map.2 ⟨r, hr, rfl⟩
    simpa using hlen _ this
  have hlv : ∀ r ∈ us ++ vs, r.length = sz := fun r hr => by
    rcases List.mem_append.1 hr with hr | hr
    · exact hlu r hr
    · have : r.map D.u ∈ rs := by rw [hrv]; exact List.mem_map.2 ⟨r, hr, rfl⟩
      simpa using hsz _ this
  have hf : ∀ d u v, fzVec i us d = some u → Rep K d v → RepU K'.mem u v := fun d u v hd hr => by
    unfold fzVec at hd
    split at hd
    · rename_i j len
      split at hd
      · rename_i hc
        cases hd
        obtain ⟨rfl, hl⟩ := hc
        obtain ⟨g3, hg3, rfl⟩ := rep_vec hr
        rw [hgi] at hg3
        cases hg3
        exact RepU_rows (w := w) (by rw [hul]; exact hrow) hlu hm1 hcU hl
      · cases hd
    · cases hd
  have hres : RepU K'.mem (.sl (us ++ vs)) (headVal g (rows.length + rs.length)) := by
    have hlen2 : (us ++ vs).length = rows.length + rs.length := by simp [hul, hvl]
    have := RepU_rows (m := K'.mem) (w := w') (e := e) (sz := sz) (xs := xs ++ news) (us := us ++ vs) (h := g) (by rw [hlen2]; exact hown) hlv hm2 (fun p r hr q u hq => ?_) (len := rows.length + rs.length) (by omega)
    · rwa [List.take_of_length_le (by omega)] at this
    · have hr' : (rows ++ rs)[p]? = some (r.map D.u) := by
        rw [hrw, hrv, ← List.map_append, List.getElem?_map, hr]; rfl
      have hd := (rows_append (k := K) (rows := rows) (rs := rs) hrow.1 hlen hcs hnews p _ hr' q (.u u) (by rw [List.getElem?_map, hq]; rfl)).2
      cases hd with | u _ _ hd => exact hd.mono hle.mem
  have hobs : (s.frz i us []).obs = del s.obs i := by
    simp [St.frz, St.frzS]
  have hsim : Sim K' Γ.own (s.frz i us []) a w' := by
    refine ⟨⟨fun b o v hv => ?_, fun j ob hj => ?_, fun p q op oq gp gq b hp hq hpq hgp hgq hb => ?_⟩, hs.defers, hs.size, fun x d hx => ?_, hs.hdr⟩
    · have hv' : (if gi.1 = some b ∨ g.1 = some b then look w' b o else K.mem b o) = some v := hv
      split at hv'
      · exact hv'
      · rename_i hb
        rw [look_heap (hkeepO b hb (hs.sat.memLt hv'))]
        exact hs.sat.mem b o v hv'
    · rw [hobs, getK_del] at hj
      by_cases hji : j = i
      · rw [if_pos hji] at hj; cases hj
      · rw [if_neg hji] at hj
        obtain ⟨gj, h1, h2, h3⟩ := hs.sat.ob j ob hj
        have hnB : ∀ b, gj.1 = some b → ¬ (gi.1 = some b ∨ g.1 = some b) := fun b hb hbb => (hB b hbb).2.2 j ob gj hj hji h1 hb
        refine ⟨gj, h1, fun b hb => ⟨(h2 b hb).1, fun o => ?_⟩, ?_⟩
        · show (if _ then _ else _) = _
          rw [if_neg (hnB b hb)]
          exact (h2 b hb).2 o
        · exact h3.keep hle fun b hb => hkeepO b (hnB b hb) (hs.sat.lt ⟨j, ob, gj, hj, h1, hb⟩)
    · rw [hobs, getK_del] at hp hq
      split at hp
      · cases hp
      · split at hq
        · cases hq
        · exact hs.sat.apart p q op oq gp gq b hp hq hpq hgp hgq hb
    · have hx' : getK (s.env.map fun p => (p.1, VL.frzS (fzVec i us) p.2)) x = some d := hx
      rw [getK_map (fun _ d => VL.frzS (fzVec i us) d)] at hx'
      cases hgx : getK s.env x with
      | none => rw [hgx] at hx'; cases hx'
      | some d0 =>
        rw [hgx] at hx'
        cases hx'
        exact ⟨(hs.env x d0 hgx).1, (hs.env x d0 hgx).2.frz hle hf⟩
  exact hK K' _ w' _ hin' (hsim.put (by cases dst <;> exact hp) (.u _ _ hres)) hk
theorem H_appendK {P : Program} {Γ : Ctx} {s : St} {k : St → Prop} {dst : Option Tmp} {x y : Operand} {t : TypeId} {rest : List O1}
    (h : appendKD P t (opd s x) (opd s y) s dst fun s' => H P Γ rest s' k) : H P Γ (⟨dst, .call { callee := .builtin .append, args := #[x, y], argTypes := #[t, t] }, none⟩ :: rest) s k := by
  intro all ops e
  obtain ⟨o, ops', rfl, hx, hr⟩ := stripL_cons e
  obtain ⟨dst', op, type, pos, after, guard⟩ := o
  unfold strip at hx
  simp only at hx
  cases guard with
  | none =>
    simp at hx
    obtain ⟨rfl, rfl⟩ := hx
    exact G_eff ((Eff.appendK (o := { dst := dst', op := _, type, pos, after, guard := none }) rfl h).mono fun s' h => h all ops' hr)
  | some g =>
    obtain ⟨j, b⟩ := g
    simp only at hx
    split at hx <;> simp at hx
-- calls that are lent objects and make scalar ones
def shD (n : Nat) : D → D
  | .u x => if scalarU x then .u x else .any
  | .vec i len => .vec (i + n) len
  | .ptr i off => .ptr (i + n) off
  | .tup ds => .tup (ds.map fun d => shD n d)
  | _ => .any
theorem Rep.sh {k k' : Kr} {n : Nat} (hh : ∀ i h, k.hdr i = some h → k'.hdr (i + n) = some h) : ∀ {d : D} {v : Value}, Rep k d v → Rep k' (shD n d) v
  | .u x, v, h => by
    rw [shD]
    split
    · rename_i hs
      cases h with | u _ _ h => exact .u _ _ (h.scalar hs)
    · exact .any v
  | .tup ds, v, h => by
    obtain ⟨vs, hl, rfl, hr⟩ := rep_tup h
    rw [shD]
    refine .tup _ vs (by simpa using hl) fun j d hj => ?_
    rw [List.getElem?_map] at hj
    cases hq : ds[j]? with
    | none => rw [hq] at hj; cases hj
    | some d' =>
      rw [hq] at hj
      cases hj
      have hm := List.mem_of_getElem? hq
      exact Rep.sh hh (hr j d' hq)
  | .any, v, _ => by simp only [shD]; exact .any v
  | .ptr i off, v, h => by
    obtain ⟨b, c, h1, rfl⟩ := rep_ptr h
    simp only [shD]
    exact .ptr _ _ _ c (hh _ _ h1)
  | .vec i len, v, h => by
    obtain ⟨g, h1, rfl⟩ := rep_vec h
    simp only [shD]
    exact .vec _ _ _ (hh _ _ h1)
  | .elt .., v, _ => by simp only [shD]; exact .any v
  | .mp .., v, _ => by simp only [shD]; exact .any v
  | .fnc .., v, _ => by simp only [shD]; exact .any v
  | .agg .., v, _ => by simp only [shD]; exact .any v
termination_by d => SizeOf.sizeOf d
decreasing_by
  simp_wf
  have := List.sizeOf_lt_of_mem hm
  omega
def scOb : Ob → Bool
  | .vec _ _ rows => rows.all fun r => r.all scalarD
  | _ => false
theorem ObAt.sc {k k' : Kr} {w h ob} (ho : ObAt k w h ob) (hs : scOb ob = true) : ObAt k' w h ob := by
  cases ob with
  | vec e sz rows =>
    obtain ⟨xs, h1, h2, h3, h4⟩ := ho
    refine ⟨xs, h1, h2, h3, fun i r hi j d hj => ⟨(h4 i r hi j d hj).1, ((h4 i r hi j d hj).2).scalar ?_⟩⟩
    have h5 := List.all_eq_true.1 hs r (List.mem_of_getElem? hi)
    exact List.all_eq_true.1 h5 d (List.mem_of_getElem? hj)
  | box _ => cases hs
  | map _ _ _ => cases hs
  | it _ _ _ _ _ => cases hs
theorem getK_shift (n : Nat) : ∀ (l : List (Nat × Ob)) (x : Nat), getK (l.map fun p => (p.1 + n, p.2)) x = if n ≤ x then getK l (x - n) else none
  | [], x => by simp [getK]
  | (k, d) :: l, x => by
    simp only [List.map_cons, getK_cons, getK_shift n l x]
    by_cases h : n ≤ x
    · by_cases hx : x = k + n
      · subst hx; simp
      · rw [if_neg hx, if_pos h, if_pos h, if_neg (by omega)]
    · rw [if_neg (by omega), if_neg h, if_neg h]
theorem Eff.callFunV {P Γ s k} {fop : Operand} {args : Array Operand} {ts : Array TypeId} {ty : TypeId} {f caps dst pos after} {ds : List D} {L : List Nat} {d0 : D} {o0 : List (Nat × Ob)} {n0 : Nat}
    (hf : calleeOf (opd s fop) = some (f, caps)) (hc : callable P f = true) (hds : argsV s (args.toList.map (opd s) ++ caps) = some (ds, L)) (hret : Ret P f ds [] 0 fun d o n => d = d0 ∧ o = o0 ∧ n = n0) (hp : putOK dst s)
    (hsc : ∀ i ob, getK o0 i = some ob → scOb ob = true)
    (hk : k (({ s with obs := s.obs ++ o0.map fun p => (p.1 + s.next, p.2), next := n0 + s.next } : St).put dst (shD s.next d0))) :
    Eff P Γ { dst, op := .call { callee := .value fop, args, argTypes := ts }, type := ty, pos, after, guard := none } s k := by
  intro K a w hin hs Kont Q hK
  obtain ⟨vs, hrep, hrun⟩ := call_run hs (args := args) (ts := ts) (ty := ty) hf hc dst pos after none
  obtain ⟨h1, h2, hLo⟩ := argsV_rep hs L (fun _ => none) (vs := vs.toList) hds (by simpa using hrep.1.symm) (fun j d hj => by simpa using hrep.2 j d hj) (fun _ h => h)
  unfold Oper.wp
  rw [hrun]
  have hsat1 : Sat ⟨lentMem K L w, fun _ => none, lent_glob hs L⟩ (fun b => w.heap.size ≤ b) [] w := ⟨fun b o v hv => by
      simp only [lentMem] at hv
      split at hv
      · exact hv
      · exact hs.sat.mem b o v hv, fun i ob hi => by simp [VL.getK] at hi, fun i j x y h g b hx => by simp [VL.getK] at hx⟩
  refine Calls.mono (hret ⟨lentMem K L w, fun _ => none, lent_glob hs L⟩ (fun b => w.heap.size ≤ b) w vs hsat1 (fun _ _ => rfl) (fun b hb => hb) ⟨by simpa using h1.symm, fun j d hj => by simpa using h2 j d hj⟩) ?_
  rintro e w' ⟨v, d, obs', nx', k', rfl, hin', hsat', hhdr', hnx, hr, rfl, rfl, rfl⟩
  have hheap : ∀ b, b < w.heap.size → w'.heap[b]? = w.heap[b]? := fun b hb => hin'.block b (by simpa [Ctx.of] using hb)
  have hnone : ∀ b, w.heap.size ≤ b → ∀ o, K.mem b o = none := fun b hb o => by
    cases hm : K.mem b o with
    | none => rfl
    | some v => exact absurd (hs.sat.memLt hm) (by omega)
  let K' : Kr := { mem := K.mem, hdr := fun i => if s.next ≤ i then k'.hdr (i - s.next) else K.hdr i, glob := K.glob }
  have hh : ∀ i h, k'.hdr i = some h → K'.hdr (i + s.next) = some h := fun i h e => by
    show (if s.next ≤ i + s.next then _ else _) = _
    rw [if_pos (by omega), Nat.add_sub_cancel]
    exact e
  have hle : K.le K' := ⟨fun _ _ _ e => e, fun i h e => by
    show (if s.next ≤ i then _ else _) = _
    rw [if_neg fun hi => by rw [hs.hdr i hi] at e; cases e]
    exact e⟩
  have hin2 : In Γ K' w' := hin.step hle (fun b o v e => .inl e) hin'.os hin'.tape hin'.output hin'.size fun b hb => by
    rcases Nat.lt_or_ge b w.heap.size with h | h
    · exact hheap b h
    · exact absurd (hin.own_of_ge h) hb
  have hidx : ∀ i ob, getK s.obs i = some ob → i < s.next := fun i ob hi => by
    obtain ⟨g, hg, _⟩ := hs.sat.ob i ob hi
    rcases Nat.lt_or_ge i s.next with h | h
    · exact h
    · rw [hs.hdr i h] at hg; cases hg
  have hget : ∀ i ob, getK (s.obs ++ obs'.map fun p => (p.1 + s.next, p.2)) i = some ob → (i < s.next ∧ getK s.obs i = some ob) ∨ (s.next ≤ i ∧ getK obs' (i - s.next) = some ob) := fun i ob hi => by
    rw [getK_append, getK_shift] at hi
    cases ho : getK s.obs i with
    | some x => rw [ho] at hi; cases hi; exact .inl ⟨hidx i _ ho, rfl⟩
    | none =>
      rw [ho] at hi
      simp only at hi
      split at hi
      · rename_i h; exact .inr ⟨h, hi⟩
      · cases hi
  have hKlt : ∀ i, i < s.next → K'.hdr i = K.hdr i := fun i hi => by
    show (if s.next ≤ i then _ else _) = _
    rw [if_neg (by omega)]
  have hKge : ∀ i, s.next ≤ i → K'.hdr i = k'.hdr (i - s.next) := fun i hi => by
    show (if s.next ≤ i then _ else _) = _
    rw [if_pos hi]
  have hold : ∀ i ob h b, getK s.obs i = some ob → K.hdr i = some h → h.1 = some b → b < w.heap.size := fun i ob h b h3 h4 h5 => hs.sat.lt ⟨i, ob, h, h3, h4, h5⟩
  have hnewb : ∀ i ob h b, getK obs' i = some ob → k'.hdr i = some h → h.1 = some b → w.heap.size ≤ b := fun i ob h b h3 h4 h5 => by
    obtain ⟨g, h6, h7, _⟩ := hsat'.ob i ob h3
    rw [h4] at h6
    cases h6
    exact (h7 b h5).1
  have hsim : Sim K' Γ.own ({ s with obs := s.obs ++ obs'.map fun p => (p.1 + s.next, p.2), next := nx' + s.next } : St) a w' := by
    refine ⟨⟨fun b o v hv => ?_, fun i ob hi => ?_, fun i j x y h g b hi hj hij hh1 hh2 hb => ?_⟩, hs.defers, hs.size, fun x d hx => ⟨(hs.env x d hx).1, (hs.env x d hx).2.mono hle⟩, fun i hi => ?_⟩
    · rw [cell_of_heap (hheap b (hs.sat.memLt hv))]
      exact hs.sat.mem b o v hv
    · rcases hget i ob hi with ⟨hlt, h3⟩ | ⟨hge, h3⟩
      · obtain ⟨g, h4, h5, h6⟩ := hs.sat.ob i ob h3
        exact ⟨g, by rw [hKlt i hlt]; exact h4, h5, h6.keep hle fun b hb => hheap b (hold i ob g b h3 h4 hb)⟩
      · obtain ⟨g, h4, h5, h6⟩ := hsat'.ob _ ob h3
        refine ⟨g, by rw [hKge i hge]; exact h4, fun b hb => ⟨hin.own_of_ge (h5 b hb).1, fun o => hnone b (h5 b hb).1 o⟩, h6.sc (hsc _ ob h3)⟩
    · rcases hget i x hi with ⟨hlt, h3⟩ | ⟨hge, h3⟩
      · rw [hKlt i hlt] at hh1
        rcases hget j y hj with ⟨hlt2, h4⟩ | ⟨hge2, h4⟩
        · rw [hKlt j hlt2] at hh2
          exact hs.sat.apart i j x y h g b h3 h4 hij hh1 hh2 hb
        · rw [hKge j hge2] at hh2
          intro hg
          have e1 := hold i x h b h3 hh1 hb
          have e2 := hnewb _ y g b h4 hh2 hg
          omega
      · rw [hKge i hge] at hh1
        rcases hget j y hj with ⟨hlt2, h4⟩ | ⟨hge2, h4⟩
        · rw [hKlt j hlt2] at hh2
          intro hg
          have e1 := hnewb _ x h b h3 hh1 hb
          have e2 := hold j y g b h4 hh2 hg
          omega
        · rw [hKge j hge2] at hh2
          exact hsat'.apart _ _ x y h g b h3 h4 (by omega) hh1 hh2 hb
    · show (if s.next ≤ i then _ else _) = _
      have hi' : nx' + s.next ≤ i := hi
      rw [if_pos (by omega)]
      exact hhdr' _ (by omega)
  exact hK K' _ w' _ hin2 (hsim.put (by cases dst <;> exact hp) (hr.sh hh)) hk
section
variable {P : Program} {Γ : Ctx} {s : St} {k : St → Prop} {dst : Option Tmp}
theorem CallP.funV {fop : Operand} {args : List Operand} {f caps} {ds : List D} {L : List Nat} {d0 : D} {o0 : List (Nat × Ob)} {n0 : Nat} (hret : Ret P f ds [] 0 fun d o n => d = d0 ∧ o = o0 ∧ n = n0)
    (hf : calleeOf (opd s fop) = some (f, caps)) (hc : callable P f = true) (hds : argsV s (args.map (opd s) ++ caps) = some (ds, L)) (hp : putOK dst s)
    (hsc : ∀ i ob, getK o0 i = some ob → scOb ob = true)
    (hk : k (({ s with obs := s.obs ++ o0.map fun p => (p.1 + s.next, p.2), next := n0 + s.next } : St).put dst (shD s.next d0))) : CallP P Γ fop args dst s k :=
  fun _ _ _ _ => Eff.p (Eff.callFunV hf hc hds hret hp hsc hk)
end
end Go.VL
