/- The calculus of values: make and append. -/
import Derived.Test.YtblmompdcammeaaVLi
set_option linter.all false
namespace Go.VL
open Go

/-- Rows of plain values, as rows. -/
def rowsD (l : List (List U)) : List (List D) := l.map (·.map .u)
/-- All cells are of one cell. -/
def onesR (rs : List (List D)) : Prop := ∀ r ∈ rs, ones r = true
section
@[simp] theorem rowsD_nil : rowsD [] = [] := rfl
@[simp] theorem rowsD_cons (r : List U) (l : List (List U)) : rowsD (r :: l) = r.map .u :: rowsD l := rfl
@[simp] theorem rowsD_append (a b : List (List U)) : rowsD (a ++ b) = rowsD a ++ rowsD b := by simp [rowsD]
@[simp] theorem rowsD_length (l : List (List U)) : (rowsD l).length = l.length := by simp [rowsD]
@[simp] theorem rowsD_get (l : List (List U)) (i : Nat) : (rowsD l)[i]? = (l[i]?).map (·.map .u) := by simp [rowsD]
@[simp] theorem rowsD_take (l : List (List U)) (n : Nat) : (rowsD l).take n = rowsD (l.take n) := by simp [rowsD]
@[simp] theorem rowsD_drop (l : List (List U)) (n : Nat) : (rowsD l).drop n = rowsD (l.drop n) := by simp [rowsD]
@[simp] theorem rowsD_set (l : List (List U)) (n : Nat) (r : List U) : (rowsD l).set n (r.map .u) = rowsD (l.set n r) := by simp [rowsD]
@[simp] theorem lenR_rowsD (sz : Nat) (l : List (List U)) : lenR sz (rowsD l) ↔ lenR sz l := by simp [rowsD, lenR]
@[simp] theorem onesR_nil : onesR [] := by simp [onesR]
@[simp] theorem onesR_cons (r : List D) (l : List (List D)) : onesR (r :: l) ↔ ones r = true ∧ onesR l := by simp [onesR]
@[simp] theorem onesR_append (a b : List (List D)) : onesR (a ++ b) ↔ onesR a ∧ onesR b := by
  simp only [onesR, List.mem_append]
  exact ⟨fun h => ⟨fun r hr => h r (.inl hr), fun r hr => h r (.inr hr)⟩, fun ⟨h, g⟩ r hr => hr.elim (h r) (g r)⟩
@[simp] theorem onesR_map {β : Type} (f : β → List D) (l : List β) : onesR (l.map f) ↔ ∀ x ∈ l, ones (f x) = true := by simp [onesR]
@[simp] theorem onesR_rowsD_map {β : Type} (f : β → List U) (l : List β) : onesR (rowsD (l.map f)) ↔ ∀ x ∈ l, ones ((f x).map .u) = true := by simp [onesR, rowsD]
@[simp] theorem onesR_take (n : Nat) (l : List (List D)) (h : onesR l) : onesR (l.take n) := fun r hr => h r (List.mem_of_mem_take hr)
@[simp] theorem onesR_rowsD_take (n : Nat) (l : List (List U)) (h : onesR (rowsD l)) : onesR (rowsD (l.take n)) := by rw [← rowsD_take]; exact onesR_take n _ h
@[simp] theorem onesR_drop (n : Nat) (l : List (List D)) (h : onesR l) : onesR (l.drop n) := fun r hr => h r (List.mem_of_mem_drop hr)
@[simp] theorem onesR_rowsD_drop (n : Nat) (l : List (List U)) (h : onesR (rowsD l)) : onesR (rowsD (l.drop n)) := by rw [← rowsD_drop]; exact onesR_drop n _ h
@[simp] theorem take_len_map {α β : Type} (f : α → β) (l : List α) : (l.map f).take l.length = l.map f := List.take_of_length_le (by simp)
@[simp] theorem take_len_append {α β : Type} (f : α → β) (l : List α) (r : List β) : (l.map f ++ r).take l.length = l.map f := by
  rw [List.take_append_of_le_length (by simp)]; exact take_len_map f l
end
/-- A slice read as rows: what append takes from it. -/
def rowsOf (s : St) : D → Option (List (List D))
  | .u (.sl rows) => some (rowsD rows)
  | .u .nil => some []
  | .u (.oth (.slice _ 0 _)) => some []
  | .vec i len => match getK s.obs i with
    | some (.vec _ _ rows) => if len ≤ rows.length then some (rows.take len) else none
    | _ => none
  | _ => none

/-- The machine's cells of such a slice. -/
theorem rowsOf_rep {k own s a w d v rs} {sz : Nat} (hs : Sim k own s a w) (h : rowsOf s d = some rs) (hr : Rep k d v) (hsz : ∀ r ∈ rs, r.length = sz) (hpos : 0 < sz)
    (hone : ∀ r ∈ rs, ones r = true) :
    ∃ (A : Option Addr) (c : Nat) (news : List Value), v = .slice A rs.length c ∧ news.length = rs.length * sz ∧ (rs = [] ∨ ∃ b o, A = some ⟨b, o, none⟩ ∧ ∀ j u, news[j]? = some u → w.cell? ⟨b, o + j, none⟩ = some u) ∧
      ∀ i r, rs[i]? = some r → ∀ j e, r[j]? = some e → OneRep k e (news.getD (i * sz + j) undef) := by
  unfold rowsOf at h
  split at h
  · rename_i rows
    simp at h
    subst h
    cases hr with
    | u _ _ hr => cases hr with
      | slE A c _ => exact ⟨A, c, [], rfl, by simp, .inl rfl, fun i r hi => by simp at hi⟩
      | sl _ b o sz' c f hc hx h1 h2 h3 =>
        by_cases hnil : rows = []
        · subst hnil
          exact ⟨some ⟨b, o, none⟩, c, [], rfl, by simp, .inl rfl, fun i r hi => by simp at hi⟩
        · have hz : sz' = sz := by
            obtain ⟨r, hm⟩ := List.exists_mem_of_ne_nil rows hnil
            have e1 := h1 r hm
            have e2 := hsz (r.map .u) (List.mem_map.2 ⟨r, hm, rfl⟩)
            simp at e2
            omega
          subst hz
          refine ⟨some ⟨b, o, none⟩, c, (List.range (rows.length * sz')).map fun t => f (t / sz') (t % sz'), by simp, by simp, .inr ⟨b, o, rfl, fun j u hj => ?_⟩, fun i r hi j e hj => ?_⟩
          · have hjl : j < rows.length * sz' := by have := (List.getElem?_eq_some_iff.1 hj).1; simpa using this
            simp [hjl] at hj
            subst hj
            refine hs.sat.mem _ _ _ ?_
            have hd : j / sz' < rows.length := Nat.div_lt_of_lt_mul (by rw [Nat.mul_comm]; exact hjl)
            have := h2 (j / sz') hd (j % sz') (Nat.mod_lt _ hpos)
            rw [Nat.add_assoc, Nat.mul_comm (j / sz') sz', Nat.div_add_mod] at this
            exact this
          · rw [rowsD, List.getElem?_map] at hi
            cases hri : rows[i]? with
            | none => simp [hri] at hi
            | some r0 =>
              simp [hri] at hi
              subst hi
              rw [List.getElem?_map] at hj
              cases hj0 : r0[j]? with
              | none => simp [hj0] at hj
              | some u0 =>
                simp [hj0] at hj
                subst hj
                have hil := (List.getElem?_eq_some_iff.1 hri).1
                have hrl := h1 r0 (List.mem_of_getElem? hri)
                have hjl := (List.getElem?_eq_some_iff.1 hj0).1
                have hjs : j < sz' := by omega
                have hlt : i * sz' + j < rows.length * sz' := by
                  have : (i + 1) * sz' ≤ rows.length * sz' := Nat.mul_le_mul_right _ hil
                  rw [Nat.add_mul, Nat.one_mul] at this
                  omega
                have e1 : (i * sz' + j) / sz' = i := by
                  rw [Nat.mul_comm, Nat.mul_add_div hpos, Nat.div_eq_of_lt hjs, Nat.add_zero]
                have e2 : (i * sz' + j) % sz' = j := by
                  rw [Nat.mul_comm, Nat.mul_add_mod, Nat.mod_eq_of_lt hjs]
                have e3 : ((List.range (rows.length * sz')).map fun t => f (t / sz') (t % sz')).getD (i * sz' + j) undef = f i j := by
                  simp [hlt, e1, e2]
                rw [e3]
                have hrep : Rep k (.u u0) (f i j) := .u _ _ (h3 i r0 hri j u0 hj0)
                have ho := hone (r0.map .u) (List.mem_map.2 ⟨r0, List.mem_of_getElem? hri, rfl⟩)
                exact ⟨(isOne_rep ((List.all_eq_true.1 ho) (.u u0) (List.mem_map.2 ⟨u0, List.mem_of_getElem? hj0, rfl⟩)) hrep).1, hrep⟩
  · simp at h
    subst h
    obtain rfl := rep_nil hr
    exact ⟨none, 0, [], rfl, by simp, .inl rfl, fun i r hi => by simp at hi⟩
  · simp at h
    subst h
    obtain rfl := rep_oth hr
    exact ⟨_, _, [], rfl, by simp, .inl rfl, fun i r hi => by simp at hi⟩
  · rename_i i len
    split at h
    · rename_i e sz' rows hg
      split at h
      · rename_i hle
        simp at h
        subst h
        obtain ⟨g, hg', rfl⟩ := rep_vec hr
        obtain ⟨g2, xs, hg2, hrow, hpos', hlen, hcs, hno⟩ := (hs.sat.ob _ _ hg).vec
        rw [hg'] at hg2
        simp only [Option.some.injEq] at hg2
        subst hg2
        have hl : (rows.take len).length = len := by simp; omega
        by_cases hz0 : len = 0
        · subst hz0
          exact ⟨_, g.2, [], rfl, by simp, .inl (by simp), fun i r hi => by simp at hi⟩
        · have hz : sz' = sz := by
            have hp : 0 < (rows.take len).length := by omega
            have hm : (rows.take len)[0] ∈ rows.take len := List.getElem_mem hp
            exact (hlen _ (List.mem_of_mem_take hm)).symm.trans (hsz _ hm)
          subst hz
          have hxl := hrow.1
          have hmul : len * sz' ≤ rows.length * sz' := Nat.mul_le_mul_right _ hle
          refine ⟨_, g.2, xs.take (len * sz'), by rw [hl]; rfl, by rw [hl]; simp; omega, .inr ?_, fun i r hi j e hj => ?_⟩
          · rcases hrow.2 with ⟨_, hn⟩ | ⟨b, cap, cur, hv, _⟩
            · omega
            · have hb : g.1 = some b := by
                simp only [headVal, Value.slice.injEq, Option.map_eq_some_iff] at hv
                obtain ⟨⟨b', hb', e⟩, _⟩ := hv
                simp only [Addr.mk.injEq] at e
                rw [hb', e.1]
              refine ⟨b, 0, by simp [hb], fun j u hj => ?_⟩
              have hj' : xs[j]? = some u := by
                rw [List.getElem?_take] at hj
                split at hj
                · exact hj
                · cases hj
              have := hrow.cells (g := b) (by simp [headVal, hb, Value.ownBlock]) j u hj'
              rwa [addr_add] at this
          · have hil : i < len := by have := (List.getElem?_eq_some_iff.1 hi).1; omega
            rw [List.getElem?_take, if_pos hil] at hi
            have hrl := hlen r (List.mem_of_getElem? hi)
            have hjl := (List.getElem?_eq_some_iff.1 hj).1
            have hlt : i * sz' + j < len * sz' := by
              have : (i + 1) * sz' ≤ len * sz' := Nat.mul_le_mul_right _ hil
              rw [Nat.add_mul, Nat.one_mul] at this
              omega
            have := hcs i r hi j e hj
            have e1 : (xs.take (len * sz')).getD (i * sz' + j) undef = xs.getD (i * sz' + j) undef := by
              simp [List.getElem?_take, hlt]
            rwa [e1]
      · cases h
    · cases h
  · cases h

theorem run_append_of_nil {P : Program} (w : World) (base : Nat) (t ty e : TypeId) (i : TypeInfo) (size : Nat) (ht : P.underlying t = some (.slice e)) (hi : P.info? e = some i)
    (v : Value) (n : Nat) (xs : List Value) (hown : w.ownsRow base e size v n xs) (A : Option Addr) (c : Nat) : (Builtin.append_ #[t, t] ty #[v, .slice A 0 c]).run P w = .ok v w := by
  rcases hown.2 with ⟨rfl, rfl⟩ | ⟨g, cap, cur, rfl, _, _, hnc, _⟩
  · cases A <;> simp [Builtin.append_, run_underlying ht, sizeOf, typeInfo, hi, Builtin.lenOf, Builtin.firstCells, loadCells, loadCellsFrom]
  · cases A <;> simp [Builtin.append_, run_underlying ht, sizeOf, typeInfo, hi, Builtin.lenOf, Builtin.firstCells, hnc, storeCells, loadCells, loadCellsFrom]

/-- The base of an append: nothing yet, or an object of the call's own. -/
def appendD (P : Program) (t : TypeId) (x y : D) (s : St) (dst : Option Tmp) (k : St → Prop) : Prop :=
  match elInf P t, rowsOf s y with
  | some (e, sz, bytes, _), some rs => lenR sz rs ∧ onesR rs ∧ putOK dst s ∧ match x with
    | .u .nil => rs.length * bytes ≤ 140737488355328 ∧ rs.length ≤ 9223372036854775807 ∧ k ((s.add (.vec e sz rs)).put dst (.vec s.next rs.length))
    | .vec i len => match getK s.obs i with
      | some (.vec e' sz' rows) => e = e' ∧ sz = sz' ∧ len ≤ rows.length ∧ (len + rs.length) * bytes ≤ 140737488355328 ∧ len + rs.length ≤ 9223372036854775807 ∧
          k ((({ s with obs := del s.obs i } : St).add (.vec e sz (rows.take len ++ rs))).put dst (.vec s.next (len + rs.length)))
      | _ => False
    | _ => False
  | _, _ => False

theorem ownsRow_take {w : World} {base e sz n xs} {h : Option Nat × Nat} (ho : w.ownsRow base e sz (headVal h n) n xs) {m : Nat} (hm : m ≤ n) :
    w.ownsRow base e sz (headVal h m) m (xs.take (m * sz)) := by
  have hmul : m * sz ≤ n * sz := Nat.mul_le_mul_right _ hm
  refine ⟨by rw [List.length_take, ho.1]; omega, ?_⟩
  rcases ho.2 with ⟨hv, hn⟩ | ⟨g, cap, cur, hv, hb, hg, hnc, hcm, hcs, ht⟩
  · subst hn
    obtain rfl : m = 0 := by omega
    exact .inl ⟨hv, rfl⟩
  · refine .inr ⟨g, cap, cur, ?_, hb, hg, by omega, hcm, hcs, ?_⟩
    · simp only [headVal, Value.slice.injEq] at hv ⊢
      exact ⟨hv.1, trivial, hv.2.2⟩
    · rw [← ht, List.take_take]
      congr 1
      omega

/-- The run of an append onto a row of the call's own. -/
theorem append_run {P : Program} {t e sz bytes z} (he : elInf P t = some (e, sz, bytes, z)) (w : World) (ty : TypeId) {v : Value} {n : Nat} {xs : List Value} (hown : w.ownsRow 0 e sz v n xs)
    {A : Option Addr} {m c : Nat} {news : List Value} (hl : news.length = m * sz) (hA : m = 0 ∨ ∃ b o, A = some ⟨b, o, none⟩ ∧ ∀ j u, news[j]? = some u → w.cell? ⟨b, o + j, none⟩ = some u)
    (h1 : ∀ u ∈ news, u.oneCell' = true) (h63 : n + m ≤ 9223372036854775807) (hby : (n + m) * bytes ≤ 140737488355328) :
    ∃ v' w', (Builtin.append_ #[t, t] ty #[v, .slice A m c]).run P w = .ok v' w' ∧ w'.ownsRow 0 e sz v' (n + m) (xs ++ news) ∧ w.grownBy w' v.ownBlock ∧ (v'.ownBlock = v.ownBlock ∨ v'.ownBlock = some w.heap.size) := by
  obtain ⟨hu, ⟨i, zv, hi, hsz, hb, hz, hvz⟩, hzl, hpos, _⟩ := elInf_some he
  rcases hA with rfl | ⟨b, o, rfl, hc⟩
  · have hn : news = [] := List.eq_nil_of_length_eq_zero (by simpa using hl)
    subst hn
    exact ⟨v, w, run_append_of_nil w 0 t ty e i sz hu hi v n xs hown A c, by simpa using hown, World.grownBy.refl w _, .inl rfl⟩
  · obtain ⟨v', w', h2, h3, h4, _, h5⟩ := run_append_own_at (P := P) w 0 t ty e i zv sz bytes hu hi hz hsz hb (by simp [hvz, hzl]) hpos v n xs hown ⟨b, o, none⟩ m c news hl
      (fun j u hj => by rw [addr_add]; exact hc j u hj) h1 (by unfold maxLen; omega) hby (Nat.zero_le _)
    exact ⟨v', w', h2, h3, h4, h5⟩

/-- What an owned row's value is. -/
theorem own_head {w : World} {e sz v n xs} (h : w.ownsRow 0 e sz v n xs) : ∃ g : Option Nat × Nat, v = headVal g n ∧ g.1 = v.ownBlock := by
  rcases h.2 with ⟨rfl, rfl⟩ | ⟨g, cap, cur, rfl, _⟩
  · exact ⟨(none, 0), rfl, rfl⟩
  · exact ⟨(some g, cap), rfl, rfl⟩

theorem news_one {k : Kr} {rs : List (List D)} {news : List Value} {sz : Nat} (hpos : 0 < sz) (hl : news.length = rs.length * sz) (hsz : ∀ r ∈ rs, r.length = sz)
    (h : ∀ i r, rs[i]? = some r → ∀ j e, r[j]? = some e → OneRep k e (news.getD (i * sz + j) undef)) : ∀ u ∈ news, u.oneCell' = true := by
  intro u hu
  obtain ⟨t, ht⟩ := List.getElem?_of_mem hu
  have htl := (List.getElem?_eq_some_iff.1 ht).1
  have hd : t / sz < rs.length := Nat.div_lt_of_lt_mul (by rw [Nat.mul_comm]; omega)
  have hr := List.getElem?_eq_getElem hd
  have hrl := hsz _ (List.mem_of_getElem? hr)
  have hm : t % sz < (rs[t / sz]).length := by rw [hrl]; exact Nat.mod_lt _ hpos
  have := (h (t / sz) _ hr (t % sz) _ (List.getElem?_eq_getElem hm)).1
  rw [Nat.mul_comm, Nat.div_add_mod, List.getD_eq_getElem?_getD, ht] at this
  exact this

theorem rows_append {k : Kr} {rows rs : List (List D)} {xs news : List Value} {sz : Nat} (hxl : xs.length = rows.length * sz) (hlen : ∀ r ∈ rows, r.length = sz)
    (h1 : ∀ i r, rows[i]? = some r → ∀ j e, r[j]? = some e → OneRep k e (xs.getD (i * sz + j) undef)) (h2 : ∀ i r, rs[i]? = some r → ∀ j e, r[j]? = some e → OneRep k e (news.getD (i * sz + j) undef)) :
    ∀ i r, (rows ++ rs)[i]? = some r → ∀ j e, r[j]? = some e → OneRep k e ((xs ++ news).getD (i * sz + j) undef) := by
  intro i r hi j e hj
  by_cases hlt : i < rows.length
  · rw [List.getElem?_append_left hlt] at hi
    have hrl := hlen r (List.mem_of_getElem? hi)
    have hjl := (List.getElem?_eq_some_iff.1 hj).1
    have : (i + 1) * sz ≤ rows.length * sz := Nat.mul_le_mul_right _ hlt
    rw [Nat.add_mul, Nat.one_mul] at this
    have hb : i * sz + j < xs.length := by omega
    have := h1 i r hi j e hj
    rw [List.getD_eq_getElem?_getD, List.getElem?_append_left hb, ← List.getD_eq_getElem?_getD]
    exact this
  · rw [List.getElem?_append_right (by omega)] at hi
    have := h2 (i - rows.length) r hi j e hj
    have hmul : rows.length * sz ≤ i * sz := Nat.mul_le_mul_right _ (by omega)
    rw [List.getD_eq_getElem?_getD, List.getElem?_append_right (by omega)]
    rw [Nat.sub_mul] at this
    rw [List.getD_eq_getElem?_getD] at this
    rw [show i * sz + j - xs.length = i * sz - rows.length * sz + j by omega]
    exact this

theorem In.grown {Γ k w w' row} (h : In Γ k w) (hg : w.grownBy w' row) (hr : ∀ b, row = some b → Γ.own b) : In Γ k w' :=
  h.step (.refl _) (fun _ _ _ e => .inl e) hg.os hg.tape hg.output hg.size fun b hb => by
    rcases Nat.lt_or_ge b w.heap.size with hlt | hge
    · exact hg.block b hlt (fun e => hb (hr b e.symm))
    · exact absurd (h.own_of_ge hge) hb

theorem Eff.append {P Γ o s k x y t} (ho : o.op = .call { callee := .builtin .append, args := #[x, y], argTypes := #[t, t] }) (h : appendD P t (opd s x) (opd s y) s o.dst k) : Eff P Γ o s k := by
  intro K a w hin hs Kont Q hK
  obtain ⟨dst, op, type, pos, after, guard⟩ := o
  simp only at ho h
  subst ho
  unfold appendD at h
  split at h
  · rename_i e sz bytes z rs he hrs
    obtain ⟨hsz, hone, hp, h⟩ := h
    obtain ⟨_, _, _, hpos, _⟩ := elInf_some he
    obtain ⟨A, c, news, hyv, hnl, hA, hnews⟩ := rowsOf_rep hs hrs (opd_rep hs y) hsz hpos hone
    have hA' : rs.length = 0 ∨ ∃ b o, A = some ⟨b, o, none⟩ ∧ ∀ j u, news[j]? = some u → w.cell? ⟨b, o + j, none⟩ = some u := hA.imp (fun e => by simp [e]) id
    have hn1 := news_one hpos hnl hsz hnews
    have hnext := hs.hdr s.next (Nat.le_refl _)
    split at h
    · rename_i hx
      obtain ⟨hby, h63, hk⟩ := h
      have hxr := opd_rep hs x
      rw [hx] at hxr
      have hxv := rep_nil hxr
      obtain ⟨v', w', hrun, hown, hgrow, hob⟩ := append_run he w type (World.ownsRow_nil w 0 e sz) hnl hA' hn1 (by omega) (by rw [Nat.zero_add]; exact hby) (c := c)
      simp only [Nat.zero_add, List.nil_append] at hown
      obtain ⟨g, hv', hg⟩ := own_head hown
      subst hv'
      have hrun' : (execOp a.eval { dst, op := .call { callee := .builtin .append, args := #[x, y], argTypes := #[t, t] }, type, pos, after, guard }).run P w = .ok (.value (headVal g rs.length)) w' := by
        simp only [execOp]
        simp [resolve, invoke, builtin, hxv, hyv, hrun]
      unfold Oper.wp
      rw [hrun']
      have hle := Kr.le_add (k := K) (h := g) hnext
      have hin' : In Γ (K.add s.next g) w' := (hin.grown hgrow (fun b e => by simp [Value.ownBlock] at e)).step hle (fun _ _ _ e => .inl e) rfl rfl rfl (Nat.le_refl _) fun _ _ => rfl
      have hbb : ∀ b, g.1 = some b → b = w.heap.size := fun b e => by
        rw [hg] at e
        rcases hob with ho | ho <;> rw [ho] at e <;> simp [Value.ownBlock] at e
        exact e.symm
      have hold : ∀ b, b < w.heap.size → w'.heap[b]? = w.heap[b]? := fun b hb => hgrow.block b hb (by simp [Value.ownBlock])
      suffices hsim : Sim (K.add s.next g) Γ.own (s.add (.vec e sz rs)) a w' from hK _ _ _ _ hin' (hsim.put (St.add_putOK hp) (.vec _ _ _ (by simp [Kr.add]))) hk
      refine ⟨?_, hs.defers, hs.size, fun x d hx => ⟨(hs.env x d hx).1, (hs.env x d hx).2.mono hle⟩, fun i hi => ?_⟩
      · refine hs.sat.add hnext (fun b e => ?_) (fun b hb => hold b (hb.elim hs.sat.lt fun ⟨_, _, e⟩ => hs.sat.memLt e)) ⟨news, hown, hpos, hsz, fun i r hi j d hj => ⟨(hnews i r hi j d hj).1, (hnews i r hi j d hj).2.mono hle⟩⟩
        have := hbb b e
        subst this
        refine ⟨hin.own_of_ge (Nat.le_refl _), fun o => ?_, fun hb => absurd (hs.sat.lt hb) (by omega)⟩
        cases hm : K.mem w.heap.size o with
        | none => rfl
        | some v => exact absurd (hs.sat.memLt hm) (by omega)
      · have hi' : s.next + 1 ≤ i := hi
        simp only [Kr.add]
        rw [if_neg (by omega)]
        exact hs.hdr i (by omega)
    · rename_i i len hx
      split at h
      · rename_i e' sz' rows hg
        obtain ⟨rfl, rfl, hle', hby, h63, hk⟩ := h
        have hxr := opd_rep hs x
        rw [hx] at hxr
        obtain ⟨gi, hgi, hxv⟩ := rep_vec hxr
        obtain ⟨g2, xs, hg2, hrow, _, hlen, hcs, hno⟩ := (hs.sat.ob _ _ hg).vec
        rw [hgi] at hg2
        simp only [Option.some.injEq] at hg2
        subst hg2
        have hrow' := ownsRow_take hrow hle'
        obtain ⟨v', w', hrun, hown, hgrow, hob⟩ := append_run he w type hrow' hnl hA' hn1 h63 hby (c := c)
        obtain ⟨g, hv', hgv⟩ := own_head hown
        subst hv'
        have hrun' : (execOp a.eval { dst, op := .call { callee := .builtin .append, args := #[x, y], argTypes := #[t, t] }, type, pos, after, guard }).run P w = .ok (.value (headVal g (len + rs.length))) w' := by
          simp only [execOp]
          simp [resolve, invoke, builtin, hxv, hyv, hrun]
        unfold Oper.wp
        rw [hrun']
        have hle := Kr.le_add (k := K) (h := g) hnext
        have hvb : (headVal gi len).ownBlock = gi.1 := by
          obtain ⟨gb, gc⟩ := gi
          cases gb <;> rfl
        rw [hvb] at hgrow hob
        have hin' : In Γ (K.add s.next g) w' := (hin.grown hgrow (fun b e => (hno b e).1)).step hle (fun _ _ _ e => .inl e) rfl rfl rfl (Nat.le_refl _) fun _ _ => rfl
        have hd := hs.sat.del i
        have hnb : ∀ b, gi.1 = some b → ¬ Blk K (del s.obs i) b := fun b e ⟨j, oj, gj, h1, h2, h3⟩ => by
          rw [getK_del] at h1
          split at h1
          · cases h1
          · rename_i hji
            exact hs.sat.apart i j _ oj gi gj b hg h1 (Ne.symm hji) hgi h2 e h3
        have hold : ∀ b, b < w.heap.size → gi.1 ≠ some b → w'.heap[b]? = w.heap[b]? := fun b hb hne => hgrow.block b hb (fun e => hne e.symm)
        suffices hsim : Sim (K.add s.next g) Γ.own (({ s with obs := del s.obs i } : St).add (.vec e sz (rows.take len ++ rs))) a w' from
          hK _ _ _ _ hin' (hsim.put (St.add_putOK (s := { s with obs := del s.obs i }) (by cases dst <;> simp_all [putOK])) (.vec _ _ _ (by simp [Kr.add]))) hk
        refine ⟨?_, hs.defers, hs.size, fun x d hx => ⟨(hs.env x d hx).1, (hs.env x d hx).2.mono hle⟩, fun i hi => ?_⟩
        · refine hd.add hnext (fun b e => ?_) (fun b hb => ?_) ⟨xs.take (len * sz) ++ news, ?_, hpos, ?_, ?_⟩
          · rw [hgv] at e
            rcases hob with ho | ho
            · rw [ho] at e
              exact ⟨(hno b e).1, (hno b e).2, hnb b e⟩
            · rw [ho] at e
              simp only [Option.some.injEq] at e
              subst e
              refine ⟨hin.own_of_ge (Nat.le_refl _), fun o => ?_, fun hb => absurd (hd.lt hb) (by omega)⟩
              cases hm : K.mem w.heap.size o with
              | none => rfl
              | some v => exact absurd (hs.sat.memLt hm) (by omega)
          · refine hold b (hb.elim hd.lt fun ⟨_, _, e⟩ => hs.sat.memLt e) fun e => ?_
            rcases hb with hb | ⟨o, v, hm⟩
            · exact hnb b e hb
            · have := (hno b e).2 o
              rw [hm] at this
              cases this
          · have hl : (rows.take len ++ rs).length = len + rs.length := by simp; omega
            rw [hl]
            exact hown
          · intro r hr
            rcases List.mem_append.1 hr with hr | hr
            · exact hlen r (List.mem_of_mem_take hr)
            · exact hsz r hr
          · have hmul : len * sz ≤ rows.length * sz := Nat.mul_le_mul_right _ hle'
            have hmono : ∀ {e : D} {v : Value}, OneRep K e v → OneRep (K.add s.next g) e v := fun h => ⟨h.1, h.2.mono hle⟩
            refine fun i' r hi' j d hj => hmono (rows_append (k := K) (rows := rows.take len) (by rw [List.length_take, List.length_take, hrow.1, Nat.min_eq_left hmul, Nat.min_eq_left hle']) (fun r hr => hlen r (List.mem_of_mem_take hr)) (fun i' r hi' j d hj => ?_) hnews i' r hi' j d hj)
            have hil : i' < len := by have := (List.getElem?_eq_some_iff.1 hi').1; simp at this; omega
            rw [List.getElem?_take, if_pos hil] at hi'
            have hrl := hlen r (List.mem_of_getElem? hi')
            have hjl := (List.getElem?_eq_some_iff.1 hj).1
            have hlt : i' * sz + j < len * sz := by
              have : (i' + 1) * sz ≤ len * sz := Nat.mul_le_mul_right _ hil
              rw [Nat.add_mul, Nat.one_mul] at this
              omega
            have := hcs i' r hi' j d hj
            have e1 : (xs.take (len * sz)).getD (i' * sz + j) undef = xs.getD (i' * sz + j) undef := by
              simp [List.getElem?_take, hlt]
            rwa [e1]
        · have hi' : s.next + 1 ≤ i := hi
          simp only [Kr.add]
          rw [if_neg (by omega)]
          exact hs.hdr i (by omega)
      · exact h.elim
    · exact h.elim
  · exact h.elim

/-- make of a slice. -/
def makeD (P : Program) (t : TypeId) (n c : D) (s : St) (dst : Option Tmp) (k : St → Prop) : Prop :=
  match elInf P t, n, c with
  | some (e, sz, bytes, z), .u (.int _ n), .u (.int _ c) => (0 ≤ n ∧ n ≤ c) ∧ c * (bytes : Int) ≤ 140737488355328 ∧ c ≤ 9223372036854775807 ∧ putOK dst s ∧
      k ((s.add (.vec e sz (List.replicate n.toNat (z.map fun v => .u (uOf v))))).put dst (.vec s.next n.toNat))
  | _, _, _ => False

theorem Eff.make {P Γ o s k t x y} (ho : o.op = .makeSlice t x y) (h : makeD P t (opd s x) (opd s y) s o.dst k) : Eff P Γ o s k := by
  intro K a w hin hs Kont Q hK
  obtain ⟨dst, op, type, pos, after, guard⟩ := o
  simp only at ho h
  subst ho
  unfold makeD at h
  split at h
  · rename_i e sz bytes z kn n kc c he hx hy
    obtain ⟨⟨h0, hnc⟩, hby, h63, hp, hk⟩ := h
    obtain ⟨hu, ⟨i, v, hi, hsz, hb, hz, hvz⟩, hzl, hpos, hone⟩ := elInf_some he
    subst hsz hb
    have hxr := opd_rep hs x
    have hyr := opd_rep hs y
    rw [hx] at hxr
    rw [hy] at hyr
    have hxv := rep_int hxr
    have hyv := rep_int hyr
    have hrun := run_make (P := P) w t e i v hu hi hz kn kc n c h0 hnc (by rw [Int.mul_comm]; omega) h63
    have hle := Kr.le_add (k := K) (h := (some w.heap.size, c.toNat)) (hs.hdr s.next (Nat.le_refl _))
    have hsize : (madeCells v.cells (c.toNat * i.size)).size = c.toNat * i.size := size_madeCells _ _
    have hvs : v.cells.size = i.size := by simp [hvz, hzl]
    have hmul : n.toNat * i.size ≤ c.toNat * i.size := Nat.mul_le_mul_right _ (by omega)
    obtain ⟨h1, h2⟩ := Sim.alloc hin hs (.cells (madeCells v.cells (c.toNat * i.size)) e) c.toNat (.vec e i.size (List.replicate n.toNat (z.map fun v => .u (uOf v))))
      ⟨(madeCells v.cells (c.toNat * i.size)).toList.take (n.toNat * i.size), ⟨by rw [List.length_take, Array.length_toList, hsize, List.length_replicate]; omega,
        .inr ⟨w.heap.size, c.toNat, _, by simp [headVal], Nat.zero_le _, heap_alloc_new w _, by simp; omega, by unfold maxLen; omega, hsize, by simp⟩⟩, hpos,
        fun r hr => by rw [List.eq_of_mem_replicate hr]; simp [hzl], fun j r hj q d hq => by
          have hj' : j < n.toNat := by have := (List.getElem?_eq_some_iff.1 hj).1; simpa using this
          have hr : r = z.map fun v => .u (uOf v) := by simp [hj'] at hj; exact hj.symm
          subst hr
          rw [List.getElem?_map] at hq
          cases hzq : z[q]? with
          | none => simp [hzq] at hq
          | some u =>
            simp [hzq] at hq
            subst hq
            have hql := (List.getElem?_eq_some_iff.1 hzq).1
            have hlt : j * i.size + q < n.toNat * i.size := by
              have : (j + 1) * i.size ≤ n.toNat * i.size := Nat.mul_le_mul_right _ hj'
              rw [Nat.add_mul, Nat.one_mul] at this
              omega
            have hlt2 : j * i.size + q < c.toNat * i.size := by omega
            have hmod : (j * i.size + q) % i.size = q := by
              rw [Nat.mul_comm, Nat.mul_add_mod, Nat.mod_eq_of_lt (by omega)]
            have e1 : ((madeCells v.cells (c.toNat * i.size)).toList.take (n.toNat * i.size)).getD (j * i.size + q) undef = u := by
              rw [List.getD_eq_getElem?_getD, List.getElem?_take, if_pos hlt, Array.getElem?_toList]
              simp only [madeCells]
              simp [hlt2, hvs, hmod]
              simp [hvz, hzq]
            rw [e1]
            exact ⟨hone u (List.mem_of_getElem? hzq), .u _ _ (uOf_rep _ _)⟩⟩
    have hrun' : (execOp a.eval { dst, op := .makeSlice t x y, type, pos, after, guard }).run P w = .ok (.value (headVal (some w.heap.size, c.toNat) n.toNat)) (w.alloc (.cells (madeCells v.cells (c.toNat * i.size)) e)) := by
      simp only [execOp]
      exact run_headVal (by rw [hxv, hyv]; exact hrun)
    unfold Oper.wp
    rw [hrun']
    exact hK _ _ _ _ h1 (h2.put (St.add_putOK hp) (.vec _ _ _ (by simp [Kr.add]))) hk
  · exact h.elim

end Go.VL
