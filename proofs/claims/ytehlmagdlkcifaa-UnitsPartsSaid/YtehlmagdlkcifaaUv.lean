/- What the arguments read as. -/
import Derived.Test.YtehlmagdlkcifaaUd
import Derived.Test.YtehlmagdlkcifaaVLP
set_option linter.all false
set_option maxRecDepth 100000
set_option maxHeartbeats 8000000
namespace Go.Proofs.Ytehlmagdlkcifaa
open Go Go.VL Go.ChangeShapes Go.WideShapes Go.ChangeAt Go.RowKit
theorem Try.own : ownKnob Try.prog.godebug = none := by kernel_rfl
theorem Try.laidOut : laidOutB Try.prog = true := by kernel_rfl
theorem Try.seqs : seqAll Try.prog = true := by kernel_rfl
theorem exp_of : ∀ (m : Nat) (r : List U), SizeOf.sizeOf r ≤ m → HasRow Try.prog 26 r → ∃ e : Exp, r = e.row
  | 0, r, hm, _ => by cases r <;> simp at hm
  | m + 1, r, hm, h => by
    obtain ⟨rs, hr, h⟩ := h.of_struct sf26
    match rs, h with
    | [a, b, c, d, f], h =>
      obtain ⟨h1, h2, h3, h4, h5, _⟩ := h
      obtain ⟨x, rfl, _⟩ := h1.of_int io3
      obtain ⟨y, rfl, _⟩ := h2.of_int io3
      obtain ⟨z, rfl, _⟩ := h3.of_int io3
      obtain ⟨s, rfl, _⟩ := h4.of_str (by simp)
      obtain ⟨rows, rfl, _, h6⟩ := h5.of_slice es24
      have hsz : ∀ q ∈ rows, SizeOf.sizeOf q ≤ m := fun q hq => by
        have := List.sizeOf_lt_of_mem hq
        rw [hr] at hm
        simp at hm
        omega
      obtain ⟨l, rfl, _⟩ := rows_list Exp.row (fun _ => True) (rows := rows) fun q hq => by
        obtain ⟨e, he⟩ := exp_of m q (hsz q hq) (h6 q hq)
        exact ⟨e, he, trivial⟩
      exact ⟨.mk x y z s l, by rw [hr, Exp.row_eq]; rfl⟩
theorem expU_of {r : List U} (h : HasRow Try.prog 26 r) : ∃ e : Exp, r = [.int .i64 e.op, .int .i64 e.n, .int .i64 e.unit, .str e.s, .sl (e.args.map Exp.row)] := by
  obtain ⟨e, rfl⟩ := exp_of _ r (Nat.le_refl _) h
  exact ⟨e, e.row_eq⟩
theorem let_of {r : List U} (h : HasRow Try.prog 43 r) : ∃ l : Let, r = [.str l.name, .int .i64 l.body.op, .int .i64 l.body.n, .int .i64 l.body.unit, .str l.body.s, .sl (l.body.args.map Exp.row)] ∧ True := by
  obtain ⟨rs, hr, h⟩ := h.of_struct sf43
  match rs, h with
  | [a, b], h =>
    obtain ⟨h1, h2, _⟩ := h
    obtain ⟨x, rfl, _⟩ := h1.of_str (by simp)
    obtain ⟨e, rfl⟩ := expU_of h2
    exact ⟨⟨x, e⟩, by rw [hr]; rfl, trivial⟩
theorem var_of {r : List U} (h : HasRow Try.prog 52 r) : ∃ c : Var, r = [.str c.name, .int .i64 c.unit, .int .i64 c.n] ∧ True := by
  obtain ⟨rs, hr, h⟩ := h.of_struct sf52
  match rs, h with
  | [a, b, c], h =>
    obtain ⟨h1, h2, h3, _⟩ := h
    obtain ⟨x, rfl, _⟩ := h1.of_str (by simp)
    obtain ⟨y, rfl, _⟩ := h2.of_int io3
    obtain ⟨z, rfl, _⟩ := h3.of_int io3
    exact ⟨⟨x, y, z⟩, hr, trivial⟩
theorem lets_of {u : U} (h : ArgU Try.prog 22 u) : ∃ l, u = letsU l := by
  obtain ⟨rows, h1, _, h2⟩ := (h.one (by simp) (by simp)).of_slice es22
  obtain ⟨l, rfl, _⟩ := rows_list (fun l : Let => [.str l.name, .int .i64 l.body.op, .int .i64 l.body.n, .int .i64 l.body.unit, .str l.body.s, .sl (l.body.args.map Exp.row)]) (fun _ => True) fun r hr => let_of (h2 r hr)
  exact ⟨l, by simp at h1; exact h1⟩
theorem vars_of {u : U} (h : ArgU Try.prog 23 u) : ∃ l : List Var, u = .sl (l.map fun v => [.str v.name, .int .i64 v.unit, .int .i64 v.n]) := by
  obtain ⟨rows, h1, _, h2⟩ := (h.one (by simp) (by simp)).of_slice es23
  obtain ⟨l, rfl, _⟩ := rows_list (fun v : Var => [.str v.name, .int .i64 v.unit, .int .i64 v.n]) (fun _ => True) fun r hr => var_of (h2 r hr)
  exact ⟨l, by simp at h1; exact h1⟩
theorem int_of {u : U} (h : ArgU Try.prog 3 u) : ∃ n, u = .int .i64 n := by
  obtain ⟨n, h1, _⟩ := (h.one (by simp) (by simp)).of_int io3
  exact ⟨n, by simpa using h1⟩
theorem str_of {u : U} (h : ArgU Try.prog 9 u) : ∃ n, u = .str n := by
  obtain ⟨n, h1, _⟩ := (h.one (by simp) (by simp)).of_str (by simp)
  exact ⟨n, by simpa using h1⟩
theorem by_of {r : List U} (h : HasRow Try.prog 28 r) : ∃ b : By, r = byCells b := by
  obtain ⟨rs, hr, h⟩ := h.of_struct sf28
  match rs, h with
  | [a1, a2, a3, a4, a5, a6, a7, a8, a9, a10, a11, a12, a13, a14, a15, a16, a17], h =>
    obtain ⟨h1, h2, h3, h4, h5, h6, h7, h8, h9, h10, h11, h12, h13, h14, h15, h16, h17, _⟩ := h
    obtain ⟨x1, rfl, _⟩ := h1.of_int io3
    obtain ⟨x2, rfl, _⟩ := h2.of_int io3
    obtain ⟨x3, rfl, _⟩ := h3.of_int io3
    obtain ⟨x4, rfl, _⟩ := h4.of_int io3
    obtain ⟨x5, rfl, _⟩ := h5.of_int io3
    obtain ⟨x6, rfl, _⟩ := h6.of_int io3
    obtain ⟨x7, rfl⟩ := h7.of_bool (by simp)
    obtain ⟨x8, rfl, _⟩ := h8.of_int io3
    obtain ⟨x9, rfl, _⟩ := h9.of_int io3
    obtain ⟨x10, rfl, _⟩ := h10.of_int io3
    obtain ⟨x11, rfl, _⟩ := h11.of_int io3
    obtain ⟨rows, rfl, _, h12⟩ := h12.of_slice es22
    obtain ⟨l, rfl, _⟩ := rows_list (fun l : Let => [.str l.name, .int .i64 l.body.op, .int .i64 l.body.n, .int .i64 l.body.unit, .str l.body.s, .sl (l.body.args.map Exp.row)]) (fun _ => True) (rows := rows) fun r hr => let_of (h12 r hr)
    obtain ⟨e1, rfl⟩ := expU_of h13
    obtain ⟨e2, rfl⟩ := expU_of h14
    obtain ⟨e3, rfl⟩ := expU_of h15
    obtain ⟨e4, rfl⟩ := expU_of h16
    obtain ⟨e5, rfl⟩ := expU_of h17
    exact ⟨⟨x1, x2, x3, x4, x5, x6, x7, x8, x9, x10, x11, l, e1, e2, e3, e4, e5⟩, by rw [hr]; rfl⟩
end Go.Proofs.Ytehlmagdlkcifaa
