/- What the arguments read as. -/
import Derived.Test.YthnemhfamhnfjaaGreatDoorK7
set_option linter.all false
set_option maxRecDepth 100000
set_option maxHeartbeats 8000000
namespace Go.Proofs.YthnemhfamhnfjaaGreatDoor
open Go Go.VL Go.ChangeShapes Go.WideShapes Go.ChangeAt Go.RowKit
theorem Tryz.own : ownKnob Tryz.prog.godebug = none := by kernel_rfl
theorem Tryz.zp9 : laidOutB Tryz.prog = true := by kernel_rfl
theorem Tryz.zs2 : zht Tryz.prog = true := by kernel_rfl
theorem zpw : ∀ (m : Nat) (r : List U), SizeOf.sizeOf r ≤ m → HasRow Tryz.prog 26 r → ∃ e : Exp, r = e.row
 | 0, r, hm, _ => by cases r <;> simp at hm
 | m + 1, r, hm, h => by
  obtain ⟨rs, hr, h⟩ := h.of_struct zrH
  match rs, h with
  | [a, b, c, d, f], h =>
   obtain ⟨h1, h2, h3, h4, h5, _⟩ := h
   obtain ⟨x, rfl, _⟩ := h1.of_int io3
   obtain ⟨y, rfl, _⟩ := h2.of_int io3
   obtain ⟨z, rfl, _⟩ := h3.of_int io3
   obtain ⟨s, rfl, _⟩ := h4.of_str (by simp)
   obtain ⟨rows, rfl, _, h6⟩ := h5.of_slice zsp
   have hsz : ∀ q ∈ rows, SizeOf.sizeOf q ≤ m := fun q hq => by
    have := List.sizeOf_lt_of_mem hq
    rw [hr] at hm
    simp at hm
    omega
   obtain ⟨l, rfl, _⟩ := rows_list Exp.row (fun _ => True) (rows := rows) fun q hq => by
    obtain ⟨e, he⟩ := zpw m q (hsz q hq) (h6 q hq)
    exact ⟨e, he, trivial⟩
   exact ⟨.mk x y z s l, by rw [hr, Exp.row_eq]; rfl⟩
theorem zfa {r : List U} (h : HasRow Tryz.prog 26 r) : ∃ e : Exp, r = [.int .i64 e.op, .int .i64 e.n, .int .i64 e.unit, .str e.s, .sl (e.args.map Exp.row)] := by
 obtain ⟨e, rfl⟩ := zpw _ r (Nat.le_refl _) h
 exact ⟨e, e.row_eq⟩
theorem zpr {r : List U} (h : HasRow Tryz.prog 45 r) : ∃ l : Let, r = [.str l.name, .int .i64 l.body.op, .int .i64 l.body.n, .int .i64 l.body.unit, .str l.body.s, .sl (l.body.args.map Exp.row)] ∧ True := by
 obtain ⟨rs, hr, h⟩ := h.of_struct zsi
 match rs, h with
 | [a, b], h =>
  obtain ⟨h1, h2, _⟩ := h
  obtain ⟨x, rfl, _⟩ := h1.of_str (by simp)
  obtain ⟨e, rfl⟩ := zfa h2
  exact ⟨⟨x, e⟩, by rw [hr]; rfl, trivial⟩
theorem zqD {u : U} (h : ArgU Tryz.prog 3 u) : ∃ n, u = .int .i64 n := by
 obtain ⟨n, h1, _⟩ := (h.one (by simp) (by simp)).of_int io3
 exact ⟨n, by simpa using h1⟩
end Go.Proofs.YthnemhfamhnfjaaGreatDoor
