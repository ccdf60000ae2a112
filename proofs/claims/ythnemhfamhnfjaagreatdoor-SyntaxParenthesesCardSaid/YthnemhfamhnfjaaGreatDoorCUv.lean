/- What the arguments read as. -/
import Derived.Test.YthnemhfamhnfjaaGreatDoorK7
import Derived.Test.YthnemhfamhnfjaaGreatDoorCUV
set_option linter.all false
set_option maxRecDepth 100000
set_option maxHeartbeats 8000000
namespace Go.Proofs.YthnemhfamhnfjaaGreatDoor
open Go Go.VL Go.ChangeShapes Go.WideShapes Go.ChangeAt Go.RowKit
theorem zsV {r : List U} (h : HasRow Tryz.prog 28 r) : ∃ b : By, r = zbz b := by
 obtain ⟨rs, hr, h⟩ := h.of_struct zsj
 match rs, h with
 | [a1, a2, a3, a4, a5, a6, a7, a8, a9, a10, a11, a12, a13, a14, a15, a16, a17], h =>
  obtain ⟨h1, h2, h3, h4, h5, h6, h7, h8, h9, h10, h11, h12, h13, h14, h15, h16, h17, _⟩ := h
  obtain ⟨x1, rfl, _⟩ := h1.of_int io3
  obtain ⟨x2, rfl, _⟩ := h2.of_int io3
  obtain ⟨x3, rfl, _⟩ := h3.of_int io3
  obtain ⟨x4, rfl, _⟩ := h4.of_int io3
  obtain ⟨x5, rfl, _⟩ := h5.of_int io3
  obtain ⟨x6, rfl, _⟩ := h6.of_int io3
  obtain ⟨x7, rfl⟩ := h7.of_bool (by simp)
  obtain ⟨x8, rfl, _⟩ := h8.of_int io3
  obtain ⟨x9, rfl, _⟩ := h9.of_int io3
  obtain ⟨x10, rfl, _⟩ := h10.of_int io3
  obtain ⟨x11, rfl, _⟩ := h11.of_int io3
  obtain ⟨rows, rfl, _, h12⟩ := h12.of_slice zr5
  obtain ⟨l, rfl, _⟩ := rows_list (fun l : Let => [.str l.name, .int .i64 l.body.op, .int .i64 l.body.n, .int .i64 l.body.unit, .str l.body.s, .sl (l.body.args.map Exp.row)]) (fun _ => True) (rows := rows) fun r hr => zpr (h12 r hr)
  obtain ⟨e1, rfl⟩ := zfa h13
  obtain ⟨e2, rfl⟩ := zfa h14
  obtain ⟨e3, rfl⟩ := zfa h15
  obtain ⟨e4, rfl⟩ := zfa h16
  obtain ⟨e5, rfl⟩ := zfa h17
  exact ⟨⟨x1, x2, x3, x4, x5, x6, x7, x8, x9, x10, x11, l, e1, e2, e3, e4, e5⟩, by rw [hr]; rfl⟩
end Go.Proofs.YthnemhfamhnfjaaGreatDoor
