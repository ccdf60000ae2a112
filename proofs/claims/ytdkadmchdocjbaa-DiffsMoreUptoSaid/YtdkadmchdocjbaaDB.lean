/- Layer 13: what the arguments read as. -/
import Derived.Test.YtdkadmchdocjbaaDf
import Derived.Test.YtdkadmchdocjbaaVLP
set_option linter.all false
set_option maxRecDepth 100000
set_option maxHeartbeats 8000000
set_option linter.all false
namespace Go.Proofs.Ytdkadmchdocjbaa
open Go Go.VL Go.ChangeShapes Go.WideShapes Go.ChangeAt Go.RowKit
theorem Try.own : ownKnob Try.prog.godebug = none := by kernel_rfl
theorem Try.laidOut : laidOutB Try.prog = true := by kernel_rfl
theorem Try.seqs : seqAll Try.prog = true := by kernel_rfl
theorem int_of {u : U} (h : ArgU Try.prog 3 u) : ∃ n, u = .int .i64 n := by
  obtain ⟨n, h1, _⟩ := (h.one (by simp) (by simp)).of_int io3
  exact ⟨n, by simpa using h1⟩
theorem ints_of {u : U} (h : ArgU Try.prog 23 u) : ∃ l : List Int, u = ints l := by
  obtain ⟨rows, h1, _, h2⟩ := (h.one (by simp) (by simp)).of_slice es23
  obtain ⟨l, rfl, _⟩ := rows_list (fun n : Int => [.int .i64 n]) (fun _ => True) fun r hr => by
    obtain ⟨n, e, _⟩ := (h2 r hr).of_int io3
    exact ⟨n, e, trivial⟩
  exact ⟨l, by simpa [ints, consU] using h1⟩
theorem con_of {r : List U} (h : HasRow Try.prog 35 r) : ∃ c : Con, r = [.int .i64 c.A, .int .i64 c.B, .int .i64 c.N] ∧ True := by
  obtain ⟨rs, hr, h⟩ := h.of_struct sf35
  match rs, h with
  | [a1, a2, a3], h =>
    obtain ⟨h1, h2, h3, _⟩ := h
    obtain ⟨x1, rfl, _⟩ := h1.of_int io3
    obtain ⟨x2, rfl, _⟩ := h2.of_int io3
    obtain ⟨x3, rfl, _⟩ := h3.of_int io3
    exact ⟨⟨x1, x2, x3⟩, hr, trivial⟩
theorem cons_of {u : U} (h : ArgU Try.prog 22 u) : ∃ l : List Con, u = consU l := by
  obtain ⟨rows, h1, _, h2⟩ := (h.one (by simp) (by simp)).of_slice es22
  obtain ⟨l, rfl, _⟩ := rows_list (fun c : Con => [.int .i64 c.A, .int .i64 c.B, .int .i64 c.N]) (fun _ => True) (rows := rows) fun r hr => con_of (h2 r hr)
  exact ⟨l, by simpa [ints, consU] using h1⟩
end Go.Proofs.Ytdkadmchdocjbaa
