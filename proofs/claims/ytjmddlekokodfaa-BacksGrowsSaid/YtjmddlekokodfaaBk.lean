/- Layer 26: what the arguments read as. -/
import Derived.Test.YtjmddlekokodfaaBa
import Derived.Test.YtjmddlekokodfaaVLP
set_option linter.all false
set_option maxRecDepth 100000
set_option maxHeartbeats 8000000
set_option linter.all false
namespace Go.Proofs.Ytjmddlekokodfaa
open Go Go.VL Go.ChangeShapes Go.WideShapes Go.ChangeAt Go.RowKit
theorem Try.own : ownKnob Try.prog.godebug = none := by kernel_rfl
theorem Try.laidOut : laidOutB Try.prog = true := by kernel_rfl
theorem Try.seqs : seqAll Try.prog = true := by kernel_rfl
theorem int_of {u : U} (h : ArgU Try.prog 3 u) : ∃ n, u = .int .i64 n := by
  obtain ⟨n, h1, _⟩ := (h.one (by simp) (by simp)).of_int io3
  exact ⟨n, by simpa using h1⟩
theorem u8_of {u : U} (h : ArgU Try.prog 5 u) : ∃ n, u = .int .u8 n ∧ 0 ≤ n ∧ n ≤ 255 := by
  obtain ⟨n, h1, h2, h3⟩ := (h.one (by simp) (by simp)).of_int io5
  exact ⟨n, by simpa using h1, h2, h3⟩
theorem row_of {r : List U} (h : HasRow Try.prog 22 r) : ∃ l : List Int, r = [ints l] := by
  obtain ⟨rows, h1, _, h2⟩ := h.of_slice es22
  obtain ⟨l, rfl, _⟩ := rows_list (fun n : Int => [.int .i64 n]) (fun _ => True) fun r hr => by
    obtain ⟨n, e, _⟩ := (h2 r hr).of_int io3
    exact ⟨n, e, trivial⟩
  exact ⟨l, h1⟩
theorem ints_of {u : U} (h : ArgU Try.prog 22 u) : ∃ l : List Int, u = ints l := by
  obtain ⟨l, e⟩ := row_of (h.one (by simp) (by simp))
  exact ⟨l, by simpa using e⟩
theorem lists_of {u : U} (h : ArgU Try.prog 23 u) : ∃ l : List (List Int), u = lists l := by
  obtain ⟨rows, h1, _, h2⟩ := (h.one (by simp) (by simp)).of_slice es23
  obtain ⟨l, rfl, _⟩ := rows_list (fun n : List Int => [ints n]) (fun _ => True) fun r hr => by
    obtain ⟨n, e⟩ := row_of (h2 r hr)
    exact ⟨n, e, trivial⟩
  exact ⟨l, by simpa using h1⟩
end Go.Proofs.Ytjmddlekokodfaa
