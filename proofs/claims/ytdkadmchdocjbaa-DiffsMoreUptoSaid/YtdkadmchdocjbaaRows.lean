/-
  No cell of these rows narrows 'for every input' (looked for: loops, veiled, ifaces, maps, wideKeys, modest, calm, conditions, laid).
  DERIVED. THE GIVEN ROWS OF THIS SEAT. 4 by the template 'for every input the law returns true; each argument reads behind the call as it read before'; 0 by the template 'total and deterministic' (their statements: YtdkadmchdocjbaaTotals.lean).
  GIVEN WITH THE SEED: the statements are not yours to turn. If you find one false, say at which input.
  Laid BY PROGRAM, IN A SANDBOX (cutbox-rows.mjs): the forced cells as the released guide's own fill.sh prints them over the translation 5d7864ac5f684b81… (all of the seat's roots in one cut). By AI agents, Wed Nov 11 2026. No macro, syntax, notation, axiom, sorry.
-/
import Derived.Test.YtdkadmchdocjbaaChecked
import GoSem.Claim
import GoSem.ClaimJoined
import GoSem.ClaimMapViews
import Derived.JoinedTies
import Derived.KernelRfl
namespace Go.Proofs.Ytdkadmchdocjbaa
/- THE CELL 'sum', in the pinned program and in every row, IS THE sha256 OF THE DUMP (.gsa) THAT YtdkadmchdocjbaaProg.lean LOADS. Nothing in Lean hashes anything: it is a label: what it is worth is what the hold of that sum in a sandbox is worth. -/
noncomputable def Try.pinned : Pinned := { name := "ytdkadmchdocjbaa", sum := "5d7864ac5f684b813ebabf5aa1cf7cb69c64cf7951475af7c5c058aa58bb0a61", checked := Try.checked }
namespace Rows
def none {H : Type} : Left H := { results := [], args := [] }

/-- 'stokvellaw13.DiffsTells': WHATEVER THE INPUT: true; the input reads as it did. -/
def diffsTellsSpec : ChangeSpec := { name := "diffsTells", fn := fun _ => fun
  | [d1, d2, d3, d4, d5, d6] => { results := [.lit (.bool true)], args := [d1, d2, d3, d4, d5, d6] }
  | _ => none }
def diffsTellsRow : OpenClaim := { program := "ytdkadmchdocjbaa", sum := "5d7864ac5f684b813ebabf5aa1cf7cb69c64cf7951475af7c5c058aa58bb0a61", func := "stokvel/stokvellaw13.DiffsTells", spec := "diffsTells", unfollowed := true, recurses := true, apart := false }
def DiffsTellsSaid : Prop := diffsTellsRow.holds Try.pinned (OpenSpec.ofChange diffsTellsSpec)

/-- ITS FALSE NEIGHBOUR: 'it returns false'. Refute it at one input. -/
def diffsTellsWrong : ChangeSpec := { name := "diffsTells", fn := fun _ => fun
  | [d1, d2, d3, d4, d5, d6] => { results := [.lit (.bool false)], args := [d1, d2, d3, d4, d5, d6] }
  | _ => none }
def DiffsTellsWrongFalsely : Prop := diffsTellsRow.holds Try.pinned (OpenSpec.ofChange diffsTellsWrong)

/-- 'stokvellaw13.DiffsSolve': WHATEVER THE INPUT: true; the input reads as it did. -/
def diffsSolveSpec : ChangeSpec := { name := "diffsSolve", fn := fun _ => fun
  | [d1, d2, d3] => { results := [.lit (.bool true)], args := [d1, d2, d3] }
  | _ => none }
def diffsSolveRow : OpenClaim := { program := "ytdkadmchdocjbaa", sum := "5d7864ac5f684b813ebabf5aa1cf7cb69c64cf7951475af7c5c058aa58bb0a61", func := "stokvel/stokvellaw13.DiffsSolve", spec := "diffsSolve", unfollowed := true, recurses := true, apart := false }
def DiffsSolveSaid : Prop := diffsSolveRow.holds Try.pinned (OpenSpec.ofChange diffsSolveSpec)

/-- ITS FALSE NEIGHBOUR: 'it returns false'. Refute it at one input. -/
def diffsSolveWrong : ChangeSpec := { name := "diffsSolve", fn := fun _ => fun
  | [d1, d2, d3] => { results := [.lit (.bool false)], args := [d1, d2, d3] }
  | _ => none }
def DiffsSolveWrongFalsely : Prop := diffsSolveRow.holds Try.pinned (OpenSpec.ofChange diffsSolveWrong)

/-- 'stokvellaw13.DiffsMost': WHATEVER THE INPUT: true; the input reads as it did. -/
def diffsMostSpec : ChangeSpec := { name := "diffsMost", fn := fun _ => fun
  | [d1, d2, d3, d4, d5, d6] => { results := [.lit (.bool true)], args := [d1, d2, d3, d4, d5, d6] }
  | _ => none }
def diffsMostRow : OpenClaim := { program := "ytdkadmchdocjbaa", sum := "5d7864ac5f684b813ebabf5aa1cf7cb69c64cf7951475af7c5c058aa58bb0a61", func := "stokvel/stokvellaw13.DiffsMost", spec := "diffsMost", unfollowed := true, recurses := true, apart := false }
def DiffsMostSaid : Prop := diffsMostRow.holds Try.pinned (OpenSpec.ofChange diffsMostSpec)

/-- ITS FALSE NEIGHBOUR: 'it returns false'. Refute it at one input. -/
def diffsMostWrong : ChangeSpec := { name := "diffsMost", fn := fun _ => fun
  | [d1, d2, d3, d4, d5, d6] => { results := [.lit (.bool false)], args := [d1, d2, d3, d4, d5, d6] }
  | _ => none }
def DiffsMostWrongFalsely : Prop := diffsMostRow.holds Try.pinned (OpenSpec.ofChange diffsMostWrong)

/-- 'stokvellaw13.DiffsMore': WHATEVER THE INPUT: true; the input reads as it did. -/
def diffsMoreSpec : ChangeSpec := { name := "diffsMore", fn := fun _ => fun
  | [d1, d2, d3, d4] => { results := [.lit (.bool true)], args := [d1, d2, d3, d4] }
  | _ => none }
def diffsMoreRow : OpenClaim := { program := "ytdkadmchdocjbaa", sum := "5d7864ac5f684b813ebabf5aa1cf7cb69c64cf7951475af7c5c058aa58bb0a61", func := "stokvel/stokvellaw13.DiffsMore", spec := "diffsMore", unfollowed := true, recurses := true, apart := false }
def DiffsMoreSaid : Prop := diffsMoreRow.holds Try.pinned (OpenSpec.ofChange diffsMoreSpec)

/-- ITS FALSE NEIGHBOUR: 'it returns false'. Refute it at one input. -/
def diffsMoreWrong : ChangeSpec := { name := "diffsMore", fn := fun _ => fun
  | [d1, d2, d3, d4] => { results := [.lit (.bool false)], args := [d1, d2, d3, d4] }
  | _ => none }
def DiffsMoreWrongFalsely : Prop := diffsMoreRow.holds Try.pinned (OpenSpec.ofChange diffsMoreWrong)

/- THE SECOND FORM. 'bulk': how many values and letters a reading holds, each counted each time it is reached (what is shared counts as often as it is met; a slice's spare places count too). A statement '..UptoSaid' is the law's where the arguments, and the package variables that the reading takes, are together of bulk at most 1048576: NARROWER than '..Said'. Prove '..Said' where nothing that the law and all that it calls make is longer than what came in: it says more and counts as full. Else prove '..UptoSaid'. A law counts once. -/
mutual
def uptoBulk {H : Type} : DataW H → Nat
  | .lit (.string bytes) => bytes.length + 1
  | .lit _ => 1
  | .nil => 1
  | .ptr d => uptoBulk d + 1
  | .slice elems spare => uptoBulkAll elems + uptoBulkAll spare + 1
  | .agg parts => uptoBulkAll parts + 1
  | .iface _ d => uptoBulk d + 1
  | .map entries => uptoBulkEntries entries + 1
  | .held _ => 1
def uptoBulkAll {H : Type} : List (DataW H) → Nat
  | [] => 0
  | d :: r => uptoBulk d + uptoBulkAll r
def uptoBulkEntries {H : Type} : List (Lit × DataW H) → Nat
  | [] => 0
  | x :: r => uptoBulkEntry x + uptoBulkEntries r
def uptoBulkEntry {H : Type} : Lit × DataW H → Nat
  | (.string bytes, d) => bytes.length + uptoBulk d + 1
  | (_, d) => uptoBulk d + 1
 end
def uptoSmall : (H : Type) → List (DataW H) → Bool := fun _ ds => decide (uptoBulkAll ds ≤ 1048576)
def OpenSpec.upto (s : _root_.Go.ChangeSpec) : _root_.Go.OpenSpec := { _root_.Go.OpenSpec.ofChange s with cond := some uptoSmall }

/-- 'stokvellaw13.DiffsTells', WHERE WHAT IT READS IS OF BULK AT MOST 1048576: true; the input reads as it did. -/
def diffsTellsUptoRow : OpenClaim := { program := "ytdkadmchdocjbaa", sum := "5d7864ac5f684b813ebabf5aa1cf7cb69c64cf7951475af7c5c058aa58bb0a61", func := "stokvel/stokvellaw13.DiffsTells", spec := "diffsTells", unfollowed := true, recurses := true, apart := false, narrowed := true }
def DiffsTellsUptoSaid : Prop := diffsTellsUptoRow.holds Try.pinned (OpenSpec.upto diffsTellsSpec)

/-- 'stokvellaw13.DiffsSolve', WHERE WHAT IT READS IS OF BULK AT MOST 1048576: true; the input reads as it did. -/
def diffsSolveUptoRow : OpenClaim := { program := "ytdkadmchdocjbaa", sum := "5d7864ac5f684b813ebabf5aa1cf7cb69c64cf7951475af7c5c058aa58bb0a61", func := "stokvel/stokvellaw13.DiffsSolve", spec := "diffsSolve", unfollowed := true, recurses := true, apart := false, narrowed := true }
def DiffsSolveUptoSaid : Prop := diffsSolveUptoRow.holds Try.pinned (OpenSpec.upto diffsSolveSpec)

/-- 'stokvellaw13.DiffsMost', WHERE WHAT IT READS IS OF BULK AT MOST 1048576: true; the input reads as it did. -/
def diffsMostUptoRow : OpenClaim := { program := "ytdkadmchdocjbaa", sum := "5d7864ac5f684b813ebabf5aa1cf7cb69c64cf7951475af7c5c058aa58bb0a61", func := "stokvel/stokvellaw13.DiffsMost", spec := "diffsMost", unfollowed := true, recurses := true, apart := false, narrowed := true }
def DiffsMostUptoSaid : Prop := diffsMostUptoRow.holds Try.pinned (OpenSpec.upto diffsMostSpec)

/-- 'stokvellaw13.DiffsMore', WHERE WHAT IT READS IS OF BULK AT MOST 1048576: true; the input reads as it did. -/
def diffsMoreUptoRow : OpenClaim := { program := "ytdkadmchdocjbaa", sum := "5d7864ac5f684b813ebabf5aa1cf7cb69c64cf7951475af7c5c058aa58bb0a61", func := "stokvel/stokvellaw13.DiffsMore", spec := "diffsMore", unfollowed := true, recurses := true, apart := false, narrowed := true }
def DiffsMoreUptoSaid : Prop := diffsMoreUptoRow.holds Try.pinned (OpenSpec.upto diffsMoreSpec)

end Rows
end Go.Proofs.Ytdkadmchdocjbaa
