/-
  No cell of these rows narrows 'for every input' (looked for: loops, veiled, ifaces, maps, wideKeys, modest, calm, conditions, laid).
  DERIVED. THE GIVEN ROWS OF THIS SEAT. 3 by the template 'for every input the law returns true; each argument reads behind the call as it read before'; 0 by the template 'total and deterministic' (their statements: YtblmompdcammeaaTotals.lean).
  GIVEN WITH THE SEED: the statements are not yours to turn. If you find one false, say at which input.
  Laid BY PROGRAM, IN A SANDBOX (cutbox-rows.mjs): the forced cells as the released guide's own fill.sh prints them over the translation c542c489c04627d0… (all of the seat's roots in one cut). By AI agents, Wed Nov 11 2026. No macro, syntax, notation, axiom, sorry.
-/
import Derived.Test.YtblmompdcammeaaChecked
import GoSem.Claim
import GoSem.ClaimJoined
import GoSem.ClaimMapViews
import Derived.JoinedTies
import Derived.KernelRfl
namespace Go.Proofs.Ytblmompdcammeaa
/- THE CELL 'sum', in the pinned program and in every row, IS THE sha256 OF THE DUMP (.gsa) THAT YtblmompdcammeaaProg.lean LOADS. Nothing in Lean hashes anything: it is a label: what it is worth is what the hold of that sum in a sandbox is worth. -/
noncomputable def Try.pinned : Pinned := { name := "ytblmompdcammeaa", sum := "c542c489c04627d00fb68d3e1513d449ed12534ac3472584045b447543876157", checked := Try.checked }
namespace Rows
def none {H : Type} : Left H := { results := [], args := [] }

/-- 'stokvellaw20.VmNames': WHATEVER THE INPUT: true; the input reads as it did. -/
def vmNamesSpec : ChangeSpec := { name := "vmNames", fn := fun _ => fun
  | [d1, d2, d3, d4, d5] => { results := [.lit (.bool true)], args := [d1, d2, d3, d4, d5] }
  | _ => none }
def vmNamesRow : OpenClaim := { program := "ytblmompdcammeaa", sum := "c542c489c04627d00fb68d3e1513d449ed12534ac3472584045b447543876157", func := "stokvel/stokvellaw20.VmNames", spec := "vmNames", unfollowed := true, recurses := true, named := ["math/bits.divideError", "math/bits.overflowError"], apart := false }
def VmNamesSaid : Prop := vmNamesRow.holds Try.pinned (OpenSpec.ofChange vmNamesSpec)

/-- ITS FALSE NEIGHBOUR: 'it returns false'. Refute it at one input. -/
def vmNamesWrong : ChangeSpec := { name := "vmNames", fn := fun _ => fun
  | [d1, d2, d3, d4, d5] => { results := [.lit (.bool false)], args := [d1, d2, d3, d4, d5] }
  | _ => none }
def VmNamesWrongFalsely : Prop := vmNamesRow.holds Try.pinned (OpenSpec.ofChange vmNamesWrong)

/-- 'stokvellaw20.VmTells': WHATEVER THE INPUT: true; the input reads as it did. -/
def vmTellsSpec : ChangeSpec := { name := "vmTells", fn := fun _ => fun
  | [d1, d2, d3, d4] => { results := [.lit (.bool true)], args := [d1, d2, d3, d4] }
  | _ => none }
def vmTellsRow : OpenClaim := { program := "ytblmompdcammeaa", sum := "c542c489c04627d00fb68d3e1513d449ed12534ac3472584045b447543876157", func := "stokvel/stokvellaw20.VmTells", spec := "vmTells", unfollowed := true, recurses := true, named := ["math/bits.divideError", "math/bits.overflowError"], apart := false }
def VmTellsSaid : Prop := vmTellsRow.holds Try.pinned (OpenSpec.ofChange vmTellsSpec)

/-- ITS FALSE NEIGHBOUR: 'it returns false'. Refute it at one input. -/
def vmTellsWrong : ChangeSpec := { name := "vmTells", fn := fun _ => fun
  | [d1, d2, d3, d4] => { results := [.lit (.bool false)], args := [d1, d2, d3, d4] }
  | _ => none }
def VmTellsWrongFalsely : Prop := vmTellsRow.holds Try.pinned (OpenSpec.ofChange vmTellsWrong)

/-- 'stokvellaw20.VmFuel': WHATEVER THE INPUT: true; the input reads as it did. -/
def vmFuelSpec : ChangeSpec := { name := "vmFuel", fn := fun _ => fun
  | [d1, d2, d3, d4] => { results := [.lit (.bool true)], args := [d1, d2, d3, d4] }
  | _ => none }
def vmFuelRow : OpenClaim := { program := "ytblmompdcammeaa", sum := "c542c489c04627d00fb68d3e1513d449ed12534ac3472584045b447543876157", func := "stokvel/stokvellaw20.VmFuel", spec := "vmFuel", unfollowed := true, recurses := true, named := ["math/bits.divideError", "math/bits.overflowError"], apart := false }
def VmFuelSaid : Prop := vmFuelRow.holds Try.pinned (OpenSpec.ofChange vmFuelSpec)

/-- ITS FALSE NEIGHBOUR: 'it returns false'. Refute it at one input. -/
def vmFuelWrong : ChangeSpec := { name := "vmFuel", fn := fun _ => fun
  | [d1, d2, d3, d4] => { results := [.lit (.bool false)], args := [d1, d2, d3, d4] }
  | _ => none }
def VmFuelWrongFalsely : Prop := vmFuelRow.holds Try.pinned (OpenSpec.ofChange vmFuelWrong)

/- THE SECOND FORM. 'bulk': how many values and letters a reading holds, each counted each time it is reached (what is shared counts as often as it is met; a slice's spare places count too). A statement '..UptoSaid' is the law's where the arguments, and the package variables that the reading takes, are together of bulk at most 1048576: NARROWER than '..Said'. Prove '..Said' where nothing that the law and all that it calls make is longer than what came in: it says more and counts as full. Else prove '..UptoSaid'. A law counts once. -/
mutual
def uptoBulk {H : Type} : DataW H → Nat
  | .lit (.string bytes) => bytes.length + 1
  | .lit _ => 1
  | .nil => 1
  | .ptr d => uptoBulk d + 1
  | .slice elems spare => uptoBulkAll elems + uptoBulkAll spare + 1
  | .agg parts => uptoBulkAll parts + 1
  | .iface _ d => uptoBulk d + 1
  | .map entries => uptoBulkEntries entries + 1
  | .held _ => 1
def uptoBulkAll {H : Type} : List (DataW H) → Nat
  | [] => 0
  | d :: r => uptoBulk d + uptoBulkAll r
def uptoBulkEntries {H : Type} : List (Lit × DataW H) → Nat
  | [] => 0
  | x :: r => uptoBulkEntry x + uptoBulkEntries r
def uptoBulkEntry {H : Type} : Lit × DataW H → Nat
  | (.string bytes, d) => bytes.length + uptoBulk d + 1
  | (_, d) => uptoBulk d + 1
 end
def uptoSmall : (H : Type) → List (DataW H) → Bool := fun _ ds => decide (uptoBulkAll ds ≤ 1048576)
def OpenSpec.upto (s : _root_.Go.ChangeSpec) : _root_.Go.OpenSpec := { _root_.Go.OpenSpec.ofChange s with cond := some uptoSmall }

/-- 'stokvellaw20.VmNames', WHERE WHAT IT READS IS OF BULK AT MOST 1048576: true; the input reads as it did. -/
def vmNamesUptoRow : OpenClaim := { program := "ytblmompdcammeaa", sum := "c542c489c04627d00fb68d3e1513d449ed12534ac3472584045b447543876157", func := "stokvel/stokvellaw20.VmNames", spec := "vmNames", unfollowed := true, recurses := true, named := ["math/bits.divideError", "math/bits.overflowError"], apart := false, narrowed := true }
def VmNamesUptoSaid : Prop := vmNamesUptoRow.holds Try.pinned (OpenSpec.upto vmNamesSpec)

/-- 'stokvellaw20.VmTells', WHERE WHAT IT READS IS OF BULK AT MOST 1048576: true; the input reads as it did. -/
def vmTellsUptoRow : OpenClaim := { program := "ytblmompdcammeaa", sum := "c542c489c04627d00fb68d3e1513d449ed12534ac3472584045b447543876157", func := "stokvel/stokvellaw20.VmTells", spec := "vmTells", unfollowed := true, recurses := true, named := ["math/bits.divideError", "math/bits.overflowError"], apart := false, narrowed := true }
def VmTellsUptoSaid : Prop := vmTellsUptoRow.holds Try.pinned (OpenSpec.upto vmTellsSpec)

/-- 'stokvellaw20.VmFuel', WHERE WHAT IT READS IS OF BULK AT MOST 1048576: true; the input reads as it did. -/
def vmFuelUptoRow : OpenClaim := { program := "ytblmompdcammeaa", sum := "c542c489c04627d00fb68d3e1513d449ed12534ac3472584045b447543876157", func := "stokvel/stokvellaw20.VmFuel", spec := "vmFuel", unfollowed := true, recurses := true, named := ["math/bits.divideError", "math/bits.overflowError"], apart := false, narrowed := true }
def VmFuelUptoSaid : Prop := vmFuelUptoRow.holds Try.pinned (OpenSpec.upto vmFuelSpec)

end Rows
end Go.Proofs.Ytblmompdcammeaa
