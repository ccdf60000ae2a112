/-
  NARROWER THAN 'FOR EVERY INPUT', by the rows' own cells (each row's printed sentence says how): UnitsTells: loops · UnitsCheck: loops · UnitsParts: loops · UnitsLets: loops.
  DERIVED. THE GIVEN ROWS OF THIS SEAT. 4 by the template 'for every input the law returns true; each argument reads behind the call as it read before'; 0 by the template 'total and deterministic' (their statements: YtehlmagdlkcifaaTotals.lean).
  GIVEN WITH THE SEED: the statements are not yours to turn. If you find one false, say at which input.
  Laid BY PROGRAM, IN A SANDBOX (cutbox-rows.mjs): the forced cells as the released guide's own fill.sh prints them over the translation 7016497902d0df14… (all of the seat's roots in one cut). By AI agents, Wed Nov 11 2026. No macro, syntax, notation, axiom, sorry.
-/
import Derived.Test.YtehlmagdlkcifaaChecked
import GoSem.Claim
import GoSem.ClaimJoined
import GoSem.ClaimMapViews
import Derived.JoinedTies
import Derived.KernelRfl
namespace Go.Proofs.Ytehlmagdlkcifaa
/- THE CELL 'sum', in the pinned program and in every row, IS THE sha256 OF THE DUMP (.gsa) THAT YtehlmagdlkcifaaProg.lean LOADS. Nothing in Lean hashes anything: it is a label: what it is worth is what the hold of that sum in a sandbox is worth. -/
noncomputable def Try.pinned : Pinned := { name := "ytehlmagdlkcifaa", sum := "7016497902d0df148880eccfe58b72ba1c85d574b2acb70a43a9c2b1bca23dae", checked := Try.checked }
namespace Rows
def none {H : Type} : Left H := { results := [], args := [] }

/-- 'stokvellaw16.UnitsTells': WHATEVER THE INPUT: true; the input reads as it did. -/
def unitsTellsSpec : ChangeSpec := { name := "unitsTells", fn := fun _ => fun
  | [d1, d2, d3, d4, d5] => { results := [.lit (.bool true)], args := [d1, d2, d3, d4, d5] }
  | _ => none }
def unitsTellsRow : OpenClaim := { program := "ytehlmagdlkcifaa", sum := "7016497902d0df148880eccfe58b72ba1c85d574b2acb70a43a9c2b1bca23dae", func := "stokvel/stokvellaw16.UnitsTells", spec := "unitsTells", unfollowed := true, recurses := true, loops := true, apart := false }
def UnitsTellsSaid : Prop := unitsTellsRow.holds Try.pinned (OpenSpec.ofChange unitsTellsSpec)

/-- ITS FALSE NEIGHBOUR: 'it returns false'. Refute it at one input. -/
def unitsTellsWrong : ChangeSpec := { name := "unitsTells", fn := fun _ => fun
  | [d1, d2, d3, d4, d5] => { results := [.lit (.bool false)], args := [d1, d2, d3, d4, d5] }
  | _ => none }
def UnitsTellsWrongFalsely : Prop := unitsTellsRow.holds Try.pinned (OpenSpec.ofChange unitsTellsWrong)

/-- 'stokvellaw16.UnitsCheck': WHATEVER THE INPUT: true; the input reads as it did. -/
def unitsCheckSpec : ChangeSpec := { name := "unitsCheck", fn := fun _ => fun
  | [d] => { results := [.lit (.bool true)], args := [d] }
  | _ => none }
def unitsCheckRow : OpenClaim := { program := "ytehlmagdlkcifaa", sum := "7016497902d0df148880eccfe58b72ba1c85d574b2acb70a43a9c2b1bca23dae", func := "stokvel/stokvellaw16.UnitsCheck", spec := "unitsCheck", unfollowed := true, recurses := true, loops := true, apart := false }
def UnitsCheckSaid : Prop := unitsCheckRow.holds Try.pinned (OpenSpec.ofChange unitsCheckSpec)

/-- ITS FALSE NEIGHBOUR: 'it returns false'. Refute it at one input. -/
def unitsCheckWrong : ChangeSpec := { name := "unitsCheck", fn := fun _ => fun
  | [d] => { results := [.lit (.bool false)], args := [d] }
  | _ => none }
def UnitsCheckWrongFalsely : Prop := unitsCheckRow.holds Try.pinned (OpenSpec.ofChange unitsCheckWrong)

/-- 'stokvellaw16.UnitsParts': WHATEVER THE INPUT: true; the input reads as it did. -/
def unitsPartsSpec : ChangeSpec := { name := "unitsParts", fn := fun _ => fun
  | [d1, d2, d3, d4, d5] => { results := [.lit (.bool true)], args := [d1, d2, d3, d4, d5] }
  | _ => none }
def unitsPartsRow : OpenClaim := { program := "ytehlmagdlkcifaa", sum := "7016497902d0df148880eccfe58b72ba1c85d574b2acb70a43a9c2b1bca23dae", func := "stokvel/stokvellaw16.UnitsParts", spec := "unitsParts", unfollowed := true, recurses := true, loops := true, apart := false }
def UnitsPartsSaid : Prop := unitsPartsRow.holds Try.pinned (OpenSpec.ofChange unitsPartsSpec)

/-- ITS FALSE NEIGHBOUR: 'it returns false'. Refute it at one input. -/
def unitsPartsWrong : ChangeSpec := { name := "unitsParts", fn := fun _ => fun
  | [d1, d2, d3, d4, d5] => { results := [.lit (.bool false)], args := [d1, d2, d3, d4, d5] }
  | _ => none }
def UnitsPartsWrongFalsely : Prop := unitsPartsRow.holds Try.pinned (OpenSpec.ofChange unitsPartsWrong)

/-- 'stokvellaw16.UnitsLets': WHATEVER THE INPUT: true; the input reads as it did. -/
def unitsLetsSpec : ChangeSpec := { name := "unitsLets", fn := fun _ => fun
  | [d1, d2, d3, d4, d5] => { results := [.lit (.bool true)], args := [d1, d2, d3, d4, d5] }
  | _ => none }
def unitsLetsRow : OpenClaim := { program := "ytehlmagdlkcifaa", sum := "7016497902d0df148880eccfe58b72ba1c85d574b2acb70a43a9c2b1bca23dae", func := "stokvel/stokvellaw16.UnitsLets", spec := "unitsLets", unfollowed := true, recurses := true, loops := true, apart := false }
def UnitsLetsSaid : Prop := unitsLetsRow.holds Try.pinned (OpenSpec.ofChange unitsLetsSpec)

/-- ITS FALSE NEIGHBOUR: 'it returns false'. Refute it at one input. -/
def unitsLetsWrong : ChangeSpec := { name := "unitsLets", fn := fun _ => fun
  | [d1, d2, d3, d4, d5] => { results := [.lit (.bool false)], args := [d1, d2, d3, d4, d5] }
  | _ => none }
def UnitsLetsWrongFalsely : Prop := unitsLetsRow.holds Try.pinned (OpenSpec.ofChange unitsLetsWrong)

/- THE SECOND FORM. 'bulk': how many values and letters a reading holds, each counted each time it is reached (what is shared counts as often as it is met; a slice's spare places count too). A statement '..UptoSaid' is the law's where the arguments, and the package variables that the reading takes, are together of bulk at most 1048576: NARROWER than '..Said'. Prove '..Said' where nothing that the law and all that it calls make is longer than what came in: it says more and counts as full. Else prove '..UptoSaid'. A law counts once. -/
mutual
def uptoBulk {H : Type} : DataW H → Nat
  | .lit (.string bytes) => bytes.length + 1
  | .lit _ => 1
  | .nil => 1
  | .ptr d => uptoBulk d + 1
  | .slice elems spare => uptoBulkAll elems + uptoBulkAll spare + 1
  | .agg parts => uptoBulkAll parts + 1
  | .iface _ d => uptoBulk d + 1
  | .map entries => uptoBulkEntries entries + 1
  | .held _ => 1
def uptoBulkAll {H : Type} : List (DataW H) → Nat
  | [] => 0
  | d :: r => uptoBulk d + uptoBulkAll r
def uptoBulkEntries {H : Type} : List (Lit × DataW H) → Nat
  | [] => 0
  | x :: r => uptoBulkEntry x + uptoBulkEntries r
def uptoBulkEntry {H : Type} : Lit × DataW H → Nat
  | (.string bytes, d) => bytes.length + uptoBulk d + 1
  | (_, d) => uptoBulk d + 1
 end
def uptoSmall : (H : Type) → List (DataW H) → Bool := fun _ ds => decide (uptoBulkAll ds ≤ 1048576)
def OpenSpec.upto (s : _root_.Go.ChangeSpec) : _root_.Go.OpenSpec := { _root_.Go.OpenSpec.ofChange s with cond := some uptoSmall }

/-- 'stokvellaw16.UnitsTells', WHERE WHAT IT READS IS OF BULK AT MOST 1048576: true; the input reads as it did. -/
def unitsTellsUptoRow : OpenClaim := { program := "ytehlmagdlkcifaa", sum := "7016497902d0df148880eccfe58b72ba1c85d574b2acb70a43a9c2b1bca23dae", func := "stokvel/stokvellaw16.UnitsTells", spec := "unitsTells", unfollowed := true, recurses := true, loops := true, apart := false, narrowed := true }
def UnitsTellsUptoSaid : Prop := unitsTellsUptoRow.holds Try.pinned (OpenSpec.upto unitsTellsSpec)

/-- 'stokvellaw16.UnitsCheck', WHERE WHAT IT READS IS OF BULK AT MOST 1048576: true; the input reads as it did. -/
def unitsCheckUptoRow : OpenClaim := { program := "ytehlmagdlkcifaa", sum := "7016497902d0df148880eccfe58b72ba1c85d574b2acb70a43a9c2b1bca23dae", func := "stokvel/stokvellaw16.UnitsCheck", spec := "unitsCheck", unfollowed := true, recurses := true, loops := true, apart := false, narrowed := true }
def UnitsCheckUptoSaid : Prop := unitsCheckUptoRow.holds Try.pinned (OpenSpec.upto unitsCheckSpec)

/-- 'stokvellaw16.UnitsParts', WHERE WHAT IT READS IS OF BULK AT MOST 1048576: true; the input reads as it did. -/
def unitsPartsUptoRow : OpenClaim := { program := "ytehlmagdlkcifaa", sum := "7016497902d0df148880eccfe58b72ba1c85d574b2acb70a43a9c2b1bca23dae", func := "stokvel/stokvellaw16.UnitsParts", spec := "unitsParts", unfollowed := true, recurses := true, loops := true, apart := false, narrowed := true }
def UnitsPartsUptoSaid : Prop := unitsPartsUptoRow.holds Try.pinned (OpenSpec.upto unitsPartsSpec)

/-- 'stokvellaw16.UnitsLets', WHERE WHAT IT READS IS OF BULK AT MOST 1048576: true; the input reads as it did. -/
def unitsLetsUptoRow : OpenClaim := { program := "ytehlmagdlkcifaa", sum := "7016497902d0df148880eccfe58b72ba1c85d574b2acb70a43a9c2b1bca23dae", func := "stokvel/stokvellaw16.UnitsLets", spec := "unitsLets", unfollowed := true, recurses := true, loops := true, apart := false, narrowed := true }
def UnitsLetsUptoSaid : Prop := unitsLetsUptoRow.holds Try.pinned (OpenSpec.upto unitsLetsSpec)

end Rows
end Go.Proofs.Ytehlmagdlkcifaa
