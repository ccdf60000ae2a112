/-
  No cell of these rows narrows 'for every input' (looked for: loops, veiled, ifaces, maps, wideKeys, modest, calm, conditions, laid).
  DERIVED. THE GIVEN ROWS OF THIS SEAT. 5 by the template 'for every input the law returns true; each argument reads behind the call as it read before'; 0 by the template 'total and deterministic' (their statements: YtjmddlekokodfaaTotals.lean).
  GIVEN WITH THE SEED: the statements are not yours to turn. If you find one false, say at which input.
  Laid BY PROGRAM, IN A SANDBOX (cutbox-rows.mjs): the forced cells as the released guide's own fill.sh prints them over the translation 1ca7c4a84e4f9625… (all of the seat's roots in one cut). By AI agents, Wed Nov 11 2026. No macro, syntax, notation, axiom, sorry.
-/
import Derived.Test.YtjmddlekokodfaaChecked
import GoSem.Claim
import GoSem.ClaimJoined
import GoSem.ClaimMapViews
import Derived.JoinedTies
import Derived.KernelRfl
namespace Go.Proofs.Ytjmddlekokodfaa
/- THE CELL 'sum', in the pinned program and in every row, IS THE sha256 OF THE DUMP (.gsa) THAT YtjmddlekokodfaaProg.lean LOADS. Nothing in Lean hashes anything: it is a label: what it is worth is what the hold of that sum in a sandbox is worth. -/
noncomputable def Try.pinned : Pinned := { name := "ytjmddlekokodfaa", sum := "1ca7c4a84e4f96254ad199c6b767cd13dbf85b59bae3311f0dd9af0ee416ef03", checked := Try.checked }
namespace Rows
def none {H : Type} : Left H := { results := [], args := [] }

/-- 'stokvellaw26.BacksTells': WHATEVER THE INPUT: true; the input reads as it did. -/
def backsTellsSpec : ChangeSpec := { name := "backsTells", fn := fun _ => fun
  | [d1, d2, d3] => { results := [.lit (.bool true)], args := [d1, d2, d3] }
  | _ => none }
def backsTellsRow : OpenClaim := { program := "ytjmddlekokodfaa", sum := "1ca7c4a84e4f96254ad199c6b767cd13dbf85b59bae3311f0dd9af0ee416ef03", func := "stokvel/stokvellaw26.BacksTells", spec := "backsTells", unfollowed := true, recurses := true, apart := false }
def BacksTellsSaid : Prop := backsTellsRow.holds Try.pinned (OpenSpec.ofChange backsTellsSpec)

/-- ITS FALSE NEIGHBOUR: 'it returns false'. Refute it at one input. -/
def backsTellsWrong : ChangeSpec := { name := "backsTells", fn := fun _ => fun
  | [d1, d2, d3] => { results := [.lit (.bool false)], args := [d1, d2, d3] }
  | _ => none }
def BacksTellsWrongFalsely : Prop := backsTellsRow.holds Try.pinned (OpenSpec.ofChange backsTellsWrong)

/-- 'stokvellaw26.BacksMoves': WHATEVER THE INPUT: true; the input reads as it did. -/
def backsMovesSpec : ChangeSpec := { name := "backsMoves", fn := fun _ => fun
  | [d1, d2, d3] => { results := [.lit (.bool true)], args := [d1, d2, d3] }
  | _ => none }
def backsMovesRow : OpenClaim := { program := "ytjmddlekokodfaa", sum := "1ca7c4a84e4f96254ad199c6b767cd13dbf85b59bae3311f0dd9af0ee416ef03", func := "stokvel/stokvellaw26.BacksMoves", spec := "backsMoves", unfollowed := true, recurses := true, apart := false }
def BacksMovesSaid : Prop := backsMovesRow.holds Try.pinned (OpenSpec.ofChange backsMovesSpec)

/-- ITS FALSE NEIGHBOUR: 'it returns false'. Refute it at one input. -/
def backsMovesWrong : ChangeSpec := { name := "backsMoves", fn := fun _ => fun
  | [d1, d2, d3] => { results := [.lit (.bool false)], args := [d1, d2, d3] }
  | _ => none }
def BacksMovesWrongFalsely : Prop := backsMovesRow.holds Try.pinned (OpenSpec.ofChange backsMovesWrong)

/-- 'stokvellaw26.BacksFair': WHATEVER THE INPUT: true; the input reads as it did. -/
def backsFairSpec : ChangeSpec := { name := "backsFair", fn := fun _ => fun
  | [d1, d2, d3] => { results := [.lit (.bool true)], args := [d1, d2, d3] }
  | _ => none }
def backsFairRow : OpenClaim := { program := "ytjmddlekokodfaa", sum := "1ca7c4a84e4f96254ad199c6b767cd13dbf85b59bae3311f0dd9af0ee416ef03", func := "stokvel/stokvellaw26.BacksFair", spec := "backsFair", unfollowed := true, recurses := true, apart := false }
def BacksFairSaid : Prop := backsFairRow.holds Try.pinned (OpenSpec.ofChange backsFairSpec)

/-- ITS FALSE NEIGHBOUR: 'it returns false'. Refute it at one input. -/
def backsFairWrong : ChangeSpec := { name := "backsFair", fn := fun _ => fun
  | [d1, d2, d3] => { results := [.lit (.bool false)], args := [d1, d2, d3] }
  | _ => none }
def BacksFairWrongFalsely : Prop := backsFairRow.holds Try.pinned (OpenSpec.ofChange backsFairWrong)

/-- 'stokvellaw26.BacksApart': WHATEVER THE INPUT: true; the input reads as it did. -/
def backsApartSpec : ChangeSpec := { name := "backsApart", fn := fun _ => fun
  | [d1, d2, d3, d4, d5] => { results := [.lit (.bool true)], args := [d1, d2, d3, d4, d5] }
  | _ => none }
def backsApartRow : OpenClaim := { program := "ytjmddlekokodfaa", sum := "1ca7c4a84e4f96254ad199c6b767cd13dbf85b59bae3311f0dd9af0ee416ef03", func := "stokvel/stokvellaw26.BacksApart", spec := "backsApart", unfollowed := true, recurses := true, apart := false }
def BacksApartSaid : Prop := backsApartRow.holds Try.pinned (OpenSpec.ofChange backsApartSpec)

/-- ITS FALSE NEIGHBOUR: 'it returns false'. Refute it at one input. -/
def backsApartWrong : ChangeSpec := { name := "backsApart", fn := fun _ => fun
  | [d1, d2, d3, d4, d5] => { results := [.lit (.bool false)], args := [d1, d2, d3, d4, d5] }
  | _ => none }
def BacksApartWrongFalsely : Prop := backsApartRow.holds Try.pinned (OpenSpec.ofChange backsApartWrong)

/-- 'stokvellaw26.BacksGrows': WHATEVER THE INPUT: true; the input reads as it did. -/
def backsGrowsSpec : ChangeSpec := { name := "backsGrows", fn := fun _ => fun
  | [d1, d2, d3, d4, d5, d6] => { results := [.lit (.bool true)], args := [d1, d2, d3, d4, d5, d6] }
  | _ => none }
def backsGrowsRow : OpenClaim := { program := "ytjmddlekokodfaa", sum := "1ca7c4a84e4f96254ad199c6b767cd13dbf85b59bae3311f0dd9af0ee416ef03", func := "stokvel/stokvellaw26.BacksGrows", spec := "backsGrows", unfollowed := true, recurses := true, apart := false }
def BacksGrowsSaid : Prop := backsGrowsRow.holds Try.pinned (OpenSpec.ofChange backsGrowsSpec)

/-- ITS FALSE NEIGHBOUR: 'it returns false'. Refute it at one input. -/
def backsGrowsWrong : ChangeSpec := { name := "backsGrows", fn := fun _ => fun
  | [d1, d2, d3, d4, d5, d6] => { results := [.lit (.bool false)], args := [d1, d2, d3, d4, d5, d6] }
  | _ => none }
def BacksGrowsWrongFalsely : Prop := backsGrowsRow.holds Try.pinned (OpenSpec.ofChange backsGrowsWrong)

/- THE SECOND FORM. 'bulk': how many values and letters a reading holds, each counted each time it is reached (what is shared counts as often as it is met; a slice's spare places count too). A statement '..UptoSaid' is the law's where the arguments, and the package variables that the reading takes, are together of bulk at most 1048576: NARROWER than '..Said'. Prove '..Said' where nothing that the law and all that it calls make is longer than what came in: it says more and counts as full. Else prove '..UptoSaid'. A law counts once. -/
mutual
def uptoBulk {H : Type} : DataW H → Nat
  | .lit (.string bytes) => bytes.length + 1
  | .lit _ => 1
  | .nil => 1
  | .ptr d => uptoBulk d + 1
  | .slice elems spare => uptoBulkAll elems + uptoBulkAll spare + 1
  | .agg parts => uptoBulkAll parts + 1
  | .iface _ d => uptoBulk d + 1
  | .map entries => uptoBulkEntries entries + 1
  | .held _ => 1
def uptoBulkAll {H : Type} : List (DataW H) → Nat
  | [] => 0
  | d :: r => uptoBulk d + uptoBulkAll r
def uptoBulkEntries {H : Type} : List (Lit × DataW H) → Nat
  | [] => 0
  | x :: r => uptoBulkEntry x + uptoBulkEntries r
def uptoBulkEntry {H : Type} : Lit × DataW H → Nat
  | (.string bytes, d) => bytes.length + uptoBulk d + 1
  | (_, d) => uptoBulk d + 1
 end
def uptoSmall : (H : Type) → List (DataW H) → Bool := fun _ ds => decide (uptoBulkAll ds ≤ 1048576)
def OpenSpec.upto (s : _root_.Go.ChangeSpec) : _root_.Go.OpenSpec := { _root_.Go.OpenSpec.ofChange s with cond := some uptoSmall }

/-- 'stokvellaw26.BacksTells', WHERE WHAT IT READS IS OF BULK AT MOST 1048576: true; the input reads as it did. -/
def backsTellsUptoRow : OpenClaim := { program := "ytjmddlekokodfaa", sum := "1ca7c4a84e4f96254ad199c6b767cd13dbf85b59bae3311f0dd9af0ee416ef03", func := "stokvel/stokvellaw26.BacksTells", spec := "backsTells", unfollowed := true, recurses := true, apart := false, narrowed := true }
def BacksTellsUptoSaid : Prop := backsTellsUptoRow.holds Try.pinned (OpenSpec.upto backsTellsSpec)

/-- 'stokvellaw26.BacksMoves', WHERE WHAT IT READS IS OF BULK AT MOST 1048576: true; the input reads as it did. -/
def backsMovesUptoRow : OpenClaim := { program := "ytjmddlekokodfaa", sum := "1ca7c4a84e4f96254ad199c6b767cd13dbf85b59bae3311f0dd9af0ee416ef03", func := "stokvel/stokvellaw26.BacksMoves", spec := "backsMoves", unfollowed := true, recurses := true, apart := false, narrowed := true }
def BacksMovesUptoSaid : Prop := backsMovesUptoRow.holds Try.pinned (OpenSpec.upto backsMovesSpec)

/-- 'stokvellaw26.BacksFair', WHERE WHAT IT READS IS OF BULK AT MOST 1048576: true; the input reads as it did. -/
def backsFairUptoRow : OpenClaim := { program := "ytjmddlekokodfaa", sum := "1ca7c4a84e4f96254ad199c6b767cd13dbf85b59bae3311f0dd9af0ee416ef03", func := "stokvel/stokvellaw26.BacksFair", spec := "backsFair", unfollowed := true, recurses := true, apart := false, narrowed := true }
def BacksFairUptoSaid : Prop := backsFairUptoRow.holds Try.pinned (OpenSpec.upto backsFairSpec)

/-- 'stokvellaw26.BacksApart', WHERE WHAT IT READS IS OF BULK AT MOST 1048576: true; the input reads as it did. -/
def backsApartUptoRow : OpenClaim := { program := "ytjmddlekokodfaa", sum := "1ca7c4a84e4f96254ad199c6b767cd13dbf85b59bae3311f0dd9af0ee416ef03", func := "stokvel/stokvellaw26.BacksApart", spec := "backsApart", unfollowed := true, recurses := true, apart := false, narrowed := true }
def BacksApartUptoSaid : Prop := backsApartUptoRow.holds Try.pinned (OpenSpec.upto backsApartSpec)

/-- 'stokvellaw26.BacksGrows', WHERE WHAT IT READS IS OF BULK AT MOST 1048576: true; the input reads as it did. -/
def backsGrowsUptoRow : OpenClaim := { program := "ytjmddlekokodfaa", sum := "1ca7c4a84e4f96254ad199c6b767cd13dbf85b59bae3311f0dd9af0ee416ef03", func := "stokvel/stokvellaw26.BacksGrows", spec := "backsGrows", unfollowed := true, recurses := true, apart := false, narrowed := true }
def BacksGrowsUptoSaid : Prop := backsGrowsUptoRow.holds Try.pinned (OpenSpec.upto backsGrowsSpec)

end Rows
end Go.Proofs.Ytjmddlekokodfaa
