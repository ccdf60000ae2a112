/-
  No cell of these rows narrows 'for every input' (looked for: loops, veiled, ifaces, maps, wideKeys, modest, calm, conditions, laid).
  DERIVED. THE GIVEN ROWS OF THIS SEAT. 4 by the template 'for every input the law returns true; each argument reads behind the call as it read before'; 0 by the template 'total and deterministic' (their statements: YtmebfcehkfaiaaaTotals.lean).
  GIVEN WITH THE SEED: the statements are not yours to turn. If you find one false, say at which input.
  Laid BY PROGRAM, IN A SANDBOX (cutbox-rows.mjs): the forced cells as the released guide's own fill.sh prints them over the translation b3d2ff57c5d7d823… (all of the seat's roots in one cut). By AI agents, Wed Nov 11 2026. No macro, syntax, notation, axiom, sorry.
-/
import Derived.Test.YtmebfcehkfaiaaaChecked
import GoSem.Claim
import GoSem.ClaimJoined
import GoSem.ClaimMapViews
import Derived.JoinedTies
import Derived.KernelRfl
namespace Go.Proofs.Ytmebfcehkfaiaaa
/- THE CELL 'sum', in the pinned program and in every row, IS THE sha256 OF THE DUMP (.gsa) THAT YtmebfcehkfaiaaaProg.lean LOADS. Nothing in Lean hashes anything: it is a label: what it is worth is what the hold of that sum in a sandbox is worth. -/
noncomputable def Try.pinned : Pinned := { name := "ytmebfcehkfaiaaa", sum := "b3d2ff57c5d7d823cff97480db2924ec5cb9805f775fb45ec9669baf5e656ccc", checked := Try.checked }
namespace Rows
def none {H : Type} : Left H := { results := [], args := [] }

/-- 'stokvellaw23.TurnsTells': WHATEVER THE INPUT: true; the input reads as it did. -/
def turnsTellsSpec : ChangeSpec := { name := "turnsTells", fn := fun _ => fun
  | [d1, d2, d3, d4, d5, d6, d7] => { results := [.lit (.bool true)], args := [d1, d2, d3, d4, d5, d6, d7] }
  | _ => none }
def turnsTellsRow : OpenClaim := { program := "ytmebfcehkfaiaaa", sum := "b3d2ff57c5d7d823cff97480db2924ec5cb9805f775fb45ec9669baf5e656ccc", func := "stokvel/stokvellaw23.TurnsTells", spec := "turnsTells", unfollowed := true, recurses := true, apart := false }
def TurnsTellsSaid : Prop := turnsTellsRow.holds Try.pinned (OpenSpec.ofChange turnsTellsSpec)

/-- ITS FALSE NEIGHBOUR: 'it returns false'. Refute it at one input. -/
def turnsTellsWrong : ChangeSpec := { name := "turnsTells", fn := fun _ => fun
  | [d1, d2, d3, d4, d5, d6, d7] => { results := [.lit (.bool false)], args := [d1, d2, d3, d4, d5, d6, d7] }
  | _ => none }
def TurnsTellsWrongFalsely : Prop := turnsTellsRow.holds Try.pinned (OpenSpec.ofChange turnsTellsWrong)

/-- 'stokvellaw23.TurnsRound': WHATEVER THE INPUT: true; the input reads as it did. -/
def turnsRoundSpec : ChangeSpec := { name := "turnsRound", fn := fun _ => fun
  | [d1, d2, d3, d4, d5] => { results := [.lit (.bool true)], args := [d1, d2, d3, d4, d5] }
  | _ => none }
def turnsRoundRow : OpenClaim := { program := "ytmebfcehkfaiaaa", sum := "b3d2ff57c5d7d823cff97480db2924ec5cb9805f775fb45ec9669baf5e656ccc", func := "stokvel/stokvellaw23.TurnsRound", spec := "turnsRound", unfollowed := true, recurses := true, apart := false }
def TurnsRoundSaid : Prop := turnsRoundRow.holds Try.pinned (OpenSpec.ofChange turnsRoundSpec)

/-- ITS FALSE NEIGHBOUR: 'it returns false'. Refute it at one input. -/
def turnsRoundWrong : ChangeSpec := { name := "turnsRound", fn := fun _ => fun
  | [d1, d2, d3, d4, d5] => { results := [.lit (.bool false)], args := [d1, d2, d3, d4, d5] }
  | _ => none }
def TurnsRoundWrongFalsely : Prop := turnsRoundRow.holds Try.pinned (OpenSpec.ofChange turnsRoundWrong)

/-- 'stokvellaw23.TurnsDraw': WHATEVER THE INPUT: true; the input reads as it did. -/
def turnsDrawSpec : ChangeSpec := { name := "turnsDraw", fn := fun _ => fun
  | [d1, d2, d3, d4] => { results := [.lit (.bool true)], args := [d1, d2, d3, d4] }
  | _ => none }
def turnsDrawRow : OpenClaim := { program := "ytmebfcehkfaiaaa", sum := "b3d2ff57c5d7d823cff97480db2924ec5cb9805f775fb45ec9669baf5e656ccc", func := "stokvel/stokvellaw23.TurnsDraw", spec := "turnsDraw", unfollowed := true, recurses := true, apart := false }
def TurnsDrawSaid : Prop := turnsDrawRow.holds Try.pinned (OpenSpec.ofChange turnsDrawSpec)

/-- ITS FALSE NEIGHBOUR: 'it returns false'. Refute it at one input. -/
def turnsDrawWrong : ChangeSpec := { name := "turnsDraw", fn := fun _ => fun
  | [d1, d2, d3, d4] => { results := [.lit (.bool false)], args := [d1, d2, d3, d4] }
  | _ => none }
def TurnsDrawWrongFalsely : Prop := turnsDrawRow.holds Try.pinned (OpenSpec.ofChange turnsDrawWrong)

/-- 'stokvellaw23.TurnsNeed': WHATEVER THE INPUT: true; the input reads as it did. -/
def turnsNeedSpec : ChangeSpec := { name := "turnsNeed", fn := fun _ => fun
  | [d1, d2, d3] => { results := [.lit (.bool true)], args := [d1, d2, d3] }
  | _ => none }
def turnsNeedRow : OpenClaim := { program := "ytmebfcehkfaiaaa", sum := "b3d2ff57c5d7d823cff97480db2924ec5cb9805f775fb45ec9669baf5e656ccc", func := "stokvel/stokvellaw23.TurnsNeed", spec := "turnsNeed", unfollowed := true, recurses := true, apart := false }
def TurnsNeedSaid : Prop := turnsNeedRow.holds Try.pinned (OpenSpec.ofChange turnsNeedSpec)

/-- ITS FALSE NEIGHBOUR: 'it returns false'. Refute it at one input. -/
def turnsNeedWrong : ChangeSpec := { name := "turnsNeed", fn := fun _ => fun
  | [d1, d2, d3] => { results := [.lit (.bool false)], args := [d1, d2, d3] }
  | _ => none }
def TurnsNeedWrongFalsely : Prop := turnsNeedRow.holds Try.pinned (OpenSpec.ofChange turnsNeedWrong)

/- THE SECOND FORM. 'bulk': how many values and letters a reading holds, each counted each time it is reached (what is shared counts as often as it is met; a slice's spare places count too). A statement '..UptoSaid' is the law's where the arguments, and the package variables that the reading takes, are together of bulk at most 1048576: NARROWER than '..Said'. Prove '..Said' where nothing that the law and all that it calls make is longer than what came in: it says more and counts as full. Else prove '..UptoSaid'. A law counts once. -/
mutual
def uptoBulk {H : Type} : DataW H → Nat
  | .lit (.string bytes) => bytes.length + 1
  | .lit _ => 1
  | .nil => 1
  | .ptr d => uptoBulk d + 1
  | .slice elems spare => uptoBulkAll elems + uptoBulkAll spare + 1
  | .agg parts => uptoBulkAll parts + 1
  | .iface _ d => uptoBulk d + 1
  | .map entries => uptoBulkEntries entries + 1
  | .held _ => 1
def uptoBulkAll {H : Type} : List (DataW H) → Nat
  | [] => 0
  | d :: r => uptoBulk d + uptoBulkAll r
def uptoBulkEntries {H : Type} : List (Lit × DataW H) → Nat
  | [] => 0
  | x :: r => uptoBulkEntry x + uptoBulkEntries r
def uptoBulkEntry {H : Type} : Lit × DataW H → Nat
  | (.string bytes, d) => bytes.length + uptoBulk d + 1
  | (_, d) => uptoBulk d + 1
 end
def uptoSmall : (H : Type) → List (DataW H) → Bool := fun _ ds => decide (uptoBulkAll ds ≤ 1048576)
def OpenSpec.upto (s : _root_.Go.ChangeSpec) : _root_.Go.OpenSpec := { _root_.Go.OpenSpec.ofChange s with cond := some uptoSmall }

/-- 'stokvellaw23.TurnsTells', WHERE WHAT IT READS IS OF BULK AT MOST 1048576: true; the input reads as it did. -/
def turnsTellsUptoRow : OpenClaim := { program := "ytmebfcehkfaiaaa", sum := "b3d2ff57c5d7d823cff97480db2924ec5cb9805f775fb45ec9669baf5e656ccc", func := "stokvel/stokvellaw23.TurnsTells", spec := "turnsTells", unfollowed := true, recurses := true, apart := false, narrowed := true }
def TurnsTellsUptoSaid : Prop := turnsTellsUptoRow.holds Try.pinned (OpenSpec.upto turnsTellsSpec)

/-- 'stokvellaw23.TurnsRound', WHERE WHAT IT READS IS OF BULK AT MOST 1048576: true; the input reads as it did. -/
def turnsRoundUptoRow : OpenClaim := { program := "ytmebfcehkfaiaaa", sum := "b3d2ff57c5d7d823cff97480db2924ec5cb9805f775fb45ec9669baf5e656ccc", func := "stokvel/stokvellaw23.TurnsRound", spec := "turnsRound", unfollowed := true, recurses := true, apart := false, narrowed := true }
def TurnsRoundUptoSaid : Prop := turnsRoundUptoRow.holds Try.pinned (OpenSpec.upto turnsRoundSpec)

/-- 'stokvellaw23.TurnsDraw', WHERE WHAT IT READS IS OF BULK AT MOST 1048576: true; the input reads as it did. -/
def turnsDrawUptoRow : OpenClaim := { program := "ytmebfcehkfaiaaa", sum := "b3d2ff57c5d7d823cff97480db2924ec5cb9805f775fb45ec9669baf5e656ccc", func := "stokvel/stokvellaw23.TurnsDraw", spec := "turnsDraw", unfollowed := true, recurses := true, apart := false, narrowed := true }
def TurnsDrawUptoSaid : Prop := turnsDrawUptoRow.holds Try.pinned (OpenSpec.upto turnsDrawSpec)

/-- 'stokvellaw23.TurnsNeed', WHERE WHAT IT READS IS OF BULK AT MOST 1048576: true; the input reads as it did. -/
def turnsNeedUptoRow : OpenClaim := { program := "ytmebfcehkfaiaaa", sum := "b3d2ff57c5d7d823cff97480db2924ec5cb9805f775fb45ec9669baf5e656ccc", func := "stokvel/stokvellaw23.TurnsNeed", spec := "turnsNeed", unfollowed := true, recurses := true, apart := false, narrowed := true }
def TurnsNeedUptoSaid : Prop := turnsNeedUptoRow.holds Try.pinned (OpenSpec.upto turnsNeedSpec)

end Rows
end Go.Proofs.Ytmebfcehkfaiaaa
