/-
  DERIVED. GIVEN WITH THE SEED: THE CARDS: each row of YtkdhmbhbbciedaaGreatDoorRows.lean that lists a variable, with what it lists TIED to the program's text (the seventh form; the later family's looks); each row that meets fmt, with fmt's text TOLD by the authors' own Lean function (tested against real Go, not proved from fmt's source: count such statements apart). THE CARD IS WHAT COUNTS. Prove the row's statement (the work); the ties are given (YtkdhmbhbbciedaaGreatDoorTie.lean); close each card by the builder's one call (the guide's Derived/Test/ToyasCard.lean, 'card_holds'). Laid BY PROGRAM, IN A SANDBOX (cutbox-door.mjs). By AI agents, Wed Nov 11 2026. No macro, syntax, notation, axiom, sorry.
-/
import Derived.Test.YtkdhmbhbbciedaaGreatDoorRows
import GoSem.ClaimSeven
namespace Go.Proofs.YtkdhmbhbbciedaaGreatDoor
namespace Rows

/-- THE TIED CARD OF 'stokvellaw19.CodeTells'. -/
def codeTellsCard : Claim7 := { stood := { row := codeTellsRow, standIns := [], harness := (true, "32e23c3c96515b05d2499ef60ae4cad8eab43760e4df2621cc58520ce055828e"), looks := true }, kinds := [], alts := [], laidByText := true, laidKinds := [.data, .data, .data, .data, .sentinel, .sentinel, .data, .widerDeep, .pinned], laidTests := true, laidLooks := .later }
def CodeTellsCardSaid : Prop := Claim7.holds Tryz.pinned (.plain (OpenSpec.ofChange codeTellsSpec)) codeTellsCard

/-- THE TIED CARD OF 'stokvellaw19.CodeRight'. -/
def codeRightCard : Claim7 := { stood := { row := codeRightRow, standIns := [], harness := (true, "32e23c3c96515b05d2499ef60ae4cad8eab43760e4df2621cc58520ce055828e"), looks := true }, kinds := [], alts := [], laidByText := true, laidKinds := [.data, .data, .data, .data, .sentinel, .sentinel, .data, .widerDeep, .pinned], laidTests := true, laidLooks := .later }
def CodeRightCardSaid : Prop := Claim7.holds Tryz.pinned (.plain (OpenSpec.ofChange codeRightSpec)) codeRightCard

/-- THE TIED CARD OF 'stokvellaw19.CodeBack'. -/
def codeBackCard : Claim7 := { stood := { row := codeBackRow, standIns := [], harness := (true, "32e23c3c96515b05d2499ef60ae4cad8eab43760e4df2621cc58520ce055828e"), looks := true }, kinds := [], alts := [], laidByText := true, laidKinds := [.data, .data, .data, .data, .sentinel, .sentinel, .data, .widerDeep, .pinned], laidTests := true, laidLooks := .later }
def CodeBackCardSaid : Prop := Claim7.holds Tryz.pinned (.plain (OpenSpec.ofChange codeBackSpec)) codeBackCard

/-- THE TIED CARD OF 'stokvellaw19.CodeLets'. -/
def codeLetsCard : Claim7 := { stood := { row := codeLetsRow, standIns := [], harness := (true, "32e23c3c96515b05d2499ef60ae4cad8eab43760e4df2621cc58520ce055828e"), looks := true }, kinds := [], alts := [], laidByText := true, laidKinds := [.data, .data, .data, .data, .sentinel, .sentinel, .data, .widerDeep, .pinned], laidTests := true, laidLooks := .later }
def CodeLetsCardSaid : Prop := Claim7.holds Tryz.pinned (.plain (OpenSpec.ofChange codeLetsSpec)) codeLetsCard

/-- THE TIED CARD OF 'stokvellaw19.CodeParts'. -/
def codePartsCard : Claim7 := { stood := { row := codePartsRow, standIns := [], harness := (true, "32e23c3c96515b05d2499ef60ae4cad8eab43760e4df2621cc58520ce055828e"), looks := true }, kinds := [], alts := [], laidByText := true, laidKinds := [.data, .data, .data, .data, .sentinel, .sentinel, .data, .widerDeep, .pinned], laidTests := true, laidLooks := .later }
def CodePartsCardSaid : Prop := Claim7.holds Tryz.pinned (.plain (OpenSpec.ofChange codePartsSpec)) codePartsCard

/-- THE TIED CARD OF 'stokvellaw20.VmLists'. -/
def vmListsCard : Claim7 := { stood := { row := vmListsRow, standIns := [], harness := (true, "32e23c3c96515b05d2499ef60ae4cad8eab43760e4df2621cc58520ce055828e"), looks := true }, kinds := [], alts := [], laidByText := true, laidKinds := [.data, .data, .data, .data, .sentinel, .sentinel, .widerDeep, .pinned], laidTests := true, laidLooks := .later }
def VmListsCardSaid : Prop := Claim7.holds Tryz.pinned (.plain (OpenSpec.ofChange vmListsSpec)) vmListsCard

/-- THE SECOND FORM's CARD OF 'stokvellaw19.CodeTells'. -/
def codeTellsUptoCard : Claim7 := { stood := { row := codeTellsUptoRow, standIns := [], harness := (true, "32e23c3c96515b05d2499ef60ae4cad8eab43760e4df2621cc58520ce055828e"), looks := true }, kinds := [], alts := [], laidByText := true, laidKinds := [.data, .data, .data, .data, .sentinel, .sentinel, .data, .widerDeep, .pinned], laidTests := true, laidLooks := .later }
def CodeTellsUptoCardSaid : Prop := Claim7.holds Tryz.pinned (.plain (OpenSpec.upto codeTellsSpec)) codeTellsUptoCard

/-- THE SECOND FORM's CARD OF 'stokvellaw19.CodeRight'. -/
def codeRightUptoCard : Claim7 := { stood := { row := codeRightUptoRow, standIns := [], harness := (true, "32e23c3c96515b05d2499ef60ae4cad8eab43760e4df2621cc58520ce055828e"), looks := true }, kinds := [], alts := [], laidByText := true, laidKinds := [.data, .data, .data, .data, .sentinel, .sentinel, .data, .widerDeep, .pinned], laidTests := true, laidLooks := .later }
def CodeRightUptoCardSaid : Prop := Claim7.holds Tryz.pinned (.plain (OpenSpec.upto codeRightSpec)) codeRightUptoCard

/-- THE SECOND FORM's CARD OF 'stokvellaw19.CodeBack'. -/
def codeBackUptoCard : Claim7 := { stood := { row := codeBackUptoRow, standIns := [], harness := (true, "32e23c3c96515b05d2499ef60ae4cad8eab43760e4df2621cc58520ce055828e"), looks := true }, kinds := [], alts := [], laidByText := true, laidKinds := [.data, .data, .data, .data, .sentinel, .sentinel, .data, .widerDeep, .pinned], laidTests := true, laidLooks := .later }
def CodeBackUptoCardSaid : Prop := Claim7.holds Tryz.pinned (.plain (OpenSpec.upto codeBackSpec)) codeBackUptoCard

/-- THE SECOND FORM's CARD OF 'stokvellaw19.CodeLets'. -/
def codeLetsUptoCard : Claim7 := { stood := { row := codeLetsUptoRow, standIns := [], harness := (true, "32e23c3c96515b05d2499ef60ae4cad8eab43760e4df2621cc58520ce055828e"), looks := true }, kinds := [], alts := [], laidByText := true, laidKinds := [.data, .data, .data, .data, .sentinel, .sentinel, .data, .widerDeep, .pinned], laidTests := true, laidLooks := .later }
def CodeLetsUptoCardSaid : Prop := Claim7.holds Tryz.pinned (.plain (OpenSpec.upto codeLetsSpec)) codeLetsUptoCard

/-- THE SECOND FORM's CARD OF 'stokvellaw19.CodeParts'. -/
def codePartsUptoCard : Claim7 := { stood := { row := codePartsUptoRow, standIns := [], harness := (true, "32e23c3c96515b05d2499ef60ae4cad8eab43760e4df2621cc58520ce055828e"), looks := true }, kinds := [], alts := [], laidByText := true, laidKinds := [.data, .data, .data, .data, .sentinel, .sentinel, .data, .widerDeep, .pinned], laidTests := true, laidLooks := .later }
def CodePartsUptoCardSaid : Prop := Claim7.holds Tryz.pinned (.plain (OpenSpec.upto codePartsSpec)) codePartsUptoCard

/-- THE SECOND FORM's CARD OF 'stokvellaw20.VmLists'. -/
def vmListsUptoCard : Claim7 := { stood := { row := vmListsUptoRow, standIns := [], harness := (true, "32e23c3c96515b05d2499ef60ae4cad8eab43760e4df2621cc58520ce055828e"), looks := true }, kinds := [], alts := [], laidByText := true, laidKinds := [.data, .data, .data, .data, .sentinel, .sentinel, .widerDeep, .pinned], laidTests := true, laidLooks := .later }
def VmListsUptoCardSaid : Prop := Claim7.holds Tryz.pinned (.plain (OpenSpec.upto vmListsSpec)) vmListsUptoCard
end Rows
end Go.Proofs.YtkdhmbhbbciedaaGreatDoor
