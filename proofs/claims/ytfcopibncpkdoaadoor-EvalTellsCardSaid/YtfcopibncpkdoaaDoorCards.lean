/-
  DERIVED. GIVEN WITH THE SEED: THE CARDS: each row of YtfcopibncpkdoaaDoorRows.lean that lists a variable, with what it lists TIED to the program's text (the seventh form; the later family's looks); each row that meets fmt, with fmt's text TOLD by the authors' own Lean function (tested against real Go, not proved from fmt's source: count such statements apart). THE CARD IS WHAT COUNTS. Prove the row's statement (the work); the ties are given (YtfcopibncpkdoaaDoorTie.lean); close each card by the builder's one call (the guide's Derived/Test/ToyasCard.lean, 'card_holds'). Laid BY PROGRAM, IN A SANDBOX (cutbox-door.mjs). By AI agents, Wed Nov 11 2026. No macro, syntax, notation, axiom, sorry.
-/
import Derived.Test.YtfcopibncpkdoaaDoorRows
import GoSem.ClaimSeven
namespace Go.Proofs.YtfcopibncpkdoaaDoor
namespace Rows

/-- THE TIED CARD OF 'stokvellaw17.EvalLets'. -/
def evalLetsCard : Claim7 := { stood := { row := evalLetsRow, standIns := [], harness := (true, "836c78b0d37ce726ae33926cfee1b994c632ea9fd56a9a1f56cf46848f183d57"), looks := true }, kinds := [], alts := [], laidByText := true, laidKinds := [.data], laidTests := true, laidLooks := .later }
def EvalLetsCardSaid : Prop := Claim7.holds Tryd.pinned (.plain (OpenSpec.ofChange evalLetsSpec)) evalLetsCard

/-- THE TIED CARD OF 'stokvellaw17.EvalShort'. -/
def evalShortCard : Claim7 := { stood := { row := evalShortRow, standIns := [], harness := (true, "836c78b0d37ce726ae33926cfee1b994c632ea9fd56a9a1f56cf46848f183d57"), looks := true }, kinds := [], alts := [], laidByText := true, laidKinds := [.data], laidTests := true, laidLooks := .later }
def EvalShortCardSaid : Prop := Claim7.holds Tryd.pinned (.plain (OpenSpec.ofChange evalShortSpec)) evalShortCard

/-- THE TIED CARD OF 'stokvellaw17.EvalInts'. -/
def evalIntsCard : Claim7 := { stood := { row := evalIntsRow, standIns := [], harness := (true, "836c78b0d37ce726ae33926cfee1b994c632ea9fd56a9a1f56cf46848f183d57"), looks := true }, kinds := [], alts := [], laidByText := true, laidKinds := [.data], laidTests := true, laidLooks := .later }
def EvalIntsCardSaid : Prop := Claim7.holds Tryd.pinned (.plain (OpenSpec.ofChange evalIntsSpec)) evalIntsCard

/-- THE TIED CARD OF 'stokvellaw17.EvalShares'. -/
def evalSharesCard : Claim7 := { stood := { row := evalSharesRow, standIns := [], harness := (true, "836c78b0d37ce726ae33926cfee1b994c632ea9fd56a9a1f56cf46848f183d57"), looks := true }, kinds := [], alts := [], laidByText := true, laidKinds := [.data], laidTests := true, laidLooks := .later }
def EvalSharesCardSaid : Prop := Claim7.holds Tryd.pinned (.plain (OpenSpec.ofChange evalSharesSpec)) evalSharesCard

/-- THE TIED CARD OF 'stokvellaw17.EvalTells'. -/
def evalTellsCard : Claim7 := { stood := { row := evalTellsRow, standIns := [], harness := (true, "836c78b0d37ce726ae33926cfee1b994c632ea9fd56a9a1f56cf46848f183d57"), looks := true }, kinds := [], alts := [], laidByText := true, laidKinds := [.data], laidTests := true, laidLooks := .later }
def EvalTellsCardSaid : Prop := Claim7.holds Tryd.pinned (.plain (OpenSpec.ofChange evalTellsSpec)) evalTellsCard

/-- THE TIED CARD OF 'stokvellaw17.EvalTyped'. -/
def evalTypedCard : Claim7 := { stood := { row := evalTypedRow, standIns := [], harness := (true, "836c78b0d37ce726ae33926cfee1b994c632ea9fd56a9a1f56cf46848f183d57"), looks := true }, kinds := [], alts := [], laidByText := true, laidKinds := [.data], laidTests := true, laidLooks := .later }
def EvalTypedCardSaid : Prop := Claim7.holds Tryd.pinned (.plain (OpenSpec.ofChange evalTypedSpec)) evalTypedCard

/-- THE SECOND FORM's CARD OF 'stokvellaw17.EvalLets'. -/
def evalLetsUptoCard : Claim7 := { stood := { row := evalLetsUptoRow, standIns := [], harness := (true, "836c78b0d37ce726ae33926cfee1b994c632ea9fd56a9a1f56cf46848f183d57"), looks := true }, kinds := [], alts := [], laidByText := true, laidKinds := [.data], laidTests := true, laidLooks := .later }
def EvalLetsUptoCardSaid : Prop := Claim7.holds Tryd.pinned (.plain (OpenSpec.upto evalLetsSpec)) evalLetsUptoCard

/-- THE SECOND FORM's CARD OF 'stokvellaw17.EvalShort'. -/
def evalShortUptoCard : Claim7 := { stood := { row := evalShortUptoRow, standIns := [], harness := (true, "836c78b0d37ce726ae33926cfee1b994c632ea9fd56a9a1f56cf46848f183d57"), looks := true }, kinds := [], alts := [], laidByText := true, laidKinds := [.data], laidTests := true, laidLooks := .later }
def EvalShortUptoCardSaid : Prop := Claim7.holds Tryd.pinned (.plain (OpenSpec.upto evalShortSpec)) evalShortUptoCard

/-- THE SECOND FORM's CARD OF 'stokvellaw17.EvalInts'. -/
def evalIntsUptoCard : Claim7 := { stood := { row := evalIntsUptoRow, standIns := [], harness := (true, "836c78b0d37ce726ae33926cfee1b994c632ea9fd56a9a1f56cf46848f183d57"), looks := true }, kinds := [], alts := [], laidByText := true, laidKinds := [.data], laidTests := true, laidLooks := .later }
def EvalIntsUptoCardSaid : Prop := Claim7.holds Tryd.pinned (.plain (OpenSpec.upto evalIntsSpec)) evalIntsUptoCard

/-- THE SECOND FORM's CARD OF 'stokvellaw17.EvalShares'. -/
def evalSharesUptoCard : Claim7 := { stood := { row := evalSharesUptoRow, standIns := [], harness := (true, "836c78b0d37ce726ae33926cfee1b994c632ea9fd56a9a1f56cf46848f183d57"), looks := true }, kinds := [], alts := [], laidByText := true, laidKinds := [.data], laidTests := true, laidLooks := .later }
def EvalSharesUptoCardSaid : Prop := Claim7.holds Tryd.pinned (.plain (OpenSpec.upto evalSharesSpec)) evalSharesUptoCard

/-- THE SECOND FORM's CARD OF 'stokvellaw17.EvalTells'. -/
def evalTellsUptoCard : Claim7 := { stood := { row := evalTellsUptoRow, standIns := [], harness := (true, "836c78b0d37ce726ae33926cfee1b994c632ea9fd56a9a1f56cf46848f183d57"), looks := true }, kinds := [], alts := [], laidByText := true, laidKinds := [.data], laidTests := true, laidLooks := .later }
def EvalTellsUptoCardSaid : Prop := Claim7.holds Tryd.pinned (.plain (OpenSpec.upto evalTellsSpec)) evalTellsUptoCard

/-- THE SECOND FORM's CARD OF 'stokvellaw17.EvalTyped'. -/
def evalTypedUptoCard : Claim7 := { stood := { row := evalTypedUptoRow, standIns := [], harness := (true, "836c78b0d37ce726ae33926cfee1b994c632ea9fd56a9a1f56cf46848f183d57"), looks := true }, kinds := [], alts := [], laidByText := true, laidKinds := [.data], laidTests := true, laidLooks := .later }
def EvalTypedUptoCardSaid : Prop := Claim7.holds Tryd.pinned (.plain (OpenSpec.upto evalTypedSpec)) evalTypedUptoCard
end Rows
end Go.Proofs.YtfcopibncpkdoaaDoor
