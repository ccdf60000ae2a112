/-
  DERIVED. GIVEN WITH THE SEED: THE CARDS: each row of YtmlpcgkaonifcaaGreatDoorRows.lean that lists a variable, with what it lists TIED to the program's text (the seventh form; the later family's looks); each row that meets fmt, with fmt's text TOLD by the authors' own Lean function (tested against real Go, not proved from fmt's source: count such statements apart). THE CARD IS WHAT COUNTS. Prove the row's statement (the work); the ties are given (YtmlpcgkaonifcaaGreatDoorTie.lean); close each card by the builder's one call (the guide's Derived/Test/ToyasCard.lean, 'card_holds'). Laid BY PROGRAM, IN A SANDBOX (cutbox-door.mjs). By AI agents, Wed Nov 11 2026. No macro, syntax, notation, axiom, sorry.
-/
import Derived.Test.YtmlpcgkaonifcaaGreatDoorRows
import GoSem.ClaimSeven
namespace Go.Proofs.YtmlpcgkaonifcaaGreatDoor
namespace Rows

/-- THE TIED CARD OF 'stokvellaw22.CertExposure'. -/
def certExposureCard : Claim7 := { stood := { row := certExposureRow, standIns := [], harness := (true, "2c2480931bd07c7f140683dfe7c0a9a8daabefa9d0ba032338be53c0cb7ada59"), looks := true }, kinds := [], alts := [], laidByText := true, laidKinds := [.data], laidTests := true, laidLooks := .later }
def CertExposureCardSaid : Prop := Claim7.holds Tryz.pinned (.plain (OpenSpec.ofChange certExposureSpec)) certExposureCard

/-- THE TIED CARD OF 'stokvellaw22.CertRoom'. -/
def certRoomCard : Claim7 := { stood := { row := certRoomRow, standIns := [], harness := (true, "2c2480931bd07c7f140683dfe7c0a9a8daabefa9d0ba032338be53c0cb7ada59"), looks := true }, kinds := [], alts := [], laidByText := true, laidKinds := [.data], laidTests := true, laidLooks := .later }
def CertRoomCardSaid : Prop := Claim7.holds Tryz.pinned (.plain (OpenSpec.ofChange certRoomSpec)) certRoomCard

/-- THE SECOND FORM's CARD OF 'stokvellaw22.CertExposure'. -/
def certExposureUptoCard : Claim7 := { stood := { row := certExposureUptoRow, standIns := [], harness := (true, "2c2480931bd07c7f140683dfe7c0a9a8daabefa9d0ba032338be53c0cb7ada59"), looks := true }, kinds := [], alts := [], laidByText := true, laidKinds := [.data], laidTests := true, laidLooks := .later }
def CertExposureUptoCardSaid : Prop := Claim7.holds Tryz.pinned (.plain (OpenSpec.upto certExposureSpec)) certExposureUptoCard

/-- THE SECOND FORM's CARD OF 'stokvellaw22.CertRoom'. -/
def certRoomUptoCard : Claim7 := { stood := { row := certRoomUptoRow, standIns := [], harness := (true, "2c2480931bd07c7f140683dfe7c0a9a8daabefa9d0ba032338be53c0cb7ada59"), looks := true }, kinds := [], alts := [], laidByText := true, laidKinds := [.data], laidTests := true, laidLooks := .later }
def CertRoomUptoCardSaid : Prop := Claim7.holds Tryz.pinned (.plain (OpenSpec.upto certRoomSpec)) certRoomUptoCard
end Rows
end Go.Proofs.YtmlpcgkaonifcaaGreatDoor
