/-
  DERIVED. GIVEN WITH THE SEED: THE CARDS: each row of YtepiegcjnaohjaaGreatDoorRows.lean that lists a variable, with what it lists TIED to the program's text (the seventh form; the later family's looks); each row that meets fmt, with fmt's text TOLD by the authors' own Lean function (tested against real Go, not proved from fmt's source: count such statements apart). THE CARD IS WHAT COUNTS. Prove the row's statement (the work); the ties are given (YtepiegcjnaohjaaGreatDoorTie.lean); close each card by the builder's one call (the guide's Derived/Test/ToyasCard.lean, 'card_holds'). Laid BY PROGRAM, IN A SANDBOX (cutbox-door.mjs). By AI agents, Wed Nov 11 2026. No macro, syntax, notation, axiom, sorry.
-/
import Derived.Test.YtepiegcjnaohjaaGreatDoorRows
import GoSem.ClaimSeven
namespace Go.Proofs.YtepiegcjnaohjaaGreatDoor
namespace Rows

/-- THE TIED CARD OF 'stokvellaw34.RulesTells'. -/
def rulesTellsCard : Claim7 := { stood := { row := rulesTellsRow, standIns := [], harness := (true, "2d9e073ddf65e1529046520e783fc9530fc0ef16865185b18e1e15803e0a0de3"), looks := true }, kinds := [], alts := [], laidByText := true, laidKinds := [.data], laidTests := true, laidLooks := .later }
def RulesTellsCardSaid : Prop := Claim7.holds Tryz.pinned (.plain (OpenSpec.ofChange rulesTellsSpec)) rulesTellsCard

/-- THE TIED CARD OF 'stokvellaw34.RulesForce'. -/
def rulesForceCard : Claim7 := { stood := { row := rulesForceRow, standIns := [], harness := (true, "2d9e073ddf65e1529046520e783fc9530fc0ef16865185b18e1e15803e0a0de3"), looks := true }, kinds := [], alts := [], laidByText := true, laidKinds := [.data], laidTests := true, laidLooks := .later }
def RulesForceCardSaid : Prop := Claim7.holds Tryz.pinned (.plain (OpenSpec.ofChange rulesForceSpec)) rulesForceCard

/-- THE TIED CARD OF 'stokvellaw34.RulesSides'. -/
def rulesSidesCard : Claim7 := { stood := { row := rulesSidesRow, standIns := [], harness := (true, "2d9e073ddf65e1529046520e783fc9530fc0ef16865185b18e1e15803e0a0de3"), looks := true }, kinds := [], alts := [], laidByText := true, laidKinds := [.data], laidTests := true, laidLooks := .later }
def RulesSidesCardSaid : Prop := Claim7.holds Tryz.pinned (.plain (OpenSpec.ofChange rulesSidesSpec)) rulesSidesCard

/-- THE TIED CARD OF 'stokvellaw34.RulesVoted'. -/
def rulesVotedCard : Claim7 := { stood := { row := rulesVotedRow, standIns := [], harness := (true, "2d9e073ddf65e1529046520e783fc9530fc0ef16865185b18e1e15803e0a0de3"), looks := true }, kinds := [], alts := [], laidByText := true, laidKinds := [.data], laidTests := true, laidLooks := .later }
def RulesVotedCardSaid : Prop := Claim7.holds Tryz.pinned (.plain (OpenSpec.ofChange rulesVotedSpec)) rulesVotedCard

/-- THE TIED CARD OF 'stokvellaw34.RulesChecked'. -/
def rulesCheckedCard : Claim7 := { stood := { row := rulesCheckedRow, standIns := [], harness := (true, "2d9e073ddf65e1529046520e783fc9530fc0ef16865185b18e1e15803e0a0de3"), looks := true }, kinds := [], alts := [], laidByText := true, laidKinds := [.data, .data, .data, .data], laidTests := true, laidLooks := .later }
def RulesCheckedCardSaid : Prop := Claim7.holds Tryz.pinned (.plain (OpenSpec.ofChange rulesCheckedSpec)) rulesCheckedCard

/-- THE TIED CARD OF 'stokvellaw36.ClaimsStory'. -/
def claimsStoryCard : Claim7 := { stood := { row := claimsStoryRow, standIns := [], harness := (true, "2d9e073ddf65e1529046520e783fc9530fc0ef16865185b18e1e15803e0a0de3"), looks := true }, kinds := [], alts := [], laidByText := true, laidKinds := [.data, .data], laidTests := true, laidLooks := .later }
def ClaimsStoryCardSaid : Prop := Claim7.holds Tryz.pinned (.plain (OpenSpec.ofChange claimsStorySpec)) claimsStoryCard

/-- THE TIED CARD OF 'stokvellaw36.ClaimsVoices'. -/
def claimsVoicesCard : Claim7 := { stood := { row := claimsVoicesRow, standIns := [], harness := (true, "2d9e073ddf65e1529046520e783fc9530fc0ef16865185b18e1e15803e0a0de3"), looks := true }, kinds := [], alts := [], laidByText := true, laidKinds := [.data, .data], laidTests := true, laidLooks := .later }
def ClaimsVoicesCardSaid : Prop := Claim7.holds Tryz.pinned (.plain (OpenSpec.ofChange claimsVoicesSpec)) claimsVoicesCard

/-- THE TIED CARD OF 'stokvellaw36.ClaimsCover'. -/
def claimsCoverCard : Claim7 := { stood := { row := claimsCoverRow, standIns := [], harness := (true, "2d9e073ddf65e1529046520e783fc9530fc0ef16865185b18e1e15803e0a0de3"), looks := true }, kinds := [], alts := [], laidByText := true, laidKinds := [.data, .data], laidTests := true, laidLooks := .later }
def ClaimsCoverCardSaid : Prop := Claim7.holds Tryz.pinned (.plain (OpenSpec.ofChange claimsCoverSpec)) claimsCoverCard

/-- THE SECOND FORM's CARD OF 'stokvellaw34.RulesTells'. -/
def rulesTellsUptoCard : Claim7 := { stood := { row := rulesTellsUptoRow, standIns := [], harness := (true, "2d9e073ddf65e1529046520e783fc9530fc0ef16865185b18e1e15803e0a0de3"), looks := true }, kinds := [], alts := [], laidByText := true, laidKinds := [.data], laidTests := true, laidLooks := .later }
def RulesTellsUptoCardSaid : Prop := Claim7.holds Tryz.pinned (.plain (OpenSpec.upto rulesTellsSpec)) rulesTellsUptoCard

/-- THE SECOND FORM's CARD OF 'stokvellaw34.RulesForce'. -/
def rulesForceUptoCard : Claim7 := { stood := { row := rulesForceUptoRow, standIns := [], harness := (true, "2d9e073ddf65e1529046520e783fc9530fc0ef16865185b18e1e15803e0a0de3"), looks := true }, kinds := [], alts := [], laidByText := true, laidKinds := [.data], laidTests := true, laidLooks := .later }
def RulesForceUptoCardSaid : Prop := Claim7.holds Tryz.pinned (.plain (OpenSpec.upto rulesForceSpec)) rulesForceUptoCard

/-- THE SECOND FORM's CARD OF 'stokvellaw34.RulesSides'. -/
def rulesSidesUptoCard : Claim7 := { stood := { row := rulesSidesUptoRow, standIns := [], harness := (true, "2d9e073ddf65e1529046520e783fc9530fc0ef16865185b18e1e15803e0a0de3"), looks := true }, kinds := [], alts := [], laidByText := true, laidKinds := [.data], laidTests := true, laidLooks := .later }
def RulesSidesUptoCardSaid : Prop := Claim7.holds Tryz.pinned (.plain (OpenSpec.upto rulesSidesSpec)) rulesSidesUptoCard

/-- THE SECOND FORM's CARD OF 'stokvellaw34.RulesVoted'. -/
def rulesVotedUptoCard : Claim7 := { stood := { row := rulesVotedUptoRow, standIns := [], harness := (true, "2d9e073ddf65e1529046520e783fc9530fc0ef16865185b18e1e15803e0a0de3"), looks := true }, kinds := [], alts := [], laidByText := true, laidKinds := [.data], laidTests := true, laidLooks := .later }
def RulesVotedUptoCardSaid : Prop := Claim7.holds Tryz.pinned (.plain (OpenSpec.upto rulesVotedSpec)) rulesVotedUptoCard

/-- THE SECOND FORM's CARD OF 'stokvellaw34.RulesChecked'. -/
def rulesCheckedUptoCard : Claim7 := { stood := { row := rulesCheckedUptoRow, standIns := [], harness := (true, "2d9e073ddf65e1529046520e783fc9530fc0ef16865185b18e1e15803e0a0de3"), looks := true }, kinds := [], alts := [], laidByText := true, laidKinds := [.data, .data, .data, .data], laidTests := true, laidLooks := .later }
def RulesCheckedUptoCardSaid : Prop := Claim7.holds Tryz.pinned (.plain (OpenSpec.upto rulesCheckedSpec)) rulesCheckedUptoCard

/-- THE SECOND FORM's CARD OF 'stokvellaw36.ClaimsStory'. -/
def claimsStoryUptoCard : Claim7 := { stood := { row := claimsStoryUptoRow, standIns := [], harness := (true, "2d9e073ddf65e1529046520e783fc9530fc0ef16865185b18e1e15803e0a0de3"), looks := true }, kinds := [], alts := [], laidByText := true, laidKinds := [.data, .data], laidTests := true, laidLooks := .later }
def ClaimsStoryUptoCardSaid : Prop := Claim7.holds Tryz.pinned (.plain (OpenSpec.upto claimsStorySpec)) claimsStoryUptoCard

/-- THE SECOND FORM's CARD OF 'stokvellaw36.ClaimsVoices'. -/
def claimsVoicesUptoCard : Claim7 := { stood := { row := claimsVoicesUptoRow, standIns := [], harness := (true, "2d9e073ddf65e1529046520e783fc9530fc0ef16865185b18e1e15803e0a0de3"), looks := true }, kinds := [], alts := [], laidByText := true, laidKinds := [.data, .data], laidTests := true, laidLooks := .later }
def ClaimsVoicesUptoCardSaid : Prop := Claim7.holds Tryz.pinned (.plain (OpenSpec.upto claimsVoicesSpec)) claimsVoicesUptoCard

/-- THE SECOND FORM's CARD OF 'stokvellaw36.ClaimsCover'. -/
def claimsCoverUptoCard : Claim7 := { stood := { row := claimsCoverUptoRow, standIns := [], harness := (true, "2d9e073ddf65e1529046520e783fc9530fc0ef16865185b18e1e15803e0a0de3"), looks := true }, kinds := [], alts := [], laidByText := true, laidKinds := [.data, .data], laidTests := true, laidLooks := .later }
def ClaimsCoverUptoCardSaid : Prop := Claim7.holds Tryz.pinned (.plain (OpenSpec.upto claimsCoverSpec)) claimsCoverUptoCard
end Rows
end Go.Proofs.YtepiegcjnaohjaaGreatDoor
