/- The facts on the program that the row of RulesSides asks for. -/
import Derived.Test.YtepiegcjnaohjaaGreatDoorRows
import Derived.ProofKit
set_option linter.all false
set_option maxRecDepth 100000
set_option maxHeartbeats 8000000
set_option linter.all false
namespace Go.Proofs.YtepiegcjnaohjaaGreatDoor
open Go
theorem zkz : joinedFacts Tryz.pinned.checked.prog 5 Tryz.f5 Rows.rulesSidesSpec Rows.rulesSidesRow = true := by kernel_rfl
end Go.Proofs.YtepiegcjnaohjaaGreatDoor
