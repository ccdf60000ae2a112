/- The facts on the program that the row of RulesForce asks for. -/
import Derived.Test.YtepiegcjnaohjaaGreatDoorRows
import Derived.ProofKit
set_option linter.all false
set_option maxRecDepth 100000
set_option maxHeartbeats 8000000
set_option linter.all false
namespace Go.Proofs.YtepiegcjnaohjaaGreatDoor
open Go
theorem zkV : joinedFacts Tryz.pinned.checked.prog 4 Tryz.f4 Rows.rulesForceSpec Rows.rulesForceRow = true := by kernel_rfl
end Go.Proofs.YtepiegcjnaohjaaGreatDoor
