/- The facts on the program that the row of CodeBack asks for. -/
import Derived.Test.YtkdhmbhbbciedaaGreatDoorRows
import Derived.ProofKit
set_option linter.all false
set_option maxRecDepth 100000
set_option maxHeartbeats 8000000
set_option linter.all false
namespace Go.Proofs.YtkdhmbhbbciedaaGreatDoor
open Go
theorem cback_facts : joinedFacts Tryz.pinned.checked.prog 5 Tryz.f5 Rows.codeBackSpec Rows.codeBackRow = true := by kernel_rfl
end Go.Proofs.YtkdhmbhbbciedaaGreatDoor
