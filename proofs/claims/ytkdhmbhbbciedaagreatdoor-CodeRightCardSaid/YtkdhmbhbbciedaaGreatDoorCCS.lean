/- The facts on the program that the row of CodeRight asks for. -/
import Derived.Test.YtkdhmbhbbciedaaGreatDoorRows
import Derived.ProofKit
set_option linter.all false
set_option maxRecDepth 100000
set_option maxHeartbeats 8000000
set_option linter.all false
namespace Go.Proofs.YtkdhmbhbbciedaaGreatDoor
open Go
theorem cright_facts : joinedFacts Tryz.pinned.checked.prog 4 Tryz.f4 Rows.codeRightSpec Rows.codeRightRow = true := by kernel_rfl
end Go.Proofs.YtkdhmbhbbciedaaGreatDoor
