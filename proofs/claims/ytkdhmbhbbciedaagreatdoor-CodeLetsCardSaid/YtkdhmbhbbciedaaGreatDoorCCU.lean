import Derived.Test.YtkdhmbhbbciedaaGreatDoorRows
import Derived.ProofKit
set_option linter.all false
set_option maxRecDepth 100000
set_option maxHeartbeats 8000000
set_option linter.all false
namespace Go.Proofs.YtkdhmbhbbciedaaGreatDoor
open Go
theorem zlU : joinedFacts Tryz.pinned.checked.prog 6 Tryz.f6 Rows.codeLetsSpec Rows.codeLetsRow = true := by kernel_rfl
end Go.Proofs.YtkdhmbhbbciedaaGreatDoor
