import Derived.Test.YtkdhmbhbbciedaaGreatDoorRows
import Derived.ProofKit
set_option linter.all false
set_option maxRecDepth 100000
set_option maxHeartbeats 8000000
set_option linter.all false
namespace Go.Proofs.YtkdhmbhbbciedaaGreatDoor
open Go
theorem zlk : joinedFacts Tryz.pinned.checked.prog 3 Tryz.f3 Rows.codeTellsSpec Rows.codeTellsRow = true := by kernel_rfl
end Go.Proofs.YtkdhmbhbbciedaaGreatDoor
