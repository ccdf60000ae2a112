import Derived.Test.YtkdhmbhbbciedaaGreatDoorRows
import Derived.ProofKit
set_option linter.all false
set_option maxRecDepth 100000
set_option maxHeartbeats 8000000
set_option linter.all false
namespace Go.Proofs.YtkdhmbhbbciedaaGreatDoor
open Go
theorem zlj : joinedFacts Tryz.pinned.checked.prog 7 Tryz.f7 Rows.codePartsSpec Rows.codePartsRow = true := by kernel_rfl
end Go.Proofs.YtkdhmbhbbciedaaGreatDoor
