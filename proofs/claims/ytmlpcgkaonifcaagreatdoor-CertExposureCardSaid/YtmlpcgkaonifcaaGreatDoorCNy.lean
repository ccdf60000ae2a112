import Derived.Test.YtmlpcgkaonifcaaGreatDoorRows
import Derived.ProofKit
set_option linter.all false
set_option maxRecDepth 100000
set_option maxHeartbeats 8000000
set_option linter.all false
namespace Go.Proofs.YtmlpcgkaonifcaaGreatDoor
open Go
theorem zpv : joinedFacts Tryz.pinned.checked.prog 3 Tryz.f3 Rows.certExposureSpec Rows.certExposureRow = true := by kernel_rfl
end Go.Proofs.YtmlpcgkaonifcaaGreatDoor
