import Derived.Test.YtmlpcgkaonifcaaGreatDoorRows
import Derived.ProofKit
set_option linter.all false
set_option maxRecDepth 100000
set_option maxHeartbeats 8000000
set_option linter.all false
namespace Go.Proofs.YtmlpcgkaonifcaaGreatDoor
open Go
theorem zoA : joinedFacts Tryz.pinned.checked.prog 4 Tryz.f4 Rows.certRoomSpec Rows.certRoomRow = true := by kernel_rfl
end Go.Proofs.YtmlpcgkaonifcaaGreatDoor
