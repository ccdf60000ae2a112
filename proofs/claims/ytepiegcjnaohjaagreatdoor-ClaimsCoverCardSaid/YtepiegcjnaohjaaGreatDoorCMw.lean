import Derived.Test.YtepiegcjnaohjaaGreatDoorRows
import Derived.ProofKit
set_option linter.all false
set_option maxRecDepth 100000
set_option maxHeartbeats 8000000
set_option linter.all false
namespace Go.Proofs.YtepiegcjnaohjaaGreatDoor
open Go
theorem zki : joinedFacts Tryz.pinned.checked.prog 10 Tryz.f10 Rows.claimsCoverSpec Rows.claimsCoverRow = true := by kernel_rfl
end Go.Proofs.YtepiegcjnaohjaaGreatDoor
