/- The facts on the program that the row of ClaimsStory asks for. -/
import Derived.Test.YtepiegcjnaohjaaGreatDoorRows
import Derived.ProofKit
set_option linter.all false
set_option maxRecDepth 100000
set_option maxHeartbeats 8000000
set_option linter.all false
namespace Go.Proofs.YtepiegcjnaohjaaGreatDoor
open Go
theorem ziN : joinedFacts Tryz.pinned.checked.prog 8 Tryz.f8 Rows.claimsStorySpec Rows.claimsStoryRow = true := by kernel_rfl
end Go.Proofs.YtepiegcjnaohjaaGreatDoor
