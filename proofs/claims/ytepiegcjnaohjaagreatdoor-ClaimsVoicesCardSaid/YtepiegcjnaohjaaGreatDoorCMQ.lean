/- The facts on the program that the row of ClaimsVoices asks for. -/
import Derived.Test.YtepiegcjnaohjaaGreatDoorRows
import Derived.ProofKit
set_option linter.all false
set_option maxRecDepth 100000
set_option maxHeartbeats 8000000
set_option linter.all false
namespace Go.Proofs.YtepiegcjnaohjaaGreatDoor
open Go
theorem voices_facts : joinedFacts Tryz.pinned.checked.prog 9 Tryz.f9 Rows.claimsVoicesSpec Rows.claimsVoicesRow = true := by kernel_rfl
end Go.Proofs.YtepiegcjnaohjaaGreatDoor
