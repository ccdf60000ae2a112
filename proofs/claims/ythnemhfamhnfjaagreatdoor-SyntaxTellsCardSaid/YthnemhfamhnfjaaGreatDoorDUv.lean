import Derived.Test.YthnemhfamhnfjaaGreatDoorJ8
import Derived.Test.YthnemhfamhnfjaaGreatDoorDUV
set_option linter.all false
set_option maxRecDepth 100000
set_option maxHeartbeats 8000000
namespace Go.Proofs.YthnemhfamhnfjaaGreatDoor
open Go Go.VL Go.ChangeShapes Go.WideShapes Go.ChangeAt Go.RowKit
end Go.Proofs.YthnemhfamhnfjaaGreatDoor
