/- Walks: IsManiplex, the program's and the reference's. No condition but the sizes of memory. -/
import Derived.Test.YtcjnhiglfkcmiaaGreatDoorManS
import Derived.Test.YtcjnhiglfkcmiaaGreatDoorLawM
namespace Go.Proofs.YtcjnhiglfkcmiaaGreatDoor
open Go.RowKit
set_option linter.unusedVariables false
set_option maxRecDepth 100000
end Go.Proofs.YtcjnhiglfkcmiaaGreatDoor
