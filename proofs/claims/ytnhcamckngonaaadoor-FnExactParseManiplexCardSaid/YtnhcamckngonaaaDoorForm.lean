/- Walks: the form of moves from a flag, the program's. Up to 400 flags. -/
import Derived.Test.YtnhcamckngonaaaDoorFormP
import Derived.Test.YtnhcamckngonaaaDoorMan
import Derived.Test.YtnhcamckngonaaaDoorLawM
namespace Go.Proofs.YtnhcamckngonaaaDoor
open Go.RowKit
set_option linter.unusedVariables false
set_option maxRecDepth 100000
end Go.Proofs.YtnhcamckngonaaaDoor
