/- Walks: IsManiplex, the program's and the reference's. No condition but the sizes of memory. -/
import Derived.Test.YtebdfhkimnlglaaDoorManS
import Derived.Test.YtebdfhkimnlglaaDoorLawM
namespace Go.Proofs.YtebdfhkimnlglaaDoor
open Go.RowKit
set_option linter.unusedVariables false
set_option maxRecDepth 100000
end Go.Proofs.YtebdfhkimnlglaaDoor
