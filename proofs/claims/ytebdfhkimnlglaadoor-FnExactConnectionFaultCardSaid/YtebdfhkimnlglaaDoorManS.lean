/- Walks: the reference's check of a maniplex. No condition but the sizes of memory. -/
import Derived.Test.YtebdfhkimnlglaaDoorMan
namespace Go.Proofs.YtebdfhkimnlglaaDoor
open Go.RowKit
set_option linter.unusedVariables false
set_option maxRecDepth 100000
end Go.Proofs.YtebdfhkimnlglaaDoor
