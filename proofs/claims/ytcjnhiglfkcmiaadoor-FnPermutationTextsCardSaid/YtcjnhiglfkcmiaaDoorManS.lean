/- Walks: the reference's check of a maniplex. No condition but the sizes of memory. -/
import Derived.Test.YtcjnhiglfkcmiaaDoorMan
namespace Go.Proofs.YtcjnhiglfkcmiaaDoor
open Go.RowKit
set_option linter.unusedVariables false
set_option maxRecDepth 100000
end Go.Proofs.YtcjnhiglfkcmiaaDoor
