/- Walks of both packages' functions on permutations: isFreeInvolution, inverse, l01Back, then, l01Then, l01Two, arePermutations. Lengths up to 400 (permutations). -/
import Derived.Test.YtebdfhkimnlglaaDoorPerm
import Derived.Test.YtebdfhkimnlglaaDoorApp
import Derived.Test.YtebdfhkimnlglaaDoorLawI
namespace Go.Proofs.YtebdfhkimnlglaaDoor
open Go.RowKit
set_option linter.unusedVariables false
set_option maxRecDepth 100000
end Go.Proofs.YtebdfhkimnlglaaDoor
