/- Walks: the cycles of a permutation in both packages. Lengths up to 2^20. -/
import Derived.Test.YtebdfhkimnlglaaDoorPerm2
import Derived.Test.YtebdfhkimnlglaaDoorSls
import Derived.Test.YtebdfhkimnlglaaDoorCycP
import Derived.Deep.LoopGhost
namespace Go.Proofs.YtebdfhkimnlglaaDoor
open Go.RowKit
set_option linter.unusedVariables false
set_option maxRecDepth 100000
theorem infoS : (Tryd.prog.info? 22).map (fun i => (i.zero, i.size, i.bytes)) = some (some (.slice none 0 0), 1, 24) := by kernel_rfl
end Go.Proofs.YtebdfhkimnlglaaDoor
