/- Walks: the cycles of a permutation in both packages. Lengths up to 2^20. -/
import Derived.Test.YtcjnhiglfkcmiaaGreatDoorPerm2
import Derived.Test.YtcjnhiglfkcmiaaGreatDoorSls
import Derived.Test.YtcjnhiglfkcmiaaGreatDoorCycP
import Derived.Deep.LoopGhost
namespace Go.Proofs.YtcjnhiglfkcmiaaGreatDoor
open Go.RowKit
set_option linter.unusedVariables false
set_option maxRecDepth 100000
theorem infoS : (Tryz.prog.info? 46).map (fun i => (i.zero, i.size, i.bytes)) = some (some (.slice none 0 0), 1, 24) := by kernel_rfl
end Go.Proofs.YtcjnhiglfkcmiaaGreatDoor
