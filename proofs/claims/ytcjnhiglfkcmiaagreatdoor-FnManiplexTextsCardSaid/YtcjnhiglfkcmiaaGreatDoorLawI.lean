/- The laws' helpers at []int64: toInt64S copies, eqInt64S compares, markInt64S numbers, heldInt64S checks the numbers. Lengths up to 2^20 (copies), 2^62 (numbers). -/
import Derived.Test.YtcjnhiglfkcmiaaGreatDoorProg
import Derived.Test.YtcjnhiglfkcmiaaGreatDoorVoc
import Derived.Outline
import Derived.Deep.QuietTactic
import Derived.BigQuiet
namespace Go.Proofs.YtcjnhiglfkcmiaaGreatDoor
open Go.RowKit
set_option linter.unusedVariables false
set_option maxRecDepth 100000

theorem infoI : (Tryz.prog.info? 2).map (fun i => (i.zero, i.size, i.bytes)) = some (some (.int .i64 0), 1, 8) := by kernel_rfl

