/- Walks: common divisors, copies, sorting by insertion, lengths of cycles, orders. Lengths up to 2^20, divisors below 2^62. -/
import Derived.Test.YtcjnhiglfkcmiaaGreatDoorCyc
import Derived.Test.YtcjnhiglfkcmiaaGreatDoorOrdP
namespace Go.Proofs.YtcjnhiglfkcmiaaGreatDoor
open Go.RowKit
set_option linter.unusedVariables false
set_option maxRecDepth 100000
theorem wrap_in {x y : Int} (h : x = y) (h1 : -9223372036854775808 ≤ y) (h2 : y ≤ 9223372036854775807) : IntKind.i64.wrap x = y := by
  subst h; rw [IntKind.wrap_i64]; omega
end Go.Proofs.YtcjnhiglfkcmiaaGreatDoor
