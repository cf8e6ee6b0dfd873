/- The laws' helpers at [][]int64: sizes, copies, comparison, marks and their check. Up to 2^20 numbers and rows together (copies), 2^62 (marks). -/
import Derived.Test.YtcjnhiglfkcmiaaGreatDoorLawI
import Derived.Test.YtcjnhiglfkcmiaaGreatDoorSls
import Derived.Test.YtcjnhiglfkcmiaaGreatDoorPlain
namespace Go.Proofs.YtcjnhiglfkcmiaaGreatDoor
open Go.RowKit
set_option linter.unusedVariables false
set_option maxRecDepth 100000

/-- rows and numbers together -/
def numsIn : List (List Int) → Nat
  | [] => 0
  | r :: t => r.length + numsIn t
theorem numsIn_append (a b : List (List Int)) : numsIn (a ++ b) = numsIn a + numsIn b := by
  induction a with
  | nil => simp [numsIn]
  | cons r t ih => simp [numsIn, ih]; omega
theorem numsIn_take_succ {xss : List (List Int)} {k : Nat} {r : List Int} (h : xss[k]? = some r) : numsIn (xss.take (k + 1)) = numsIn (xss.take k) + r.length := by
  rw [take_succ_of h, numsIn_append]; simp [numsIn]
theorem numsIn_take_le (xss : List (List Int)) (k : Nat) : numsIn (xss.take k) ≤ numsIn xss := by
  have := numsIn_append (xss.take k) (xss.drop k)
  rw [List.take_append_drop] at this
  omega
theorem numsIn_mem_le {xss : List (List Int)} {k : Nat} {r : List Int} (h : xss[k]? = some r) : r.length ≤ numsIn xss := by
  have := numsIn_take_le xss (k + 1)
  rw [numsIn_take_succ h] at this
  omega
/-- what is left of a bound, or -1 -/
def leftOf (left need : Nat) : Int := if need ≤ left then (left : Int) - need else -1

theorem infoSS : (Tryz.prog.info? 46).map (fun i => (i.zero, i.size, i.bytes)) = some (some (.slice none 0 0), 1, 24) := by kernel_rfl
end Go.Proofs.YtcjnhiglfkcmiaaGreatDoor
