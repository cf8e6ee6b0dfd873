/- Walks: RunMoves, the program's and the reference's. No condition but the sizes of memory. -/
import Derived.Test.YtebdfhkimnlglaaDoorManX
namespace Go.Proofs.YtebdfhkimnlglaaDoor
open Go.RowKit
set_option linter.unusedVariables false
set_option maxRecDepth 100000
noncomputable def runF (xss : List (List Int)) (x : Int) (word : List Int) : Int × Int :=
  if isManB xss = true then (if (inR 0 ((flg xss : Nat) - 1 : Int) x && (decide (word.length ≤ 64) && allIn 0 ((xss.length : Int) - 1) word)) = true then (runW xss word x, 0) else (0, 2)) else (0, 1)
theorem runW_take {xss : List (List Int)} {word : List Int} {k : Nat} {g x : Int} (h : word[k]? = some g) : runW xss (word.take (k + 1)) x = (xss.getD g.toNat []).getD (runW xss (word.take k) x).toNat 0 := by
  rw [take_succ_of h, runW_snoc]
end Go.Proofs.YtebdfhkimnlglaaDoor
