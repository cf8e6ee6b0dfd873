/- The exported functions on permutations, of the program and of the reference: each returns what the plain function of these texts says. No condition. -/
import Derived.Test.YtnhcamckngonaaaDoorPerm2
namespace Go.Proofs.YtnhcamckngonaaaDoor
open Go.RowKit
set_option linter.unusedVariables false
set_option maxRecDepth 100000
def invF (xs : List Int) : List Int × Int := if isPermB xs = true then (invL xs, 0) else ([], 1)
def thenF (xs ys : List Int) : List Int × Int := if okTwo xs ys = true then (thenL xs ys, 0) else ([], 1)
def conjF (xs ys : List Int) : List Int × Int := if okTwo xs ys = true then (thenL (thenL (invL ys) xs) ys, 0) else ([], 1)
end Go.Proofs.YtnhcamckngonaaaDoor
