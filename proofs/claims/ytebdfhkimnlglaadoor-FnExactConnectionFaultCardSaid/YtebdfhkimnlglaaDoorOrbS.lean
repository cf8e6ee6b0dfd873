/- Walks: the reference's orbit of a point (a breadth-first search) and its labels of orbits. Up to 400 points. -/
import Derived.Test.YtebdfhkimnlglaaDoorOrbL
import Derived.Test.YtebdfhkimnlglaaDoorPerm
import Derived.Deep.LoopGhost
namespace Go.Proofs.YtebdfhkimnlglaaDoor
open Go.RowKit
set_option linter.unusedVariables false
set_option maxRecDepth 100000
theorem bfs_nil (n : Nat) (x : Int) : bfs [] n x = [x] := by
  unfold bfs
  rw [bfsGo_step (x := x) (by simp)]
  show bfsGo [] n (bfsStep [] x [x]) 1 = [x]
  rw [show bfsStep [] x [x] = [x] from rfl, bfsGo_stop (by simp)]
theorem drewN_own {w : World} {lo n k : Nat} {T : TypeId} {v : Value} {vs : List Value} (h : w.ownsRow lo T 1 v n vs) : (w.drewN k).ownsRow lo T 1 v n vs := h
theorem below_dn {B : Nat} {w w' : World} (h : Below B w w') (k : Nat) : Below B w (w'.drewN k) := ⟨h.os, h.tape, h.output, h.size, h.block⟩
end Go.Proofs.YtebdfhkimnlglaaDoor
