/- Walks: what a maniplex is, the program's and the reference's. No condition but the sizes of memory. -/
import Derived.Test.YtebdfhkimnlglaaDoorManP
import Derived.Test.YtebdfhkimnlglaaDoorPerm2
import Derived.Deep.RegionWith
namespace Go.Proofs.YtebdfhkimnlglaaDoor
open Go.RowKit
set_option linter.unusedVariables false
set_option maxRecDepth 100000
theorem rs_drew {w : World} {lo hi n : Nat} {A : Option Addr} {xss : List (List Int)} (h : RS w lo hi A n xss) : RS w.drew lo hi A n xss := h.keep fun _ _ _ => rfl
theorem below_drew {B : Nat} {w w' : World} (h : Below B w w') : Below B w w'.drew := ⟨h.os, h.tape, h.output, h.size, h.block⟩
theorem flg_of {xss : List (List Int)} {ys : List Int} (h : xss[0]? = some ys) : flg xss = ys.length := by
  unfold flg
  rw [getD_some h]
end Go.Proofs.YtebdfhkimnlglaaDoor
