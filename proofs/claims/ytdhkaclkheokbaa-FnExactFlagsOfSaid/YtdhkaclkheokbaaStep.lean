/- A law for a call of a Go function inside a region that draws its order, for 'go_region_law': beside the laws for append. No condition. -/
import Derived.Test.YtdhkaclkheokbaaVoc
import Derived.Deep.RegionLaw
import Derived.Deep.AppendLies
namespace Go.Proofs.Ytdhkaclkheokbaa
open Go.RowKit
set_option linter.unusedVariables false
theorem step_call {P : Program} {w : World} {ops : Array Oper} {o : Oper} {a : Act} {K : Act → World → Prop} {Q : Exit → Act → World → Prop} {E : Prop} (hgd : o.guard = none) (f : FuncId) (vs : Array Value)
    (hrun : (execOp a.eval o).run P w = .ok (.enter f vs) w) {R : Ending → World → Prop} (h : Calls P f vs w R)
    (hK : ∀ e w', R e w' → ∃ u, e = .returned u ∧ K (a.put o.dst u) w') :
    if Region.wanted o (yielded ops a.tmps) = true then Oper.wp P o a w K Q else E := by
  have hw : Region.wanted o (yielded ops a.tmps) = true := by simp [Region.wanted, hgd]
  rw [if_pos hw]
  unfold Oper.wp
  rw [hrun, Oper.upon_enter]
  refine h.mono fun e w' hr => ?_
  obtain ⟨u, rfl, hk⟩ := hK e w' hr
  exact hk
end Go.Proofs.Ytdhkaclkheokbaa
