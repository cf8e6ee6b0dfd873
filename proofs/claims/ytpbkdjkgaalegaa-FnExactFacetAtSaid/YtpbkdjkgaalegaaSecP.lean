/- Plain: sections: which ranks, which code. No program in sight. No condition. -/
import Derived.Test.YtpbkdjkgaalegaaSub
import Derived.Test.YtpbkdjkgaalegaaFormP
namespace Go.Proofs.Ytpbkdjkgaalegaa
set_option linter.unusedVariables false
set_option maxRecDepth 100000
/-- two ranks in order -/
def okR (n : Nat) (i k : Int) : Bool := decide (0 ≤ i ∧ i ≤ k ∧ k ≤ (n : Int) - 1)
theorem okR_iff {n : Nat} {i k : Int} : okR n i k = true ↔ 0 ≤ i ∧ i ≤ k ∧ k ≤ (n : Int) - 1 := by unfold okR; simp
/-- the reference's code -/
noncomputable def codeF (xss : List (List Int)) (x i k : Int) : Int :=
  if isManB xss = true then (if inR 0 ((flg xss : Nat) - 1 : Int) x = true then (if okR xss.length i k = true then 0 else 2) else 2) else 1
/-- what SectionAt returns -/
noncomputable def secF (xss : List (List Int)) (x i k : Int) : List (List Int) × Int :=
  if isManB xss = true then (if inR 0 ((flg xss : Nat) - 1 : Int) x = true then (if okR xss.length i k = true then (formL (subL xss i.toNat (k.toNat + 1)) (flg xss) x, 0) else ([], 2)) else ([], 2)) else ([], 1)
/-- what FacetAt and VertexFigureAt return -/
noncomputable def fctF (xss : List (List Int)) (x : Int) : List (List Int) × Int :=
  if isManB xss = true then (if inR 0 ((flg xss : Nat) - 1 : Int) x = true then (if decide (xss.length ≠ 1) = true then (formL (subL xss 0 (xss.length - 1)) (flg xss) x, 0) else ([], 5)) else ([], 2)) else ([], 1)
noncomputable def vfgF (xss : List (List Int)) (x : Int) : List (List Int) × Int :=
  if isManB xss = true then (if inR 0 ((flg xss : Nat) - 1 : Int) x = true then (if decide (xss.length ≠ 1) = true then (formL (subL xss 1 xss.length) (flg xss) x, 0) else ([], 5)) else ([], 2)) else ([], 1)
end Go.Proofs.Ytpbkdjkgaalegaa
