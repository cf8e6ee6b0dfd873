/- Walks: IsManiplex, the program's and the reference's. No condition but the sizes of memory. -/
import Derived.Test.YtnkmpcdipmajhaaManS
import Derived.Test.YtnkmpcdipmajhaaLawM
namespace Go.Proofs.Ytnkmpcdipmajhaa
open Go.RowKit
set_option linter.unusedVariables false
set_option maxRecDepth 100000
theorem i_IsManiplex_any (A : Option Addr) (n c : Nat) (xss : List (List Int)) (w : World) {lo hi : Nat} (h : RS w lo hi A n xss) (hhi : hi ≤ w.heap.size) (hnc : n ≤ c) :
    Calls Try.prog 39 #[.agg #[.slice A n c]] w fun e w' => e = .returned (.bool (isManB xss)) ∧ Below w.heap.size w w' := by
  have hR := rs_alloc h hhi (.cells #[.slice A n c] 52)
  have hB : Below w.heap.size w (w.alloc (.cells #[.slice A n c] 52)) := (Below.refl _ _).alloc (Nat.le_refl _) _
  go_enter Try.func39, Try.ntmps39
  go_wp2_with fail
  ((with_reducible refine (isMan_any A n c xss _ hR (by simp; omega) hnc).mono ?_); rintro e w1 ⟨rfl, hb1⟩)
  go_wp2_with fail
  go_ret
  exact ⟨rfl, hB.trans (hb1.mono (by simp))⟩
theorem s_IsManiplex_any (A : Option Addr) (n c : Nat) (xss : List (List Int)) (w : World) {lo hi : Nat} (h : RS w lo hi A n xss) (hhi : hi ≤ w.heap.size) :
    Calls Try.prog 37 #[.agg #[.slice A n c]] w fun e w' => e = .returned (.bool (isManB xss)) ∧ Below w.heap.size w w' := by
  have hR := rs_alloc h hhi (.cells #[.slice A n c] 52)
  have hB : Below w.heap.size w (w.alloc (.cells #[.slice A n c] 52)) := (Below.refl _ _).alloc (Nat.le_refl _) _
  go_enter Try.func37, Try.ntmps37
  go_wp2_with fail
  ((with_reducible refine (l02Is_any A n c xss _ hR (by simp; omega)).mono ?_); rintro e w1 ⟨rfl, hb1⟩)
  go_wp2_with fail
  go_ret
  exact ⟨rfl, hB.trans (hb1.mono (by simp))⟩
end Go.Proofs.Ytnkmpcdipmajhaa
