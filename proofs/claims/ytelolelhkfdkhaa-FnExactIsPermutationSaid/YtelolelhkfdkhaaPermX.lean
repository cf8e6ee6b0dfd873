/- The exported functions on permutations, of the program and of the reference: each returns what the plain function of these texts says. No condition. -/
import Derived.Test.YtelolelhkfdkhaaPerm
namespace Go.Proofs.Ytelolelhkfdkhaa
open Go.RowKit
set_option linter.unusedVariables false
theorem s_IsPermutation_any (w : World) (A : Option Addr) (n c : Nat) (xs : List Int) {lo hi : Nat} (h : RI w lo hi A n xs) (hhi : hi ≤ w.heap.size) :
    Calls Try.prog 9 #[.slice A n c] w fun e w' => ∃ b, e = .returned (.bool b) ∧ Hid (b = isPermB xs) ∧ Below w.heap.size w w' := by
  go_enter Try.func9, Try.ntmps9
  go_wp2_with fail
  ((with_reducible refine (l01Perm_any _ _ _ xs _ _ _ h hhi).mono ?_); rintro e w1 ⟨rfl, hb⟩)
  go_wp2_with fail
  go_ret
  exact ⟨_, rfl, rfl, hb⟩
theorem i_IsPermutation_any (w : World) (A : Option Addr) (n c : Nat) (xs : List Int) {lo hi : Nat} (h : RI w lo hi A n xs) (hhi : hi ≤ w.heap.size) :
    Calls Try.prog 11 #[.slice A n c] w fun e w' => ∃ b, e = .returned (.bool b) ∧ Hid (b = isPermB xs) ∧ Below w.heap.size w w' := by
  go_enter Try.func11, Try.ntmps11
  go_wp2_with fail
  ((with_reducible refine (isPerm_any _ _ _ xs _ _ _ h hhi).mono ?_); rintro e w1 ⟨rfl, hb⟩)
  go_wp2_with fail
  go_ret
  exact ⟨_, rfl, rfl, hb⟩
end Go.Proofs.Ytelolelhkfdkhaa
