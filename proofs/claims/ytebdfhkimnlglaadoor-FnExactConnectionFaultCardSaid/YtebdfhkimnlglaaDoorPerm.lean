/- Walks of the permutations' functions of both packages: within, size, isPermutation and l01Perm. Lengths below 2^63. -/
import Derived.Test.YtebdfhkimnlglaaDoorProg
import Derived.Test.YtebdfhkimnlglaaDoorVoc
import Derived.Test.YtebdfhkimnlglaaDoorPlain
import Derived.Outline
import Derived.Deep.QuietTactic
import Derived.BigQuiet
namespace Go.Proofs.YtebdfhkimnlglaaDoor
open Go.RowKit
set_option linter.unusedVariables false
set_option maxRecDepth 100000

theorem infoB : (Tryd.prog.info? 4).map (fun i => (i.zero, i.size, i.bytes)) = some (some (.bool false), 1, 1) := by kernel_rfl

theorem within_any (n lo hi : Int) (w : World) :
    Calls Tryd.prog 41 #[.int .i64 n, .int .i64 lo, .int .i64 hi] w fun e w' => e = .returned (.bool (decide (lo ≤ n) && decide (n ≤ hi))) ∧ w = w' := by
  by_cases h1 : lo ≤ n
  · go_enter Tryd.func41, Tryd.ntmps41
    go_wp2
    go_ret
    exact ⟨by simp [h1], rfl⟩
  · go_enter Tryd.func41, Tryd.ntmps41
    go_wp2
    go_ret
    refine ⟨?_, rfl⟩
    rw [decide_eq_false (show ¬ lo ≤ n from by omega)]
    rfl
theorem in_any (n lo hi : Int) (w : World) :
    Calls Tryd.prog 36 #[.int .i64 n, .int .i64 lo, .int .i64 hi] w fun e w' => e = .returned (.bool (decide (lo ≤ n) && decide (n ≤ hi))) ∧ w = w' := by
  by_cases h1 : lo ≤ n
  · go_enter Tryd.func36, Tryd.ntmps36
    go_wp2
    go_ret
    exact ⟨by simp [h1], rfl⟩
  · go_enter Tryd.func36, Tryd.ntmps36
    go_wp2
    go_ret
    refine ⟨?_, rfl⟩
    rw [decide_eq_false (show ¬ lo ≤ n from by omega)]
    rfl
theorem sizeI_any (A : Option Addr) (n c : Nat) (w : World) (hn : n ≤ 9223372036854775807) :
    Calls Tryd.prog 28 #[.slice A n c] w fun e w' => e = .returned (.int .i64 n) ∧ w = w' := by
  go_enter Tryd.func28, Tryd.ntmps28
  go_wp2
  go_ret
  exact ⟨rfl, rfl⟩
theorem free_end {xs : List Int} {n : Nat} (hl : xs.length = n) (h : ∀ j, j < n → xs.getD j 0 ≠ (j : Int) ∧ xs.getD (xs.getD j 0).toNat 0 = (j : Int)) : freeB xs = true := by
  unfold freeB; apply decide_eq_true; intro j hj; exact h j (by omega)
theorem free_no {xs : List Int} {k : Nat} {x y : Int} (hx : xs[k]? = some x) (hy : xs[x.toNat]? = some y) (h : x = (k : Int) ∨ y ≠ (k : Int)) : freeB xs = false := by
  unfold freeB; apply decide_eq_false
  intro hh
  obtain ⟨h1, h2⟩ := hh k (List.getElem?_eq_some_iff.1 hx).1
  rw [getD_some hx] at h1 h2
  rw [getD_some hy] at h2
  rcases h with h | h
  · exact h1 h
  · exact h h2
