/- Walks: ranges of lists, the reference's check of a system, words applied to points. No condition but the sizes of memory. -/
import Derived.Test.YtcjnhiglfkcmiaaGreatDoorSys
namespace Go.Proofs.YtcjnhiglfkcmiaaGreatDoor
open Go.RowKit
set_option linter.unusedVariables false
set_option maxRecDepth 100000

/-- low to high -/
def inR (lo hi x : Int) : Bool := decide (lo ≤ x) && decide (x ≤ hi)
theorem inR_iff {lo hi x : Int} : inR lo hi x = true ↔ lo ≤ x ∧ x ≤ hi := by simp [inR]
def allIn (lo hi : Int) (xs : List Int) : Bool := xs.all (inR lo hi)
/-- a word applied to a point -/
def runW (list : List (List Int)) (word : List Int) (x : Int) : Int := word.foldl (fun x g => (list.getD g.toNat []).getD x.toNat 0) x
theorem runW_snoc (list : List (List Int)) (word : List Int) (g x : Int) : runW list (word ++ [g]) x = (list.getD g.toNat []).getD (runW list word x).toNat 0 := by simp [runW]
def applyF (n : Int) (list : List (List Int)) (word : List Int) (x : Int) : Int × Int :=
  if isSysB n list = true then (if inR 0 (n - 1) x = true ∧ word.length ≤ 64 ∧ allIn 0 ((list.length : Int) - 1) word = true then (runW list word x, 0) else (0, 2)) else (0, 1)
theorem sizeS_any (A : Option Addr) (n c : Nat) (w : World) (hn : n ≤ 9223372036854775807) :
    Calls Tryz.prog 47 #[.slice A n c] w fun e w' => e = .returned (.int .i64 n) ∧ w = w' := by
  go_enter Tryz.func47, Tryz.ntmps47
  go_wp2
  go_ret
  exact ⟨rfl, rfl⟩
theorem rng_of' {p : List Int} {n : Nat} (h : isPermP p) (hl : p.length = n) : ∀ x ∈ p, 0 ≤ x ∧ x < n := by
  have := h.rng; rw [hl] at this; exact this
end Go.Proofs.YtcjnhiglfkcmiaaGreatDoor
