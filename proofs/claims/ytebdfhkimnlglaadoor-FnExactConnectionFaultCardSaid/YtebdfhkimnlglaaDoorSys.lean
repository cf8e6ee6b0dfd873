/- Walks: systems of permutations: isSystem with its closure and the library's search, l01System. No condition but the sizes of memory. -/
import Derived.Test.YtebdfhkimnlglaaDoorPerm2
import Derived.Test.YtebdfhkimnlglaaDoorSls
import Derived.Deep.RegionWith
import Derived.Deep.RegionHeld3
namespace Go.Proofs.YtebdfhkimnlglaaDoor
open Go.RowKit
set_option linter.unusedVariables false
set_option maxRecDepth 100000

def isSysP (n : Int) (list : List (List Int)) : Prop := 0 ≤ n ∧ n ≤ 400 ∧ list.length ≤ 16 ∧ ∀ p ∈ list, isPermP p ∧ (p.length : Int) = n
instance (n : Int) (list : List (List Int)) : Decidable (isSysP n list) := by unfold isSysP; infer_instance
def isSysB (n : Int) (list : List (List Int)) : Bool := decide (isSysP n list)
theorem isSysB_iff {n : Int} {list : List (List Int)} : isSysB n list = true ↔ isSysP n list := by unfold isSysB; simp
theorem isSysB_false {n : Int} {list : List (List Int)} (h : ¬ isSysP n list) : isSysB n list = false := by unfold isSysB; simp [h]
/-- a list is no permutation of n points -/
def badFor (n : Int) (p : List Int) : Bool := !(isPermB p && decide ((p.length : Int) = n))
theorem isSysB_eq {n : Int} {xss : List (List Int)} (h0 : 0 ≤ n) (h4 : n ≤ 400) (hl : xss.length ≤ 16) : isSysB n xss = !(xss.any (badFor n)) := by
  unfold isSysB
  cases hb : xss.any (badFor n) with
  | true =>
    obtain ⟨p, hp, hq⟩ := List.any_eq_true.1 hb
    simp only [Bool.not_true, decide_eq_false_iff_not]
    intro h
    obtain ⟨h1, h2⟩ := h.2.2.2 p hp
    unfold badFor at hq
    rw [isPermB_iff.2 h1, decide_eq_true h2] at hq
    simp at hq
  | false =>
    simp only [Bool.not_false, decide_eq_true_eq]
    refine ⟨h0, h4, hl, fun p hp => ?_⟩
    have hq := List.any_eq_false.1 hb p hp
    unfold badFor at hq
    simp at hq
    exact ⟨isPermB_iff.1 hq.1, hq.2⟩
end Go.Proofs.YtebdfhkimnlglaaDoor
