/- A part of a slice of slices reads as a part of the lists. No condition. -/
import Derived.Test.YtbioelmofceaaaaSls
import Derived.Test.YtbioelmofceaaaaOrbP
namespace Go.Proofs.Ytbioelmofceaaaa
open Go.RowKit
set_option linter.unusedVariables false
set_option maxRecDepth 100000
theorem rd_sub {w : World} {lo hi n b o : Nat} {vs : List Value} (h : Rd w lo hi (some ⟨b, o, none⟩) n vs) {i j : Nat} (hij : i ≤ j) (hj : j ≤ n) {A' : Option Addr} (hA : i < j → A' = some ⟨b, o + i, none⟩) : Rd w lo hi A' (j - i) ((vs.drop i).take (j - i)) := by
  refine ⟨by have := h.1; simp; omega, by have := h.2.1; omega, fun hn => ?_⟩
  obtain ⟨b', o', e, h1, h2, hc⟩ := h.2.2 (by omega)
  injection e with e
  injection e with e1 e2 _
  subst e1; subst e2
  refine ⟨b, o + i, hA (by omega), h1, h2, fun k v hv => ?_⟩
  have hk := (List.getElem?_eq_some_iff.1 hv).1
  simp at hk
  rw [List.getElem?_take_of_lt (by omega), List.getElem?_drop] at hv
  rw [Nat.add_assoc]
  exact hc (i + k) v hv
theorem rowsAt_sub {w : World} {lo hi : Nat} {vs : List Value} {xss : List (List Int)} (h : RowsAt w lo hi vs xss) (i m : Nat) : RowsAt w lo hi ((vs.drop i).take m) ((xss.drop i).take m) := by
  refine ⟨by simp [h.1], fun k v xs h1 h2 => ?_⟩
  have hk := (List.getElem?_eq_some_iff.1 h1).1
  simp at hk
  rw [List.getElem?_take_of_lt (by omega), List.getElem?_drop] at h1 h2
  exact h.2 (i + k) v xs h1 h2
theorem rs_sub {w : World} {lo hi n b o : Nat} {xss : List (List Int)} (h : RS w lo hi (some ⟨b, o, none⟩) n xss) {i j : Nat} (hij : i ≤ j) (hj : j ≤ n) {A' : Option Addr} (hA : i < j → A' = some ⟨b, o + i, none⟩) : RS w lo hi A' (j - i) ((xss.drop i).take (j - i)) := by
  obtain ⟨vs, h1, h2⟩ := h
  exact ⟨_, rd_sub h1 hij hj hA, rowsAt_sub h2 i _⟩
/-- some of the moves, from the i-th to the one ahead of the j-th -/
def subL (xss : List (List Int)) (i j : Nat) : List (List Int) := (xss.drop i).take (j - i)
theorem subL_length {xss : List (List Int)} {i j : Nat} (h : j ≤ xss.length) (hij : i ≤ j) : (subL xss i j).length = j - i := by simp [subL]; omega
theorem sysOf_sub {xss : List (List Int)} {n : Nat} (h : SysOf xss n) (i j : Nat) : SysOf (subL xss i j) n := fun p hp => h p (List.mem_of_mem_drop (List.mem_of_mem_take hp))
end Go.Proofs.Ytbioelmofceaaaa
