/- slices.Sort and slices.Compact at []int64 over a row of the call's own. (Srl, Cpl: the kit's contracts, laid by sh/srl.sh, sh/cpl.sh.) -/
import Derived.Test.YtbioelmofceaaaaSrt
import Derived.Test.YtbioelmofceaaaaCpl
import Derived.Test.YtbioelmofceaaaaTypP
namespace Go.Proofs.Ytbioelmofceaaaa
open Go.RowKit
set_option linter.unusedVariables false
set_option maxRecDepth 100000
theorem grow_none (w : World) : Sort.grow w #[] = w := by simp [Sort.grow]
theorem isort_grown (A : Option Addr) (k c : Nat) (zs : List Int) (w : World) {lo : Nat} (h : w.ownsRow lo 2 1 (.slice A k c) k (zs.map (Value.int .i64))) (hk : k ≤ 1048576) (hlo : lo ≤ w.heap.size) :
    Calls Try.prog 70 #[.slice A k c] w fun e w' => e = .returned (.tuple #[]) ∧ w'.ownsRow lo 2 1 (.slice A k c) k ((sortL zs).map (Value.int .i64)) ∧ w.grownBy w' (Value.slice A k c).ownBlock := by
  have hl : zs.length = k := by have := h.1; simpa using this
  rcases h.2 with ⟨hv, hn⟩ | ⟨g, cap, cur, hv, hb, hg, hnc, hcm, hcs, htake⟩
  · cases hv
    have hz : zs = [] := List.length_eq_zero_iff.1 hl
    subst hz
    refine (slices_Sort_i64_none none 0 w).mono ?_
    rintro e w' ⟨rfl, rfl⟩
    exact ⟨rfl, by simpa [sortL] using h, World.grownBy.refl _ _⟩
  · cases hv
    subst hl
    refine (slices_Sort_i64 g 0 c zs w (holds_of_blockI hg (by simpa using htake)) (Array.getElem?_eq_some_iff.1 hg).1 (by omega)).mono ?_
    rintro e w' ⟨rfl, n, os, rfl⟩
    exact ⟨rfl, ownsRow_sortedI (sortL_length zs) hb hg hnc hcm hcs, grownBy_sortedI _⟩
theorem icompact_none (c : Nat) (w : World) : Calls Try.prog 71 #[.slice none 0 c] w fun e w' => e = .returned (.slice none 0 c) ∧ w = w' := by
  go_enter Try.func71, Try.ntmps71
  go_wp2_with fail
  go_ret
  exact ⟨rfl, rfl⟩
theorem icompact_any (A : Option Addr) (k c : Nat) (zs : List Int) (w : World) {lo : Nat} (h : w.ownsRow lo 2 1 (.slice A k c) k (zs.map (Value.int .i64))) (hk : k ≤ 1048576) (hlo : lo ≤ w.heap.size) (hz : Sorted zs) :
    Calls Try.prog 71 #[.slice A k c] w fun e w' => ∃ k', e = .returned (.slice A k' c) ∧ k' ≤ k ∧ w'.ownsRow lo 2 1 (.slice A k' c) k' ((setL zs).map (Value.int .i64)) ∧ w.grownBy w' (Value.slice A k c).ownBlock := by
  have hl : zs.length = k := by have := h.1; simpa using this
  rcases h.2 with ⟨hv, hn⟩ | ⟨g, cap, cur, hv, hb, hg, hnc, hcm, hcs, htake⟩
  · cases hv
    have hz : zs = [] := List.length_eq_zero_iff.1 hl
    subst hz
    refine (icompact_none 0 w).mono ?_
    rintro e w' ⟨rfl, rfl⟩
    exact ⟨0, rfl, Nat.le_refl _, by simpa [setL, nub, sortL] using h, World.grownBy.refl _ _⟩
  · cases hv
    subst hl
    have hcm' := compact_sorted hz
    have hH := holds_of_blockI hg (ss := zs) (by simpa using htake)
    have hc := slices_Compact_i64 g 0 c zs.toArray w hH (by simp; omega) (by simpa using hnc)
    have e1 : Lib.compactUpTo zs.toArray zs.toArray.size = setL zs := by rw [← hcm']; simp [Lib.compact]
    rw [e1] at hc
    have hlen : (setL zs).length ≤ zs.length := setL_length zs
    have hsz : zs.toArray.size = zs.length := by simp
    rw [hsz] at hc
    refine hc.mono ?_
    rintro e w' ⟨rfl, q, hw⟩
    rw [← grow_none (Sort.putRow _ _ _ _ _)] at hw
    subst hw
    refine ⟨(setL zs).length, rfl, hlen, ?_, grownBy_sortedI _⟩
    have hL : (setL zs ++ List.replicate (zs.length - (setL zs).length) 0).length = zs.length := by simp; omega
    have ht := take_putCellsI cur (setL zs ++ List.replicate (zs.length - (setL zs).length) 0) (by omega)
    refine ⟨by simp, .inr ⟨g, c, _, rfl, hb, heap_sortedI _ hg, by omega, hcm, by simp [Sort.putCells, hcs], ?_⟩⟩
    rw [Nat.mul_one]
    have h2 := congrArg (List.take (setL zs).length) ht
    rw [List.take_take, Nat.min_eq_left (by omega)] at h2
    rw [h2, ← List.map_take, List.take_left]
end Go.Proofs.Ytbioelmofceaaaa
