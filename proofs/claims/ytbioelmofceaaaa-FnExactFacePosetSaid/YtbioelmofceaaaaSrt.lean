/- slices.Sort at []int64 over a row of the call's own. (Srl: the kit's contract, laid by sh/srl.sh.) -/
import Derived.Test.YtbioelmofceaaaaOrd
import Derived.Test.YtbioelmofceaaaaSrl
import Derived.Sort.OwnSortedInts
namespace Go.Proofs.Ytbioelmofceaaaa
open Go.RowKit
set_option linter.unusedVariables false
theorem isort_any (A : Option Addr) (k c : Nat) (zs : List Int) (w : World) {lo : Nat} (h : w.ownsRow lo 2 1 (.slice A k c) k (zs.map (Value.int .i64))) (hk : k ≤ 1048576) (hlo : lo ≤ w.heap.size) :
    Calls Try.prog 70 #[.slice A k c] w fun e w' => e = .returned (.tuple #[]) ∧ w'.ownsRow lo 2 1 (.slice A k c) k ((sortL zs).map (Value.int .i64)) ∧ Below lo w w' := by
  have hl : zs.length = k := by have := h.1; simpa using this
  rcases h.2 with ⟨hv, hn⟩ | ⟨g, cap, cur, hv, hb, hg, hnc, hcm, hcs, htake⟩
  · cases hv
    have hz : zs = [] := List.length_eq_zero_iff.1 hl
    subst hz
    refine (slices_Sort_i64_none none 0 w).mono ?_
    rintro e w' ⟨rfl, rfl⟩
    exact ⟨rfl, by simpa [sortL] using h, Below.refl _ _⟩
  · cases hv
    subst hl
    refine (slices_Sort_i64 g 0 c zs w (holds_of_blockI hg (by simpa using htake)) (Array.getElem?_eq_some_iff.1 hg).1 (by omega)).mono ?_
    rintro e w' ⟨rfl, n, os, rfl⟩
    refine ⟨rfl, ?_, ?_⟩
    · exact ownsRow_sortedI (sortL_length zs) hb hg hnc hcm hcs
    · exact (Below.refl lo w).grown (grownBy_sortedI _) hlo (fun q e => by cases e; exact hb)
end Go.Proofs.Ytbioelmofceaaaa
