/- Walks: the reference's labels of orbits. Up to 400 points. -/
import Derived.Test.YtebdfhkimnlglaaDoorOrbS
namespace Go.Proofs.YtebdfhkimnlglaaDoor
open Go.RowKit
set_option linter.unusedVariables false
set_option maxRecDepth 100000
/-- v at each of the points -/
def mset (ls pts : List Int) (v : Int) : List Int := pts.foldl (fun l y => l.set y.toNat v) ls
theorem mset_snoc (ls pts : List Int) (y v : Int) : mset ls (pts ++ [y]) v = (mset ls pts v).set y.toNat v := by simp [mset]
theorem mset_length (ls pts : List Int) (v : Int) : (mset ls pts v).length = ls.length := by
  unfold mset
  induction pts generalizing ls with
  | nil => rfl
  | cons y t ih => rw [List.foldl_cons, ih]; simp
theorem mset_get {ls pts : List Int} {v : Int} (hp : ∀ y ∈ pts, 0 ≤ y) {z : Nat} (hz : z < ls.length) : (mset ls pts v)[z]? = if (z : Int) ∈ pts then some v else ls[z]? := by
  unfold mset
  induction pts generalizing ls with
  | nil => simp
  | cons y t ih =>
    rw [List.foldl_cons, ih (fun q hq => hp q (by simp [hq])) (by simpa using hz)]
    have hy := hp y (by simp)
    by_cases h1 : (z : Int) ∈ t
    · simp [h1]
    · by_cases h2 : (z : Int) = y
      · subst h2; simp [hz]
      · rw [if_neg h1, if_neg (by simp [h1, h2]), List.getElem?_set_ne (by omega)]
theorem OutI.orbit {list : List (List Int)} {n i : Nat} {ls : List Int} (hs : SysOf list n) (h : OutI list n i ls) (hi : i < n) (ho : ¬ Old list i i) : OutI list n (i + 1) (mset ls (bfs list n i) (cntR list i : Nat)) ∧ cntR list (i + 1) = cntR list i + 1 := by
  have hm := bfs_met hs (show (0 : Int) ≤ i by omega) (show (i : Int) < n by omega)
  have hp : ∀ y ∈ bfs list n i, 0 ≤ y := fun y hy => (hm.rng y hy).1
  have hl := h.len
  have hmem : ∀ z : Nat, (z : Int) ∈ bfs list n i ↔ Rch list i z := fun z => bfs_mem hs (by omega) (by omega)
  refine ⟨⟨by rw [mset_length]; exact hl, fun z hz hzo => ?_, fun z hz hzo => ?_⟩, by rw [cntR_succ, if_pos (root_iff.2 ho)]⟩
  · rw [mset_get hp (by omega)]
    by_cases hr : Rch list i z
    · rw [if_pos ((hmem z).2 hr), labOf_root hs hi ho hr]
    · rw [if_neg (fun hh => hr ((hmem z).1 hh))]
      exact h.old z hz ((Old.new.1 hzo).resolve_right hr)
  · rw [mset_get hp (by omega), if_neg (fun hh => hzo (Old.new.2 (.inr ((hmem z).1 hh))))]
    exact h.new z hz fun hh => hzo (Old.new.2 (.inl hh))
end Go.Proofs.YtebdfhkimnlglaaDoor
