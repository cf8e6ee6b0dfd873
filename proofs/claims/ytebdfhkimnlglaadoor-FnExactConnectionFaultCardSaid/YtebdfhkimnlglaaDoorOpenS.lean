/- How a slice of slices of 64-bit integers that came in is read. No condition. -/
import Derived.Test.YtebdfhkimnlglaaDoorOpen
import Derived.Test.YtebdfhkimnlglaaDoorSls
import Derived.Deep.Matrix
namespace Go.Proofs.YtebdfhkimnlglaaDoor
open Go.ChangeShapes Go.WideShapes Go.ChangeAt Go.RowKit Go.Deep
set_option linter.unusedVariables false
set_option maxRecDepth 100000

theorem rows_open {H : Type} {enc : TypeId × Value → H} {P : Program} {w : World} {t e q : TypeId} {a : Option Addr} {len cap fuel : Nat} {x : DataW H × List MemPlace}
    (ht : P.underlying t = some (.slice e)) (he : P.underlying e = some (.slice q)) (hq : P.underlying q = some (.int .i64)) (ce : P.cellsOf e = 1) (cq : P.cellsOf q = 1)
    (hf : DataW.trod enc P w 0 (fun _ => true) true fuel t [.slice a len cap] = some x) : ∃ xss, RS w 0 w.heap.size a len xss ∧ ∀ xs ∈ xss, ∀ x ∈ xs, I64 x := by
  rcases open_int_rows ht he hq ce cq hf with ⟨hcs, _⟩ | ⟨ad, l, c, A, L, C, Z, hcs, _, hl, hm, _, hrow⟩
  · simp at hcs
    obtain ⟨rfl, rfl, rfl⟩ := hcs
    exact ⟨[], RS.nil, by simp⟩
  · simp at hcs
    obtain ⟨rfl, rfl, rfl⟩ := hcs
    simp only [maxLen] at hm
    refine ⟨(List.range len).map fun r => (Z r).take (L r), ⟨(List.range len).map fun r => .slice (A r) (L r) (C r), ?_, ?_⟩, ?_⟩
    · refine rd_of_cells (by simp) (by omega) fun i v hv => ?_
      have hi : i < len := by have := (List.getElem?_eq_some_iff.1 hv).1; simp at this; omega
      simp [hi] at hv
      subst hv
      exact (hrow i (by omega)).1
    · refine ⟨by simp, fun k v xs h1 h2 => ?_⟩
      have hk : k < len := by have := (List.getElem?_eq_some_iff.1 h1).1; simp at this; omega
      simp [hk] at h1 h2
      subst h1; subst h2
      obtain ⟨_, r1, r2, r3, _, r5, r6⟩ := hrow k (by omega)
      simp only [maxLen] at r2
      refine ⟨_, _, _, rfl, ?_⟩
      cases hA : A k with
      | none =>
        have h0 := r5 hA
        have hL : L k = 0 := by omega
        rw [hL, List.take_zero]
        exact RI.nil
      | some a' =>
        obtain ⟨_, hc⟩ := r6 a' hA
        refine rd_of_cells (by simp; omega) (by omega) fun i v hv => ?_
        have hi : i < L k := by have := (List.getElem?_eq_some_iff.1 hv).1; simp at this; omega
        rw [hc i (by omega)]
        simp [hi] at hv
        obtain ⟨y, hy, rfl⟩ := hv
        simp [List.getD, hy]
    · intro xs hxs x hx
      simp only [List.mem_map, List.mem_range] at hxs
      obtain ⟨r, hr, rfl⟩ := hxs
      exact bounds_i64 ((hrow r (by omega)).2.2.2.2.1 x (List.mem_of_mem_take hx))

theorem open_RS {H : Type} {enc : TypeId × Value → H} {P : Program} {w : World} {t e q : TypeId} {a : Option Addr} {len cap : Nat} {d : DataW H} {p : List MemPlace}
    (ht : P.underlying t = some (.slice e)) (he : P.underlying e = some (.slice q)) (hq : P.underlying q = some (.int .i64)) (ce : P.cellsOf e = 1) (cq : P.cellsOf q = 1)
    (h : DataW.Trod enc P w 0 (fun _ => true) true t (.slice a len cap) d p) : ∃ xss, RS w 0 w.heap.size a len xss ∧ ∀ xs ∈ xss, ∀ x ∈ xs, I64 x := by
  obtain ⟨fuel, hf⟩ := h
  exact rows_open ht he hq ce cq (by simpa [Value.cells] using hf)
end Go.Proofs.YtebdfhkimnlglaaDoor
