/- How a code is read: a slice of bytes that came in holds a list. No condition. -/
import Derived.Test.YtcjnhiglfkcmiaaDoorOpen
namespace Go.Proofs.YtcjnhiglfkcmiaaDoor
open Go.ChangeShapes Go.WideShapes Go.ChangeAt Go.RowKit
set_option linter.unusedVariables false
set_option maxRecDepth 100000
theorem open_RB {H : Type} {enc : TypeId × Value → H} {P : Program} {w : World} {t e : TypeId} {a : Option Addr} {len cap : Nat} {d : DataW H} {p : List MemPlace}
    (ht : P.underlying t = some (.slice e)) (he : P.underlying e = some (.int .u8)) (hc : P.cellsOf e = 1)
    (h : DataW.Trod enc P w 0 (fun _ => true) true t (.slice a len cap) d p) : ∃ xs : List Int, Rd w 0 w.heap.size a len (xs.map (Value.int .u8)) ∧ ∀ x ∈ xs, 0 ≤ x ∧ x < 256 := by
  obtain ⟨fuel, hf⟩ := h
  rcases open_ints ht he hc hf with ⟨hcs, _⟩ | ⟨x, l, c, zs, hcs, _, hl, hm, hz, _, hcell, hwz⟩
  · simp [Value.cells] at hcs
    obtain ⟨rfl, rfl, rfl⟩ := hcs
    exact ⟨[], Rd.nil, by simp⟩
  · simp [Value.cells] at hcs
    obtain ⟨rfl, rfl, rfl⟩ := hcs
    have hz' : zs.length = cap := by simpa using hz
    simp only [maxLen] at hm
    refine ⟨zs.take len, rd_of_cells (by simp; omega) (by omega) fun i v hv => ?_, fun y hy => by have := bounds_u8 (hwz y (List.mem_of_mem_take hy)); omega⟩
    have hi : i < len := by have := (List.getElem?_eq_some_iff.1 hv).1; simp at this; omega
    rw [hcell i (by omega)]
    simp [hi, List.getD] at hv ⊢
    obtain ⟨y, hy, rfl⟩ := hv
    simp [hy]
end Go.Proofs.YtcjnhiglfkcmiaaDoor
