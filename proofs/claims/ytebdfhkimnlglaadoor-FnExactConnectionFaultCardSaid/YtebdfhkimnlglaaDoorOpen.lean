/- How the arguments of a statement are read: a slice of 64-bit integers that came in holds a list. No condition. -/
import Derived.Test.YtebdfhkimnlglaaDoorVoc
import Derived.ProofKit
import Derived.OpenShut
import Derived.ShutString
import Derived.ChangeOld
import Derived.Below
namespace Go.Proofs.YtebdfhkimnlglaaDoor
open Go.ChangeShapes Go.WideShapes Go.ChangeAt Go.RowKit
set_option linter.unusedVariables false
set_option maxRecDepth 100000

/-- a 64-bit integer -/
def I64 (x : Int) : Prop := -9223372036854775808 ≤ x ∧ x ≤ 9223372036854775807

theorem rd_of_cells {w : World} {a : Addr} {len : Nat} {vs : List Value} (hl : vs.length = len) (hm : len ≤ 9223372036854775807) (hc : ∀ i v, vs[i]? = some v → w.cell? (a.add i) = some v) : Rd w 0 w.heap.size (some a) len vs := by
  refine ⟨hl, hm, fun hn => ?_⟩
  have h0 := hc 0 vs[0] (List.getElem?_eq_getElem (by omega))
  have hs := World.cell?_spot h0
  have hb := World.block_lt_of_cell? _ _ h0
  obtain ⟨b, o, s⟩ := a
  have hs' : s = none := by simpa [Addr.add] using hs
  subst hs'
  refine ⟨b, o, rfl, Nat.zero_le _, by simpa [Addr.add_lit] using hb, fun k v hv => ?_⟩
  have := hc k v hv
  simpa [Addr.add_lit] using this

theorem open_RI {H : Type} {enc : TypeId × Value → H} {P : Program} {w : World} {t e : TypeId} {a : Option Addr} {len cap : Nat} {d : DataW H} {p : List MemPlace}
    (ht : P.underlying t = some (.slice e)) (he : P.underlying e = some (.int .i64)) (hc : P.cellsOf e = 1)
    (h : DataW.Trod enc P w 0 (fun _ => true) true t (.slice a len cap) d p) : ∃ xs, RI w 0 w.heap.size a len xs ∧ ∀ x ∈ xs, I64 x := by
  obtain ⟨fuel, hf⟩ := h
  rcases open_ints ht he hc hf with ⟨hcs, _⟩ | ⟨x, l, c, zs, hcs, _, hl, hm, hz, _, hcell, hwz⟩
  · simp [Value.cells] at hcs
    obtain ⟨rfl, rfl, rfl⟩ := hcs
    exact ⟨[], RI.nil, by simp⟩
  · simp [Value.cells] at hcs
    obtain ⟨rfl, rfl, rfl⟩ := hcs
    have hz' : zs.length = cap := by simpa using hz
    simp only [maxLen] at hm
    refine ⟨zs.take len, rd_of_cells (by simp; omega) (by omega) fun i v hv => ?_, fun y hy => bounds_i64 (hwz y (List.mem_of_mem_take hy))⟩
    have hi : i < len := by have := (List.getElem?_eq_some_iff.1 hv).1; simp at this; omega
    rw [hcell i (by omega)]
    simp [hi, List.getD] at hv ⊢
    obtain ⟨y, hy, rfl⟩ := hv
    simp [hy]
end Go.Proofs.YtebdfhkimnlglaaDoor
