/- The laws' helpers at a maniplex: as at its moves. No condition but the sizes. -/
import Derived.Test.YtebdfhkimnlglaaDoorLawS
import Derived.Lib.SmallJoins
import Derived.Laws.Rows
import Derived.Test.YtebdfhkimnlglaaDoorOpenS
namespace Go.Proofs.YtebdfhkimnlglaaDoor
open Go.RowKit
set_option linter.unusedVariables false
set_option maxRecDepth 100000
theorem leftOf_neg {left k : Nat} (h : ¬ k ≤ left) : leftOf left k = -1 := by unfold leftOf; rw [if_neg h]
theorem leftOf_pos {left k : Nat} (h : k ≤ left) : leftOf left k = ((left - k : Nat) : Int) := by unfold leftOf; rw [if_pos h]; omega
theorem al_new (w : World) (v : Value) (T : TypeId) (k : Nat) (hk : k = w.heap.size) : (w.alloc (.cells #[v] T)).cell? ⟨k, 0, none⟩ = some v := by subst hk; simp
theorem fr_new (w : World) (v : Value) (T : TypeId) (k : Nat) (hk : k = w.heap.size) : (w.alloc (.cells #[v] T)).frozen? ⟨k, 0, none⟩ = false := by subst hk; simp
theorem al_old (w : World) (o : Obj) (k j : Nat) (hk : k < w.heap.size) : (w.alloc o).cell? ⟨k, j, none⟩ = w.cell? ⟨k, j, none⟩ := ((Below.refl w.heap.size w).alloc (Nat.le_refl _) o).cell (p := ⟨k, j, none⟩) hk
theorem fr_old (w : World) (o : Obj) (k j : Nat) (hk : k < w.heap.size) : (w.alloc o).frozen? ⟨k, j, none⟩ = w.frozen? ⟨k, j, none⟩ := ((Below.refl w.heap.size w).alloc (Nat.le_refl _) o).frozen (p := ⟨k, j, none⟩) hk
theorem heap_new (w : World) (o : Obj) (k : Nat) (hk : k = w.heap.size) : (w.alloc o).heap[k]? = some o := by subst hk; exact Array.getElem?_push_size
theorem rs_alloc {w : World} {lo hi n : Nat} {A : Option Addr} {xss : List (List Int)} (h : RS w lo hi A n xss) (hhi : hi ≤ w.heap.size) (o : Obj) : RS (w.alloc o) lo hi A n xss := h.keep (same_alloc w o _ _ hhi)
section
open Go.ChangeShapes Go.WideShapes Go.ChangeAt Go.RowKit Go.Deep
theorem open_RM {H : Type} {enc : TypeId × Value → H} {P : Program} {w : World} {r : Reach} {b0 : Nat} {m t e q : TypeId} {v : Value} {d : DataW H} {p : List MemPlace} {f : Field} (hs : P.underlying m = some (.struct #[f])) (hone : oneCellFields P #[f] = true) (hC : P.cellsOf m = 1) (hft : f.type = t)
    (ht : P.underlying t = some (.slice e)) (he : P.underlying e = some (.slice q)) (hq : P.underlying q = some (.int .i64)) (ce : P.cellsOf e = 1) (cq : P.cellsOf q = 1)
    (hv : Value.okWide P w r b0 m v) (h : DataW.Trod enc P w 0 (fun _ => true) true m v d p) :
    ∃ a len cap xss, v = .agg #[.slice a len cap] ∧ RS w 0 w.heap.size a len xss ∧ ∀ xs ∈ xss, ∀ x ∈ xs, I64 x := by
  obtain ⟨cs, rfl, hsz⟩ := okWide_struct hs hv
  obtain ⟨l⟩ := cs
  match l, hsz.trans hC with
  | [c0], _ =>
    obtain ⟨fuel, hf⟩ := h
    obtain ⟨xs, n, _, hx, _, hlen, hg⟩ := DataW.trod_struct hs hf
    obtain ⟨o0, k0⟩ := hone_of hone 0 f rfl
    match xs, hlen with
    | [y0], _ =>
      have h0 : DataW.trod enc P w 0 (fun _ => true) true n f.type [c0] = some y0 := by simpa [Value.cells, o0, k0] using hg 0 f rfl
      rw [hft] at h0
      rcases open_slice ht h0 with ⟨hcs, _⟩ | ⟨a, len, cap, _, _, _, _, hcs, _⟩
      · simp at hcs; subst hcs
        obtain ⟨xss, g1, g2⟩ := rows_open ht he hq ce cq h0
        exact ⟨_, _, _, xss, rfl, g1, g2⟩
      · simp at hcs; subst hcs
        obtain ⟨xss, g1, g2⟩ := rows_open ht he hq ce cq h0
        exact ⟨_, _, _, xss, rfl, g1, g2⟩
end
end Go.Proofs.YtebdfhkimnlglaaDoor
