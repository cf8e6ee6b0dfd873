/- Draws: a permutation that is seldom spoiled (l01Spoil). -/
import Derived.Test.YtcjnhiglfkcmiaaGreatDoorDrwD
namespace Go.Proofs.YtcjnhiglfkcmiaaGreatDoor
open Go.RowKit
set_option linter.unusedVariables false
set_option maxRecDepth 100000
theorem lit_rd (w : World) (vs : Array Value) (T : TypeId) (h : vs.size ≤ 9223372036854775807) : Rd (w.alloc (.cells vs T)) w.heap.size (w.heap.size + 1) (some ⟨w.heap.size, 0, none⟩) vs.size vs.toList := by
  refine ⟨by simp, h, fun _ => ⟨_, _, rfl, Nat.le_refl _, Nat.lt_succ_self _, fun k v hv => ?_⟩⟩
  unfold World.cell?
  rw [heap_newest]
  simpa using hv
/-- what l01Spoil leaves: a list of m numbers in a row of its own, the source with another state -/
def DrawnL (w w' : World) (lo g : Nat) (T T1 : TypeId) (A : Option Addr) (n c : Nat) (bs : List Int) (A1 : Option Addr) (m c1 : Nat) : Prop :=
  ∃ (i' h' : Nat) (xs : List Int), Own w' w.heap.size w'.heap.size T1 A1 m c1 (xs.map (Value.int .i64)) ∧ Src w' lo g T A n c bs i' h' ∧ Chg g (g + 1) w w'
