/- Walks: common divisors, copies, sorting by insertion, lengths of cycles, orders. Lengths up to 2^20, divisors below 2^62. -/
import Derived.Test.YtebdfhkimnlglaaDoorCyc
import Derived.Test.YtebdfhkimnlglaaDoorOrdP
namespace Go.Proofs.YtebdfhkimnlglaaDoor
open Go.RowKit
set_option linter.unusedVariables false
set_option maxRecDepth 100000
set_option maxHeartbeats 400000 in
theorem own1_any (A : Option Addr) (n c : Nat) (xs : List Int) (w : World) {lo hi : Nat} (h : RI w lo hi A n xs) (hhi : hi ≤ w.heap.size) (h4 : n ≤ 1099511627776) :
    Calls Tryd.prog 50 #[.slice A n c] w fun e w' => ∃ A1 c1, e = .returned (.slice A1 n c1) ∧ Own w' w.heap.size w'.heap.size 2 A1 n c1 (xs.map (Value.int .i64)) ∧ Below w.heap.size w w' := by
  obtain ⟨j0, hj0, hy0, hy1, hy2⟩ := info_parts infoI
  have h0 := World.ownsRow_lit (e := 2) (base := w.heap.size) (size := 1) w #[] 0 (Nat.le_refl _) (by omega) rfl
  have hr : RI (w.alloc (.cells #[] 2)) lo hi A n xs := h.keep (same_alloc w _ _ _ hhi)
  go_enter Tryd.func50, Tryd.ntmps50
  go_wp2_with (at_builtin; refine wpList_appendL _ rfl (.tmp 3) (.tmp 4) 22 rfl w.heap.size 2 j0 (.int .i64 0) 8 Tryd.underlying22 hj0 hy0 hy1 hy2 rfl (by omega) _ 0 0 _ rfl h0 A n c _ lo hi rfl hr (ints_oneCell _ _) (by omega) (by simp) ?_)
  intro A2 c2 w2 ho2 hg2 _
  have hb2 : Below w.heap.size w w2 := ((Below.refl _ _).alloc (Nat.le_refl _) _).grown hg2 (by simp) (by simp [Value.ownBlock])
  go_wp2_with fail
  go_ret
  refine ⟨A2, c2, by simp, Own.of_row ?_, hb2⟩
  simpa using ho2
theorem wrap_in {x y : Int} (h : x = y) (h1 : -9223372036854775808 ≤ y) (h2 : y ≤ 9223372036854775807) : IntKind.i64.wrap x = y := by
  subst h; rw [IntKind.wrap_i64]; omega
end Go.Proofs.YtebdfhkimnlglaaDoor
