/- Walks: IsPoset, the program's and the reference's. No condition but the sizes of memory. -/
import Derived.Test.YtpbmhhopgjikhaaPos
import Derived.Test.YtpbmhhopgjikhaaPosS
import Derived.Test.YtpbmhhopgjikhaaLawP
namespace Go.Proofs.Ytpbmhhopgjikhaa
open Go.RowKit
set_option linter.unusedVariables false
set_option maxRecDepth 100000
theorem i_IsPoset_any (w : World) (r : Int) (hr : -9223372036854775808 ≤ r ∧ r ≤ 9223372036854775807) (D : Option Addr) (k e : Nat) (ps : List Int) {lo hi : Nat} (g : RI w lo hi D k ps) (hg : hi ≤ w.heap.size) (hke : k ≤ e) (A : Option Addr) (n c : Nat) (xss : List (List Int)) {lo' hi' : Nat} (h : RS w lo' hi' A n xss) (hhi : hi' ≤ w.heap.size) (hnc : n ≤ c) :
    Calls Try.prog 17 #[.agg #[.int .i64 r, .slice D k e, .slice A n c]] w fun e' w' => ∃ y : Bool, e' = .returned (.bool y) ∧ Hid (y = isPosB r ps xss) ∧ Below w.heap.size w w' := by
  have hR := rs_alloc h hhi (.cells #[.int .i64 r, .slice D k e, .slice A n c] 28)
  have hG := ri_alloc g hg (.cells #[.int .i64 r, .slice D k e, .slice A n c] 28)
  have hB : Below w.heap.size w (w.alloc (.cells #[.int .i64 r, .slice D k e, .slice A n c] 28)) := (Below.refl _ _).alloc (Nat.le_refl _) _
  go_enter Try.func17, Try.ntmps17
  go_wp2_with fail
  ((with_reducible refine (isPoset_any r hr D k e ps A n c xss _ hG (by simp; omega) hR (by simp; omega)).mono ?_); rintro e w1 ⟨rfl, hb1⟩)
  go_wp2_with fail
  go_ret
  exact ⟨_, rfl, Lib.hid rfl, hB.trans (hb1.mono (by simp))⟩
theorem s_IsPoset_any (w : World) (r : Int) (hr : -9223372036854775808 ≤ r ∧ r ≤ 9223372036854775807) (D : Option Addr) (k e : Nat) (ps : List Int) {lo hi : Nat} (g : RI w lo hi D k ps) (hg : hi ≤ w.heap.size) (hke : k ≤ e) (A : Option Addr) (n c : Nat) (xss : List (List Int)) {lo' hi' : Nat} (h : RS w lo' hi' A n xss) (hhi : hi' ≤ w.heap.size) (hnc : n ≤ c) :
    Calls Try.prog 15 #[.agg #[.int .i64 r, .slice D k e, .slice A n c]] w fun e' w' => ∃ y : Bool, e' = .returned (.bool y) ∧ Hid (y = isPosB r ps xss) ∧ Below w.heap.size w w' := by
  have hR := rs_alloc h hhi (.cells #[.int .i64 r, .slice D k e, .slice A n c] 28)
  have hG := ri_alloc g hg (.cells #[.int .i64 r, .slice D k e, .slice A n c] 28)
  have hB : Below w.heap.size w (w.alloc (.cells #[.int .i64 r, .slice D k e, .slice A n c] 28)) := (Below.refl _ _).alloc (Nat.le_refl _) _
  go_enter Try.func15, Try.ntmps15
  go_wp2_with fail
  ((with_reducible refine (l03Is_any r hr D k e ps A n c xss _ hG (by simp; omega) hR (by simp; omega)).mono ?_); rintro e w1 ⟨rfl, hb1⟩)
  go_wp2_with fail
  go_ret
  exact ⟨_, rfl, Lib.hid rfl, hB.trans (hb1.mono (by simp))⟩
end Go.Proofs.Ytpbmhhopgjikhaa
