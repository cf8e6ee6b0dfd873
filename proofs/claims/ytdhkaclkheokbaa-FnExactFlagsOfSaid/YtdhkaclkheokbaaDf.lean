/- Walk: the program's first place where a poset has no diamond. No condition but the sizes of memory. -/
import Derived.Test.YtdhkaclkheokbaaDfP
import Derived.Test.YtdhkaclkheokbaaLawP
import Derived.Test.YtdhkaclkheokbaaPos
import Derived.Test.YtdhkaclkheokbaaRow
import Derived.Deep.Cut
import Derived.Deep.CutRange
namespace Go.Proofs.Ytdhkaclkheokbaa
open Go.RowKit
set_option linter.unusedVariables false
set_option maxRecDepth 100000
theorem isBelow_any (b : Nat) (A : Option Addr) (n c : Nat) (xss : List (List Int)) (e : Int) (f : Nat) (w : World) {lo hi : Nat} (hc : w.cell? ⟨b, 2, none⟩ = some (.slice A n c)) (h : RS w lo hi A n xss) (hf : f < n) (hbig : ∀ B, xss[f]? = some B → B.length ≤ 1048576) (hs : ∀ B, xss[f]? = some B → ∀ k, k + 1 < B.length → B.getD k 0 ≤ B.getD (k + 1) 0) :
    Calls Try.prog 76 #[.pointer (some ⟨b, 0, none⟩), .int .i64 e, .int .i64 (f : Int)] w fun e' w' => e' = .returned (.bool (inBl xss e (f : Int))) ∧ w = w' := by
  obtain ⟨b1, o1, Ak, nk, ck, B, rfl, _, _, hB, hcB, hrB⟩ := h.at_ hf
  have hm := h.max
  have hnk : nk ≤ 1048576 := by have := hbig B hB; have := hrB.len; omega
  have hF : inBl xss e (f : Int) = decide (e ∈ B) := by unfold inBl; rw [Int.toNat_natCast, getD_some hB]
  have hsB := hs B hB
  replace hF := Lib.hid hF
  replace hB := Lib.hid hB
  replace hsB := Lib.hid hsB
  clear hs hbig
  go_enter Try.func76, Try.ntmps76
  go_wp2_with fail
  ((with_reducible refine (bin_any Ak nk ck B e _ hrB hnk hsB.out).mono ?_); rintro e w' ⟨p, rfl, rfl⟩)
  go_wp2_with fail
  go_ret
  exact ⟨ret_bool hF.out.symm, rfl⟩
end Go.Proofs.Ytdhkaclkheokbaa
