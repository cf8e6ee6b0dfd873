/- The exported functions on permutations, of the program and of the reference: each returns what the plain function of these texts says. No condition. -/
import Derived.Test.YtcjnhiglfkcmiaaDoorPerm2
namespace Go.Proofs.YtcjnhiglfkcmiaaDoor
open Go.RowKit
set_option linter.unusedVariables false
set_option maxRecDepth 100000
def invF (xs : List Int) : List Int × Int := if isPermB xs = true then (invL xs, 0) else ([], 1)
def thenF (xs ys : List Int) : List Int × Int := if okTwo xs ys = true then (thenL xs ys, 0) else ([], 1)
def conjF (xs ys : List Int) : List Int × Int := if okTwo xs ys = true then (thenL (thenL (invL ys) xs) ys, 0) else ([], 1)
theorem i_InversePermutation_any (w : World) (A : Option Addr) (n c : Nat) (xs : List Int) {lo hi : Nat} (h : RI w lo hi A n xs) (hhi : hi ≤ w.heap.size) :
    Calls Tryd.prog 35 #[.slice A n c] w fun e w' => ∃ (A1 : Option Addr) (n1 c1 : Nat) (zs : List Int) (code : Int), e = .returned (.tuple #[.slice A1 n1 c1, .int .i64 code]) ∧ Hid ((zs, code) = invF xs) ∧ Own w' w.heap.size w'.heap.size 2 A1 n1 c1 (zs.map (Value.int .i64)) ∧ n1 ≤ 1048576 ∧ Below w.heap.size w w' := by
  have hl := h.len
  by_cases hp : isPermB xs = true
  · have hF : (invL xs, (0 : Int)) = invF xs := by simp [invF, hp]
    replace hF := Lib.hid hF
    obtain ⟨hP1, hP2, hP3⟩ := isPermB_iff.1 hp
    rw [hl] at hP1 hP2
    replace hl := Lib.hid hl
    replace hP2 := Lib.hid hP2
    replace hP3 := Lib.hid hP3
    replace hp := Lib.hid hp
    go_enter Tryd.func35, Tryd.ntmps35
    go_wp2_with fail
    ((with_reducible refine (isPerm_any _ _ _ xs _ _ _ h hhi).mono ?_); rintro e w1 ⟨rfl, hb⟩)
    rw [hp.out]
    have hs1 := hb.size
    go_wp2_with fail
    ((with_reducible refine (inverse_any _ _ _ xs _ _ _ (h.below hb hhi) (by omega) (by omega) hP2.out hP3.out).mono ?_); rintro e w2 ⟨A1, rfl, ho, hb2⟩)
    go_wp2_with fail
    go_ret2
    exact ⟨_, _, _, _, _, rfl, hF, ho.more hs1 (Nat.le_refl _), by omega, below_then hb hb2 hb.size⟩
  · have hp : isPermB xs = false := by simpa using hp
    have hF : (([] : List Int), (1 : Int)) = invF xs := by simp [invF, hp]
    replace hF := Lib.hid hF
    replace hp := Lib.hid hp
    replace hl := Lib.hid hl
    go_enter Tryd.func35, Tryd.ntmps35
    go_wp2_with fail
    ((with_reducible refine (isPerm_any _ _ _ xs _ _ _ h hhi).mono ?_); rintro e w1 ⟨rfl, hb⟩)
    rw [hp.out]
    go_wp2_with fail
    go_ret2
    exact ⟨_, _, _, _, _, rfl, hF, Own.nil, by omega, hb⟩
end Go.Proofs.YtcjnhiglfkcmiaaDoor
