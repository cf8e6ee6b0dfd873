/- PermutationText, the program's and the reference's. No condition but the sizes of memory and strconv's table of powers of ten. -/
import Derived.Test.YtbioelmofceaaaaDoorPtx
namespace Go.Proofs.YtbioelmofceaaaaDoor
open Go.RowKit
set_option linter.unusedVariables false
set_option maxRecDepth 100000
/-- what PermutationText returns -/
def ptF (xs : List Int) : List UInt8 × Int := if isPermB xs = true then (permB xs, 0) else ([], 1)
theorem i_PermutationText_any (w : World) (A : Option Addr) (n c : Nat) (xs : List Int) {lo hi : Nat} (h : RI w lo hi A n xs) (hhi : hi ≤ w.heap.size) {B : Nat} (hT : T10 B w) (hB : B ≤ w.heap.size) :
    Calls Tryd.prog 10 #[.slice A n c] w fun e w' => ∃ (s : List UInt8) (code : Int), e = .returned (.tuple #[.string (strB s), .int .i64 code]) ∧ Hid ((s, code) = ptF xs) ∧ Below w.heap.size w w' := by
  have hl := h.len
  by_cases hp : isPermB xs = true
  · have hF : (permB xs, (0 : Int)) = ptF xs := by simp [ptF, hp]
    obtain ⟨hP1, hP2, hP3⟩ := isPermB_iff.1 hp
    rw [hl] at hP1 hP2
    replace hF := Lib.hid hF
    replace hp := Lib.hid hp
    have hPt := fun V (hV : Below w.heap.size w V) => permutationText_any A n c xs V (h.below hV hhi) (by have := hV.size; omega) hP1 hP2 (hT.on (hV.mono hB)) (by have := hV.size; omega)
    clear hP1 hP2 hP3 hl
    go_enter Tryd.func10, Tryd.ntmps10
    go_wp2_with fail
    ((with_reducible refine (isPerm_any _ _ _ xs _ _ _ h hhi).mono ?_); rintro e w1 ⟨rfl, hb⟩)
    rw [hp.out]
    have hs1 := hb.size
    have h2 := hPt w1 hb
    go_wp2_with fail
    ((with_reducible refine h2.mono ?_); rintro e w2 ⟨rfl, hb2⟩)
    go_wp2_with fail
    go_ret2
    exact ⟨_, _, rfl, hF, below_then hb hb2 hs1⟩
  · have hp : isPermB xs = false := by simpa using hp
    have hF : (([] : List UInt8), (1 : Int)) = ptF xs := by simp [ptF, hp]
    replace hF := Lib.hid hF
    replace hp := Lib.hid hp
    replace hl := Lib.hid hl
    go_enter Tryd.func10, Tryd.ntmps10
    go_wp2_with fail
    ((with_reducible refine (isPerm_any _ _ _ xs _ _ _ h hhi).mono ?_); rintro e w1 ⟨rfl, hb⟩)
    rw [hp.out]
    go_wp2_with fail
    go_ret2
    exact ⟨[], _, rfl, hF, hb⟩
theorem s_PermutationText_any (w : World) (A : Option Addr) (n c : Nat) (xs : List Int) {lo hi : Nat} (h : RI w lo hi A n xs) (hhi : hi ≤ w.heap.size) :
    Calls Tryd.prog 8 #[.slice A n c] w fun e w' => ∃ (s : List UInt8) (code : Int), e = .returned (.tuple #[.string (strB s), .int .i64 code]) ∧ Hid ((s, code) = ptF xs) ∧ Below w.heap.size w w' := by
  have hl := h.len
  by_cases hp : isPermB xs = true
  · have hF : (permB xs, (0 : Int)) = ptF xs := by simp [ptF, hp]
    obtain ⟨hP1, hP2, hP3⟩ := isPermB_iff.1 hp
    rw [hl] at hP1 hP2
    replace hF := Lib.hid hF
    replace hp := Lib.hid hp
    have hPt := fun V (hV : Below w.heap.size w V) => l01Text_any A n c xs V (h.below hV hhi) (by have := hV.size; omega) hP1 hP2
    clear hP1 hP2 hP3 hl
    go_enter Tryd.func8, Tryd.ntmps8
    go_wp2_with fail
    ((with_reducible refine (l01Perm_any _ _ _ xs _ _ _ h hhi).mono ?_); rintro e w1 ⟨rfl, hb⟩)
    rw [hp.out]
    have hs1 := hb.size
    have h2 := hPt w1 hb
    go_wp2_with fail
    ((with_reducible refine h2.mono ?_); rintro e w2 ⟨rfl, hb2⟩)
    go_wp2_with fail
    go_ret2
    exact ⟨_, _, rfl, hF, below_then hb hb2 hs1⟩
  · have hp : isPermB xs = false := by simpa using hp
    have hF : (([] : List UInt8), (1 : Int)) = ptF xs := by simp [ptF, hp]
    replace hF := Lib.hid hF
    replace hp := Lib.hid hp
    replace hl := Lib.hid hl
    go_enter Tryd.func8, Tryd.ntmps8
    go_wp2_with fail
    ((with_reducible refine (l01Perm_any _ _ _ xs _ _ _ h hhi).mono ?_); rintro e w1 ⟨rfl, hb⟩)
    rw [hp.out]
    go_wp2_with fail
    go_ret2
    exact ⟨[], _, rfl, hF, hb⟩
end Go.Proofs.YtbioelmofceaaaaDoor
