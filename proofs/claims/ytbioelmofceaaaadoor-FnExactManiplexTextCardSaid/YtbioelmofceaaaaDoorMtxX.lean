/- ManiplexText, the program's and the reference's. No condition but the sizes of memory, strconv's table of powers of ten and a cell of bytealg that holds a number. -/
import Derived.Test.YtbioelmofceaaaaDoorMtxS
namespace Go.Proofs.YtbioelmofceaaaaDoor
open Go.RowKit
set_option linter.unusedVariables false
set_option maxRecDepth 100000
/-- what ManiplexText returns -/
noncomputable def mtF (xss : List (List Int)) : List UInt8 × Int := if isManB xss = true then (txtB xss, 0) else ([], 1)
theorem man_small {xss : List (List Int)} (hP : ManP xss) : ∀ xs ∈ xss, xs.length ≤ 400 ∧ ∀ x ∈ xs, SmallI x := by
  intro xs hx
  obtain ⟨h3, _, h1⟩ := hP.sys xs hx
  have h4 := hP.f4
  refine ⟨by omega, fun x hx => ?_⟩
  have := h3 x hx
  exact ⟨by omega, by omega⟩
set_option maxHeartbeats 4000000 in
theorem i_ManiplexText_any (w : World) (A : Option Addr) (n c : Nat) (xss : List (List Int)) {lo hi : Nat} (h : RS w lo hi A n xss) (hhi : hi ≤ w.heap.size) (hnc : n ≤ c) {B : Nat} (hT : T10 B w) (hM : MX B w) (hB : B ≤ w.heap.size) :
    Calls Tryd.prog 23 #[.agg #[.slice A n c]] w fun e w' => ∃ (s : List UInt8) (code : Int), e = .returned (.tuple #[.string (strB s), .int .i64 code]) ∧ Hid ((s, code) = mtF xss) ∧ Below w.heap.size w w' := by
  have hm := h.max
  have hl := h.len
  have hR := rs_alloc h hhi (.cells #[.slice A n c] 44)
  have hC : (w.alloc (.cells #[.slice A n c] 44)).cell? ⟨w.heap.size, 0, none⟩ = some (.slice A n c) := al_new _ _ _ _ rfl
  have hB0 : Below w.heap.size w (w.alloc (.cells #[.slice A n c] 44)) := (Below.refl _ _).alloc (Nat.le_refl _) _
  have hIs := isMan_any A n c xss (w.alloc (.cells #[.slice A n c] 44)) hR (by simp; omega) hnc
  cases hMb : isManB xss with
  | false =>
    rw [hMb] at hIs
    have hF : (([] : List UInt8), (1 : Int)) = mtF xss := by unfold mtF; rw [hMb]; rfl
    replace hF := Lib.hid hF
    replace hMb := Lib.hid hMb
    go_enter Tryd.func23, Tryd.ntmps23
    go_wp2_with fail
    ((with_reducible refine hIs.mono ?_); rintro e w2 ⟨rfl, f2⟩)
    have B2 := hB0.trans (f2.mono (by simp))
    go_wp2_with fail
    go_ret2
    exact ⟨[], _, rfl, hF, B2⟩
  | true =>
    rw [hMb] at hIs
    have hP := isManB_iff.1 hMb
    have hs := man_small hP
    have hn5 : n ≤ 20 := by have := hP.r5; omega
    have hF : (txtB xss, (0 : Int)) = mtF xss := by unfold mtF; rw [if_pos hMb]
    replace hF := Lib.hid hF
    replace hMb := Lib.hid hMb
    replace hs := Lib.hid hs
    clear hP
    go_enter Tryd.func23, Tryd.ntmps23
    go_wp2_with fail
    ((with_reducible refine hIs.mono ?_); rintro e w2 ⟨rfl, f2⟩)
    have B2 := hB0.trans (f2.mono (by simp))
    have C2 := (f2.cell (p := ⟨w.heap.size, 0, none⟩) (by simp)).trans hC
    have y2 := B2.size
    have hTx := maniplexText_any A n c xss w2 (hR.below f2 (by simp; omega)) (by omega) hn5 hs.out (hT.on (B2.mono hB)) (hM.on (B2.mono hB)) (by omega)
    clear hR hC f2 hIs
    go_wp2_with fail
    ((with_reducible refine hTx.mono ?_); rintro e w3 ⟨rfl, f3⟩)
    have B3 := B2.trans (f3.mono y2)
    go_wp2_with fail
    go_ret2
    exact ⟨_, _, rfl, hF, B3⟩
set_option maxHeartbeats 4000000 in
theorem s_ManiplexText_any (w : World) (A : Option Addr) (n c : Nat) (xss : List (List Int)) {lo hi : Nat} (h : RS w lo hi A n xss) (hhi : hi ≤ w.heap.size) (hnc : n ≤ c) :
    Calls Tryd.prog 21 #[.agg #[.slice A n c]] w fun e w' => ∃ (s : List UInt8) (code : Int), e = .returned (.tuple #[.string (strB s), .int .i64 code]) ∧ Hid ((s, code) = mtF xss) ∧ Below w.heap.size w w' := by
  have hm := h.max
  have hl := h.len
  have hR := rs_alloc h hhi (.cells #[.slice A n c] 44)
  have hC : (w.alloc (.cells #[.slice A n c] 44)).cell? ⟨w.heap.size, 0, none⟩ = some (.slice A n c) := al_new _ _ _ _ rfl
  have hB0 : Below w.heap.size w (w.alloc (.cells #[.slice A n c] 44)) := (Below.refl _ _).alloc (Nat.le_refl _) _
  have hIs := l02Is_any A n c xss (w.alloc (.cells #[.slice A n c] 44)) hR (by simp; omega)
  cases hMb : isManB xss with
  | false =>
    rw [hMb] at hIs
    have hF : (([] : List UInt8), (1 : Int)) = mtF xss := by unfold mtF; rw [hMb]; rfl
    replace hF := Lib.hid hF
    replace hMb := Lib.hid hMb
    go_enter Tryd.func21, Tryd.ntmps21
    go_wp2_with fail
    ((with_reducible refine hIs.mono ?_); rintro e w2 ⟨rfl, f2⟩)
    have B2 := hB0.trans (f2.mono (by simp))
    go_wp2_with fail
    go_ret2
    exact ⟨[], _, rfl, hF, B2⟩
  | true =>
    rw [hMb] at hIs
    have hP := isManB_iff.1 hMb
    have hs := man_small hP
    have hn5 : n ≤ 20 := by have := hP.r5; omega
    have hF : (txtB xss, (0 : Int)) = mtF xss := by unfold mtF; rw [if_pos hMb]
    replace hF := Lib.hid hF
    replace hMb := Lib.hid hMb
    replace hs := Lib.hid hs
    clear hP
    go_enter Tryd.func21, Tryd.ntmps21
    go_wp2_with fail
    ((with_reducible refine hIs.mono ?_); rintro e w2 ⟨rfl, f2⟩)
    have B2 := hB0.trans (f2.mono (by simp))
    have C2 := (f2.cell (p := ⟨w.heap.size, 0, none⟩) (by simp)).trans hC
    have y2 := B2.size
    have hTx := l02Text_any A n c xss w2 (hR.below f2 (by simp; omega)) (by omega) hn5 hs.out
    clear hR hC f2 hIs
    go_wp2_with fail
    ((with_reducible refine hTx.mono ?_); rintro e w3 ⟨rfl, f3⟩)
    have B3 := B2.trans (f3.mono y2)
    go_wp2_with fail
    go_ret2
    exact ⟨_, _, rfl, hF, B3⟩
end Go.Proofs.YtbioelmofceaaaaDoor
