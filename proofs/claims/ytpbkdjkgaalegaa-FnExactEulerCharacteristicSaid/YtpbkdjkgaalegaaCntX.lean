/- Walks: FaceCounts and EulerCharacteristic, the program's and the reference's. No condition but the sizes of memory. -/
import Derived.Test.YtpbkdjkgaalegaaCnt
namespace Go.Proofs.Ytpbkdjkgaalegaa
open Go.RowKit
set_option linter.unusedVariables false
set_option maxRecDepth 100000
/-- what FaceCounts returns -/
noncomputable def fcF (xss : List (List Int)) : List Int × Int := if isManB xss = true then (cntsL xss (flg xss), 0) else ([], 1)
/-- what EulerCharacteristic returns -/
noncomputable def eulF (xss : List (List Int)) : Int × Int := if isManB xss = true then (eulGo (cntsL xss (flg xss)) xss.length, 0) else (0, 1)
set_option maxHeartbeats 4000000 in
theorem s_FaceCounts_any (w : World) (A : Option Addr) (n c : Nat) (xss : List (List Int)) {lo hi : Nat} (h : RS w lo hi A n xss) (hhi : hi ≤ w.heap.size) (hnc : n ≤ c) :
    Calls Try.prog 31 #[.agg #[.slice A n c]] w fun e w' => ∃ (A1 : Option Addr) (n1 c1 : Nat) (zs : List Int) (code : Int), e = .returned (.tuple #[.slice A1 n1 c1, .int .i64 code]) ∧ Hid ((zs, code) = fcF xss) ∧ Own w' w.heap.size w'.heap.size 2 A1 n1 c1 (zs.map (Value.int .i64)) ∧ n1 ≤ 1048576 ∧ Below w.heap.size w w' := by
  have hm := h.max
  have hl := h.len
  have hR := rs_alloc h hhi (.cells #[.slice A n c] 29)
  have hC : (w.alloc (.cells #[.slice A n c] 29)).cell? ⟨w.heap.size, 0, none⟩ = some (.slice A n c) := al_new _ _ _ _ rfl
  have hB : Below w.heap.size w (w.alloc (.cells #[.slice A n c] 29)) := (Below.refl _ _).alloc (Nat.le_refl _) _
  cases hM : isManB xss with
  | false =>
    have hF : fcF xss = ([], 1) := by unfold fcF; rw [hM]; rfl
    replace hF := Lib.hid hF
    replace hM := Lib.hid hM
    replace hl := Lib.hid hl
    go_enter Try.func31, Try.ntmps31
    go_wp2_with fail
    obtain ⟨W1, hW⟩ : ∃ W1 : World, w.alloc (.cells #[.slice A n c] 29) = W1 := ⟨_, rfl⟩
    have hz1 : W1.heap.size = w.heap.size + 1 := by rw [← hW]; simp
    rw [hW] at hR hC hB ⊢
    clear hW h 
    ((with_reducible refine (l02Is_any A n c xss _ hR (by omega)).mono ?_); rintro e w2 ⟨rfl, f2⟩)
    rw [hM.out]
    have y2 := f2.size
    have B2 : Below W1.heap.size W1 w2 := f2
    have C2 := (f2.cell (p := ⟨w.heap.size, 0, none⟩) (by simp; omega)).trans hC
    have R2 := hR.below f2 (by omega)
    go_wp2_with fail
    go_ret2
    exact ⟨_, 0, _, [], _, rfl, Lib.hid hF.out.symm, Own.nil, by omega, hB.trans (B2.mono (by omega))⟩
  | true =>
    have hP := isManB_iff.1 hM
    have hn1 : 1 ≤ n := by have := hP.r1; omega
    have hn5 : n ≤ 5 := by have := hP.r5; omega
    have hf2 := hP.f2
    have hf4 := hP.f4
    have hS := hP.sys
    replace hP := Lib.hid hP
    replace hS := Lib.hid hS
    have hF : fcF xss = (cntsL xss (flg xss), 0) := by unfold fcF; rw [if_pos hM]
    replace hF := Lib.hid hF
    replace hM := Lib.hid hM
    replace hl := Lib.hid hl
    go_enter Try.func31, Try.ntmps31
    go_wp2_with fail
    obtain ⟨W1, hW⟩ : ∃ W1 : World, w.alloc (.cells #[.slice A n c] 29) = W1 := ⟨_, rfl⟩
    have hz1 : W1.heap.size = w.heap.size + 1 := by rw [← hW]; simp
    rw [hW] at hR hC hB ⊢
    clear hW h 
    ((with_reducible refine (l02Is_any A n c xss _ hR (by omega)).mono ?_); rintro e w2 ⟨rfl, f2⟩)
    rw [hM.out]
    have y2 := f2.size
    have B2 : Below W1.heap.size W1 w2 := f2
    have C2 := (f2.cell (p := ⟨w.heap.size, 0, none⟩) (by simp; omega)).trans hC
    have R2 := hR.below f2 (by omega)
    go_wp2_with fail
    ((with_reducible refine (l02Counts_any A n c xss _ R2 (by omega) (by omega) _ rfl hf4 hS.out).mono ?_); rintro e w9 ⟨A9, c9, rfl, o9, f9⟩)
    have B9 : Below W1.heap.size W1 w9 := below_then B2 f9 (by omega)
    go_wp2_with fail
    go_ret2
    exact ⟨_, _, _, _, _, rfl, Lib.hid hF.out.symm, o9.more (by omega) (Nat.le_refl _), by omega, hB.trans (B9.mono (by omega))⟩
set_option maxHeartbeats 4000000 in
theorem i_FaceCounts_any (w : World) (A : Option Addr) (n c : Nat) (xss : List (List Int)) {lo hi : Nat} (h : RS w lo hi A n xss) (hhi : hi ≤ w.heap.size) (hnc : n ≤ c) :
    Calls Try.prog 32 #[.agg #[.slice A n c]] w fun e w' => ∃ (A1 : Option Addr) (n1 c1 : Nat) (zs : List Int) (code : Int), e = .returned (.tuple #[.slice A1 n1 c1, .int .i64 code]) ∧ Hid ((zs, code) = fcF xss) ∧ Own w' w.heap.size w'.heap.size 2 A1 n1 c1 (zs.map (Value.int .i64)) ∧ n1 ≤ 1048576 ∧ Below w.heap.size w w' := by
  have hm := h.max
  have hl := h.len
  have hR := rs_alloc h hhi (.cells #[.slice A n c] 29)
  have hC : (w.alloc (.cells #[.slice A n c] 29)).cell? ⟨w.heap.size, 0, none⟩ = some (.slice A n c) := al_new _ _ _ _ rfl
  have hB : Below w.heap.size w (w.alloc (.cells #[.slice A n c] 29)) := (Below.refl _ _).alloc (Nat.le_refl _) _
  cases hM : isManB xss with
  | false =>
    have hF : fcF xss = ([], 1) := by unfold fcF; rw [hM]; rfl
    replace hF := Lib.hid hF
    replace hM := Lib.hid hM
    replace hl := Lib.hid hl
    go_enter Try.func32, Try.ntmps32
    go_wp2_with fail
    obtain ⟨W1, hW⟩ : ∃ W1 : World, w.alloc (.cells #[.slice A n c] 29) = W1 := ⟨_, rfl⟩
    have hz1 : W1.heap.size = w.heap.size + 1 := by rw [← hW]; simp
    rw [hW] at hR hC hB ⊢
    clear hW h 
    ((with_reducible refine (isMan_any A n c xss _ hR (by omega) hnc).mono ?_); rintro e w2 ⟨rfl, f2⟩)
    rw [hM.out]
    have y2 := f2.size
    have B2 : Below W1.heap.size W1 w2 := f2
    have C2 := (f2.cell (p := ⟨w.heap.size, 0, none⟩) (by simp; omega)).trans hC
    have R2 := hR.below f2 (by omega)
    go_wp2_with fail
    go_ret2
    exact ⟨_, 0, _, [], _, rfl, Lib.hid hF.out.symm, Own.nil, by omega, hB.trans (B2.mono (by omega))⟩
  | true =>
    have hP := isManB_iff.1 hM
    have hn1 : 1 ≤ n := by have := hP.r1; omega
    have hn5 : n ≤ 5 := by have := hP.r5; omega
    have hf2 := hP.f2
    have hf4 := hP.f4
    have hS := hP.sys
    replace hP := Lib.hid hP
    replace hS := Lib.hid hS
    have hF : fcF xss = (cntsL xss (flg xss), 0) := by unfold fcF; rw [if_pos hM]
    replace hF := Lib.hid hF
    replace hM := Lib.hid hM
    replace hl := Lib.hid hl
    go_enter Try.func32, Try.ntmps32
    go_wp2_with fail
    obtain ⟨W1, hW⟩ : ∃ W1 : World, w.alloc (.cells #[.slice A n c] 29) = W1 := ⟨_, rfl⟩
    have hz1 : W1.heap.size = w.heap.size + 1 := by rw [← hW]; simp
    rw [hW] at hR hC hB ⊢
    clear hW h 
    ((with_reducible refine (isMan_any A n c xss _ hR (by omega) hnc).mono ?_); rintro e w2 ⟨rfl, f2⟩)
    rw [hM.out]
    have y2 := f2.size
    have B2 : Below W1.heap.size W1 w2 := f2
    have C2 := (f2.cell (p := ⟨w.heap.size, 0, none⟩) (by simp; omega)).trans hC
    have R2 := hR.below f2 (by omega)
    go_wp2_with fail
    ((with_reducible refine (faceCounts_any _ A n c xss _ C2 (by omega) R2 (by omega) (by omega) _ rfl hf4 hS.out).mono ?_); rintro e w9 ⟨A9, c9, rfl, o9, f9⟩)
    have B9 : Below W1.heap.size W1 w9 := below_then B2 f9 (by omega)
    go_wp2_with fail
    go_ret2
    exact ⟨_, _, _, _, _, rfl, Lib.hid hF.out.symm, o9.more (by omega) (Nat.le_refl _), by omega, hB.trans (B9.mono (by omega))⟩
set_option maxHeartbeats 4000000 in
theorem s_EulerCharacteristic_any (w : World) (A : Option Addr) (n c : Nat) (xss : List (List Int)) {lo hi : Nat} (h : RS w lo hi A n xss) (hhi : hi ≤ w.heap.size) (hnc : n ≤ c) :
    Calls Try.prog 25 #[.agg #[.slice A n c]] w fun e w' => ∃ (y code : Int), e = .returned (.tuple #[.int .i64 y, .int .i64 code]) ∧ Hid ((y, code) = eulF xss) ∧ Below w.heap.size w w' := by
  have hm := h.max
  have hl := h.len
  have hR := rs_alloc h hhi (.cells #[.slice A n c] 29)
  have hC : (w.alloc (.cells #[.slice A n c] 29)).cell? ⟨w.heap.size, 0, none⟩ = some (.slice A n c) := al_new _ _ _ _ rfl
  have hB : Below w.heap.size w (w.alloc (.cells #[.slice A n c] 29)) := (Below.refl _ _).alloc (Nat.le_refl _) _
  cases hM : isManB xss with
  | false =>
    have hF : eulF xss = (0, 1) := by unfold eulF; rw [hM]; rfl
    replace hF := Lib.hid hF
    replace hM := Lib.hid hM
    replace hl := Lib.hid hl
    go_enter Try.func25, Try.ntmps25
    go_wp2_with fail
    obtain ⟨W1, hW⟩ : ∃ W1 : World, w.alloc (.cells #[.slice A n c] 29) = W1 := ⟨_, rfl⟩
    have hz1 : W1.heap.size = w.heap.size + 1 := by rw [← hW]; simp
    rw [hW] at hR hC hB ⊢
    clear hW h 
    ((with_reducible refine (l02Is_any A n c xss _ hR (by omega)).mono ?_); rintro e w2 ⟨rfl, f2⟩)
    rw [hM.out]
    have y2 := f2.size
    have B2 : Below W1.heap.size W1 w2 := f2
    have C2 := (f2.cell (p := ⟨w.heap.size, 0, none⟩) (by simp; omega)).trans hC
    have R2 := hR.below f2 (by omega)
    go_wp2_with fail
    go_ret2
    exact ⟨_, _, rfl, Lib.hid hF.out.symm, hB.trans (B2.mono (by omega))⟩
  | true =>
    have hP := isManB_iff.1 hM
    have hn1 : 1 ≤ n := by have := hP.r1; omega
    have hn5 : n ≤ 5 := by have := hP.r5; omega
    have hf2 := hP.f2
    have hf4 := hP.f4
    have hS := hP.sys
    replace hP := Lib.hid hP
    replace hS := Lib.hid hS
    have hF : eulF xss = (eulGo (cntsL xss (flg xss)) n, 0) := by unfold eulF; rw [if_pos hM]; rw [hl]
    have hcb := cntsL_bound (xss := xss) hf4
    replace hF := Lib.hid hF
    replace hM := Lib.hid hM
    replace hl := Lib.hid hl
    replace hcb := Lib.hid hcb
    go_enter Try.func25, Try.ntmps25
    go_wp2_with fail
    obtain ⟨W1, hW⟩ : ∃ W1 : World, w.alloc (.cells #[.slice A n c] 29) = W1 := ⟨_, rfl⟩
    have hz1 : W1.heap.size = w.heap.size + 1 := by rw [← hW]; simp
    rw [hW] at hR hC hB ⊢
    clear hW h 
    ((with_reducible refine (l02Is_any A n c xss _ hR (by omega)).mono ?_); rintro e w2 ⟨rfl, f2⟩)
    rw [hM.out]
    have y2 := f2.size
    have B2 : Below W1.heap.size W1 w2 := f2
    have C2 := (f2.cell (p := ⟨w.heap.size, 0, none⟩) (by simp; omega)).trans hC
    have R2 := hR.below f2 (by omega)
    go_wp2_with fail
    ((with_reducible refine (l02Counts_any A n c xss _ R2 (by omega) (by omega) _ rfl hf4 hS.out).mono ?_); rintro e w9 ⟨A9, c9, rfl, o9, f9⟩)
    have B9 : Below W1.heap.size W1 w9 := below_then B2 f9 (by omega)
    go_wp2_with fail
    ((with_reducible refine (l02Euler_any A9 n c9 _ _ o9.ri (by omega) hcb.out).mono ?_); rintro e w' ⟨rfl, rfl⟩)
    go_wp2_with fail
    go_ret2
    exact ⟨_, _, rfl, Lib.hid hF.out.symm, hB.trans (B9.mono (by omega))⟩
set_option maxHeartbeats 4000000 in
theorem i_EulerCharacteristic_any (w : World) (A : Option Addr) (n c : Nat) (xss : List (List Int)) {lo hi : Nat} (h : RS w lo hi A n xss) (hhi : hi ≤ w.heap.size) (hnc : n ≤ c) :
    Calls Try.prog 26 #[.agg #[.slice A n c]] w fun e w' => ∃ (y code : Int), e = .returned (.tuple #[.int .i64 y, .int .i64 code]) ∧ Hid ((y, code) = eulF xss) ∧ Below w.heap.size w w' := by
  have hm := h.max
  have hl := h.len
  have hR := rs_alloc h hhi (.cells #[.slice A n c] 29)
  have hC : (w.alloc (.cells #[.slice A n c] 29)).cell? ⟨w.heap.size, 0, none⟩ = some (.slice A n c) := al_new _ _ _ _ rfl
  have hB : Below w.heap.size w (w.alloc (.cells #[.slice A n c] 29)) := (Below.refl _ _).alloc (Nat.le_refl _) _
  cases hM : isManB xss with
  | false =>
    have hF : eulF xss = (0, 1) := by unfold eulF; rw [hM]; rfl
    replace hF := Lib.hid hF
    replace hM := Lib.hid hM
    replace hl := Lib.hid hl
    go_enter Try.func26, Try.ntmps26
    go_wp2_with fail
    obtain ⟨W1, hW⟩ : ∃ W1 : World, w.alloc (.cells #[.slice A n c] 29) = W1 := ⟨_, rfl⟩
    have hz1 : W1.heap.size = w.heap.size + 1 := by rw [← hW]; simp
    rw [hW] at hR hC hB ⊢
    clear hW h 
    ((with_reducible refine (isMan_any A n c xss _ hR (by omega) hnc).mono ?_); rintro e w2 ⟨rfl, f2⟩)
    rw [hM.out]
    have y2 := f2.size
    have B2 : Below W1.heap.size W1 w2 := f2
    have C2 := (f2.cell (p := ⟨w.heap.size, 0, none⟩) (by simp; omega)).trans hC
    have R2 := hR.below f2 (by omega)
    go_wp2_with fail
    go_ret2
    exact ⟨_, _, rfl, Lib.hid hF.out.symm, hB.trans (B2.mono (by omega))⟩
  | true =>
    have hP := isManB_iff.1 hM
    have hn1 : 1 ≤ n := by have := hP.r1; omega
    have hn5 : n ≤ 5 := by have := hP.r5; omega
    have hf2 := hP.f2
    have hf4 := hP.f4
    have hS := hP.sys
    replace hP := Lib.hid hP
    replace hS := Lib.hid hS
    have hF : eulF xss = (eulGo (cntsL xss (flg xss)) n, 0) := by unfold eulF; rw [if_pos hM]; rw [hl]
    have hcb := cntsL_bound (xss := xss) hf4
    replace hF := Lib.hid hF
    replace hM := Lib.hid hM
    replace hl := Lib.hid hl
    replace hcb := Lib.hid hcb
    go_enter Try.func26, Try.ntmps26
    go_wp2_with fail
    obtain ⟨W1, hW⟩ : ∃ W1 : World, w.alloc (.cells #[.slice A n c] 29) = W1 := ⟨_, rfl⟩
    have hz1 : W1.heap.size = w.heap.size + 1 := by rw [← hW]; simp
    rw [hW] at hR hC hB ⊢
    clear hW h 
    ((with_reducible refine (isMan_any A n c xss _ hR (by omega) hnc).mono ?_); rintro e w2 ⟨rfl, f2⟩)
    rw [hM.out]
    have y2 := f2.size
    have B2 : Below W1.heap.size W1 w2 := f2
    have C2 := (f2.cell (p := ⟨w.heap.size, 0, none⟩) (by simp; omega)).trans hC
    have R2 := hR.below f2 (by omega)
    go_wp2_with fail
    ((with_reducible refine (faceCounts_any _ A n c xss _ C2 (by omega) R2 (by omega) (by omega) _ rfl hf4 hS.out).mono ?_); rintro e w9 ⟨A9, c9, rfl, o9, f9⟩)
    have B9 : Below W1.heap.size W1 w9 := below_then B2 f9 (by omega)
    go_wp2_with fail
    ((with_reducible refine (eulerOf_any A9 n c9 _ _ o9.ri (by omega) hcb.out).mono ?_); rintro e w' ⟨rfl, rfl⟩)
    go_wp2_with fail
    go_ret2
    exact ⟨_, _, rfl, Lib.hid hF.out.symm, hB.trans (B9.mono (by omega))⟩
end Go.Proofs.Ytpbkdjkgaalegaa
