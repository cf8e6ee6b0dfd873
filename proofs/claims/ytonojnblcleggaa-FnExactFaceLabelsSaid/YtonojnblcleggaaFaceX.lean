/- Walks: FaceLabels, the program's and the reference's. No condition but the sizes of memory. -/
import Derived.Test.YtonojnblcleggaaFaceS
namespace Go.Proofs.Ytonojnblcleggaa
open Go.RowKit
set_option linter.unusedVariables false
set_option maxRecDepth 100000
/-- what FaceLabels returns -/
noncomputable def fclF (xss : List (List Int)) (x : Int) : List Int × Int :=
  if isManB xss = true then (if (decide ((0 : Int) ≤ x) && decide (x ≤ (xss.length : Int) - 1)) = true then (labL (xss.eraseIdx x.toNat) (flg xss), 0) else ([], 2)) else ([], 1)
set_option maxHeartbeats 4000000 in
theorem s_FaceLabels_any (w : World) (A : Option Addr) (n c : Nat) (xss : List (List Int)) {lo hi : Nat} (h : RS w lo hi A n xss) (hhi : hi ≤ w.heap.size) (hnc : n ≤ c) (x : Int) (hx : -9223372036854775808 ≤ x ∧ x ≤ 9223372036854775807) :
    Calls Try.prog 52 #[.agg #[.slice A n c], .int .i64 x] w fun e w' => ∃ (A1 : Option Addr) (n1 c1 : Nat) (zs : List Int) (code : Int), e = .returned (.tuple #[.slice A1 n1 c1, .int .i64 code]) ∧ Hid ((zs, code) = fclF xss x) ∧ Own w' w.heap.size w'.heap.size 2 A1 n1 c1 (zs.map (Value.int .i64)) ∧ n1 ≤ 1048576 ∧ Below w.heap.size w w' := by
  have hm := h.max
  have hl := h.len
  obtain ⟨hx0, hx1⟩ := hx
  have hR := rs_alloc h hhi (.cells #[.slice A n c] 46)
  have hC : (w.alloc (.cells #[.slice A n c] 46)).cell? ⟨w.heap.size, 0, none⟩ = some (.slice A n c) := al_new _ _ _ _ rfl
  have hB : Below w.heap.size w (w.alloc (.cells #[.slice A n c] 46)) := (Below.refl _ _).alloc (Nat.le_refl _) _
  cases hM : isManB xss with
  | false =>
    have hF : fclF xss x = ([], 1) := by unfold fclF; rw [hM]; rfl
    replace hF := Lib.hid hF
    replace hM := Lib.hid hM
    replace hl := Lib.hid hl
    go_enter Try.func52, Try.ntmps52
    go_wp2_with fail
    obtain ⟨W1, hW⟩ : ∃ W1 : World, w.alloc (.cells #[.slice A n c] 46) = W1 := ⟨_, rfl⟩
    have hz1 : W1.heap.size = w.heap.size + 1 := by rw [← hW]; simp
    rw [hW] at hR hC hB ⊢
    clear hW h 
    ((with_reducible refine (l02Is_any A n c xss _ hR (by omega)).mono ?_); rintro e w2 ⟨rfl, f2⟩)
    rw [hM.out]
    have y2 := f2.size
    have B2 : Below W1.heap.size W1 w2 := f2
    have C2 := (f2.cell (p := ⟨w.heap.size, 0, none⟩) (by simp; omega)).trans hC
    have R2 := hR.below f2 (by omega)
    go_wp2_with fail
    go_ret2
    exact ⟨_, 0, _, [], _, rfl, Lib.hid hF.out.symm, Own.nil, by omega, hB.trans (B2.mono (by omega))⟩
  | true =>
    have hP := isManB_iff.1 hM
    have hn1 : 1 ≤ n := by have := hP.r1; omega
    have hn5 : n ≤ 5 := by have := hP.r5; omega
    have hf2 := hP.f2
    have hf4 := hP.f4
    have hS := hP.sys
    replace hP := Lib.hid hP
    replace hS := Lib.hid hS
    cases hF1 : (decide ((0 : Int) ≤ x) && decide (x ≤ (n : Int) - 1)) with
    | false =>
      have hF : fclF xss x = ([], 2) := by unfold fclF; rw [hl]; rw [if_pos hM, hF1]; rfl
      replace hF := Lib.hid hF
      replace hM := Lib.hid hM
      replace hl := Lib.hid hl
      replace hF1 := Lib.hid hF1
      go_enter Try.func52, Try.ntmps52
      go_wp2_with fail
      obtain ⟨W1, hW⟩ : ∃ W1 : World, w.alloc (.cells #[.slice A n c] 46) = W1 := ⟨_, rfl⟩
      have hz1 : W1.heap.size = w.heap.size + 1 := by rw [← hW]; simp
      rw [hW] at hR hC hB ⊢
      clear hW h 
      ((with_reducible refine (l02Is_any A n c xss _ hR (by omega)).mono ?_); rintro e w2 ⟨rfl, f2⟩)
      rw [hM.out]
      have y2 := f2.size
      have B2 : Below W1.heap.size W1 w2 := f2
      have C2 := (f2.cell (p := ⟨w.heap.size, 0, none⟩) (by simp; omega)).trans hC
      have R2 := hR.below f2 (by omega)
      go_wp2_with fail
      ((with_reducible refine (in_any _ _ _ _).mono ?_); rintro e w' ⟨rfl, rfl⟩)
      rw [hF1.out]
      go_wp2_with fail
      go_ret2
      exact ⟨_, 0, _, [], _, rfl, Lib.hid hF.out.symm, Own.nil, by omega, hB.trans (B2.mono (by omega))⟩
    | true =>
      obtain ⟨hxa, hxb⟩ : (0 : Int) ≤ x ∧ x ≤ (n : Int) - 1 := by simpa using hF1
      obtain ⟨x, rfl⟩ : ∃ q : Nat, x = q := ⟨x.toNat, by omega⟩
      have hF : fclF xss x = (labL (xss.eraseIdx x) (flg xss), 0) := by unfold fclF; rw [hl]; rw [if_pos hM, if_pos hF1]; rw [Int.toNat_natCast]
      replace hF := Lib.hid hF
      replace hM := Lib.hid hM
      replace hl := Lib.hid hl
      replace hF1 := Lib.hid hF1
      go_enter Try.func52, Try.ntmps52
      go_wp2_with fail
      obtain ⟨W1, hW⟩ : ∃ W1 : World, w.alloc (.cells #[.slice A n c] 46) = W1 := ⟨_, rfl⟩
      have hz1 : W1.heap.size = w.heap.size + 1 := by rw [← hW]; simp
      rw [hW] at hR hC hB ⊢
      clear hW h 
      ((with_reducible refine (l02Is_any A n c xss _ hR (by omega)).mono ?_); rintro e w2 ⟨rfl, f2⟩)
      rw [hM.out]
      have y2 := f2.size
      have B2 : Below W1.heap.size W1 w2 := f2
      have C2 := (f2.cell (p := ⟨w.heap.size, 0, none⟩) (by simp; omega)).trans hC
      have R2 := hR.below f2 (by omega)
      go_wp2_with fail
      ((with_reducible refine (in_any _ _ _ _).mono ?_); rintro e w' ⟨rfl, rfl⟩)
      rw [hF1.out]
      go_wp2_with fail
      ((with_reducible refine (l02Faces_any A n c x xss _ R2 (by omega) (by omega) (by omega) _ rfl hf4 hS.out).mono ?_); rintro e w9 ⟨A9, c9, rfl, o9, f9⟩)
      have B9 : Below W1.heap.size W1 w9 := below_then B2 f9 (by omega)
      go_wp2_with fail
      go_ret2
      exact ⟨_, _, _, _, _, rfl, Lib.hid hF.out.symm, o9.more (by omega) (Nat.le_refl _), by omega, hB.trans (B9.mono (by omega))⟩
set_option maxHeartbeats 4000000 in
theorem i_FaceLabels_any (w : World) (A : Option Addr) (n c : Nat) (xss : List (List Int)) {lo hi : Nat} (h : RS w lo hi A n xss) (hhi : hi ≤ w.heap.size) (hnc : n ≤ c) (x : Int) (hx : -9223372036854775808 ≤ x ∧ x ≤ 9223372036854775807) :
    Calls Try.prog 53 #[.agg #[.slice A n c], .int .i64 x] w fun e w' => ∃ (A1 : Option Addr) (n1 c1 : Nat) (zs : List Int) (code : Int), e = .returned (.tuple #[.slice A1 n1 c1, .int .i64 code]) ∧ Hid ((zs, code) = fclF xss x) ∧ Own w' w.heap.size w'.heap.size 2 A1 n1 c1 (zs.map (Value.int .i64)) ∧ n1 ≤ 1048576 ∧ Below w.heap.size w w' := by
  have hm := h.max
  have hl := h.len
  obtain ⟨hx0, hx1⟩ := hx
  have hR := rs_alloc h hhi (.cells #[.slice A n c] 46)
  have hC : (w.alloc (.cells #[.slice A n c] 46)).cell? ⟨w.heap.size, 0, none⟩ = some (.slice A n c) := al_new _ _ _ _ rfl
  have hB : Below w.heap.size w (w.alloc (.cells #[.slice A n c] 46)) := (Below.refl _ _).alloc (Nat.le_refl _) _
  cases hM : isManB xss with
  | false =>
    have hF : fclF xss x = ([], 1) := by unfold fclF; rw [hM]; rfl
    replace hF := Lib.hid hF
    replace hM := Lib.hid hM
    replace hl := Lib.hid hl
    go_enter Try.func53, Try.ntmps53
    go_wp2_with fail
    obtain ⟨W1, hW⟩ : ∃ W1 : World, w.alloc (.cells #[.slice A n c] 46) = W1 := ⟨_, rfl⟩
    have hz1 : W1.heap.size = w.heap.size + 1 := by rw [← hW]; simp
    rw [hW] at hR hC hB ⊢
    clear hW h 
    ((with_reducible refine (isMan_any A n c xss _ hR (by omega) hnc).mono ?_); rintro e w2 ⟨rfl, f2⟩)
    rw [hM.out]
    have y2 := f2.size
    have B2 : Below W1.heap.size W1 w2 := f2
    have C2 := (f2.cell (p := ⟨w.heap.size, 0, none⟩) (by simp; omega)).trans hC
    have R2 := hR.below f2 (by omega)
    go_wp2_with fail
    go_ret2
    exact ⟨_, 0, _, [], _, rfl, Lib.hid hF.out.symm, Own.nil, by omega, hB.trans (B2.mono (by omega))⟩
  | true =>
    have hP := isManB_iff.1 hM
    have hn1 : 1 ≤ n := by have := hP.r1; omega
    have hn5 : n ≤ 5 := by have := hP.r5; omega
    have hf2 := hP.f2
    have hf4 := hP.f4
    have hS := hP.sys
    replace hP := Lib.hid hP
    replace hS := Lib.hid hS
    cases hF1 : (decide ((0 : Int) ≤ x) && decide (x ≤ (n : Int) - 1)) with
    | false =>
      have hF : fclF xss x = ([], 2) := by unfold fclF; rw [hl]; rw [if_pos hM, hF1]; rfl
      replace hF := Lib.hid hF
      replace hM := Lib.hid hM
      replace hl := Lib.hid hl
      replace hF1 := Lib.hid hF1
      go_enter Try.func53, Try.ntmps53
      go_wp2_with fail
      obtain ⟨W1, hW⟩ : ∃ W1 : World, w.alloc (.cells #[.slice A n c] 46) = W1 := ⟨_, rfl⟩
      have hz1 : W1.heap.size = w.heap.size + 1 := by rw [← hW]; simp
      rw [hW] at hR hC hB ⊢
      clear hW h 
      ((with_reducible refine (isMan_any A n c xss _ hR (by omega) hnc).mono ?_); rintro e w2 ⟨rfl, f2⟩)
      rw [hM.out]
      have y2 := f2.size
      have B2 : Below W1.heap.size W1 w2 := f2
      have C2 := (f2.cell (p := ⟨w.heap.size, 0, none⟩) (by simp; omega)).trans hC
      have R2 := hR.below f2 (by omega)
      go_wp2_with fail
      ((with_reducible refine (hasRank_any _ A n c _ _ C2 (by omega)).mono ?_); rintro e w' ⟨rfl, rfl⟩)
      rw [hF1.out]
      go_wp2_with fail
      go_ret2
      exact ⟨_, 0, _, [], _, rfl, Lib.hid hF.out.symm, Own.nil, by omega, hB.trans (B2.mono (by omega))⟩
    | true =>
      obtain ⟨hxa, hxb⟩ : (0 : Int) ≤ x ∧ x ≤ (n : Int) - 1 := by simpa using hF1
      obtain ⟨x, rfl⟩ : ∃ q : Nat, x = q := ⟨x.toNat, by omega⟩
      have hF : fclF xss x = (labL (xss.eraseIdx x) (flg xss), 0) := by unfold fclF; rw [hl]; rw [if_pos hM, if_pos hF1]; rw [Int.toNat_natCast]
      replace hF := Lib.hid hF
      replace hM := Lib.hid hM
      replace hl := Lib.hid hl
      replace hF1 := Lib.hid hF1
      go_enter Try.func53, Try.ntmps53
      go_wp2_with fail
      obtain ⟨W1, hW⟩ : ∃ W1 : World, w.alloc (.cells #[.slice A n c] 46) = W1 := ⟨_, rfl⟩
      have hz1 : W1.heap.size = w.heap.size + 1 := by rw [← hW]; simp
      rw [hW] at hR hC hB ⊢
      clear hW h 
      ((with_reducible refine (isMan_any A n c xss _ hR (by omega) hnc).mono ?_); rintro e w2 ⟨rfl, f2⟩)
      rw [hM.out]
      have y2 := f2.size
      have B2 : Below W1.heap.size W1 w2 := f2
      have C2 := (f2.cell (p := ⟨w.heap.size, 0, none⟩) (by simp; omega)).trans hC
      have R2 := hR.below f2 (by omega)
      go_wp2_with fail
      ((with_reducible refine (hasRank_any _ A n c _ _ C2 (by omega)).mono ?_); rintro e w' ⟨rfl, rfl⟩)
      rw [hF1.out]
      go_wp2_with fail
      ((with_reducible refine (faces_any _ A n c x xss _ C2 R2 (by omega) (by omega) (by omega) _ rfl hf4 hS.out).mono ?_); rintro e w9 ⟨A9, rfl, o9, f9⟩)
      have B9 : Below W1.heap.size W1 w9 := below_then B2 f9 (by omega)
      go_wp2_with fail
      go_ret2
      exact ⟨_, _, _, _, _, rfl, Lib.hid hF.out.symm, o9.more (by omega) (Nat.le_refl _), by omega, hB.trans (B9.mono (by omega))⟩
end Go.Proofs.Ytonojnblcleggaa
