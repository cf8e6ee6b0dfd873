/- Walks: SectionAt and VertexFigureAt, the program's and the reference's. No condition but the sizes of memory. -/
import Derived.Test.YtpbkdjkgaalegaaSec
import Derived.Test.YtpbkdjkgaalegaaFormS
import Derived.Test.YtpbkdjkgaalegaaRun
namespace Go.Proofs.Ytpbkdjkgaalegaa
open Go.RowKit
set_option linter.unusedVariables false
set_option maxRecDepth 100000
set_option maxHeartbeats 4000000 in
theorem s_SectionAt_any (w : World) (A : Option Addr) (n c : Nat) (xss : List (List Int)) {lo hi : Nat} (h : RS w lo hi A n xss) (hhi : hi ≤ w.heap.size) (hnc : n ≤ c) (x : Int) (hx : -9223372036854775808 ≤ x ∧ x ≤ 9223372036854775807) (i : Int) (hi2 : -9223372036854775808 ≤ i ∧ i ≤ 9223372036854775807) (k : Int) (hk2 : -9223372036854775808 ≤ k ∧ k ≤ 9223372036854775807) :
    Calls Try.prog 22 #[.agg #[.slice A n c], .int .i64 x, .int .i64 i, .int .i64 k] w fun e w' => ∃ (A1 : Option Addr) (n1 c1 : Nat) (zss : List (List Int)) (code : Int), e = .returned (.tuple #[.agg #[.slice A1 n1 c1], .int .i64 code]) ∧ Hid ((zss, code) = secF xss x i k) ∧ OwnS w' w.heap.size w'.heap.size 26 2 A1 n1 c1 zss ∧ n1 + numsIn zss ≤ 1048576 ∧ Below w.heap.size w w' := by
  have hm := h.max
  have hl := h.len
  obtain ⟨hx0, hx1⟩ := hx
  obtain ⟨hi3, hi4⟩ := hi2
  obtain ⟨hk3, hk4⟩ := hk2
  have hR := rs_alloc (rs_alloc h hhi (.cells #[.slice A n c] 29)) (by simp; omega) (.cells #[.slice none 0 0] 29)
  have hC : ((w.alloc (.cells #[.slice A n c] 29)).alloc (.cells #[.slice none 0 0] 29)).cell? ⟨w.heap.size, 0, none⟩ = some (.slice A n c) := (al_old _ _ _ _ (by simp)).trans (al_new _ _ _ _ rfl)
  have hQ : ((w.alloc (.cells #[.slice A n c] 29)).alloc (.cells #[.slice none 0 0] 29)).heap[w.heap.size + 1]? = some (.cells #[.slice none 0 0] 29 (0, 0)) := heap_new _ _ _ (by simp)
  have hB : Below w.heap.size w ((w.alloc (.cells #[.slice A n c] 29)).alloc (.cells #[.slice none 0 0] 29)) := ((Below.refl _ _).alloc (Nat.le_refl _) _).alloc (by simp) _
  cases hM : isManB xss with
  | false =>
    have hF : secF xss x i k = ([], 1) := by unfold secF; rw [hM]; rfl
    replace hF := Lib.hid hF
    have hcode : codeF xss x i k = 1 := by unfold codeF; rw [hM]; try rfl
    replace hcode := Lib.hid hcode
    replace hM := Lib.hid hM
    replace hl := Lib.hid hl
    go_enter Try.func22, Try.ntmps22
    go_wp2_with fail
    obtain ⟨W1, hW⟩ : ∃ W1 : World, (w.alloc (.cells #[.slice A n c] 29)).alloc (.cells #[.slice none 0 0] 29) = W1 := ⟨_, rfl⟩
    have hz1 : W1.heap.size = w.heap.size + 2 := by rw [← hW]; simp
    rw [hW] at hR hC hB hQ ⊢
    replace hQ := Lib.hid hQ
    clear hW h 
    ((with_reducible refine (l04Code_any A n c xss x _ _ _ hR (by omega) ⟨hx0, hx1⟩).mono ?_); rintro e w2 ⟨rfl, f2⟩)
    rw [hcode.out]
    have y2 := f2.size
    have B2 : Below W1.heap.size W1 w2 := f2
    have C2 := (f2.cell (p := ⟨w.heap.size, 0, none⟩) (by simp; omega)).trans hC
    have R2 := hR.below f2 (by omega)
    have Q2 := (B2.block (w.heap.size + 1) (by omega)).trans hQ.out
    have CQ2 : w2.cell? ⟨w.heap.size + 1, 0, none⟩ = some (.slice none 0 0) := by rw [cell_of_row _ _ _ _ _ _ Q2]; rfl
    have FQ2 : w2.frozen? ⟨w.heap.size + 1, 0, none⟩ = false := frozen_of_row _ _ _ _ _ Q2
    replace Q2 := Lib.hid Q2
    go_wp2_with fail
    have g2 := heap_setCell_same _ _ 0 _ _ (Value.slice none 0 0) Q2.out
    (try simp only [Exit.inBlock, Exit.then])
    refine bodyPost_ret (v := .tuple #[.agg #[.slice none 0 0], .int .i64 1]) ?_ rfl ?_
    · exact results_cell_row2 rfl _ _ (w.heap.size + 1) 29 #[.slice none 0 0] (0, 0) _ rfl (by simpa using g2) Try.underlying29 rfl (by kernel_rfl) _ rfl
    · exact ⟨_, 0, _, [], _, rfl, Lib.hid hF.out.symm, OwnS.nil, by simp [numsIn], (hB.trans (B2.mono (by omega))).setCell (by simp) _⟩
  | true =>
    have hP := isManB_iff.1 hM
    have hn1 : 1 ≤ n := by have := hP.r1; omega
    have hn5 : n ≤ 5 := by have := hP.r5; omega
    have hf2 := hP.f2
    have hf4 := hP.f4
    have hS := hP.sys
    replace hP := Lib.hid hP
    replace hS := Lib.hid hS
    cases hF1 : inR 0 ((flg xss : Nat) - 1 : Int) x with
    | false =>
      have hF : secF xss x i k = ([], 2) := by unfold secF; rw [if_pos hM, hF1]; rfl
      replace hF := Lib.hid hF
      have hcode : codeF xss x i k = 2 := by unfold codeF; rw [if_pos hM, hF1]; try rfl
      replace hcode := Lib.hid hcode
      replace hM := Lib.hid hM
      replace hl := Lib.hid hl
      replace hF1 := Lib.hid hF1
      go_enter Try.func22, Try.ntmps22
      go_wp2_with fail
      obtain ⟨W1, hW⟩ : ∃ W1 : World, (w.alloc (.cells #[.slice A n c] 29)).alloc (.cells #[.slice none 0 0] 29) = W1 := ⟨_, rfl⟩
      have hz1 : W1.heap.size = w.heap.size + 2 := by rw [← hW]; simp
      rw [hW] at hR hC hB hQ ⊢
      replace hQ := Lib.hid hQ
      clear hW h 
      ((with_reducible refine (l04Code_any A n c xss x _ _ _ hR (by omega) ⟨hx0, hx1⟩).mono ?_); rintro e w2 ⟨rfl, f2⟩)
      rw [hcode.out]
      have y2 := f2.size
      have B2 : Below W1.heap.size W1 w2 := f2
      have C2 := (f2.cell (p := ⟨w.heap.size, 0, none⟩) (by simp; omega)).trans hC
      have R2 := hR.below f2 (by omega)
      have Q2 := (B2.block (w.heap.size + 1) (by omega)).trans hQ.out
      have CQ2 : w2.cell? ⟨w.heap.size + 1, 0, none⟩ = some (.slice none 0 0) := by rw [cell_of_row _ _ _ _ _ _ Q2]; rfl
      have FQ2 : w2.frozen? ⟨w.heap.size + 1, 0, none⟩ = false := frozen_of_row _ _ _ _ _ Q2
      replace Q2 := Lib.hid Q2
      go_wp2_with fail
      have g2 := heap_setCell_same _ _ 0 _ _ (Value.slice none 0 0) Q2.out
      (try simp only [Exit.inBlock, Exit.then])
      refine bodyPost_ret (v := .tuple #[.agg #[.slice none 0 0], .int .i64 2]) ?_ rfl ?_
      · exact results_cell_row2 rfl _ _ (w.heap.size + 1) 29 #[.slice none 0 0] (0, 0) _ rfl (by simpa using g2) Try.underlying29 rfl (by kernel_rfl) _ rfl
      · exact ⟨_, 0, _, [], _, rfl, Lib.hid hF.out.symm, OwnS.nil, by simp [numsIn], (hB.trans (B2.mono (by omega))).setCell (by simp) _⟩
    | true =>
      obtain ⟨hxa, hxb⟩ := inR_iff.1 hF1
      have hxc : x < (flg xss : Nat) := by omega
      cases hF2 : okR xss.length i k with
      | false =>
        have hF : secF xss x i k = ([], 2) := by unfold secF; rw [if_pos hM, if_pos hF1, hF2]; rfl
        replace hF := Lib.hid hF
        have hcode : codeF xss x i k = 2 := by unfold codeF; rw [if_pos hM, if_pos hF1, hF2]; try rfl
        replace hcode := Lib.hid hcode
        replace hM := Lib.hid hM
        replace hl := Lib.hid hl
        replace hF1 := Lib.hid hF1
        replace hF2 := Lib.hid hF2
        go_enter Try.func22, Try.ntmps22
        go_wp2_with fail
        obtain ⟨W1, hW⟩ : ∃ W1 : World, (w.alloc (.cells #[.slice A n c] 29)).alloc (.cells #[.slice none 0 0] 29) = W1 := ⟨_, rfl⟩
        have hz1 : W1.heap.size = w.heap.size + 2 := by rw [← hW]; simp
        rw [hW] at hR hC hB hQ ⊢
        replace hQ := Lib.hid hQ
        clear hW h 
        ((with_reducible refine (l04Code_any A n c xss x _ _ _ hR (by omega) ⟨hx0, hx1⟩).mono ?_); rintro e w2 ⟨rfl, f2⟩)
        rw [hcode.out]
        have y2 := f2.size
        have B2 : Below W1.heap.size W1 w2 := f2
        have C2 := (f2.cell (p := ⟨w.heap.size, 0, none⟩) (by simp; omega)).trans hC
        have R2 := hR.below f2 (by omega)
        have Q2 := (B2.block (w.heap.size + 1) (by omega)).trans hQ.out
        have CQ2 : w2.cell? ⟨w.heap.size + 1, 0, none⟩ = some (.slice none 0 0) := by rw [cell_of_row _ _ _ _ _ _ Q2]; rfl
        have FQ2 : w2.frozen? ⟨w.heap.size + 1, 0, none⟩ = false := frozen_of_row _ _ _ _ _ Q2
        replace Q2 := Lib.hid Q2
        go_wp2_with fail
        have g2 := heap_setCell_same _ _ 0 _ _ (Value.slice none 0 0) Q2.out
        (try simp only [Exit.inBlock, Exit.then])
        refine bodyPost_ret (v := .tuple #[.agg #[.slice none 0 0], .int .i64 2]) ?_ rfl ?_
        · exact results_cell_row2 rfl _ _ (w.heap.size + 1) 29 #[.slice none 0 0] (0, 0) _ rfl (by simpa using g2) Try.underlying29 rfl (by kernel_rfl) _ rfl
        · exact ⟨_, 0, _, [], _, rfl, Lib.hid hF.out.symm, OwnS.nil, by simp [numsIn], (hB.trans (B2.mono (by omega))).setCell (by simp) _⟩
      | true =>
        obtain ⟨hi0, hik0, hkn0⟩ := okR_iff.1 hF2
        rw [hl] at hkn0
        obtain ⟨i, rfl⟩ : ∃ q : Nat, i = q := ⟨i.toNat, by omega⟩
        obtain ⟨k, rfl⟩ : ∃ q : Nat, k = q := ⟨k.toNat, by omega⟩
        obtain ⟨b0, o0, A0, n0, c0, p0, rfl, _, _, _, _, _⟩ := h.at_ (k := 0) (by omega)
        have hik : i ≤ k := by omega
        have hkn : k < n := by omega
        have hci : ¬ c = i := by omega
        have hic : i ≤ c := by omega
        have hI1 : (i : Int) ≤ (k : Int) + 1 := by omega
        have hI2 : (k : Int) + 1 ≤ (n : Int) := by omega
        have hI3 : (k : Int) + 1 ≤ (c : Int) := by omega
        have hcode : codeF xss x i k = 0 := by unfold codeF; rw [if_pos hM, if_pos hF1, if_pos hF2]; try rfl
        replace hcode := Lib.hid hcode
        have hF : secF xss x i k = (formL (subL xss i (k + 1)) (flg xss) x, 0) := by unfold secF; rw [if_pos hM, if_pos hF1, if_pos hF2]; rw [Int.toNat_natCast, Int.toNat_natCast]
        have hsl : (subL xss i (k + 1)).length = k + 1 - i := subL_length (by omega) (by omega)
        have hnum := formL_nums (sysOf_sub hS.out i (k + 1)) hxa hxc hf4 (by omega)
        rw [formL_length, hsl] at hnum
        replace hsl := Lib.hid hsl
        replace hF := Lib.hid hF
        replace hM := Lib.hid hM
        replace hl := Lib.hid hl
        replace hF1 := Lib.hid hF1
        replace hF2 := Lib.hid hF2
        go_enter Try.func22, Try.ntmps22
        go_wp2_with fail
        obtain ⟨W1, hW⟩ : ∃ W1 : World, (w.alloc (.cells #[.slice (some ⟨b0, o0, none⟩) n c] 29)).alloc (.cells #[.slice none 0 0] 29) = W1 := ⟨_, rfl⟩
        have hz1 : W1.heap.size = w.heap.size + 2 := by rw [← hW]; simp
        rw [hW] at hR hC hB hQ ⊢
        replace hQ := Lib.hid hQ
        clear hW h 
        ((with_reducible refine (l04Code_any (some ⟨b0, o0, none⟩) n c xss x _ _ _ hR (by omega) ⟨hx0, hx1⟩).mono ?_); rintro e w2 ⟨rfl, f2⟩)
        rw [hcode.out]
        have y2 := f2.size
        have B2 : Below W1.heap.size W1 w2 := f2
        have C2 := (f2.cell (p := ⟨w.heap.size, 0, none⟩) (by simp; omega)).trans hC
        have R2 := hR.below f2 (by omega)
        have Q2 := (B2.block (w.heap.size + 1) (by omega)).trans hQ.out
        have CQ2 : w2.cell? ⟨w.heap.size + 1, 0, none⟩ = some (.slice none 0 0) := by rw [cell_of_row _ _ _ _ _ _ Q2]; rfl
        have FQ2 : w2.frozen? ⟨w.heap.size + 1, 0, none⟩ = false := frozen_of_row _ _ _ _ _ Q2
        replace Q2 := Lib.hid Q2
        go_wp2_with fail
        ((with_reducible refine (l04Section_any (flg xss) (some ⟨b0, o0, none⟩) n c xss x i k _ _ rfl rfl _ R2 (by omega) hnc hik hkn (by omega) rfl hf4 hS.out hxa hxc).mono ?_); rintro e w9 ⟨A9, c9, rfl, o9, f9⟩)
        have B9 : Below W1.heap.size W1 w9 := below_then B2 f9 (by omega)
        have Q9 := (B9.block (w.heap.size + 1) (by omega)).trans hQ.out
        have CQ9 : w9.cell? ⟨w.heap.size + 1, 0, none⟩ = some (.slice none 0 0) := by rw [cell_of_row _ _ _ _ _ _ Q9]; rfl
        have FQ9 : w9.frozen? ⟨w.heap.size + 1, 0, none⟩ = false := frozen_of_row _ _ _ _ _ Q9
        replace Q9 := Lib.hid Q9
        go_wp2_with fail
        have g2 := heap_setCell_same _ _ 0 _ _ (Value.slice A9 (k + 1 - i) c9) Q9.out
        (try simp only [Exit.inBlock, Exit.then])
        refine bodyPost_ret (v := .tuple #[.agg #[.slice A9 (k + 1 - i) c9], .int .i64 0]) ?_ rfl ?_
        · exact results_cell_row2 rfl _ _ (w.heap.size + 1) 29 #[.slice A9 (k + 1 - i) c9] (0, 0) _ rfl (by simpa using g2) Try.underlying29 rfl (by kernel_rfl) _ rfl
        · exact ⟨A9, _, c9, _, _, rfl, Lib.hid hF.out.symm, (o9.keep (same_set _ _ _ _ _ (.inl (by simp; omega)))).more (by omega) (by simp), hnum, (hB.trans (B9.mono (by omega))).setCell (by simp) _⟩
set_option maxHeartbeats 4000000 in
theorem i_SectionAt_any (w : World) (A : Option Addr) (n c : Nat) (xss : List (List Int)) {lo hi : Nat} (h : RS w lo hi A n xss) (hhi : hi ≤ w.heap.size) (hnc : n ≤ c) (x : Int) (hx : -9223372036854775808 ≤ x ∧ x ≤ 9223372036854775807) (i : Int) (hi2 : -9223372036854775808 ≤ i ∧ i ≤ 9223372036854775807) (k : Int) (hk2 : -9223372036854775808 ≤ k ∧ k ≤ 9223372036854775807) :
    Calls Try.prog 23 #[.agg #[.slice A n c], .int .i64 x, .int .i64 i, .int .i64 k] w fun e w' => ∃ (A1 : Option Addr) (n1 c1 : Nat) (zss : List (List Int)) (code : Int), e = .returned (.tuple #[.agg #[.slice A1 n1 c1], .int .i64 code]) ∧ Hid ((zss, code) = secF xss x i k) ∧ OwnS w' w.heap.size w'.heap.size 26 2 A1 n1 c1 zss ∧ n1 + numsIn zss ≤ 1048576 ∧ Below w.heap.size w w' := by
  have hm := h.max
  have hl := h.len
  obtain ⟨hx0, hx1⟩ := hx
  obtain ⟨hi3, hi4⟩ := hi2
  obtain ⟨hk3, hk4⟩ := hk2
  have hR := rs_alloc (rs_alloc h hhi (.cells #[.slice A n c] 29)) (by simp; omega) (.cells #[.slice none 0 0] 29)
  have hC : ((w.alloc (.cells #[.slice A n c] 29)).alloc (.cells #[.slice none 0 0] 29)).cell? ⟨w.heap.size, 0, none⟩ = some (.slice A n c) := (al_old _ _ _ _ (by simp)).trans (al_new _ _ _ _ rfl)
  have hQ : ((w.alloc (.cells #[.slice A n c] 29)).alloc (.cells #[.slice none 0 0] 29)).heap[w.heap.size + 1]? = some (.cells #[.slice none 0 0] 29 (0, 0)) := heap_new _ _ _ (by simp)
  have hB : Below w.heap.size w ((w.alloc (.cells #[.slice A n c] 29)).alloc (.cells #[.slice none 0 0] 29)) := ((Below.refl _ _).alloc (Nat.le_refl _) _).alloc (by simp) _
  cases hM : isManB xss with
  | false =>
    have hF : secF xss x i k = ([], 1) := by unfold secF; rw [hM]; rfl
    replace hF := Lib.hid hF
    replace hM := Lib.hid hM
    replace hl := Lib.hid hl
    go_enter Try.func23, Try.ntmps23
    go_wp2_with fail
    obtain ⟨W1, hW⟩ : ∃ W1 : World, (w.alloc (.cells #[.slice A n c] 29)).alloc (.cells #[.slice none 0 0] 29) = W1 := ⟨_, rfl⟩
    have hz1 : W1.heap.size = w.heap.size + 2 := by rw [← hW]; simp
    rw [hW] at hR hC hB hQ ⊢
    replace hQ := Lib.hid hQ
    clear hW h 
    ((with_reducible refine (isMan_any A n c xss _ hR (by omega) hnc).mono ?_); rintro e w2 ⟨rfl, f2⟩)
    rw [hM.out]
    have y2 := f2.size
    have B2 : Below W1.heap.size W1 w2 := f2
    have C2 := (f2.cell (p := ⟨w.heap.size, 0, none⟩) (by simp; omega)).trans hC
    have R2 := hR.below f2 (by omega)
    have Q2 := (B2.block (w.heap.size + 1) (by omega)).trans hQ.out
    have CQ2 : w2.cell? ⟨w.heap.size + 1, 0, none⟩ = some (.slice none 0 0) := by rw [cell_of_row _ _ _ _ _ _ Q2]; rfl
    have FQ2 : w2.frozen? ⟨w.heap.size + 1, 0, none⟩ = false := frozen_of_row _ _ _ _ _ Q2
    replace Q2 := Lib.hid Q2
    go_wp2_with fail
    have g2 := heap_setCell_same _ _ 0 _ _ (Value.slice none 0 0) Q2.out
    (try simp only [Exit.inBlock, Exit.then])
    refine bodyPost_ret (v := .tuple #[.agg #[.slice none 0 0], .int .i64 1]) ?_ rfl ?_
    · exact results_cell_row2 rfl _ _ (w.heap.size + 1) 29 #[.slice none 0 0] (0, 0) _ rfl (by simpa using g2) Try.underlying29 rfl (by kernel_rfl) _ rfl
    · exact ⟨_, 0, _, [], _, rfl, Lib.hid hF.out.symm, OwnS.nil, by simp [numsIn], (hB.trans (B2.mono (by omega))).setCell (by simp) _⟩
  | true =>
    have hP := isManB_iff.1 hM
    have hn1 : 1 ≤ n := by have := hP.r1; omega
    have hn5 : n ≤ 5 := by have := hP.r5; omega
    have hf2 := hP.f2
    have hf4 := hP.f4
    have hS := hP.sys
    replace hP := Lib.hid hP
    replace hS := Lib.hid hS
    cases hF1 : inR 0 ((flg xss : Nat) - 1 : Int) x with
    | false =>
      have hF : secF xss x i k = ([], 2) := by unfold secF; rw [if_pos hM, hF1]; rfl
      replace hF := Lib.hid hF
      replace hM := Lib.hid hM
      replace hl := Lib.hid hl
      replace hF1 := Lib.hid hF1
      go_enter Try.func23, Try.ntmps23
      go_wp2_with fail
      obtain ⟨W1, hW⟩ : ∃ W1 : World, (w.alloc (.cells #[.slice A n c] 29)).alloc (.cells #[.slice none 0 0] 29) = W1 := ⟨_, rfl⟩
      have hz1 : W1.heap.size = w.heap.size + 2 := by rw [← hW]; simp
      rw [hW] at hR hC hB hQ ⊢
      replace hQ := Lib.hid hQ
      clear hW h 
      ((with_reducible refine (isMan_any A n c xss _ hR (by omega) hnc).mono ?_); rintro e w2 ⟨rfl, f2⟩)
      rw [hM.out]
      have y2 := f2.size
      have B2 : Below W1.heap.size W1 w2 := f2
      have C2 := (f2.cell (p := ⟨w.heap.size, 0, none⟩) (by simp; omega)).trans hC
      have R2 := hR.below f2 (by omega)
      have Q2 := (B2.block (w.heap.size + 1) (by omega)).trans hQ.out
      have CQ2 : w2.cell? ⟨w.heap.size + 1, 0, none⟩ = some (.slice none 0 0) := by rw [cell_of_row _ _ _ _ _ _ Q2]; rfl
      have FQ2 : w2.frozen? ⟨w.heap.size + 1, 0, none⟩ = false := frozen_of_row _ _ _ _ _ Q2
      replace Q2 := Lib.hid Q2
      go_wp2_with fail
      ((with_reducible refine (hasFlag_any _ A n c xss x _ C2 R2 (by omega) hf4).mono ?_); rintro e w' ⟨rfl, rfl⟩)
      rw [hF1.out]
      go_wp2_with fail
      have g2 := heap_setCell_same _ _ 0 _ _ (Value.slice none 0 0) Q2.out
      (try simp only [Exit.inBlock, Exit.then])
      refine bodyPost_ret (v := .tuple #[.agg #[.slice none 0 0], .int .i64 2]) ?_ rfl ?_
      · exact results_cell_row2 rfl _ _ (w.heap.size + 1) 29 #[.slice none 0 0] (0, 0) _ rfl (by simpa using g2) Try.underlying29 rfl (by kernel_rfl) _ rfl
      · exact ⟨_, 0, _, [], _, rfl, Lib.hid hF.out.symm, OwnS.nil, by simp [numsIn], (hB.trans (B2.mono (by omega))).setCell (by simp) _⟩
    | true =>
      obtain ⟨hxa, hxb⟩ := inR_iff.1 hF1
      have hxc : x < (flg xss : Nat) := by omega
      cases hF2 : okR xss.length i k with
      | false =>
        have hF : secF xss x i k = ([], 2) := by unfold secF; rw [if_pos hM, if_pos hF1, hF2]; rfl
        replace hF := Lib.hid hF
        replace hM := Lib.hid hM
        replace hl := Lib.hid hl
        replace hF1 := Lib.hid hF1
        replace hF2 := Lib.hid hF2
        go_enter Try.func23, Try.ntmps23
        go_wp2_with fail
        obtain ⟨W1, hW⟩ : ∃ W1 : World, (w.alloc (.cells #[.slice A n c] 29)).alloc (.cells #[.slice none 0 0] 29) = W1 := ⟨_, rfl⟩
        have hz1 : W1.heap.size = w.heap.size + 2 := by rw [← hW]; simp
        rw [hW] at hR hC hB hQ ⊢
        replace hQ := Lib.hid hQ
        clear hW h 
        ((with_reducible refine (isMan_any A n c xss _ hR (by omega) hnc).mono ?_); rintro e w2 ⟨rfl, f2⟩)
        rw [hM.out]
        have y2 := f2.size
        have B2 : Below W1.heap.size W1 w2 := f2
        have C2 := (f2.cell (p := ⟨w.heap.size, 0, none⟩) (by simp; omega)).trans hC
        have R2 := hR.below f2 (by omega)
        have Q2 := (B2.block (w.heap.size + 1) (by omega)).trans hQ.out
        have CQ2 : w2.cell? ⟨w.heap.size + 1, 0, none⟩ = some (.slice none 0 0) := by rw [cell_of_row _ _ _ _ _ _ Q2]; rfl
        have FQ2 : w2.frozen? ⟨w.heap.size + 1, 0, none⟩ = false := frozen_of_row _ _ _ _ _ Q2
        replace Q2 := Lib.hid Q2
        go_wp2_with fail
        ((with_reducible refine (hasFlag_any _ A n c xss x _ C2 R2 (by omega) hf4).mono ?_); rintro e w' ⟨rfl, rfl⟩)
        rw [hF1.out]
        go_wp2_with fail
        ((with_reducible refine (areRanks_any _ A n c xss _ _ _ C2 (by omega) hl.out).mono ?_); rintro e w' ⟨rfl, rfl⟩)
        rw [hF2.out]
        go_wp2_with fail
        have g2 := heap_setCell_same _ _ 0 _ _ (Value.slice none 0 0) Q2.out
        (try simp only [Exit.inBlock, Exit.then])
        refine bodyPost_ret (v := .tuple #[.agg #[.slice none 0 0], .int .i64 2]) ?_ rfl ?_
        · exact results_cell_row2 rfl _ _ (w.heap.size + 1) 29 #[.slice none 0 0] (0, 0) _ rfl (by simpa using g2) Try.underlying29 rfl (by kernel_rfl) _ rfl
        · exact ⟨_, 0, _, [], _, rfl, Lib.hid hF.out.symm, OwnS.nil, by simp [numsIn], (hB.trans (B2.mono (by omega))).setCell (by simp) _⟩
      | true =>
        obtain ⟨hi0, hik0, hkn0⟩ := okR_iff.1 hF2
        rw [hl] at hkn0
        obtain ⟨i, rfl⟩ : ∃ q : Nat, i = q := ⟨i.toNat, by omega⟩
        obtain ⟨k, rfl⟩ : ∃ q : Nat, k = q := ⟨k.toNat, by omega⟩
        obtain ⟨b0, o0, A0, n0, c0, p0, rfl, _, _, _, _, _⟩ := h.at_ (k := 0) (by omega)
        have hik : i ≤ k := by omega
        have hkn : k < n := by omega
        have hci : ¬ c = i := by omega
        have hic : i ≤ c := by omega
        have hI1 : (i : Int) ≤ (k : Int) + 1 := by omega
        have hI2 : (k : Int) + 1 ≤ (n : Int) := by omega
        have hI3 : (k : Int) + 1 ≤ (c : Int) := by omega
        have hF : secF xss x i k = (formL (subL xss i (k + 1)) (flg xss) x, 0) := by unfold secF; rw [if_pos hM, if_pos hF1, if_pos hF2]; rw [Int.toNat_natCast, Int.toNat_natCast]
        have hsl : (subL xss i (k + 1)).length = k + 1 - i := subL_length (by omega) (by omega)
        have hnum := formL_nums (sysOf_sub hS.out i (k + 1)) hxa hxc hf4 (by omega)
        rw [formL_length, hsl] at hnum
        replace hsl := Lib.hid hsl
        replace hF := Lib.hid hF
        replace hM := Lib.hid hM
        replace hl := Lib.hid hl
        replace hF1 := Lib.hid hF1
        replace hF2 := Lib.hid hF2
        go_enter Try.func23, Try.ntmps23
        go_wp2_with fail
        obtain ⟨W1, hW⟩ : ∃ W1 : World, (w.alloc (.cells #[.slice (some ⟨b0, o0, none⟩) n c] 29)).alloc (.cells #[.slice none 0 0] 29) = W1 := ⟨_, rfl⟩
        have hz1 : W1.heap.size = w.heap.size + 2 := by rw [← hW]; simp
        rw [hW] at hR hC hB hQ ⊢
        replace hQ := Lib.hid hQ
        clear hW h 
        ((with_reducible refine (isMan_any (some ⟨b0, o0, none⟩) n c xss _ hR (by omega) hnc).mono ?_); rintro e w2 ⟨rfl, f2⟩)
        rw [hM.out]
        have y2 := f2.size
        have B2 : Below W1.heap.size W1 w2 := f2
        have C2 := (f2.cell (p := ⟨w.heap.size, 0, none⟩) (by simp; omega)).trans hC
        have R2 := hR.below f2 (by omega)
        have Q2 := (B2.block (w.heap.size + 1) (by omega)).trans hQ.out
        have CQ2 : w2.cell? ⟨w.heap.size + 1, 0, none⟩ = some (.slice none 0 0) := by rw [cell_of_row _ _ _ _ _ _ Q2]; rfl
        have FQ2 : w2.frozen? ⟨w.heap.size + 1, 0, none⟩ = false := frozen_of_row _ _ _ _ _ Q2
        replace Q2 := Lib.hid Q2
        go_wp2_with fail
        ((with_reducible refine (hasFlag_any _ (some ⟨b0, o0, none⟩) n c xss x _ C2 R2 (by omega) hf4).mono ?_); rintro e w' ⟨rfl, rfl⟩)
        rw [hF1.out]
        go_wp2_with fail
        ((with_reducible refine (areRanks_any _ (some ⟨b0, o0, none⟩) n c xss _ _ _ C2 (by omega) hl.out).mono ?_); rintro e w' ⟨rfl, rfl⟩)
        rw [hF2.out]
        go_wp2_with fail
        ((with_reducible refine (formFrom_any (flg xss) (some ⟨b0, o0 + i, none⟩) (k + 1 - i) (c - i) (subL xss i (k + 1)) x _ (rs_sub R2 (by omega) (by omega) (fun _ => rfl)) (by omega) (by omega) (by omega) hf4 (sysOf_sub hS.out i (k + 1)) hxa hxc).mono ?_); rintro e w9 ⟨A9, c9, rfl, o9, f9⟩)
        have B9 : Below W1.heap.size W1 w9 := below_then B2 f9 (by omega)
        have Q9 := (B9.block (w.heap.size + 1) (by omega)).trans hQ.out
        have CQ9 : w9.cell? ⟨w.heap.size + 1, 0, none⟩ = some (.slice none 0 0) := by rw [cell_of_row _ _ _ _ _ _ Q9]; rfl
        have FQ9 : w9.frozen? ⟨w.heap.size + 1, 0, none⟩ = false := frozen_of_row _ _ _ _ _ Q9
        replace Q9 := Lib.hid Q9
        go_wp2_with fail
        have g2 := heap_setCell_same _ _ 0 _ _ (Value.slice A9 (k + 1 - i) c9) Q9.out
        (try simp only [Exit.inBlock, Exit.then])
        refine bodyPost_ret (v := .tuple #[.agg #[.slice A9 (k + 1 - i) c9], .int .i64 0]) ?_ rfl ?_
        · exact results_cell_row2 rfl _ _ (w.heap.size + 1) 29 #[.slice A9 (k + 1 - i) c9] (0, 0) _ rfl (by simpa using g2) Try.underlying29 rfl (by kernel_rfl) _ rfl
        · exact ⟨A9, _, c9, _, _, rfl, Lib.hid hF.out.symm, (o9.keep (same_set _ _ _ _ _ (.inl (by simp; omega)))).more (by omega) (by simp), hnum, (hB.trans (B9.mono (by omega))).setCell (by simp) _⟩
set_option maxHeartbeats 4000000 in
theorem s_VertexFigureAt_any (w : World) (A : Option Addr) (n c : Nat) (xss : List (List Int)) {lo hi : Nat} (h : RS w lo hi A n xss) (hhi : hi ≤ w.heap.size) (hnc : n ≤ c) (x : Int) (hx : -9223372036854775808 ≤ x ∧ x ≤ 9223372036854775807) :
    Calls Try.prog 29 #[.agg #[.slice A n c], .int .i64 x] w fun e w' => ∃ (A1 : Option Addr) (n1 c1 : Nat) (zss : List (List Int)) (code : Int), e = .returned (.tuple #[.agg #[.slice A1 n1 c1], .int .i64 code]) ∧ Hid ((zss, code) = vfgF xss x) ∧ OwnS w' w.heap.size w'.heap.size 26 2 A1 n1 c1 zss ∧ n1 + numsIn zss ≤ 1048576 ∧ Below w.heap.size w w' := by
  have hm := h.max
  have hl := h.len
  obtain ⟨hx0, hx1⟩ := hx
  have hR := rs_alloc (rs_alloc h hhi (.cells #[.slice A n c] 29)) (by simp; omega) (.cells #[.slice none 0 0] 29)
  have hC : ((w.alloc (.cells #[.slice A n c] 29)).alloc (.cells #[.slice none 0 0] 29)).cell? ⟨w.heap.size, 0, none⟩ = some (.slice A n c) := (al_old _ _ _ _ (by simp)).trans (al_new _ _ _ _ rfl)
  have hQ : ((w.alloc (.cells #[.slice A n c] 29)).alloc (.cells #[.slice none 0 0] 29)).heap[w.heap.size + 1]? = some (.cells #[.slice none 0 0] 29 (0, 0)) := heap_new _ _ _ (by simp)
  have hB : Below w.heap.size w ((w.alloc (.cells #[.slice A n c] 29)).alloc (.cells #[.slice none 0 0] 29)) := ((Below.refl _ _).alloc (Nat.le_refl _) _).alloc (by simp) _
  cases hM : isManB xss with
  | false =>
    have hF : vfgF xss x = ([], 1) := by unfold vfgF; rw [hM]; rfl
    replace hF := Lib.hid hF
    have hcode : codeF xss x 0 0 = 1 := by unfold codeF; rw [hM]; try rfl
    replace hcode := Lib.hid hcode
    replace hM := Lib.hid hM
    replace hl := Lib.hid hl
    go_enter Try.func29, Try.ntmps29
    go_wp2_with fail
    obtain ⟨W1, hW⟩ : ∃ W1 : World, (w.alloc (.cells #[.slice A n c] 29)).alloc (.cells #[.slice none 0 0] 29) = W1 := ⟨_, rfl⟩
    have hz1 : W1.heap.size = w.heap.size + 2 := by rw [← hW]; simp
    rw [hW] at hR hC hB hQ ⊢
    replace hQ := Lib.hid hQ
    clear hW h 
    ((with_reducible refine (l04Code_any A n c xss x _ _ _ hR (by omega) ⟨hx0, hx1⟩).mono ?_); rintro e w2 ⟨rfl, f2⟩)
    rw [hcode.out]
    have y2 := f2.size
    have B2 : Below W1.heap.size W1 w2 := f2
    have C2 := (f2.cell (p := ⟨w.heap.size, 0, none⟩) (by simp; omega)).trans hC
    have R2 := hR.below f2 (by omega)
    have Q2 := (B2.block (w.heap.size + 1) (by omega)).trans hQ.out
    have CQ2 : w2.cell? ⟨w.heap.size + 1, 0, none⟩ = some (.slice none 0 0) := by rw [cell_of_row _ _ _ _ _ _ Q2]; rfl
    have FQ2 : w2.frozen? ⟨w.heap.size + 1, 0, none⟩ = false := frozen_of_row _ _ _ _ _ Q2
    replace Q2 := Lib.hid Q2
    go_wp2_with fail
    have g2 := heap_setCell_same _ _ 0 _ _ (Value.slice none 0 0) Q2.out
    (try simp only [Exit.inBlock, Exit.then])
    refine bodyPost_ret (v := .tuple #[.agg #[.slice none 0 0], .int .i64 1]) ?_ rfl ?_
    · exact results_cell_row2 rfl _ _ (w.heap.size + 1) 29 #[.slice none 0 0] (0, 0) _ rfl (by simpa using g2) Try.underlying29 rfl (by kernel_rfl) _ rfl
    · exact ⟨_, 0, _, [], _, rfl, Lib.hid hF.out.symm, OwnS.nil, by simp [numsIn], (hB.trans (B2.mono (by omega))).setCell (by simp) _⟩
  | true =>
    have hP := isManB_iff.1 hM
    have hn1 : 1 ≤ n := by have := hP.r1; omega
    have hn5 : n ≤ 5 := by have := hP.r5; omega
    have hf2 := hP.f2
    have hf4 := hP.f4
    have hS := hP.sys
    replace hP := Lib.hid hP
    replace hS := Lib.hid hS
    cases hF1 : inR 0 ((flg xss : Nat) - 1 : Int) x with
    | false =>
      have hF : vfgF xss x = ([], 2) := by unfold vfgF; rw [if_pos hM, hF1]; rfl
      replace hF := Lib.hid hF
      have hcode : codeF xss x 0 0 = 2 := by unfold codeF; rw [if_pos hM, hF1]; try rfl
      replace hcode := Lib.hid hcode
      replace hM := Lib.hid hM
      replace hl := Lib.hid hl
      replace hF1 := Lib.hid hF1
      go_enter Try.func29, Try.ntmps29
      go_wp2_with fail
      obtain ⟨W1, hW⟩ : ∃ W1 : World, (w.alloc (.cells #[.slice A n c] 29)).alloc (.cells #[.slice none 0 0] 29) = W1 := ⟨_, rfl⟩
      have hz1 : W1.heap.size = w.heap.size + 2 := by rw [← hW]; simp
      rw [hW] at hR hC hB hQ ⊢
      replace hQ := Lib.hid hQ
      clear hW h 
      ((with_reducible refine (l04Code_any A n c xss x _ _ _ hR (by omega) ⟨hx0, hx1⟩).mono ?_); rintro e w2 ⟨rfl, f2⟩)
      rw [hcode.out]
      have y2 := f2.size
      have B2 : Below W1.heap.size W1 w2 := f2
      have C2 := (f2.cell (p := ⟨w.heap.size, 0, none⟩) (by simp; omega)).trans hC
      have R2 := hR.below f2 (by omega)
      have Q2 := (B2.block (w.heap.size + 1) (by omega)).trans hQ.out
      have CQ2 : w2.cell? ⟨w.heap.size + 1, 0, none⟩ = some (.slice none 0 0) := by rw [cell_of_row _ _ _ _ _ _ Q2]; rfl
      have FQ2 : w2.frozen? ⟨w.heap.size + 1, 0, none⟩ = false := frozen_of_row _ _ _ _ _ Q2
      replace Q2 := Lib.hid Q2
      go_wp2_with fail
      have g2 := heap_setCell_same _ _ 0 _ _ (Value.slice none 0 0) Q2.out
      (try simp only [Exit.inBlock, Exit.then])
      refine bodyPost_ret (v := .tuple #[.agg #[.slice none 0 0], .int .i64 2]) ?_ rfl ?_
      · exact results_cell_row2 rfl _ _ (w.heap.size + 1) 29 #[.slice none 0 0] (0, 0) _ rfl (by simpa using g2) Try.underlying29 rfl (by kernel_rfl) _ rfl
      · exact ⟨_, 0, _, [], _, rfl, Lib.hid hF.out.symm, OwnS.nil, by simp [numsIn], (hB.trans (B2.mono (by omega))).setCell (by simp) _⟩
    | true =>
      obtain ⟨hxa, hxb⟩ := inR_iff.1 hF1
      have hxc : x < (flg xss : Nat) := by omega
      have hok0 : okR xss.length 0 0 = true := okR_iff.2 (by omega)
      cases hF2 : decide (xss.length ≠ 1) with
      | false =>
        have hn11 : n = 1 := by rw [← hl]; simpa using hF2
        have hF : vfgF xss x = ([], 5) := by unfold vfgF; rw [if_pos hM, if_pos hF1, hF2]; rfl
        replace hF := Lib.hid hF
        have hcode : codeF xss x 0 0 = 0 := by unfold codeF; rw [if_pos hM, if_pos hF1, if_pos hok0]; try rfl
        replace hcode := Lib.hid hcode
        have hq1 : (((n : Nat) : Int) == 1) = true := by simp; omega
        replace hn11 := Lib.hid hn11
        replace hM := Lib.hid hM
        replace hl := Lib.hid hl
        replace hF1 := Lib.hid hF1
        replace hF2 := Lib.hid hF2
        go_enter Try.func29, Try.ntmps29
        go_wp2_with fail
        obtain ⟨W1, hW⟩ : ∃ W1 : World, (w.alloc (.cells #[.slice A n c] 29)).alloc (.cells #[.slice none 0 0] 29) = W1 := ⟨_, rfl⟩
        have hz1 : W1.heap.size = w.heap.size + 2 := by rw [← hW]; simp
        rw [hW] at hR hC hB hQ ⊢
        replace hQ := Lib.hid hQ
        clear hW h 
        ((with_reducible refine (l04Code_any A n c xss x _ _ _ hR (by omega) ⟨hx0, hx1⟩).mono ?_); rintro e w2 ⟨rfl, f2⟩)
        rw [hcode.out]
        have y2 := f2.size
        have B2 : Below W1.heap.size W1 w2 := f2
        have C2 := (f2.cell (p := ⟨w.heap.size, 0, none⟩) (by simp; omega)).trans hC
        have R2 := hR.below f2 (by omega)
        have Q2 := (B2.block (w.heap.size + 1) (by omega)).trans hQ.out
        have CQ2 : w2.cell? ⟨w.heap.size + 1, 0, none⟩ = some (.slice none 0 0) := by rw [cell_of_row _ _ _ _ _ _ Q2]; rfl
        have FQ2 : w2.frozen? ⟨w.heap.size + 1, 0, none⟩ = false := frozen_of_row _ _ _ _ _ Q2
        replace Q2 := Lib.hid Q2
        go_wp2_with fail
        have g2 := heap_setCell_same _ _ 0 _ _ (Value.slice none 0 0) Q2.out
        (try simp only [Exit.inBlock, Exit.then])
        refine bodyPost_ret (v := .tuple #[.agg #[.slice none 0 0], .int .i64 5]) ?_ rfl ?_
        · exact results_cell_row2 rfl _ _ (w.heap.size + 1) 29 #[.slice none 0 0] (0, 0) _ rfl (by simpa using g2) Try.underlying29 rfl (by kernel_rfl) _ rfl
        · exact ⟨_, 0, _, [], _, rfl, Lib.hid hF.out.symm, OwnS.nil, by simp [numsIn], (hB.trans (B2.mono (by omega))).setCell (by simp) _⟩
      | true =>
        have hn2 : ¬ n = 1 := by have h9 := of_decide_eq_true hF2; omega
        have hq1 : (((n : Nat) : Int) == 1) = false := by simp; omega
        obtain ⟨b0, o0, A0, n0, c0, p0, rfl, _, _, _, _, _⟩ := h.at_ (k := 0) (by omega)
        have hci : ¬ c = 1 := by omega
        have hic : 1 ≤ c := by omega
        have hI2 : (1 : Int) ≤ (n : Int) := by omega
        have hI3 : (1 : Int) ≤ (c : Int) := by omega
        have hcode : codeF xss x 0 0 = 0 := by unfold codeF; rw [if_pos hM, if_pos hF1, if_pos hok0]; try rfl
        replace hcode := Lib.hid hcode
        have hF : vfgF xss x = (formL (subL xss 1 n) (flg xss) x, 0) := by unfold vfgF; rw [if_pos hM, if_pos hF1, if_pos hF2]; rw [hl]
        have hsl : (subL xss 1 n).length = n - 1 := subL_length (by omega) (by omega)
        have hnum := formL_nums (sysOf_sub hS.out 1 n) hxa hxc hf4 (by omega)
        rw [formL_length, hsl] at hnum
        replace hsl := Lib.hid hsl
        replace hF := Lib.hid hF
        replace hM := Lib.hid hM
        replace hl := Lib.hid hl
        replace hF1 := Lib.hid hF1
        replace hF2 := Lib.hid hF2
        go_enter Try.func29, Try.ntmps29
        go_wp2_with fail
        obtain ⟨W1, hW⟩ : ∃ W1 : World, (w.alloc (.cells #[.slice (some ⟨b0, o0, none⟩) n c] 29)).alloc (.cells #[.slice none 0 0] 29) = W1 := ⟨_, rfl⟩
        have hz1 : W1.heap.size = w.heap.size + 2 := by rw [← hW]; simp
        rw [hW] at hR hC hB hQ ⊢
        replace hQ := Lib.hid hQ
        clear hW h 
        ((with_reducible refine (l04Code_any (some ⟨b0, o0, none⟩) n c xss x _ _ _ hR (by omega) ⟨hx0, hx1⟩).mono ?_); rintro e w2 ⟨rfl, f2⟩)
        rw [hcode.out]
        have y2 := f2.size
        have B2 : Below W1.heap.size W1 w2 := f2
        have C2 := (f2.cell (p := ⟨w.heap.size, 0, none⟩) (by simp; omega)).trans hC
        have R2 := hR.below f2 (by omega)
        have Q2 := (B2.block (w.heap.size + 1) (by omega)).trans hQ.out
        have CQ2 : w2.cell? ⟨w.heap.size + 1, 0, none⟩ = some (.slice none 0 0) := by rw [cell_of_row _ _ _ _ _ _ Q2]; rfl
        have FQ2 : w2.frozen? ⟨w.heap.size + 1, 0, none⟩ = false := frozen_of_row _ _ _ _ _ Q2
        replace Q2 := Lib.hid Q2
        go_wp2_with fail
        have hks : n - 1 + 1 = n := by omega
        have hsec := l04Section_any (flg xss) (some ⟨b0, o0, none⟩) n c xss x 1 (n - 1) 1 ((n : Int) - 1) rfl (by omega) _ R2 (by omega) hnc (by omega) (by omega) (by omega) rfl hf4 hS.out hxa hxc
        rw [hks] at hsec
        ((with_reducible refine hsec.mono ?_); rintro e w9 ⟨A9, c9, rfl, o9, f9⟩)
        have B9 : Below W1.heap.size W1 w9 := below_then B2 f9 (by omega)
        have Q9 := (B9.block (w.heap.size + 1) (by omega)).trans hQ.out
        have CQ9 : w9.cell? ⟨w.heap.size + 1, 0, none⟩ = some (.slice none 0 0) := by rw [cell_of_row _ _ _ _ _ _ Q9]; rfl
        have FQ9 : w9.frozen? ⟨w.heap.size + 1, 0, none⟩ = false := frozen_of_row _ _ _ _ _ Q9
        replace Q9 := Lib.hid Q9
        go_wp2_with fail
        have g2 := heap_setCell_same _ _ 0 _ _ (Value.slice A9 (n - 1) c9) Q9.out
        (try simp only [Exit.inBlock, Exit.then])
        refine bodyPost_ret (v := .tuple #[.agg #[.slice A9 (n - 1) c9], .int .i64 0]) ?_ rfl ?_
        · exact results_cell_row2 rfl _ _ (w.heap.size + 1) 29 #[.slice A9 (n - 1) c9] (0, 0) _ rfl (by simpa using g2) Try.underlying29 rfl (by kernel_rfl) _ rfl
        · exact ⟨A9, _, c9, _, _, rfl, Lib.hid hF.out.symm, (o9.keep (same_set _ _ _ _ _ (.inl (by simp; omega)))).more (by omega) (by simp), hnum, (hB.trans (B9.mono (by omega))).setCell (by simp) _⟩
set_option maxHeartbeats 4000000 in
theorem i_VertexFigureAt_any (w : World) (A : Option Addr) (n c : Nat) (xss : List (List Int)) {lo hi : Nat} (h : RS w lo hi A n xss) (hhi : hi ≤ w.heap.size) (hnc : n ≤ c) (x : Int) (hx : -9223372036854775808 ≤ x ∧ x ≤ 9223372036854775807) :
    Calls Try.prog 30 #[.agg #[.slice A n c], .int .i64 x] w fun e w' => ∃ (A1 : Option Addr) (n1 c1 : Nat) (zss : List (List Int)) (code : Int), e = .returned (.tuple #[.agg #[.slice A1 n1 c1], .int .i64 code]) ∧ Hid ((zss, code) = vfgF xss x) ∧ OwnS w' w.heap.size w'.heap.size 26 2 A1 n1 c1 zss ∧ n1 + numsIn zss ≤ 1048576 ∧ Below w.heap.size w w' := by
  have hm := h.max
  have hl := h.len
  obtain ⟨hx0, hx1⟩ := hx
  have hR := rs_alloc (rs_alloc h hhi (.cells #[.slice A n c] 29)) (by simp; omega) (.cells #[.slice none 0 0] 29)
  have hC : ((w.alloc (.cells #[.slice A n c] 29)).alloc (.cells #[.slice none 0 0] 29)).cell? ⟨w.heap.size, 0, none⟩ = some (.slice A n c) := (al_old _ _ _ _ (by simp)).trans (al_new _ _ _ _ rfl)
  have hQ : ((w.alloc (.cells #[.slice A n c] 29)).alloc (.cells #[.slice none 0 0] 29)).heap[w.heap.size + 1]? = some (.cells #[.slice none 0 0] 29 (0, 0)) := heap_new _ _ _ (by simp)
  have hB : Below w.heap.size w ((w.alloc (.cells #[.slice A n c] 29)).alloc (.cells #[.slice none 0 0] 29)) := ((Below.refl _ _).alloc (Nat.le_refl _) _).alloc (by simp) _
  cases hM : isManB xss with
  | false =>
    have hF : vfgF xss x = ([], 1) := by unfold vfgF; rw [hM]; rfl
    replace hF := Lib.hid hF
    replace hM := Lib.hid hM
    replace hl := Lib.hid hl
    go_enter Try.func30, Try.ntmps30
    go_wp2_with fail
    obtain ⟨W1, hW⟩ : ∃ W1 : World, (w.alloc (.cells #[.slice A n c] 29)).alloc (.cells #[.slice none 0 0] 29) = W1 := ⟨_, rfl⟩
    have hz1 : W1.heap.size = w.heap.size + 2 := by rw [← hW]; simp
    rw [hW] at hR hC hB hQ ⊢
    replace hQ := Lib.hid hQ
    clear hW h 
    ((with_reducible refine (isMan_any A n c xss _ hR (by omega) hnc).mono ?_); rintro e w2 ⟨rfl, f2⟩)
    rw [hM.out]
    have y2 := f2.size
    have B2 : Below W1.heap.size W1 w2 := f2
    have C2 := (f2.cell (p := ⟨w.heap.size, 0, none⟩) (by simp; omega)).trans hC
    have R2 := hR.below f2 (by omega)
    have Q2 := (B2.block (w.heap.size + 1) (by omega)).trans hQ.out
    have CQ2 : w2.cell? ⟨w.heap.size + 1, 0, none⟩ = some (.slice none 0 0) := by rw [cell_of_row _ _ _ _ _ _ Q2]; rfl
    have FQ2 : w2.frozen? ⟨w.heap.size + 1, 0, none⟩ = false := frozen_of_row _ _ _ _ _ Q2
    replace Q2 := Lib.hid Q2
    go_wp2_with fail
    have g2 := heap_setCell_same _ _ 0 _ _ (Value.slice none 0 0) Q2.out
    (try simp only [Exit.inBlock, Exit.then])
    refine bodyPost_ret (v := .tuple #[.agg #[.slice none 0 0], .int .i64 1]) ?_ rfl ?_
    · exact results_cell_row2 rfl _ _ (w.heap.size + 1) 29 #[.slice none 0 0] (0, 0) _ rfl (by simpa using g2) Try.underlying29 rfl (by kernel_rfl) _ rfl
    · exact ⟨_, 0, _, [], _, rfl, Lib.hid hF.out.symm, OwnS.nil, by simp [numsIn], (hB.trans (B2.mono (by omega))).setCell (by simp) _⟩
  | true =>
    have hP := isManB_iff.1 hM
    have hn1 : 1 ≤ n := by have := hP.r1; omega
    have hn5 : n ≤ 5 := by have := hP.r5; omega
    have hf2 := hP.f2
    have hf4 := hP.f4
    have hS := hP.sys
    replace hP := Lib.hid hP
    replace hS := Lib.hid hS
    cases hF1 : inR 0 ((flg xss : Nat) - 1 : Int) x with
    | false =>
      have hF : vfgF xss x = ([], 2) := by unfold vfgF; rw [if_pos hM, hF1]; rfl
      replace hF := Lib.hid hF
      replace hM := Lib.hid hM
      replace hl := Lib.hid hl
      replace hF1 := Lib.hid hF1
      go_enter Try.func30, Try.ntmps30
      go_wp2_with fail
      obtain ⟨W1, hW⟩ : ∃ W1 : World, (w.alloc (.cells #[.slice A n c] 29)).alloc (.cells #[.slice none 0 0] 29) = W1 := ⟨_, rfl⟩
      have hz1 : W1.heap.size = w.heap.size + 2 := by rw [← hW]; simp
      rw [hW] at hR hC hB hQ ⊢
      replace hQ := Lib.hid hQ
      clear hW h 
      ((with_reducible refine (isMan_any A n c xss _ hR (by omega) hnc).mono ?_); rintro e w2 ⟨rfl, f2⟩)
      rw [hM.out]
      have y2 := f2.size
      have B2 : Below W1.heap.size W1 w2 := f2
      have C2 := (f2.cell (p := ⟨w.heap.size, 0, none⟩) (by simp; omega)).trans hC
      have R2 := hR.below f2 (by omega)
      have Q2 := (B2.block (w.heap.size + 1) (by omega)).trans hQ.out
      have CQ2 : w2.cell? ⟨w.heap.size + 1, 0, none⟩ = some (.slice none 0 0) := by rw [cell_of_row _ _ _ _ _ _ Q2]; rfl
      have FQ2 : w2.frozen? ⟨w.heap.size + 1, 0, none⟩ = false := frozen_of_row _ _ _ _ _ Q2
      replace Q2 := Lib.hid Q2
      go_wp2_with fail
      ((with_reducible refine (hasFlag_any _ A n c xss x _ C2 R2 (by omega) hf4).mono ?_); rintro e w' ⟨rfl, rfl⟩)
      rw [hF1.out]
      go_wp2_with fail
      have g2 := heap_setCell_same _ _ 0 _ _ (Value.slice none 0 0) Q2.out
      (try simp only [Exit.inBlock, Exit.then])
      refine bodyPost_ret (v := .tuple #[.agg #[.slice none 0 0], .int .i64 2]) ?_ rfl ?_
      · exact results_cell_row2 rfl _ _ (w.heap.size + 1) 29 #[.slice none 0 0] (0, 0) _ rfl (by simpa using g2) Try.underlying29 rfl (by kernel_rfl) _ rfl
      · exact ⟨_, 0, _, [], _, rfl, Lib.hid hF.out.symm, OwnS.nil, by simp [numsIn], (hB.trans (B2.mono (by omega))).setCell (by simp) _⟩
    | true =>
      obtain ⟨hxa, hxb⟩ := inR_iff.1 hF1
      have hxc : x < (flg xss : Nat) := by omega
      have hok0 : okR xss.length 0 0 = true := okR_iff.2 (by omega)
      cases hF2 : decide (xss.length ≠ 1) with
      | false =>
        have hn11 : n = 1 := by rw [← hl]; simpa using hF2
        have hF : vfgF xss x = ([], 5) := by unfold vfgF; rw [if_pos hM, if_pos hF1, hF2]; rfl
        replace hF := Lib.hid hF
        have hq1 : (((n : Nat) : Int) == 1) = true := by simp; omega
        replace hn11 := Lib.hid hn11
        replace hM := Lib.hid hM
        replace hl := Lib.hid hl
        replace hF1 := Lib.hid hF1
        replace hF2 := Lib.hid hF2
        go_enter Try.func30, Try.ntmps30
        go_wp2_with fail
        obtain ⟨W1, hW⟩ : ∃ W1 : World, (w.alloc (.cells #[.slice A n c] 29)).alloc (.cells #[.slice none 0 0] 29) = W1 := ⟨_, rfl⟩
        have hz1 : W1.heap.size = w.heap.size + 2 := by rw [← hW]; simp
        rw [hW] at hR hC hB hQ ⊢
        replace hQ := Lib.hid hQ
        clear hW h 
        ((with_reducible refine (isMan_any A n c xss _ hR (by omega) hnc).mono ?_); rintro e w2 ⟨rfl, f2⟩)
        rw [hM.out]
        have y2 := f2.size
        have B2 : Below W1.heap.size W1 w2 := f2
        have C2 := (f2.cell (p := ⟨w.heap.size, 0, none⟩) (by simp; omega)).trans hC
        have R2 := hR.below f2 (by omega)
        have Q2 := (B2.block (w.heap.size + 1) (by omega)).trans hQ.out
        have CQ2 : w2.cell? ⟨w.heap.size + 1, 0, none⟩ = some (.slice none 0 0) := by rw [cell_of_row _ _ _ _ _ _ Q2]; rfl
        have FQ2 : w2.frozen? ⟨w.heap.size + 1, 0, none⟩ = false := frozen_of_row _ _ _ _ _ Q2
        replace Q2 := Lib.hid Q2
        go_wp2_with fail
        ((with_reducible refine (hasFlag_any _ A n c xss x _ C2 R2 (by omega) hf4).mono ?_); rintro e w' ⟨rfl, rfl⟩)
        rw [hF1.out]
        go_wp2_with fail
        ((with_reducible refine (rank_any _ A n c _ C2 (by omega)).mono ?_); rintro e w' ⟨rfl, rfl⟩)
        go_wp2_with fail
        have g2 := heap_setCell_same _ _ 0 _ _ (Value.slice none 0 0) Q2.out
        (try simp only [Exit.inBlock, Exit.then])
        refine bodyPost_ret (v := .tuple #[.agg #[.slice none 0 0], .int .i64 5]) ?_ rfl ?_
        · exact results_cell_row2 rfl _ _ (w.heap.size + 1) 29 #[.slice none 0 0] (0, 0) _ rfl (by simpa using g2) Try.underlying29 rfl (by kernel_rfl) _ rfl
        · exact ⟨_, 0, _, [], _, rfl, Lib.hid hF.out.symm, OwnS.nil, by simp [numsIn], (hB.trans (B2.mono (by omega))).setCell (by simp) _⟩
      | true =>
        have hn2 : ¬ n = 1 := by have h9 := of_decide_eq_true hF2; omega
        have hq1 : (((n : Nat) : Int) == 1) = false := by simp; omega
        obtain ⟨b0, o0, A0, n0, c0, p0, rfl, _, _, _, _, _⟩ := h.at_ (k := 0) (by omega)
        have hci : ¬ c = 1 := by omega
        have hic : 1 ≤ c := by omega
        have hI2 : (1 : Int) ≤ (n : Int) := by omega
        have hI3 : (1 : Int) ≤ (c : Int) := by omega
        have hF : vfgF xss x = (formL (subL xss 1 n) (flg xss) x, 0) := by unfold vfgF; rw [if_pos hM, if_pos hF1, if_pos hF2]; rw [hl]
        have hsl : (subL xss 1 n).length = n - 1 := subL_length (by omega) (by omega)
        have hnum := formL_nums (sysOf_sub hS.out 1 n) hxa hxc hf4 (by omega)
        rw [formL_length, hsl] at hnum
        replace hsl := Lib.hid hsl
        replace hF := Lib.hid hF
        replace hM := Lib.hid hM
        replace hl := Lib.hid hl
        replace hF1 := Lib.hid hF1
        replace hF2 := Lib.hid hF2
        go_enter Try.func30, Try.ntmps30
        go_wp2_with fail
        obtain ⟨W1, hW⟩ : ∃ W1 : World, (w.alloc (.cells #[.slice (some ⟨b0, o0, none⟩) n c] 29)).alloc (.cells #[.slice none 0 0] 29) = W1 := ⟨_, rfl⟩
        have hz1 : W1.heap.size = w.heap.size + 2 := by rw [← hW]; simp
        rw [hW] at hR hC hB hQ ⊢
        replace hQ := Lib.hid hQ
        clear hW h 
        ((with_reducible refine (isMan_any (some ⟨b0, o0, none⟩) n c xss _ hR (by omega) hnc).mono ?_); rintro e w2 ⟨rfl, f2⟩)
        rw [hM.out]
        have y2 := f2.size
        have B2 : Below W1.heap.size W1 w2 := f2
        have C2 := (f2.cell (p := ⟨w.heap.size, 0, none⟩) (by simp; omega)).trans hC
        have R2 := hR.below f2 (by omega)
        have Q2 := (B2.block (w.heap.size + 1) (by omega)).trans hQ.out
        have CQ2 : w2.cell? ⟨w.heap.size + 1, 0, none⟩ = some (.slice none 0 0) := by rw [cell_of_row _ _ _ _ _ _ Q2]; rfl
        have FQ2 : w2.frozen? ⟨w.heap.size + 1, 0, none⟩ = false := frozen_of_row _ _ _ _ _ Q2
        replace Q2 := Lib.hid Q2
        go_wp2_with fail
        ((with_reducible refine (hasFlag_any _ (some ⟨b0, o0, none⟩) n c xss x _ C2 R2 (by omega) hf4).mono ?_); rintro e w' ⟨rfl, rfl⟩)
        rw [hF1.out]
        go_wp2_with fail
        ((with_reducible refine (rank_any _ (some ⟨b0, o0, none⟩) n c _ C2 (by omega)).mono ?_); rintro e w' ⟨rfl, rfl⟩)
        go_wp2_with fail
        ((with_reducible refine (formFrom_any (flg xss) (some ⟨b0, o0 + 1, none⟩) (n - 1) (c - 1) (subL xss 1 n) x _ (rs_sub R2 (by omega) (by omega) (fun _ => rfl)) (by omega) (by omega) (by omega) hf4 (sysOf_sub hS.out 1 n) hxa hxc).mono ?_); rintro e w9 ⟨A9, c9, rfl, o9, f9⟩)
        have B9 : Below W1.heap.size W1 w9 := below_then B2 f9 (by omega)
        have Q9 := (B9.block (w.heap.size + 1) (by omega)).trans hQ.out
        have CQ9 : w9.cell? ⟨w.heap.size + 1, 0, none⟩ = some (.slice none 0 0) := by rw [cell_of_row _ _ _ _ _ _ Q9]; rfl
        have FQ9 : w9.frozen? ⟨w.heap.size + 1, 0, none⟩ = false := frozen_of_row _ _ _ _ _ Q9
        replace Q9 := Lib.hid Q9
        go_wp2_with fail
        have g2 := heap_setCell_same _ _ 0 _ _ (Value.slice A9 (n - 1) c9) Q9.out
        (try simp only [Exit.inBlock, Exit.then])
        refine bodyPost_ret (v := .tuple #[.agg #[.slice A9 (n - 1) c9], .int .i64 0]) ?_ rfl ?_
        · exact results_cell_row2 rfl _ _ (w.heap.size + 1) 29 #[.slice A9 (n - 1) c9] (0, 0) _ rfl (by simpa using g2) Try.underlying29 rfl (by kernel_rfl) _ rfl
        · exact ⟨A9, _, c9, _, _, rfl, Lib.hid hF.out.symm, (o9.keep (same_set _ _ _ _ _ (.inl (by simp; omega)))).more (by omega) (by simp), hnum, (hB.trans (B9.mono (by omega))).setCell (by simp) _⟩
end Go.Proofs.Ytpbkdjkgaalegaa
