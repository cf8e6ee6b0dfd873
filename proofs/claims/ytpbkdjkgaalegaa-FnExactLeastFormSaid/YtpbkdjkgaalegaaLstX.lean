/- Walks: LeastForm, the program's and the reference's. No condition but the sizes of memory. -/
import Derived.Test.YtpbkdjkgaalegaaLst
namespace Go.Proofs.Ytpbkdjkgaalegaa
open Go.RowKit
set_option linter.unusedVariables false
set_option maxRecDepth 100000
set_option maxHeartbeats 4000000 in
theorem s_LeastForm_any (w : World) (A : Option Addr) (n c : Nat) (xss : List (List Int)) {lo hi : Nat} (h : RS w lo hi A n xss) (hhi : hi ≤ w.heap.size) (hnc : n ≤ c) :
    Calls Try.prog 39 #[.agg #[.slice A n c]] w fun e w' => ∃ (A1 : Option Addr) (n1 c1 : Nat) (zss : List (List Int)) (code : Int), e = .returned (.tuple #[.agg #[.slice A1 n1 c1], .int .i64 code]) ∧ Hid ((zss, code) = lstF xss) ∧ OwnS w' w.heap.size w'.heap.size 26 2 A1 n1 c1 zss ∧ n1 + numsIn zss ≤ 1048576 ∧ Below w.heap.size w w' := by
  have hm := h.max
  have hl := h.len
  have hR := rs_alloc (rs_alloc h hhi (.cells #[.slice A n c] 29)) (by simp; omega) (.cells #[.slice none 0 0] 29)
  have hC : ((w.alloc (.cells #[.slice A n c] 29)).alloc (.cells #[.slice none 0 0] 29)).cell? ⟨w.heap.size, 0, none⟩ = some (.slice A n c) := (al_old _ _ _ _ (by simp)).trans (al_new _ _ _ _ rfl)
  have hQ : ((w.alloc (.cells #[.slice A n c] 29)).alloc (.cells #[.slice none 0 0] 29)).heap[w.heap.size + 1]? = some (.cells #[.slice none 0 0] 29 (0, 0)) := heap_new _ _ _ (by simp)
  have hB : Below w.heap.size w ((w.alloc (.cells #[.slice A n c] 29)).alloc (.cells #[.slice none 0 0] 29)) := ((Below.refl _ _).alloc (Nat.le_refl _) _).alloc (by simp) _
  cases hM : isManB xss with
  | false =>
    have hF : lstF xss = ([], 1) := by unfold lstF; rw [hM]; rfl
    replace hF := Lib.hid hF
    replace hM := Lib.hid hM
    replace hl := Lib.hid hl
    go_enter Try.func39, Try.ntmps39
    go_wp2_with fail
    obtain ⟨W1, hW⟩ : ∃ W1 : World, (w.alloc (.cells #[.slice A n c] 29)).alloc (.cells #[.slice none 0 0] 29) = W1 := ⟨_, rfl⟩
    have hz1 : W1.heap.size = w.heap.size + 2 := by rw [← hW]; simp
    rw [hW] at hR hC hB hQ ⊢
    replace hQ := Lib.hid hQ
    clear hW h 
    ((with_reducible refine (l02Is_any A n c xss _ hR (by omega)).mono ?_); rintro e w2 ⟨rfl, f2⟩)
    rw [hM.out]
    have y2 := f2.size
    have B2 : Below W1.heap.size W1 w2 := f2
    have C2 := (f2.cell (p := ⟨w.heap.size, 0, none⟩) (by simp; omega)).trans hC
    have R2 := hR.below f2 (by omega)
    have Q2 := (B2.block (w.heap.size + 1) (by omega)).trans hQ.out
    have CQ2 : w2.cell? ⟨w.heap.size + 1, 0, none⟩ = some (.slice none 0 0) := by rw [cell_of_row _ _ _ _ _ _ Q2]; rfl
    have FQ2 : w2.frozen? ⟨w.heap.size + 1, 0, none⟩ = false := frozen_of_row _ _ _ _ _ Q2
    replace Q2 := Lib.hid Q2
    go_wp2_with fail
    have g2 := heap_setCell_same _ _ 0 _ _ (Value.slice none 0 0) Q2.out
    (try simp only [Exit.inBlock, Exit.then])
    refine bodyPost_ret (v := .tuple #[.agg #[.slice none 0 0], .int .i64 1]) ?_ rfl ?_
    · exact results_cell_row2 rfl _ _ (w.heap.size + 1) 29 #[.slice none 0 0] (0, 0) _ rfl (by simpa using g2) Try.underlying29 rfl (by kernel_rfl) _ rfl
    · exact ⟨_, 0, _, [], _, rfl, Lib.hid hF.out.symm, OwnS.nil, by simp [numsIn], (hB.trans (B2.mono (by omega))).setCell (by simp) _⟩
  | true =>
    have hP := isManB_iff.1 hM
    have hn1 : 1 ≤ n := by have := hP.r1; omega
    have hn5 : n ≤ 5 := by have := hP.r5; omega
    have hf2 := hP.f2
    have hf4 := hP.f4
    have hS := hP.sys
    replace hP := Lib.hid hP
    replace hS := Lib.hid hS
    have hF : lstF xss = (leastGo xss (flg xss) (flg xss), 0) := by unfold lstF; rw [if_pos hM]
    obtain ⟨g, hg, hge⟩ := leastGo_form xss (flg xss) (flg xss)
    have hnum := formL_nums (x := (g : Int)) hS.out (by omega) (by omega) hf4 (by omega)
    rw [formL_length, hl, ← hge] at hnum
    clear hg hge
    replace hF := Lib.hid hF
    replace hM := Lib.hid hM
    replace hl := Lib.hid hl
    go_enter Try.func39, Try.ntmps39
    go_wp2_with fail
    obtain ⟨W1, hW⟩ : ∃ W1 : World, (w.alloc (.cells #[.slice A n c] 29)).alloc (.cells #[.slice none 0 0] 29) = W1 := ⟨_, rfl⟩
    have hz1 : W1.heap.size = w.heap.size + 2 := by rw [← hW]; simp
    rw [hW] at hR hC hB hQ ⊢
    replace hQ := Lib.hid hQ
    clear hW h 
    ((with_reducible refine (l02Is_any A n c xss _ hR (by omega)).mono ?_); rintro e w2 ⟨rfl, f2⟩)
    rw [hM.out]
    have y2 := f2.size
    have B2 : Below W1.heap.size W1 w2 := f2
    have C2 := (f2.cell (p := ⟨w.heap.size, 0, none⟩) (by simp; omega)).trans hC
    have R2 := hR.below f2 (by omega)
    have Q2 := (B2.block (w.heap.size + 1) (by omega)).trans hQ.out
    have CQ2 : w2.cell? ⟨w.heap.size + 1, 0, none⟩ = some (.slice none 0 0) := by rw [cell_of_row _ _ _ _ _ _ Q2]; rfl
    have FQ2 : w2.frozen? ⟨w.heap.size + 1, 0, none⟩ = false := frozen_of_row _ _ _ _ _ Q2
    replace Q2 := Lib.hid Q2
    go_wp2_with fail
    ((with_reducible refine (l02Least_any _ A n c xss _ R2 (by omega) (by omega) (by omega) rfl (by omega) hf4 hS.out hP.out.conn).mono ?_); rintro e w9 ⟨A9, c9, rfl, o9, f9⟩)
    have B9 : Below W1.heap.size W1 w9 := below_then B2 f9 (by omega)
    have Q9 := (B9.block (w.heap.size + 1) (by omega)).trans hQ.out
    have CQ9 : w9.cell? ⟨w.heap.size + 1, 0, none⟩ = some (.slice none 0 0) := by rw [cell_of_row _ _ _ _ _ _ Q9]; rfl
    have FQ9 : w9.frozen? ⟨w.heap.size + 1, 0, none⟩ = false := frozen_of_row _ _ _ _ _ Q9
    replace Q9 := Lib.hid Q9
    go_wp2_with fail
    have g2 := heap_setCell_same _ _ 0 _ _ (Value.slice A9 n c9) Q9.out
    (try simp only [Exit.inBlock, Exit.then])
    refine bodyPost_ret (v := .tuple #[.agg #[.slice A9 n c9], .int .i64 0]) ?_ rfl ?_
    · exact results_cell_row2 rfl _ _ (w.heap.size + 1) 29 #[.slice A9 n c9] (0, 0) _ rfl (by simpa using g2) Try.underlying29 rfl (by kernel_rfl) _ rfl
    · exact ⟨A9, n, c9, _, _, rfl, Lib.hid hF.out.symm, (o9.keep (same_set _ _ _ _ _ (.inl (by simp; omega)))).more (by omega) (by simp), hnum, (hB.trans (B9.mono (by omega))).setCell (by simp) _⟩
set_option maxHeartbeats 4000000 in
theorem i_LeastForm_any (w : World) (A : Option Addr) (n c : Nat) (xss : List (List Int)) {lo hi : Nat} (h : RS w lo hi A n xss) (hhi : hi ≤ w.heap.size) (hnc : n ≤ c) :
    Calls Try.prog 40 #[.agg #[.slice A n c]] w fun e w' => ∃ (A1 : Option Addr) (n1 c1 : Nat) (zss : List (List Int)) (code : Int), e = .returned (.tuple #[.agg #[.slice A1 n1 c1], .int .i64 code]) ∧ Hid ((zss, code) = lstF xss) ∧ OwnS w' w.heap.size w'.heap.size 26 2 A1 n1 c1 zss ∧ n1 + numsIn zss ≤ 1048576 ∧ Below w.heap.size w w' := by
  have hm := h.max
  have hl := h.len
  have hR := rs_alloc (rs_alloc h hhi (.cells #[.slice A n c] 29)) (by simp; omega) (.cells #[.slice none 0 0] 29)
  have hC : ((w.alloc (.cells #[.slice A n c] 29)).alloc (.cells #[.slice none 0 0] 29)).cell? ⟨w.heap.size, 0, none⟩ = some (.slice A n c) := (al_old _ _ _ _ (by simp)).trans (al_new _ _ _ _ rfl)
  have hQ : ((w.alloc (.cells #[.slice A n c] 29)).alloc (.cells #[.slice none 0 0] 29)).heap[w.heap.size + 1]? = some (.cells #[.slice none 0 0] 29 (0, 0)) := heap_new _ _ _ (by simp)
  have hB : Below w.heap.size w ((w.alloc (.cells #[.slice A n c] 29)).alloc (.cells #[.slice none 0 0] 29)) := ((Below.refl _ _).alloc (Nat.le_refl _) _).alloc (by simp) _
  cases hM : isManB xss with
  | false =>
    have hF : lstF xss = ([], 1) := by unfold lstF; rw [hM]; rfl
    replace hF := Lib.hid hF
    replace hM := Lib.hid hM
    replace hl := Lib.hid hl
    go_enter Try.func40, Try.ntmps40
    go_wp2_with fail
    obtain ⟨W1, hW⟩ : ∃ W1 : World, (w.alloc (.cells #[.slice A n c] 29)).alloc (.cells #[.slice none 0 0] 29) = W1 := ⟨_, rfl⟩
    have hz1 : W1.heap.size = w.heap.size + 2 := by rw [← hW]; simp
    rw [hW] at hR hC hB hQ ⊢
    replace hQ := Lib.hid hQ
    clear hW h 
    ((with_reducible refine (isMan_any A n c xss _ hR (by omega) hnc).mono ?_); rintro e w2 ⟨rfl, f2⟩)
    rw [hM.out]
    have y2 := f2.size
    have B2 : Below W1.heap.size W1 w2 := f2
    have C2 := (f2.cell (p := ⟨w.heap.size, 0, none⟩) (by simp; omega)).trans hC
    have R2 := hR.below f2 (by omega)
    have Q2 := (B2.block (w.heap.size + 1) (by omega)).trans hQ.out
    have CQ2 : w2.cell? ⟨w.heap.size + 1, 0, none⟩ = some (.slice none 0 0) := by rw [cell_of_row _ _ _ _ _ _ Q2]; rfl
    have FQ2 : w2.frozen? ⟨w.heap.size + 1, 0, none⟩ = false := frozen_of_row _ _ _ _ _ Q2
    replace Q2 := Lib.hid Q2
    go_wp2_with fail
    have g2 := heap_setCell_same _ _ 0 _ _ (Value.slice none 0 0) Q2.out
    (try simp only [Exit.inBlock, Exit.then])
    refine bodyPost_ret (v := .tuple #[.agg #[.slice none 0 0], .int .i64 1]) ?_ rfl ?_
    · exact results_cell_row2 rfl _ _ (w.heap.size + 1) 29 #[.slice none 0 0] (0, 0) _ rfl (by simpa using g2) Try.underlying29 rfl (by kernel_rfl) _ rfl
    · exact ⟨_, 0, _, [], _, rfl, Lib.hid hF.out.symm, OwnS.nil, by simp [numsIn], (hB.trans (B2.mono (by omega))).setCell (by simp) _⟩
  | true =>
    have hP := isManB_iff.1 hM
    have hn1 : 1 ≤ n := by have := hP.r1; omega
    have hn5 : n ≤ 5 := by have := hP.r5; omega
    have hf2 := hP.f2
    have hf4 := hP.f4
    have hS := hP.sys
    replace hP := Lib.hid hP
    replace hS := Lib.hid hS
    have hF : lstF xss = (leastGo xss (flg xss) (flg xss), 0) := by unfold lstF; rw [if_pos hM]
    obtain ⟨g, hg, hge⟩ := leastGo_form xss (flg xss) (flg xss)
    have hnum := formL_nums (x := (g : Int)) hS.out (by omega) (by omega) hf4 (by omega)
    rw [formL_length, hl, ← hge] at hnum
    clear hg hge
    replace hF := Lib.hid hF
    replace hM := Lib.hid hM
    replace hl := Lib.hid hl
    go_enter Try.func40, Try.ntmps40
    go_wp2_with fail
    obtain ⟨W1, hW⟩ : ∃ W1 : World, (w.alloc (.cells #[.slice A n c] 29)).alloc (.cells #[.slice none 0 0] 29) = W1 := ⟨_, rfl⟩
    have hz1 : W1.heap.size = w.heap.size + 2 := by rw [← hW]; simp
    rw [hW] at hR hC hB hQ ⊢
    replace hQ := Lib.hid hQ
    clear hW h 
    ((with_reducible refine (isMan_any A n c xss _ hR (by omega) hnc).mono ?_); rintro e w2 ⟨rfl, f2⟩)
    rw [hM.out]
    have y2 := f2.size
    have B2 : Below W1.heap.size W1 w2 := f2
    have C2 := (f2.cell (p := ⟨w.heap.size, 0, none⟩) (by simp; omega)).trans hC
    have R2 := hR.below f2 (by omega)
    have Q2 := (B2.block (w.heap.size + 1) (by omega)).trans hQ.out
    have CQ2 : w2.cell? ⟨w.heap.size + 1, 0, none⟩ = some (.slice none 0 0) := by rw [cell_of_row _ _ _ _ _ _ Q2]; rfl
    have FQ2 : w2.frozen? ⟨w.heap.size + 1, 0, none⟩ = false := frozen_of_row _ _ _ _ _ Q2
    replace Q2 := Lib.hid Q2
    go_wp2_with fail
    ((with_reducible refine (leastForm_any _ A n c xss _ R2 (by omega) (by omega) (by omega) rfl (by omega) hf4 hS.out).mono ?_); rintro e w9 ⟨A9, c9, rfl, o9, f9⟩)
    have B9 : Below W1.heap.size W1 w9 := below_then B2 f9 (by omega)
    have Q9 := (B9.block (w.heap.size + 1) (by omega)).trans hQ.out
    have CQ9 : w9.cell? ⟨w.heap.size + 1, 0, none⟩ = some (.slice none 0 0) := by rw [cell_of_row _ _ _ _ _ _ Q9]; rfl
    have FQ9 : w9.frozen? ⟨w.heap.size + 1, 0, none⟩ = false := frozen_of_row _ _ _ _ _ Q9
    replace Q9 := Lib.hid Q9
    go_wp2_with fail
    have g2 := heap_setCell_same _ _ 0 _ _ (Value.slice A9 n c9) Q9.out
    (try simp only [Exit.inBlock, Exit.then])
    refine bodyPost_ret (v := .tuple #[.agg #[.slice A9 n c9], .int .i64 0]) ?_ rfl ?_
    · exact results_cell_row2 rfl _ _ (w.heap.size + 1) 29 #[.slice A9 n c9] (0, 0) _ rfl (by simpa using g2) Try.underlying29 rfl (by kernel_rfl) _ rfl
    · exact ⟨A9, n, c9, _, _, rfl, Lib.hid hF.out.symm, (o9.keep (same_set _ _ _ _ _ (.inl (by simp; omega)))).more (by omega) (by simp), hnum, (hB.trans (B9.mono (by omega))).setCell (by simp) _⟩
end Go.Proofs.Ytpbkdjkgaalegaa
