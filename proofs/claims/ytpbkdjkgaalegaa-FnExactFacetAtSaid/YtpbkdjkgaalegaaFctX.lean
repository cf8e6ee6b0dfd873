/- Walks: FacetAt, the program's and the reference's. No condition but the sizes of memory. -/
import Derived.Test.YtpbkdjkgaalegaaSec
import Derived.Test.YtpbkdjkgaalegaaFormS
import Derived.Test.YtpbkdjkgaalegaaRun
import Derived.Deep.RegionWith
namespace Go.Proofs.Ytpbkdjkgaalegaa
open Go.RowKit
set_option linter.unusedVariables false
set_option maxRecDepth 100000
set_option maxHeartbeats 4000000 in
theorem s_FacetAt_any (w : World) (A : Option Addr) (n c : Nat) (xss : List (List Int)) {lo hi : Nat} (h : RS w lo hi A n xss) (hhi : hi ≤ w.heap.size) (hnc : n ≤ c) (x : Int) (hx : -9223372036854775808 ≤ x ∧ x ≤ 9223372036854775807) :
    Calls Try.prog 27 #[.agg #[.slice A n c], .int .i64 x] w fun e w' => ∃ (A1 : Option Addr) (n1 c1 : Nat) (zss : List (List Int)) (code : Int), e = .returned (.tuple #[.agg #[.slice A1 n1 c1], .int .i64 code]) ∧ Hid ((zss, code) = fctF xss x) ∧ OwnS w' w.heap.size w'.heap.size 26 2 A1 n1 c1 zss ∧ n1 + numsIn zss ≤ 1048576 ∧ Below w.heap.size w w' := by
  have hm := h.max
  have hl := h.len
  obtain ⟨hx0, hx1⟩ := hx
  have hR := rs_alloc (rs_alloc h hhi (.cells #[.slice A n c] 29)) (by simp; omega) (.cells #[.slice none 0 0] 29)
  have hC : ((w.alloc (.cells #[.slice A n c] 29)).alloc (.cells #[.slice none 0 0] 29)).cell? ⟨w.heap.size, 0, none⟩ = some (.slice A n c) := (al_old _ _ _ _ (by simp)).trans (al_new _ _ _ _ rfl)
  have hQ : ((w.alloc (.cells #[.slice A n c] 29)).alloc (.cells #[.slice none 0 0] 29)).heap[w.heap.size + 1]? = some (.cells #[.slice none 0 0] 29 (0, 0)) := heap_new _ _ _ (by simp)
  have hB : Below w.heap.size w ((w.alloc (.cells #[.slice A n c] 29)).alloc (.cells #[.slice none 0 0] 29)) := ((Below.refl _ _).alloc (Nat.le_refl _) _).alloc (by simp) _
  cases hM : isManB xss with
  | false =>
    have hF : fctF xss x = ([], 1) := by unfold fctF; rw [hM]; rfl
    replace hF := Lib.hid hF
    have hcode : codeF xss x 0 0 = 1 := by unfold codeF; rw [hM]; try rfl
    replace hcode := Lib.hid hcode
    replace hM := Lib.hid hM
    replace hl := Lib.hid hl
    go_enter Try.func27, Try.ntmps27
    go_wp2_with fail
    obtain ⟨W1, hW⟩ : ∃ W1 : World, (w.alloc (.cells #[.slice A n c] 29)).alloc (.cells #[.slice none 0 0] 29) = W1 := ⟨_, rfl⟩
    have hz1 : W1.heap.size = w.heap.size + 2 := by rw [← hW]; simp
    rw [hW] at hR hC hB hQ ⊢
    replace hQ := Lib.hid hQ
    clear hW h 
    ((with_reducible refine (l04Code_any A n c xss x _ _ _ hR (by omega) ⟨hx0, hx1⟩).mono ?_); rintro e w2 ⟨rfl, f2⟩)
    rw [hcode.out]
    have y2 := f2.size
    have B2 : Below W1.heap.size W1 w2 := f2
    have C2 := (f2.cell (p := ⟨w.heap.size, 0, none⟩) (by simp; omega)).trans hC
    have R2 := hR.below f2 (by omega)
    have Q2 := (B2.block (w.heap.size + 1) (by omega)).trans hQ.out
    have CQ2 : w2.cell? ⟨w.heap.size + 1, 0, none⟩ = some (.slice none 0 0) := by rw [cell_of_row _ _ _ _ _ _ Q2]; rfl
    have FQ2 : w2.frozen? ⟨w.heap.size + 1, 0, none⟩ = false := frozen_of_row _ _ _ _ _ Q2
    replace Q2 := Lib.hid Q2
    go_wp2_with fail
    have g2 := heap_setCell_same _ _ 0 _ _ (Value.slice none 0 0) Q2.out
    (try simp only [Exit.inBlock, Exit.then])
    refine bodyPost_ret (v := .tuple #[.agg #[.slice none 0 0], .int .i64 1]) ?_ rfl ?_
    · exact results_cell_row2 rfl _ _ (w.heap.size + 1) 29 #[.slice none 0 0] (0, 0) _ rfl (by simpa using g2) Try.underlying29 rfl (by kernel_rfl) _ rfl
    · exact ⟨_, 0, _, [], _, rfl, Lib.hid hF.out.symm, OwnS.nil, by simp [numsIn], (hB.trans (B2.mono (by omega))).setCell (by simp) _⟩
  | true =>
    have hP := isManB_iff.1 hM
    have hn1 : 1 ≤ n := by have := hP.r1; omega
    have hn5 : n ≤ 5 := by have := hP.r5; omega
    have hf2 := hP.f2
    have hf4 := hP.f4
    have hS := hP.sys
    replace hP := Lib.hid hP
    replace hS := Lib.hid hS
    cases hF1 : inR 0 ((flg xss : Nat) - 1 : Int) x with
    | false =>
      have hF : fctF xss x = ([], 2) := by unfold fctF; rw [if_pos hM, hF1]; rfl
      replace hF := Lib.hid hF
      have hcode : codeF xss x 0 0 = 2 := by unfold codeF; rw [if_pos hM, hF1]; try rfl
      replace hcode := Lib.hid hcode
      replace hM := Lib.hid hM
      replace hl := Lib.hid hl
      replace hF1 := Lib.hid hF1
      go_enter Try.func27, Try.ntmps27
      go_wp2_with fail
      obtain ⟨W1, hW⟩ : ∃ W1 : World, (w.alloc (.cells #[.slice A n c] 29)).alloc (.cells #[.slice none 0 0] 29) = W1 := ⟨_, rfl⟩
      have hz1 : W1.heap.size = w.heap.size + 2 := by rw [← hW]; simp
      rw [hW] at hR hC hB hQ ⊢
      replace hQ := Lib.hid hQ
      clear hW h 
      ((with_reducible refine (l04Code_any A n c xss x _ _ _ hR (by omega) ⟨hx0, hx1⟩).mono ?_); rintro e w2 ⟨rfl, f2⟩)
      rw [hcode.out]
      have y2 := f2.size
      have B2 : Below W1.heap.size W1 w2 := f2
      have C2 := (f2.cell (p := ⟨w.heap.size, 0, none⟩) (by simp; omega)).trans hC
      have R2 := hR.below f2 (by omega)
      have Q2 := (B2.block (w.heap.size + 1) (by omega)).trans hQ.out
      have CQ2 : w2.cell? ⟨w.heap.size + 1, 0, none⟩ = some (.slice none 0 0) := by rw [cell_of_row _ _ _ _ _ _ Q2]; rfl
      have FQ2 : w2.frozen? ⟨w.heap.size + 1, 0, none⟩ = false := frozen_of_row _ _ _ _ _ Q2
      replace Q2 := Lib.hid Q2
      go_wp2_with fail
      have g2 := heap_setCell_same _ _ 0 _ _ (Value.slice none 0 0) Q2.out
      (try simp only [Exit.inBlock, Exit.then])
      refine bodyPost_ret (v := .tuple #[.agg #[.slice none 0 0], .int .i64 2]) ?_ rfl ?_
      · exact results_cell_row2 rfl _ _ (w.heap.size + 1) 29 #[.slice none 0 0] (0, 0) _ rfl (by simpa using g2) Try.underlying29 rfl (by kernel_rfl) _ rfl
      · exact ⟨_, 0, _, [], _, rfl, Lib.hid hF.out.symm, OwnS.nil, by simp [numsIn], (hB.trans (B2.mono (by omega))).setCell (by simp) _⟩
    | true =>
      obtain ⟨hxa, hxb⟩ := inR_iff.1 hF1
      have hxc : x < (flg xss : Nat) := by omega
      have hok0 : okR xss.length 0 0 = true := okR_iff.2 (by omega)
      cases hF2 : decide (xss.length ≠ 1) with
      | false =>
        have hn11 : n = 1 := by rw [← hl]; simpa using hF2
        have hF : fctF xss x = ([], 5) := by unfold fctF; rw [if_pos hM, if_pos hF1, hF2]; rfl
        replace hF := Lib.hid hF
        have hcode : codeF xss x 0 0 = 0 := by unfold codeF; rw [if_pos hM, if_pos hF1, if_pos hok0]; try rfl
        replace hcode := Lib.hid hcode
        have hq1 : (((n : Nat) : Int) == 1) = true := by simp; omega
        replace hn11 := Lib.hid hn11
        replace hM := Lib.hid hM
        replace hl := Lib.hid hl
        replace hF1 := Lib.hid hF1
        replace hF2 := Lib.hid hF2
        go_enter Try.func27, Try.ntmps27
        go_wp2_with fail
        obtain ⟨W1, hW⟩ : ∃ W1 : World, (w.alloc (.cells #[.slice A n c] 29)).alloc (.cells #[.slice none 0 0] 29) = W1 := ⟨_, rfl⟩
        have hz1 : W1.heap.size = w.heap.size + 2 := by rw [← hW]; simp
        rw [hW] at hR hC hB hQ ⊢
        replace hQ := Lib.hid hQ
        clear hW h 
        ((with_reducible refine (l04Code_any A n c xss x _ _ _ hR (by omega) ⟨hx0, hx1⟩).mono ?_); rintro e w2 ⟨rfl, f2⟩)
        rw [hcode.out]
        have y2 := f2.size
        have B2 : Below W1.heap.size W1 w2 := f2
        have C2 := (f2.cell (p := ⟨w.heap.size, 0, none⟩) (by simp; omega)).trans hC
        have R2 := hR.below f2 (by omega)
        have Q2 := (B2.block (w.heap.size + 1) (by omega)).trans hQ.out
        have CQ2 : w2.cell? ⟨w.heap.size + 1, 0, none⟩ = some (.slice none 0 0) := by rw [cell_of_row _ _ _ _ _ _ Q2]; rfl
        have FQ2 : w2.frozen? ⟨w.heap.size + 1, 0, none⟩ = false := frozen_of_row _ _ _ _ _ Q2
        replace Q2 := Lib.hid Q2
        go_wp2_with fail
        have g2 := heap_setCell_same _ _ 0 _ _ (Value.slice none 0 0) Q2.out
        (try simp only [Exit.inBlock, Exit.then])
        refine bodyPost_ret (v := .tuple #[.agg #[.slice none 0 0], .int .i64 5]) ?_ rfl ?_
        · exact results_cell_row2 rfl _ _ (w.heap.size + 1) 29 #[.slice none 0 0] (0, 0) _ rfl (by simpa using g2) Try.underlying29 rfl (by kernel_rfl) _ rfl
        · exact ⟨_, 0, _, [], _, rfl, Lib.hid hF.out.symm, OwnS.nil, by simp [numsIn], (hB.trans (B2.mono (by omega))).setCell (by simp) _⟩
      | true =>
        have hn2 : ¬ n = 1 := by have h9 := of_decide_eq_true hF2; omega
        have hq1 : (((n : Nat) : Int) == 1) = false := by simp; omega
        obtain ⟨b0, o0, A0, n0, c0, p0, rfl, _, _, _, _, _⟩ := h.at_ (k := 0) (by omega)
        have hcode : codeF xss x 0 0 = 0 := by unfold codeF; rw [if_pos hM, if_pos hF1, if_pos hok0]; try rfl
        replace hcode := Lib.hid hcode
        have hF : fctF xss x = (formL (subL xss 0 (n - 1)) (flg xss) x, 0) := by unfold fctF; rw [if_pos hM, if_pos hF1, if_pos hF2]; rw [hl]
        have hsl : (subL xss 0 (n - 1)).length = n - 1 := subL_length (by omega) (by omega)
        have hnum := formL_nums (sysOf_sub hS.out 0 (n - 1)) hxa hxc hf4 (by omega)
        rw [formL_length, hsl] at hnum
        replace hsl := Lib.hid hsl
        replace hF := Lib.hid hF
        replace hM := Lib.hid hM
        replace hl := Lib.hid hl
        replace hF1 := Lib.hid hF1
        replace hF2 := Lib.hid hF2
        go_enter Try.func27, Try.ntmps27
        go_wp2_with fail
        obtain ⟨W1, hW⟩ : ∃ W1 : World, (w.alloc (.cells #[.slice (some ⟨b0, o0, none⟩) n c] 29)).alloc (.cells #[.slice none 0 0] 29) = W1 := ⟨_, rfl⟩
        have hz1 : W1.heap.size = w.heap.size + 2 := by rw [← hW]; simp
        rw [hW] at hR hC hB hQ ⊢
        replace hQ := Lib.hid hQ
        clear hW h 
        ((with_reducible refine (l04Code_any (some ⟨b0, o0, none⟩) n c xss x _ _ _ hR (by omega) ⟨hx0, hx1⟩).mono ?_); rintro e w2 ⟨rfl, f2⟩)
        rw [hcode.out]
        have y2 := f2.size
        have B2 : Below W1.heap.size W1 w2 := f2
        have C2 := (f2.cell (p := ⟨w.heap.size, 0, none⟩) (by simp; omega)).trans hC
        have R2 := hR.below f2 (by omega)
        have Q2 := (B2.block (w.heap.size + 1) (by omega)).trans hQ.out
        have CQ2 : w2.cell? ⟨w.heap.size + 1, 0, none⟩ = some (.slice none 0 0) := by rw [cell_of_row _ _ _ _ _ _ Q2]; rfl
        have FQ2 : w2.frozen? ⟨w.heap.size + 1, 0, none⟩ = false := frozen_of_row _ _ _ _ _ Q2
        replace Q2 := Lib.hid Q2
        go_wp2_with fail
        have hsec := l04Section_any (flg xss) (some ⟨b0, o0, none⟩) n c xss x 0 (n - 2) 0 ((n : Int) - 2) rfl (by omega) _ R2 (by omega) hnc (by omega) (by omega) (by omega) rfl hf4 hS.out hxa hxc
        rw [show n - 2 + 1 = n - 1 by omega, Nat.sub_zero] at hsec
        ((with_reducible refine hsec.mono ?_); rintro e w9 ⟨A9, c9, rfl, o9, f9⟩)
        have B9 : Below W1.heap.size W1 w9 := below_then B2 f9 (by omega)
        have Q9 := (B9.block (w.heap.size + 1) (by omega)).trans hQ.out
        have CQ9 : w9.cell? ⟨w.heap.size + 1, 0, none⟩ = some (.slice none 0 0) := by rw [cell_of_row _ _ _ _ _ _ Q9]; rfl
        have FQ9 : w9.frozen? ⟨w.heap.size + 1, 0, none⟩ = false := frozen_of_row _ _ _ _ _ Q9
        replace Q9 := Lib.hid Q9
        go_wp2_with fail
        have g2 := heap_setCell_same _ _ 0 _ _ (Value.slice A9 (n - 1) c9) Q9.out
        (try simp only [Exit.inBlock, Exit.then])
        refine bodyPost_ret (v := .tuple #[.agg #[.slice A9 (n - 1) c9], .int .i64 0]) ?_ rfl ?_
        · exact results_cell_row2 rfl _ _ (w.heap.size + 1) 29 #[.slice A9 (n - 1) c9] (0, 0) _ rfl (by simpa using g2) Try.underlying29 rfl (by kernel_rfl) _ rfl
        · exact ⟨A9, _, c9, _, _, rfl, Lib.hid hF.out.symm, (o9.keep (same_set _ _ _ _ _ (.inl (by simp; omega)))).more (by omega) (by simp), hnum, (hB.trans (B9.mono (by omega))).setCell (by simp) _⟩
set_option maxHeartbeats 4000000 in
theorem i_FacetAt_any (w : World) (A : Option Addr) (n c : Nat) (xss : List (List Int)) {lo hi : Nat} (h : RS w lo hi A n xss) (hhi : hi ≤ w.heap.size) (hnc : n ≤ c) (x : Int) (hx : -9223372036854775808 ≤ x ∧ x ≤ 9223372036854775807) :
    Calls Try.prog 28 #[.agg #[.slice A n c], .int .i64 x] w fun e w' => ∃ (A1 : Option Addr) (n1 c1 : Nat) (zss : List (List Int)) (code : Int), e = .returned (.tuple #[.agg #[.slice A1 n1 c1], .int .i64 code]) ∧ Hid ((zss, code) = fctF xss x) ∧ OwnS w' w.heap.size w'.heap.size 26 2 A1 n1 c1 zss ∧ n1 + numsIn zss ≤ 1048576 ∧ Below w.heap.size w w' := by
  have hm := h.max
  have hl := h.len
  obtain ⟨hx0, hx1⟩ := hx
  have hR := rs_alloc (rs_alloc h hhi (.cells #[.slice A n c] 29)) (by simp; omega) (.cells #[.slice none 0 0] 29)
  have hC : ((w.alloc (.cells #[.slice A n c] 29)).alloc (.cells #[.slice none 0 0] 29)).cell? ⟨w.heap.size, 0, none⟩ = some (.slice A n c) := (al_old _ _ _ _ (by simp)).trans (al_new _ _ _ _ rfl)
  have hQ : ((w.alloc (.cells #[.slice A n c] 29)).alloc (.cells #[.slice none 0 0] 29)).heap[w.heap.size + 1]? = some (.cells #[.slice none 0 0] 29 (0, 0)) := heap_new _ _ _ (by simp)
  have hB : Below w.heap.size w ((w.alloc (.cells #[.slice A n c] 29)).alloc (.cells #[.slice none 0 0] 29)) := ((Below.refl _ _).alloc (Nat.le_refl _) _).alloc (by simp) _
  cases hM : isManB xss with
  | false =>
    have hF : fctF xss x = ([], 1) := by unfold fctF; rw [hM]; rfl
    replace hF := Lib.hid hF
    replace hM := Lib.hid hM
    replace hl := Lib.hid hl
    go_enter Try.func28, Try.ntmps28
    go_wp2_with fail
    obtain ⟨W1, hW⟩ : ∃ W1 : World, (w.alloc (.cells #[.slice A n c] 29)).alloc (.cells #[.slice none 0 0] 29) = W1 := ⟨_, rfl⟩
    have hz1 : W1.heap.size = w.heap.size + 2 := by rw [← hW]; simp
    rw [hW] at hR hC hB hQ ⊢
    replace hQ := Lib.hid hQ
    clear hW h 
    ((with_reducible refine (isMan_any A n c xss _ hR (by omega) hnc).mono ?_); rintro e w2 ⟨rfl, f2⟩)
    rw [hM.out]
    have y2 := f2.size
    have B2 : Below W1.heap.size W1 w2 := f2
    have C2 := (f2.cell (p := ⟨w.heap.size, 0, none⟩) (by simp; omega)).trans hC
    have R2 := hR.below f2 (by omega)
    have Q2 := (B2.block (w.heap.size + 1) (by omega)).trans hQ.out
    have CQ2 : w2.cell? ⟨w.heap.size + 1, 0, none⟩ = some (.slice none 0 0) := by rw [cell_of_row _ _ _ _ _ _ Q2]; rfl
    have FQ2 : w2.frozen? ⟨w.heap.size + 1, 0, none⟩ = false := frozen_of_row _ _ _ _ _ Q2
    replace Q2 := Lib.hid Q2
    go_wp2_with fail
    have g2 := heap_setCell_same _ _ 0 _ _ (Value.slice none 0 0) Q2.out
    (try simp only [Exit.inBlock, Exit.then])
    refine bodyPost_ret (v := .tuple #[.agg #[.slice none 0 0], .int .i64 1]) ?_ rfl ?_
    · exact results_cell_row2 rfl _ _ (w.heap.size + 1) 29 #[.slice none 0 0] (0, 0) _ rfl (by simpa using g2) Try.underlying29 rfl (by kernel_rfl) _ rfl
    · exact ⟨_, 0, _, [], _, rfl, Lib.hid hF.out.symm, OwnS.nil, by simp [numsIn], (hB.trans (B2.mono (by omega))).setCell (by simp) _⟩
  | true =>
    have hP := isManB_iff.1 hM
    have hn1 : 1 ≤ n := by have := hP.r1; omega
    have hn5 : n ≤ 5 := by have := hP.r5; omega
    have hf2 := hP.f2
    have hf4 := hP.f4
    have hS := hP.sys
    replace hP := Lib.hid hP
    replace hS := Lib.hid hS
    cases hF1 : inR 0 ((flg xss : Nat) - 1 : Int) x with
    | false =>
      have hF : fctF xss x = ([], 2) := by unfold fctF; rw [if_pos hM, hF1]; rfl
      replace hF := Lib.hid hF
      replace hM := Lib.hid hM
      replace hl := Lib.hid hl
      replace hF1 := Lib.hid hF1
      go_enter Try.func28, Try.ntmps28
      go_wp2_with fail
      obtain ⟨W1, hW⟩ : ∃ W1 : World, (w.alloc (.cells #[.slice A n c] 29)).alloc (.cells #[.slice none 0 0] 29) = W1 := ⟨_, rfl⟩
      have hz1 : W1.heap.size = w.heap.size + 2 := by rw [← hW]; simp
      rw [hW] at hR hC hB hQ ⊢
      replace hQ := Lib.hid hQ
      clear hW h 
      ((with_reducible refine (isMan_any A n c xss _ hR (by omega) hnc).mono ?_); rintro e w2 ⟨rfl, f2⟩)
      rw [hM.out]
      have y2 := f2.size
      have B2 : Below W1.heap.size W1 w2 := f2
      have C2 := (f2.cell (p := ⟨w.heap.size, 0, none⟩) (by simp; omega)).trans hC
      have R2 := hR.below f2 (by omega)
      have Q2 := (B2.block (w.heap.size + 1) (by omega)).trans hQ.out
      have CQ2 : w2.cell? ⟨w.heap.size + 1, 0, none⟩ = some (.slice none 0 0) := by rw [cell_of_row _ _ _ _ _ _ Q2]; rfl
      have FQ2 : w2.frozen? ⟨w.heap.size + 1, 0, none⟩ = false := frozen_of_row _ _ _ _ _ Q2
      replace Q2 := Lib.hid Q2
      go_wp2_with fail
      ((with_reducible refine (hasFlag_any _ A n c xss x _ C2 R2 (by omega) hf4).mono ?_); rintro e w' ⟨rfl, rfl⟩)
      rw [hF1.out]
      go_wp2_with fail
      have g2 := heap_setCell_same _ _ 0 _ _ (Value.slice none 0 0) Q2.out
      (try simp only [Exit.inBlock, Exit.then])
      refine bodyPost_ret (v := .tuple #[.agg #[.slice none 0 0], .int .i64 2]) ?_ rfl ?_
      · exact results_cell_row2 rfl _ _ (w.heap.size + 1) 29 #[.slice none 0 0] (0, 0) _ rfl (by simpa using g2) Try.underlying29 rfl (by kernel_rfl) _ rfl
      · exact ⟨_, 0, _, [], _, rfl, Lib.hid hF.out.symm, OwnS.nil, by simp [numsIn], (hB.trans (B2.mono (by omega))).setCell (by simp) _⟩
    | true =>
      obtain ⟨hxa, hxb⟩ := inR_iff.1 hF1
      have hxc : x < (flg xss : Nat) := by omega
      have hok0 : okR xss.length 0 0 = true := okR_iff.2 (by omega)
      cases hF2 : decide (xss.length ≠ 1) with
      | false =>
        have hn11 : n = 1 := by rw [← hl]; simpa using hF2
        have hF : fctF xss x = ([], 5) := by unfold fctF; rw [if_pos hM, if_pos hF1, hF2]; rfl
        replace hF := Lib.hid hF
        have hq1 : (((n : Nat) : Int) == 1) = true := by simp; omega
        replace hn11 := Lib.hid hn11
        replace hM := Lib.hid hM
        replace hl := Lib.hid hl
        replace hF1 := Lib.hid hF1
        replace hF2 := Lib.hid hF2
        go_enter Try.func28, Try.ntmps28
        go_wp2_with fail
        obtain ⟨W1, hW⟩ : ∃ W1 : World, (w.alloc (.cells #[.slice A n c] 29)).alloc (.cells #[.slice none 0 0] 29) = W1 := ⟨_, rfl⟩
        have hz1 : W1.heap.size = w.heap.size + 2 := by rw [← hW]; simp
        rw [hW] at hR hC hB hQ ⊢
        replace hQ := Lib.hid hQ
        clear hW h 
        ((with_reducible refine (isMan_any A n c xss _ hR (by omega) hnc).mono ?_); rintro e w2 ⟨rfl, f2⟩)
        rw [hM.out]
        have y2 := f2.size
        have B2 : Below W1.heap.size W1 w2 := f2
        have C2 := (f2.cell (p := ⟨w.heap.size, 0, none⟩) (by simp; omega)).trans hC
        have R2 := hR.below f2 (by omega)
        have Q2 := (B2.block (w.heap.size + 1) (by omega)).trans hQ.out
        have CQ2 : w2.cell? ⟨w.heap.size + 1, 0, none⟩ = some (.slice none 0 0) := by rw [cell_of_row _ _ _ _ _ _ Q2]; rfl
        have FQ2 : w2.frozen? ⟨w.heap.size + 1, 0, none⟩ = false := frozen_of_row _ _ _ _ _ Q2
        replace Q2 := Lib.hid Q2
        go_wp2_with fail
        ((with_reducible refine (hasFlag_any _ A n c xss x _ C2 R2 (by omega) hf4).mono ?_); rintro e w' ⟨rfl, rfl⟩)
        rw [hF1.out]
        go_wp2_with fail
        ((with_reducible refine (rank_any _ A n c _ C2 (by omega)).mono ?_); rintro e w' ⟨rfl, rfl⟩)
        go_wp2_with fail
        have g2 := heap_setCell_same _ _ 0 _ _ (Value.slice none 0 0) Q2.out
        (try simp only [Exit.inBlock, Exit.then])
        refine bodyPost_ret (v := .tuple #[.agg #[.slice none 0 0], .int .i64 5]) ?_ rfl ?_
        · exact results_cell_row2 rfl _ _ (w.heap.size + 1) 29 #[.slice none 0 0] (0, 0) _ rfl (by simpa using g2) Try.underlying29 rfl (by kernel_rfl) _ rfl
        · exact ⟨_, 0, _, [], _, rfl, Lib.hid hF.out.symm, OwnS.nil, by simp [numsIn], (hB.trans (B2.mono (by omega))).setCell (by simp) _⟩
      | true =>
        have hn2 : ¬ n = 1 := by have h9 := of_decide_eq_true hF2; omega
        have hq1 : (((n : Nat) : Int) == 1) = false := by simp; omega
        obtain ⟨b0, o0, A0, n0, c0, p0, rfl, _, _, _, _, _⟩ := h.at_ (k := 0) (by omega)
        clear hq1
        obtain ⟨m, rfl⟩ : ∃ m, n = m + 1 := ⟨n - 1, by omega⟩
        have hmc : m ≤ c := by omega
        have hq1 : ((((m + 1 : Nat)) : Int) == 1) = false := by simp; omega
        have hq2 : ((m : Int) + 1 == 1) = false := by simp; omega
        have hq3 : ((m : Int) == 0) = false := by simp; omega
        have hm1 : 1 ≤ m := by omega
        have hI2 : (m : Int) ≤ (c : Int) := by omega
        have hI3 : (m : Int) + 1 - 1 = (m : Int) := by omega
        have hI5 : ¬ c = 0 := by omega
        have hI6 : ¬ m = 0 := by omega
        have hI7 : ¬ ((c : Int) = 0) := by omega
        have hI8 : (0 : Int) ≤ (m : Int) := by omega
        have hI9 : (m : Int) ≤ 9223372036854775807 := by omega
        have hwr : IntKind.i64.wrap (m : Int) = (m : Int) := by rw [IntKind.wrap_i64]; omega
        have hF : fctF xss x = (formL (subL xss 0 (m)) (flg xss) x, 0) := by unfold fctF; rw [if_pos hM, if_pos hF1, if_pos hF2]; rw [hl]; rfl
        have hsl : (subL xss 0 (m)).length = m := subL_length (by omega) (by omega)
        have hnum := formL_nums (sysOf_sub hS.out 0 (m)) hxa hxc hf4 (by omega)
        rw [formL_length, hsl] at hnum
        replace hsl := Lib.hid hsl
        replace hF := Lib.hid hF
        replace hM := Lib.hid hM
        replace hl := Lib.hid hl
        replace hF1 := Lib.hid hF1
        replace hF2 := Lib.hid hF2
        replace hn2 := Lib.hid hn2
        go_enter Try.func28, Try.ntmps28
        go_wp2_with fail
        obtain ⟨W1, hW⟩ : ∃ W1 : World, (w.alloc (.cells #[.slice (some ⟨b0, o0, none⟩) (m + 1) c] 29)).alloc (.cells #[.slice none 0 0] 29) = W1 := ⟨_, rfl⟩
        have hz1 : W1.heap.size = w.heap.size + 2 := by rw [← hW]; simp
        rw [hW] at hR hC hB hQ ⊢
        replace hQ := Lib.hid hQ
        clear hW h 
        ((with_reducible refine (isMan_any (some ⟨b0, o0, none⟩) (m + 1) c xss _ hR (by omega) hnc).mono ?_); rintro e w2 ⟨rfl, f2⟩)
        rw [hM.out]
        have y2 := f2.size
        have B2 : Below W1.heap.size W1 w2 := f2
        have C2 := (f2.cell (p := ⟨w.heap.size, 0, none⟩) (by simp; omega)).trans hC
        have R2 := hR.below f2 (by omega)
        have Q2 := (B2.block (w.heap.size + 1) (by omega)).trans hQ.out
        have CQ2 : w2.cell? ⟨w.heap.size + 1, 0, none⟩ = some (.slice none 0 0) := by rw [cell_of_row _ _ _ _ _ _ Q2]; rfl
        have FQ2 : w2.frozen? ⟨w.heap.size + 1, 0, none⟩ = false := frozen_of_row _ _ _ _ _ Q2
        replace Q2 := Lib.hid Q2
        go_wp2_with fail
        ((with_reducible refine (hasFlag_any _ (some ⟨b0, o0, none⟩) (m + 1) c xss x _ C2 R2 (by omega) hf4).mono ?_); rintro e w' ⟨rfl, rfl⟩)
        rw [hF1.out]
        go_wp2_with fail
        ((with_reducible refine (rank_any _ (some ⟨b0, o0, none⟩) (m + 1) c _ C2 (by omega)).mono ?_); rintro e w' ⟨rfl, rfl⟩)
        go_wp2_with fail
        have hsb9 : RS w2 lo hi (some ⟨b0, o0, none⟩) m (subL xss 0 m) := rs_sub (i := 0) (j := m) R2 (by omega) (by omega) (fun _ => by simp)
        have hRk := rank_any _ (some ⟨b0, o0, none⟩) (m + 1) c w2.drew (show w2.drew.cell? _ = _ from C2) (by omega)
        have hFm := formFrom_any (flg xss) (some ⟨b0, o0, none⟩) m c (subL xss 0 m) x w2.drew (rs_drew hsb9) (show _ ≤ w2.heap.size by omega) (by omega) (by omega) hf4 (sysOf_sub hS.out 0 m) hxa hxc
        go_region_with (first
          | (go_at_call 60; (with_reducible refine hRk.mono ?_); rintro e w' ⟨rfl, rfl⟩)
          | (go_at_call 54; (with_reducible refine hFm.mono ?_); rintro e w9 ⟨A9, c9, rfl, o9, f9⟩; have f9 : Below w2.heap.size w2 w9 := ⟨f9.os, f9.tape, f9.output, f9.size, f9.block⟩; have B9 : Below W1.heap.size W1 w9 := below_then B2 f9 (by omega); have Q9 := (B9.block (w.heap.size + 1) (by omega)).trans hQ.out; have CQ9 : w9.cell? ⟨w.heap.size + 1, 0, none⟩ = some (.slice none 0 0) := (cell_of_row _ _ _ _ _ _ Q9).trans rfl; have FQ9 : w9.frozen? ⟨w.heap.size + 1, 0, none⟩ = false := frozen_of_row _ _ _ _ _ Q9; replace Q9 := Lib.hid Q9))
        all_goals
          go_wp2_with fail
          have g2 := heap_setCell_same _ _ 0 _ _ (Value.slice A9 (m) c9) Q9.out
          (try simp only [Exit.inBlock, Exit.then])
          refine bodyPost_ret (v := .tuple #[.agg #[.slice A9 (m) c9], .int .i64 0]) ?_ rfl ?_
          · exact results_cell_row2 rfl _ _ (w.heap.size + 1) 29 #[.slice A9 (m) c9] (0, 0) _ rfl (by simpa using g2) Try.underlying29 rfl (by kernel_rfl) _ rfl
          · exact ⟨A9, _, c9, _, _, rfl, Lib.hid hF.out.symm, ((show OwnS w9 w2.heap.size w9.heap.size _ _ _ _ _ _ from o9).keep (same_set _ _ _ _ _ (.inl (by simp; omega)))).more (by omega) (by simp), hnum, (hB.trans (B9.mono (by omega))).setCell (by simp) _⟩
end Go.Proofs.Ytpbkdjkgaalegaa
