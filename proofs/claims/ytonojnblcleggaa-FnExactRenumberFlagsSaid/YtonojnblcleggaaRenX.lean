/- Walks: RenumberFlags, the program's and the reference's. No condition but the sizes of memory. -/
import Derived.Test.YtonojnblcleggaaFormS
import Derived.Test.YtonojnblcleggaaForm
import Derived.Test.YtonojnblcleggaaRun
import Derived.Test.YtonojnblcleggaaPerm2
import Derived.Deep.RegionLaw
import Derived.Deep.AppendLies
import Derived.Deep.RegionWith
namespace Go.Proofs.Ytonojnblcleggaa
open Go.RowKit
set_option linter.unusedVariables false
set_option maxRecDepth 100000
/-- what RenumberFlags returns -/
noncomputable def renF (xss : List (List Int)) (ps : List Int) : List (List Int) × Int :=
  if isManB xss = true then (if isPermB ps = true then (if decide (ps.length = flg xss) = true then (xss.map (renL ps), 0) else ([], 2)) else ([], 2)) else ([], 1)
noncomputable def renG (xss : List (List Int)) (ps : List Int) : List (List Int) × Int :=
  if isManB xss = true then (if decide (ps.length = flg xss) = true then (if isPermB ps = true then (xss.map (renL ps), 0) else ([], 2)) else ([], 2)) else ([], 1)
theorem ren_eq (xss : List (List Int)) (ps : List Int) : renF xss ps = renG xss ps := by
  unfold renF renG
  by_cases h1 : isPermB ps = true
  · by_cases h2 : decide (ps.length = flg xss) = true
    · rw [if_pos h1, if_pos h2, if_pos h2, if_pos h1]
    · rw [if_pos h1, if_neg h2, if_neg h2]
  · by_cases h2 : decide (ps.length = flg xss) = true
    · rw [if_neg h1, if_pos h2, if_neg h1]
    · rw [if_neg h1, if_neg h2]
theorem ri_drew {w : World} {lo hi n : Nat} {A : Option Addr} {xs : List Int} (h : RI w lo hi A n xs) : RI w.drew lo hi A n xs := h.keep fun _ _ _ => rfl
theorem thenL_in {p q : List Int} {n : Nat} (hl : q.length = n) (hp : ∀ x ∈ p, 0 ≤ x ∧ x < n) (hq : ∀ x ∈ q, 0 ≤ x ∧ x < n) : ∀ x ∈ thenL p q, 0 ≤ x ∧ x < n := by
  intro x hx
  unfold thenL at hx
  obtain ⟨y, hy, rfl⟩ := List.mem_map.1 hx
  obtain ⟨h0, h1⟩ := hp y hy
  exact hq _ (mem_of_get? (get?_getD 0 (by omega)))
theorem ren_nums {xss : List (List Int)} {ps : List Int} (hl : xss.length ≤ 20) (hp : ps.length ≤ 400) : xss.length + numsIn (xss.map (renL ps)) ≤ 1048576 := by
  have := numsIn_le (xss := xss.map (renL ps)) (n := 400) (fun p hp => by
    obtain ⟨q, _, rfl⟩ := List.mem_map.1 hp
    rw [renL_length]; omega)
  rw [List.length_map] at this
  have h2 : xss.length * 400 ≤ 20 * 400 := Nat.mul_le_mul_right _ hl
  omega
set_option maxHeartbeats 4000000 in
theorem s_RenumberFlags_any0 (w : World) (A : Option Addr) (n c : Nat) (xss : List (List Int)) {lo hi : Nat} (h : RS w lo hi A n xss) (hhi : hi ≤ w.heap.size) (hnc : n ≤ c) (A1 : Option Addr) (n1 c1 : Nat) (ps : List Int) {lo1 hi1 : Nat} (h1 : RI w lo1 hi1 A1 n1 ps) (hhi1 : hi1 ≤ w.heap.size) :
    Calls Try.prog 46 #[.agg #[.slice A n c], .slice A1 n1 c1] w fun e w' => ∃ (A1 : Option Addr) (n1 c1 : Nat) (zss : List (List Int)) (code : Int), e = .returned (.tuple #[.agg #[.slice A1 n1 c1], .int .i64 code]) ∧ Hid ((zss, code) = renG xss ps) ∧ OwnS w' w.heap.size w'.heap.size 22 2 A1 n1 c1 zss ∧ n1 + numsIn zss ≤ 1048576 ∧ Below w.heap.size w w' := by
  have hm := h.max
  have hl := h.len
  have hm1 := h1.max
  have hl1 := h1.len
  have hR := rs_alloc (rs_alloc h hhi (.cells #[.slice A n c] 46)) (by simp; omega) (.cells #[.slice none 0 0] 46)
  have hR_h1 : RI ((w.alloc (.cells #[.slice A n c] 46)).alloc (.cells #[.slice none 0 0] 46)) lo1 hi1 A1 n1 ps := (h1.keep (same_alloc w _ _ _ (by omega))).keep (same_alloc _ _ _ _ (by simp; omega))
  have hC : ((w.alloc (.cells #[.slice A n c] 46)).alloc (.cells #[.slice none 0 0] 46)).cell? ⟨w.heap.size, 0, none⟩ = some (.slice A n c) := (al_old _ _ _ _ (by simp)).trans (al_new _ _ _ _ rfl)
  have hQ : ((w.alloc (.cells #[.slice A n c] 46)).alloc (.cells #[.slice none 0 0] 46)).heap[w.heap.size + 1]? = some (.cells #[.slice none 0 0] 46 (0, 0)) := heap_new _ _ _ (by simp)
  have hB : Below w.heap.size w ((w.alloc (.cells #[.slice A n c] 46)).alloc (.cells #[.slice none 0 0] 46)) := ((Below.refl _ _).alloc (Nat.le_refl _) _).alloc (by simp) _
  cases hM : isManB xss with
  | false =>
    have hF : renG xss ps = ([], 1) := by unfold renG; rw [hM]; rfl
    replace hF := Lib.hid hF
    replace hM := Lib.hid hM
    replace hl := Lib.hid hl
    go_enter Try.func46, Try.ntmps46
    go_wp2_with fail
    obtain ⟨W1, hW⟩ : ∃ W1 : World, (w.alloc (.cells #[.slice A n c] 46)).alloc (.cells #[.slice none 0 0] 46) = W1 := ⟨_, rfl⟩
    have hz1 : W1.heap.size = w.heap.size + 2 := by rw [← hW]; simp
    rw [hW] at hR hR_h1 hC hB hQ ⊢
    replace hQ := Lib.hid hQ
    clear hW h h1
    ((with_reducible refine (l02Is_any A n c xss _ hR (by omega)).mono ?_); rintro e w2 ⟨rfl, f2⟩)
    rw [hM.out]
    have y2 := f2.size
    have B2 : Below W1.heap.size W1 w2 := f2
    have C2 := (f2.cell (p := ⟨w.heap.size, 0, none⟩) (by simp; omega)).trans hC
    have R2 := hR.below f2 (by omega)
    have R2_h1 := hR_h1.below f2 (by omega)
    have Q2 := (B2.block (w.heap.size + 1) (by omega)).trans hQ.out
    have CQ2 : w2.cell? ⟨w.heap.size + 1, 0, none⟩ = some (.slice none 0 0) := by rw [cell_of_row _ _ _ _ _ _ Q2]; rfl
    have FQ2 : w2.frozen? ⟨w.heap.size + 1, 0, none⟩ = false := frozen_of_row _ _ _ _ _ Q2
    replace Q2 := Lib.hid Q2
    go_wp2_with fail
    have g2 := heap_setCell_same _ _ 0 _ _ (Value.slice none 0 0) Q2.out
    (try simp only [Exit.inBlock, Exit.then])
    refine bodyPost_ret (v := .tuple #[.agg #[.slice none 0 0], .int .i64 1]) ?_ rfl ?_
    · exact results_cell_row2 rfl _ _ (w.heap.size + 1) 46 #[.slice none 0 0] (0, 0) _ rfl (by simpa using g2) Try.underlying46 rfl (by kernel_rfl) _ rfl
    · exact ⟨_, 0, _, [], _, rfl, Lib.hid hF.out.symm, OwnS.nil, by simp [numsIn], (hB.trans (B2.mono (by omega))).setCell (by simp) _⟩
  | true =>
    have hP := isManB_iff.1 hM
    have hn1 : 1 ≤ n := by have := hP.r1; omega
    have hn5 : n ≤ 5 := by have := hP.r5; omega
    have hf2 := hP.f2
    have hf4 := hP.f4
    have hS := hP.sys
    replace hP := Lib.hid hP
    replace hS := Lib.hid hS
    cases hF2 : decide (ps.length = flg xss) with
    | false =>
      have hF : renG xss ps = ([], 2) := by unfold renG; rw [if_pos hM, hF2]; rfl
      replace hF := Lib.hid hF
      have hq2 : ((n1 : Int) != ((flg xss : Nat) : Int)) = true := by have h9 := of_decide_eq_false hF2; simp; omega
      replace hM := Lib.hid hM
      replace hl := Lib.hid hl
      replace hF2 := Lib.hid hF2
      go_enter Try.func46, Try.ntmps46
      go_wp2_with fail
      obtain ⟨W1, hW⟩ : ∃ W1 : World, (w.alloc (.cells #[.slice A n c] 46)).alloc (.cells #[.slice none 0 0] 46) = W1 := ⟨_, rfl⟩
      have hz1 : W1.heap.size = w.heap.size + 2 := by rw [← hW]; simp
      rw [hW] at hR hR_h1 hC hB hQ ⊢
      replace hQ := Lib.hid hQ
      clear hW h h1
      ((with_reducible refine (l02Is_any A n c xss _ hR (by omega)).mono ?_); rintro e w2 ⟨rfl, f2⟩)
      rw [hM.out]
      have y2 := f2.size
      have B2 : Below W1.heap.size W1 w2 := f2
      have C2 := (f2.cell (p := ⟨w.heap.size, 0, none⟩) (by simp; omega)).trans hC
      have R2 := hR.below f2 (by omega)
      have R2_h1 := hR_h1.below f2 (by omega)
      have Q2 := (B2.block (w.heap.size + 1) (by omega)).trans hQ.out
      have CQ2 : w2.cell? ⟨w.heap.size + 1, 0, none⟩ = some (.slice none 0 0) := by rw [cell_of_row _ _ _ _ _ _ Q2]; rfl
      have FQ2 : w2.frozen? ⟨w.heap.size + 1, 0, none⟩ = false := frozen_of_row _ _ _ _ _ Q2
      replace Q2 := Lib.hid Q2
      go_wp2_with fail
      ((with_reducible refine (l02Flags_any A n c xss _ R2 (by omega) (by omega)).mono ?_); rintro e w3 ⟨rfl, f3⟩)
      have y3 := f3.size
      have B3 : Below W1.heap.size W1 w3 := below_then B2 f3 (by omega)
      have C3 := (f3.cell (p := ⟨w.heap.size, 0, none⟩) (by simp; omega)).trans C2
      have R3 := R2.below f3 (by omega)
      have R3_h1 := R2_h1.below f3 (by omega)
      have Q3 := (B3.block (w.heap.size + 1) (by omega)).trans hQ.out
      have CQ3 : w3.cell? ⟨w.heap.size + 1, 0, none⟩ = some (.slice none 0 0) := by rw [cell_of_row _ _ _ _ _ _ Q3]; rfl
      have FQ3 : w3.frozen? ⟨w.heap.size + 1, 0, none⟩ = false := frozen_of_row _ _ _ _ _ Q3
      replace Q3 := Lib.hid Q3
      go_wp2_with fail
      have g2 := heap_setCell_same _ _ 0 _ _ (Value.slice none 0 0) Q3.out
      (try simp only [Exit.inBlock, Exit.then])
      refine bodyPost_ret (v := .tuple #[.agg #[.slice none 0 0], .int .i64 2]) ?_ rfl ?_
      · exact results_cell_row2 rfl _ _ (w.heap.size + 1) 46 #[.slice none 0 0] (0, 0) _ rfl (by simpa using g2) Try.underlying46 rfl (by kernel_rfl) _ rfl
      · exact ⟨_, 0, _, [], _, rfl, Lib.hid hF.out.symm, OwnS.nil, by simp [numsIn], (hB.trans (B3.mono (by omega))).setCell (by simp) _⟩
    | true =>
      have hq2 : ((n1 : Int) != ((flg xss : Nat) : Int)) = false := by have h9 := of_decide_eq_true hF2; simp; omega
      have hnn : n1 = flg xss := by have h9 := of_decide_eq_true hF2; omega
      replace hnn := Lib.hid hnn
      cases hF1 : isPermB ps with
      | false =>
        have hF : renG xss ps = ([], 2) := by unfold renG; rw [if_pos hM, if_pos hF2, hF1]; rfl
        replace hF := Lib.hid hF
        replace hM := Lib.hid hM
        replace hl := Lib.hid hl
        replace hF2 := Lib.hid hF2
        replace hF1 := Lib.hid hF1
        go_enter Try.func46, Try.ntmps46
        go_wp2_with fail
        obtain ⟨W1, hW⟩ : ∃ W1 : World, (w.alloc (.cells #[.slice A n c] 46)).alloc (.cells #[.slice none 0 0] 46) = W1 := ⟨_, rfl⟩
        have hz1 : W1.heap.size = w.heap.size + 2 := by rw [← hW]; simp
        rw [hW] at hR hR_h1 hC hB hQ ⊢
        replace hQ := Lib.hid hQ
        clear hW h h1
        ((with_reducible refine (l02Is_any A n c xss _ hR (by omega)).mono ?_); rintro e w2 ⟨rfl, f2⟩)
        rw [hM.out]
        have y2 := f2.size
        have B2 : Below W1.heap.size W1 w2 := f2
        have C2 := (f2.cell (p := ⟨w.heap.size, 0, none⟩) (by simp; omega)).trans hC
        have R2 := hR.below f2 (by omega)
        have R2_h1 := hR_h1.below f2 (by omega)
        have Q2 := (B2.block (w.heap.size + 1) (by omega)).trans hQ.out
        have CQ2 : w2.cell? ⟨w.heap.size + 1, 0, none⟩ = some (.slice none 0 0) := by rw [cell_of_row _ _ _ _ _ _ Q2]; rfl
        have FQ2 : w2.frozen? ⟨w.heap.size + 1, 0, none⟩ = false := frozen_of_row _ _ _ _ _ Q2
        replace Q2 := Lib.hid Q2
        go_wp2_with fail
        ((with_reducible refine (l02Flags_any A n c xss _ R2 (by omega) (by omega)).mono ?_); rintro e w3 ⟨rfl, f3⟩)
        have y3 := f3.size
        have B3 : Below W1.heap.size W1 w3 := below_then B2 f3 (by omega)
        have C3 := (f3.cell (p := ⟨w.heap.size, 0, none⟩) (by simp; omega)).trans C2
        have R3 := R2.below f3 (by omega)
        have R3_h1 := R2_h1.below f3 (by omega)
        have Q3 := (B3.block (w.heap.size + 1) (by omega)).trans hQ.out
        have CQ3 : w3.cell? ⟨w.heap.size + 1, 0, none⟩ = some (.slice none 0 0) := by rw [cell_of_row _ _ _ _ _ _ Q3]; rfl
        have FQ3 : w3.frozen? ⟨w.heap.size + 1, 0, none⟩ = false := frozen_of_row _ _ _ _ _ Q3
        replace Q3 := Lib.hid Q3
        go_wp2_with fail
        ((with_reducible refine (l01Perm_any A1 n1 c1 ps _ _ _ R3_h1 (by omega)).mono ?_); rintro e w4 ⟨rfl, f4⟩)
        rw [hF1.out]
        have y4 := f4.size
        have B4 : Below W1.heap.size W1 w4 := below_then B3 f4 (by omega)
        have C4 := (f4.cell (p := ⟨w.heap.size, 0, none⟩) (by simp; omega)).trans C3
        have R4 := R3.below f4 (by omega)
        have R4_h1 := R3_h1.below f4 (by omega)
        have Q4 := (B4.block (w.heap.size + 1) (by omega)).trans hQ.out
        have CQ4 : w4.cell? ⟨w.heap.size + 1, 0, none⟩ = some (.slice none 0 0) := by rw [cell_of_row _ _ _ _ _ _ Q4]; rfl
        have FQ4 : w4.frozen? ⟨w.heap.size + 1, 0, none⟩ = false := frozen_of_row _ _ _ _ _ Q4
        replace Q4 := Lib.hid Q4
        go_wp2_with fail
        have g2 := heap_setCell_same _ _ 0 _ _ (Value.slice none 0 0) Q4.out
        (try simp only [Exit.inBlock, Exit.then])
        refine bodyPost_ret (v := .tuple #[.agg #[.slice none 0 0], .int .i64 2]) ?_ rfl ?_
        · exact results_cell_row2 rfl _ _ (w.heap.size + 1) 46 #[.slice none 0 0] (0, 0) _ rfl (by simpa using g2) Try.underlying46 rfl (by kernel_rfl) _ rfl
        · exact ⟨_, 0, _, [], _, rfl, Lib.hid hF.out.symm, OwnS.nil, by simp [numsIn], (hB.trans (B4.mono (by omega))).setCell (by simp) _⟩
      | true =>
        have hF : renG xss ps = (xss.map (renL ps), 0) := by unfold renG; rw [if_pos hM, if_pos hF2, if_pos hF1]
        have hpp := isPermB_iff.1 hF1
        have hnum := ren_nums (xss := xss) (ps := ps) (by omega) hpp.le
        rw [hl] at hnum
        replace hpp := Lib.hid hpp
        replace hF := Lib.hid hF
        replace hM := Lib.hid hM
        replace hl := Lib.hid hl
        replace hF2 := Lib.hid hF2
        replace hF1 := Lib.hid hF1
        replace hl1 := Lib.hid hl1
        go_enter Try.func46, Try.ntmps46
        go_wp2_with fail
        obtain ⟨W1, hW⟩ : ∃ W1 : World, (w.alloc (.cells #[.slice A n c] 46)).alloc (.cells #[.slice none 0 0] 46) = W1 := ⟨_, rfl⟩
        have hz1 : W1.heap.size = w.heap.size + 2 := by rw [← hW]; simp
        rw [hW] at hR hR_h1 hC hB hQ ⊢
        replace hQ := Lib.hid hQ
        clear hW h h1
        ((with_reducible refine (l02Is_any A n c xss _ hR (by omega)).mono ?_); rintro e w2 ⟨rfl, f2⟩)
        rw [hM.out]
        have y2 := f2.size
        have B2 : Below W1.heap.size W1 w2 := f2
        have C2 := (f2.cell (p := ⟨w.heap.size, 0, none⟩) (by simp; omega)).trans hC
        have R2 := hR.below f2 (by omega)
        have R2_h1 := hR_h1.below f2 (by omega)
        have Q2 := (B2.block (w.heap.size + 1) (by omega)).trans hQ.out
        have CQ2 : w2.cell? ⟨w.heap.size + 1, 0, none⟩ = some (.slice none 0 0) := by rw [cell_of_row _ _ _ _ _ _ Q2]; rfl
        have FQ2 : w2.frozen? ⟨w.heap.size + 1, 0, none⟩ = false := frozen_of_row _ _ _ _ _ Q2
        replace Q2 := Lib.hid Q2
        go_wp2_with fail
        ((with_reducible refine (l02Flags_any A n c xss _ R2 (by omega) (by omega)).mono ?_); rintro e w3 ⟨rfl, f3⟩)
        have y3 := f3.size
        have B3 : Below W1.heap.size W1 w3 := below_then B2 f3 (by omega)
        have C3 := (f3.cell (p := ⟨w.heap.size, 0, none⟩) (by simp; omega)).trans C2
        have R3 := R2.below f3 (by omega)
        have R3_h1 := R2_h1.below f3 (by omega)
        have Q3 := (B3.block (w.heap.size + 1) (by omega)).trans hQ.out
        have CQ3 : w3.cell? ⟨w.heap.size + 1, 0, none⟩ = some (.slice none 0 0) := by rw [cell_of_row _ _ _ _ _ _ Q3]; rfl
        have FQ3 : w3.frozen? ⟨w.heap.size + 1, 0, none⟩ = false := frozen_of_row _ _ _ _ _ Q3
        replace Q3 := Lib.hid Q3
        go_wp2_with fail
        ((with_reducible refine (l01Perm_any A1 n1 c1 ps _ _ _ R3_h1 (by omega)).mono ?_); rintro e w4 ⟨rfl, f4⟩)
        rw [hF1.out]
        have y4 := f4.size
        have B4 : Below W1.heap.size W1 w4 := below_then B3 f4 (by omega)
        have C4 := (f4.cell (p := ⟨w.heap.size, 0, none⟩) (by simp; omega)).trans C3
        have R4 := R3.below f4 (by omega)
        have R4_h1 := R3_h1.below f4 (by omega)
        have Q4 := (B4.block (w.heap.size + 1) (by omega)).trans hQ.out
        have CQ4 : w4.cell? ⟨w.heap.size + 1, 0, none⟩ = some (.slice none 0 0) := by rw [cell_of_row _ _ _ _ _ _ Q4]; rfl
        have FQ4 : w4.frozen? ⟨w.heap.size + 1, 0, none⟩ = false := frozen_of_row _ _ _ _ _ Q4
        replace Q4 := Lib.hid Q4
        go_wp2_with fail
        ((with_reducible refine (l02Renumber_any A n c xss A1 n1 c1 ps _ R4 (by omega) R4_h1 (by omega) (by omega) (by rw [hnn.out]; exact hS.out) hpp.out).mono ?_); rintro e w9 ⟨A9, c9, rfl, o9, f9⟩)
        have B9 : Below W1.heap.size W1 w9 := below_then B4 f9 (by omega)
        have Q9 := (B9.block (w.heap.size + 1) (by omega)).trans hQ.out
        have CQ9 : w9.cell? ⟨w.heap.size + 1, 0, none⟩ = some (.slice none 0 0) := by rw [cell_of_row _ _ _ _ _ _ Q9]; rfl
        have FQ9 : w9.frozen? ⟨w.heap.size + 1, 0, none⟩ = false := frozen_of_row _ _ _ _ _ Q9
        replace Q9 := Lib.hid Q9
        go_wp2_with fail
        have g2 := heap_setCell_same _ _ 0 _ _ (Value.slice A9 n c9) Q9.out
        (try simp only [Exit.inBlock, Exit.then])
        refine bodyPost_ret (v := .tuple #[.agg #[.slice A9 n c9], .int .i64 0]) ?_ rfl ?_
        · exact results_cell_row2 rfl _ _ (w.heap.size + 1) 46 #[.slice A9 n c9] (0, 0) _ rfl (by simpa using g2) Try.underlying46 rfl (by kernel_rfl) _ rfl
        · exact ⟨A9, n, c9, _, _, rfl, Lib.hid hF.out.symm, (o9.keep (same_set _ _ _ _ _ (.inl (by simp; omega)))).more (by omega) (by simp), hnum, (hB.trans (B9.mono (by omega))).setCell (by simp) _⟩
theorem s_RenumberFlags_any (w : World) (A : Option Addr) (n c : Nat) (xss : List (List Int)) {lo hi : Nat} (h : RS w lo hi A n xss) (hhi : hi ≤ w.heap.size) (hnc : n ≤ c) (A1 : Option Addr) (n1 c1 : Nat) (ps : List Int) {lo1 hi1 : Nat} (h1 : RI w lo1 hi1 A1 n1 ps) (hhi1 : hi1 ≤ w.heap.size) :
    Calls Try.prog 46 #[.agg #[.slice A n c], .slice A1 n1 c1] w fun e w' => ∃ (A1 : Option Addr) (n1 c1 : Nat) (zss : List (List Int)) (code : Int), e = .returned (.tuple #[.agg #[.slice A1 n1 c1], .int .i64 code]) ∧ Hid ((zss, code) = renF xss ps) ∧ OwnS w' w.heap.size w'.heap.size 22 2 A1 n1 c1 zss ∧ n1 + numsIn zss ≤ 1048576 ∧ Below w.heap.size w w' := by
  rw [ren_eq]
  exact s_RenumberFlags_any0 w A n c xss h hhi hnc A1 n1 c1 ps h1 hhi1
set_option maxHeartbeats 4000000 in
theorem i_RenumberFlags_any (w : World) (A : Option Addr) (n c : Nat) (xss : List (List Int)) {lo hi : Nat} (h : RS w lo hi A n xss) (hhi : hi ≤ w.heap.size) (hnc : n ≤ c) (A1 : Option Addr) (n1 c1 : Nat) (ps : List Int) {lo1 hi1 : Nat} (h1 : RI w lo1 hi1 A1 n1 ps) (hhi1 : hi1 ≤ w.heap.size) :
    Calls Try.prog 48 #[.agg #[.slice A n c], .slice A1 n1 c1] w fun e w' => ∃ (A1 : Option Addr) (n1 c1 : Nat) (zss : List (List Int)) (code : Int), e = .returned (.tuple #[.agg #[.slice A1 n1 c1], .int .i64 code]) ∧ Hid ((zss, code) = renF xss ps) ∧ OwnS w' w.heap.size w'.heap.size 22 2 A1 n1 c1 zss ∧ n1 + numsIn zss ≤ 1048576 ∧ Below w.heap.size w w' := by
  have hm := h.max
  have hl := h.len
  have hm1 := h1.max
  have hl1 := h1.len
  obtain ⟨s0, hs0, hu0, hu1, hu2⟩ := info_parts infoS
  have hR := rs_alloc (rs_alloc h hhi (.cells #[.slice A n c] 46)) (by simp; omega) (.cells #[.slice none 0 0] 46)
  have hR_h1 : RI ((w.alloc (.cells #[.slice A n c] 46)).alloc (.cells #[.slice none 0 0] 46)) lo1 hi1 A1 n1 ps := (h1.keep (same_alloc w _ _ _ (by omega))).keep (same_alloc _ _ _ _ (by simp; omega))
  have hC : ((w.alloc (.cells #[.slice A n c] 46)).alloc (.cells #[.slice none 0 0] 46)).cell? ⟨w.heap.size, 0, none⟩ = some (.slice A n c) := (al_old _ _ _ _ (by simp)).trans (al_new _ _ _ _ rfl)
  have hQ : ((w.alloc (.cells #[.slice A n c] 46)).alloc (.cells #[.slice none 0 0] 46)).heap[w.heap.size + 1]? = some (.cells #[.slice none 0 0] 46 (0, 0)) := heap_new _ _ _ (by simp)
  have hB : Below w.heap.size w ((w.alloc (.cells #[.slice A n c] 46)).alloc (.cells #[.slice none 0 0] 46)) := ((Below.refl _ _).alloc (Nat.le_refl _) _).alloc (by simp) _
  cases hM : isManB xss with
  | false =>
    have hF : renF xss ps = ([], 1) := by unfold renF; rw [hM]; rfl
    replace hF := Lib.hid hF
    replace hM := Lib.hid hM
    replace hl := Lib.hid hl
    go_enter Try.func48, Try.ntmps48
    go_wp2_with fail
    obtain ⟨W1, hW⟩ : ∃ W1 : World, (w.alloc (.cells #[.slice A n c] 46)).alloc (.cells #[.slice none 0 0] 46) = W1 := ⟨_, rfl⟩
    have hz1 : W1.heap.size = w.heap.size + 2 := by rw [← hW]; simp
    rw [hW] at hR hR_h1 hC hB hQ ⊢
    replace hQ := Lib.hid hQ
    clear hW h h1
    ((with_reducible refine (isMan_any A n c xss _ hR (by omega) hnc).mono ?_); rintro e w2 ⟨rfl, f2⟩)
    rw [hM.out]
    have y2 := f2.size
    have B2 : Below W1.heap.size W1 w2 := f2
    have C2 := (f2.cell (p := ⟨w.heap.size, 0, none⟩) (by simp; omega)).trans hC
    have R2 := hR.below f2 (by omega)
    have R2_h1 := hR_h1.below f2 (by omega)
    have Q2 := (B2.block (w.heap.size + 1) (by omega)).trans hQ.out
    have CQ2 : w2.cell? ⟨w.heap.size + 1, 0, none⟩ = some (.slice none 0 0) := by rw [cell_of_row _ _ _ _ _ _ Q2]; rfl
    have FQ2 : w2.frozen? ⟨w.heap.size + 1, 0, none⟩ = false := frozen_of_row _ _ _ _ _ Q2
    replace Q2 := Lib.hid Q2
    go_wp2_with fail
    have g2 := heap_setCell_same _ _ 0 _ _ (Value.slice none 0 0) Q2.out
    (try simp only [Exit.inBlock, Exit.then])
    refine bodyPost_ret (v := .tuple #[.agg #[.slice none 0 0], .int .i64 1]) ?_ rfl ?_
    · exact results_cell_row2 rfl _ _ (w.heap.size + 1) 46 #[.slice none 0 0] (0, 0) _ rfl (by simpa using g2) Try.underlying46 rfl (by kernel_rfl) _ rfl
    · exact ⟨_, 0, _, [], _, rfl, Lib.hid hF.out.symm, OwnS.nil, by simp [numsIn], (hB.trans (B2.mono (by omega))).setCell (by simp) _⟩
  | true =>
    have hP := isManB_iff.1 hM
    have hn1 : 1 ≤ n := by have := hP.r1; omega
    have hn5 : n ≤ 5 := by have := hP.r5; omega
    have hf2 := hP.f2
    have hf4 := hP.f4
    have hS := hP.sys
    replace hP := Lib.hid hP
    replace hS := Lib.hid hS
    cases hF1 : isPermB ps with
    | false =>
      have hF : renF xss ps = ([], 2) := by unfold renF; rw [if_pos hM, hF1]; rfl
      replace hF := Lib.hid hF
      replace hM := Lib.hid hM
      replace hl := Lib.hid hl
      replace hF1 := Lib.hid hF1
      go_enter Try.func48, Try.ntmps48
      go_wp2_with fail
      obtain ⟨W1, hW⟩ : ∃ W1 : World, (w.alloc (.cells #[.slice A n c] 46)).alloc (.cells #[.slice none 0 0] 46) = W1 := ⟨_, rfl⟩
      have hz1 : W1.heap.size = w.heap.size + 2 := by rw [← hW]; simp
      rw [hW] at hR hR_h1 hC hB hQ ⊢
      replace hQ := Lib.hid hQ
      clear hW h h1
      ((with_reducible refine (isMan_any A n c xss _ hR (by omega) hnc).mono ?_); rintro e w2 ⟨rfl, f2⟩)
      rw [hM.out]
      have y2 := f2.size
      have B2 : Below W1.heap.size W1 w2 := f2
      have C2 := (f2.cell (p := ⟨w.heap.size, 0, none⟩) (by simp; omega)).trans hC
      have R2 := hR.below f2 (by omega)
      have R2_h1 := hR_h1.below f2 (by omega)
      have Q2 := (B2.block (w.heap.size + 1) (by omega)).trans hQ.out
      have CQ2 : w2.cell? ⟨w.heap.size + 1, 0, none⟩ = some (.slice none 0 0) := by rw [cell_of_row _ _ _ _ _ _ Q2]; rfl
      have FQ2 : w2.frozen? ⟨w.heap.size + 1, 0, none⟩ = false := frozen_of_row _ _ _ _ _ Q2
      replace Q2 := Lib.hid Q2
      go_wp2_with fail
      ((with_reducible refine (isPerm_any A1 n1 c1 ps _ _ _ R2_h1 (by omega)).mono ?_); rintro e w3 ⟨rfl, f3⟩)
      rw [hF1.out]
      have y3 := f3.size
      have B3 : Below W1.heap.size W1 w3 := below_then B2 f3 (by omega)
      have C3 := (f3.cell (p := ⟨w.heap.size, 0, none⟩) (by simp; omega)).trans C2
      have R3 := R2.below f3 (by omega)
      have R3_h1 := R2_h1.below f3 (by omega)
      have Q3 := (B3.block (w.heap.size + 1) (by omega)).trans hQ.out
      have CQ3 : w3.cell? ⟨w.heap.size + 1, 0, none⟩ = some (.slice none 0 0) := by rw [cell_of_row _ _ _ _ _ _ Q3]; rfl
      have FQ3 : w3.frozen? ⟨w.heap.size + 1, 0, none⟩ = false := frozen_of_row _ _ _ _ _ Q3
      replace Q3 := Lib.hid Q3
      go_wp2_with fail
      have g2 := heap_setCell_same _ _ 0 _ _ (Value.slice none 0 0) Q3.out
      (try simp only [Exit.inBlock, Exit.then])
      refine bodyPost_ret (v := .tuple #[.agg #[.slice none 0 0], .int .i64 2]) ?_ rfl ?_
      · exact results_cell_row2 rfl _ _ (w.heap.size + 1) 46 #[.slice none 0 0] (0, 0) _ rfl (by simpa using g2) Try.underlying46 rfl (by kernel_rfl) _ rfl
      · exact ⟨_, 0, _, [], _, rfl, Lib.hid hF.out.symm, OwnS.nil, by simp [numsIn], (hB.trans (B3.mono (by omega))).setCell (by simp) _⟩
    | true =>
      cases hF2 : decide (ps.length = flg xss) with
      | false =>
        have hF : renF xss ps = ([], 2) := by unfold renF; rw [if_pos hM, if_pos hF1, hF2]; rfl
        replace hF := Lib.hid hF
        have hq2 : ((n1 : Int) != ((flg xss : Nat) : Int)) = true := by have h9 := of_decide_eq_false hF2; simp; omega
        replace hM := Lib.hid hM
        replace hl := Lib.hid hl
        replace hF1 := Lib.hid hF1
        replace hF2 := Lib.hid hF2
        go_enter Try.func48, Try.ntmps48
        go_wp2_with fail
        obtain ⟨W1, hW⟩ : ∃ W1 : World, (w.alloc (.cells #[.slice A n c] 46)).alloc (.cells #[.slice none 0 0] 46) = W1 := ⟨_, rfl⟩
        have hz1 : W1.heap.size = w.heap.size + 2 := by rw [← hW]; simp
        rw [hW] at hR hR_h1 hC hB hQ ⊢
        replace hQ := Lib.hid hQ
        clear hW h h1
        ((with_reducible refine (isMan_any A n c xss _ hR (by omega) hnc).mono ?_); rintro e w2 ⟨rfl, f2⟩)
        rw [hM.out]
        have y2 := f2.size
        have B2 : Below W1.heap.size W1 w2 := f2
        have C2 := (f2.cell (p := ⟨w.heap.size, 0, none⟩) (by simp; omega)).trans hC
        have R2 := hR.below f2 (by omega)
        have R2_h1 := hR_h1.below f2 (by omega)
        have Q2 := (B2.block (w.heap.size + 1) (by omega)).trans hQ.out
        have CQ2 : w2.cell? ⟨w.heap.size + 1, 0, none⟩ = some (.slice none 0 0) := by rw [cell_of_row _ _ _ _ _ _ Q2]; rfl
        have FQ2 : w2.frozen? ⟨w.heap.size + 1, 0, none⟩ = false := frozen_of_row _ _ _ _ _ Q2
        replace Q2 := Lib.hid Q2
        go_wp2_with fail
        ((with_reducible refine (isPerm_any A1 n1 c1 ps _ _ _ R2_h1 (by omega)).mono ?_); rintro e w3 ⟨rfl, f3⟩)
        rw [hF1.out]
        have y3 := f3.size
        have B3 : Below W1.heap.size W1 w3 := below_then B2 f3 (by omega)
        have C3 := (f3.cell (p := ⟨w.heap.size, 0, none⟩) (by simp; omega)).trans C2
        have R3 := R2.below f3 (by omega)
        have R3_h1 := R2_h1.below f3 (by omega)
        have Q3 := (B3.block (w.heap.size + 1) (by omega)).trans hQ.out
        have CQ3 : w3.cell? ⟨w.heap.size + 1, 0, none⟩ = some (.slice none 0 0) := by rw [cell_of_row _ _ _ _ _ _ Q3]; rfl
        have FQ3 : w3.frozen? ⟨w.heap.size + 1, 0, none⟩ = false := frozen_of_row _ _ _ _ _ Q3
        replace Q3 := Lib.hid Q3
        go_wp2_with fail
        ((with_reducible refine (sizeI_any _ _ _ _ (by omega)).mono ?_); rintro e w' ⟨rfl, rfl⟩)
        go_wp2_with fail
        ((with_reducible refine (flags_any _ A n c xss _ C3 R3 (by omega)).mono ?_); rintro e w' ⟨rfl, rfl⟩)
        go_wp2_with fail
        have g2 := heap_setCell_same _ _ 0 _ _ (Value.slice none 0 0) Q3.out
        (try simp only [Exit.inBlock, Exit.then])
        refine bodyPost_ret (v := .tuple #[.agg #[.slice none 0 0], .int .i64 2]) ?_ rfl ?_
        · exact results_cell_row2 rfl _ _ (w.heap.size + 1) 46 #[.slice none 0 0] (0, 0) _ rfl (by simpa using g2) Try.underlying46 rfl (by kernel_rfl) _ rfl
        · exact ⟨_, 0, _, [], _, rfl, Lib.hid hF.out.symm, OwnS.nil, by simp [numsIn], (hB.trans (B3.mono (by omega))).setCell (by simp) _⟩
      | true =>
        have hq2 : ((n1 : Int) != ((flg xss : Nat) : Int)) = false := by have h9 := of_decide_eq_true hF2; simp; omega
        have hnn : n1 = flg xss := by have h9 := of_decide_eq_true hF2; omega
        replace hnn := Lib.hid hnn
        have hF : renF xss ps = (xss.map (renL ps), 0) := by unfold renF; rw [if_pos hM, if_pos hF1, if_pos hF2]
        have hpp := isPermB_iff.1 hF1
        have hnum := ren_nums (xss := xss) (ps := ps) (by omega) hpp.le
        rw [hl] at hnum
        replace hpp := Lib.hid hpp
        replace hF := Lib.hid hF
        replace hM := Lib.hid hM
        replace hl := Lib.hid hl
        replace hF1 := Lib.hid hF1
        replace hF2 := Lib.hid hF2
        replace hl1 := Lib.hid hl1
        go_enter Try.func48, Try.ntmps48
        go_wp2_with fail
        obtain ⟨W1, hW⟩ : ∃ W1 : World, (w.alloc (.cells #[.slice A n c] 46)).alloc (.cells #[.slice none 0 0] 46) = W1 := ⟨_, rfl⟩
        have hz1 : W1.heap.size = w.heap.size + 2 := by rw [← hW]; simp
        rw [hW] at hR hR_h1 hC hB hQ ⊢
        replace hQ := Lib.hid hQ
        clear hW h h1
        ((with_reducible refine (isMan_any A n c xss _ hR (by omega) hnc).mono ?_); rintro e w2 ⟨rfl, f2⟩)
        rw [hM.out]
        have y2 := f2.size
        have B2 : Below W1.heap.size W1 w2 := f2
        have C2 := (f2.cell (p := ⟨w.heap.size, 0, none⟩) (by simp; omega)).trans hC
        have R2 := hR.below f2 (by omega)
        have R2_h1 := hR_h1.below f2 (by omega)
        have Q2 := (B2.block (w.heap.size + 1) (by omega)).trans hQ.out
        have CQ2 : w2.cell? ⟨w.heap.size + 1, 0, none⟩ = some (.slice none 0 0) := by rw [cell_of_row _ _ _ _ _ _ Q2]; rfl
        have FQ2 : w2.frozen? ⟨w.heap.size + 1, 0, none⟩ = false := frozen_of_row _ _ _ _ _ Q2
        replace Q2 := Lib.hid Q2
        go_wp2_with fail
        ((with_reducible refine (isPerm_any A1 n1 c1 ps _ _ _ R2_h1 (by omega)).mono ?_); rintro e w3 ⟨rfl, f3⟩)
        rw [hF1.out]
        have y3 := f3.size
        have B3 : Below W1.heap.size W1 w3 := below_then B2 f3 (by omega)
        have C3 := (f3.cell (p := ⟨w.heap.size, 0, none⟩) (by simp; omega)).trans C2
        have R3 := R2.below f3 (by omega)
        have R3_h1 := R2_h1.below f3 (by omega)
        have Q3 := (B3.block (w.heap.size + 1) (by omega)).trans hQ.out
        have CQ3 : w3.cell? ⟨w.heap.size + 1, 0, none⟩ = some (.slice none 0 0) := by rw [cell_of_row _ _ _ _ _ _ Q3]; rfl
        have FQ3 : w3.frozen? ⟨w.heap.size + 1, 0, none⟩ = false := frozen_of_row _ _ _ _ _ Q3
        replace Q3 := Lib.hid Q3
        go_wp2_with fail
        ((with_reducible refine (sizeI_any _ _ _ _ (by omega)).mono ?_); rintro e w' ⟨rfl, rfl⟩)
        go_wp2_with fail
        ((with_reducible refine (flags_any _ A n c xss _ C3 R3 (by omega)).mono ?_); rintro e w' ⟨rfl, rfl⟩)
        have X3 := ((Below.refl w3.heap.size w3).alloc (Nat.le_refl _) (.cells #[.slice none 0 0] 46)).cell (p := ⟨w.heap.size, 0, none⟩) (by simp; omega)
        rw [C3] at X3
        go_wp2_with fail
        replace hnn := hnn.out
        subst hnn
        have g9 : (w3.alloc (.cells #[.slice none 0 0] 46)).heap[w3.heap.size]? = some (.cells #[.slice none 0 0] 46 (0, 0)) := heap_new _ _ _ rfl
        replace hq2 := Lib.hid hq2
        go_loopw [28] (fun kv wq => ∃ (k : Nat) (vs : List Value) (A2 : Option Addr) (c2 : Nat), k ≤ n ∧ vs.length = k ∧ kv = .int .i64 k ∧ Hid (wq.heap[w3.heap.size]? = some (.cells #[.slice A2 k c2] 46 (0, 0))) ∧ Own wq (w3.heap.size + 1) wq.heap.size 22 A2 k c2 vs ∧ RowsOwn wq (w3.heap.size + 1) wq.heap.size 2 vs ((xss.take k).map (renL ps)) ∧ w3.heap.size + 1 ≤ wq.heap.size ∧ Below w3.heap.size w3 wq) (fun kv _ => n - (intOf kv).toNat)
        case atStart => exact ⟨0, [], none, 0, by omega, rfl, by go_num, Lib.hid g9, Own.nil, by simpa using RowsOwn.nil, by simp, (Below.refl _ _).alloc (Nat.le_refl _) _⟩
        case round =>
          clear g9
          obtain ⟨k, vs, A2, c2, hk, hvk, rfl, g9, ho9, hrows, hz9, hb9⟩ := hrel
          have C9 : wr.cell? ⟨w3.heap.size, 0, none⟩ = some (.slice A2 k c2) := (cell_of_row _ _ _ _ _ _ g9.out).trans rfl
          have F9 : wr.frozen? ⟨w3.heap.size, 0, none⟩ = false := frozen_of_row _ _ _ _ _ g9.out
          have y9 := hb9.size
          have R9 := R3.below hb9 (by omega)
          have R9_h1 := R3_h1.below hb9 (by omega)
          by_cases hkm : k < n
          · obtain ⟨bb, oo, Ak, nk, ck, M, rfl, _, _, hM, hMc, hMr⟩ := R9.at_ hkm
            have hMm := mem_of_get? hM
            obtain ⟨hM0, hMn, hMl⟩ := hS.out M hMm
            have hnk := hMr.len
            have hkk : nk = flg xss := by omega
            rw [hkk] at hMc hMr
            clear hkk hnk
            have htk := take_succ_of hM
            have hpl := hl1.out
            have hip := invL_perm hpp.out
            have hir := hip.rng
            rw [invL_length, hpl] at hir
            have htr := thenL_in hMl hir hM0
            replace hM := Lib.hid hM
            replace hMm := Lib.hid hMm
            replace hMn := Lib.hid hMn
            replace htk := Lib.hid htk
            replace hM0 := Lib.hid hM0
            replace hMl := Lib.hid hMl
            replace hip := Lib.hid hip
            replace hpl := Lib.hid hpl
            obtain ⟨wo, rfl⟩ : ∃ wo : World, wo = wr := ⟨_, rfl⟩
            have hInv := inverse_any A1 (flg xss) c1 ps wo.drew _ _ (ri_drew R9_h1) (show _ ≤ wo.heap.size by omega) (by omega) (hpl.out ▸ hpp.out.rng) hpp.out.nd
            replace hir := Lib.hid hir
            replace htr := Lib.hid htr
            go_wp2_with fail
            go_region_law (first | (refine step_append_lies _ (by rfl) (.tmp 33) (.tmp 40) 23 (by rfl) (w3.heap.size + 1) 22 s0 (.slice none 0 0) 1 24 Try.underlying23 hs0 hu0 hu1 hu2 rfl (by decide) (.slice A2 k c2) k vs (by rfl) ho8.out ⟨w7.heap.size, 0, none⟩ 1 1 [.slice A7 (flg xss) (flg xss)] (by rfl) rfl hnew.out (by simp [Value.oneCell']) (by decide) (by simp only [maxLen]; omega) (by omega) (by simp; omega) (w7.heap.size + 1) (by simp) ?_; intro g4 c4 w8 hr8 hg8 hor8 hlt8; have g8 := (hg8.block w3.heap.size (by simp; omega) (fun e => by have := (ho8.out.lt _ e.symm).1; omega)).trans (((f7b.alloc (by omega) _).block w3.heap.size (by omega)).trans g9.out); have K8 : w8.cell? ⟨w3.heap.size, 0, none⟩ = some (.slice A2 k c2) := (cell_of_row _ _ _ _ _ _ g8).trans rfl; have F8 : w8.frozen? ⟨w3.heap.size, 0, none⟩ = false := frozen_of_row _ _ _ _ _ g8; replace g8 := Lib.hid g8) | (go_simp; (first | (go_at_call_of 84 (Value.slice A6 (flg xss) (flg xss)); refine hT2.mono ?_; rintro e w7 ⟨A7, rfl, o7, f7⟩; have y7 := f7.size; have f7b : Below wo.heap.size wo w7 := below_then f6b f7 (by omega); have K7 := (f7b.cell (p := ⟨w3.heap.size, 0, none⟩) (by simp; omega)).trans C9; have K7b : (w7.alloc (.cells #[.slice A7 (flg xss) (flg xss)] 22)).cell? ⟨w3.heap.size, 0, none⟩ = some (.slice A2 k c2) := ((f7b.alloc (B := wo.heap.size) (by omega) _).cell (p := ⟨w3.heap.size, 0, none⟩) (by simp; omega)).trans C9; have ho8 := Lib.hid ((ho9.below f7b (Nat.le_refl _)).1.alloc (.cells #[.slice A7 (flg xss) (flg xss)] 22)); have hnew := Lib.hid (World.news_of_block (cs := #[.slice A7 (flg xss) (flg xss)]) (t := 22) (fr := (0, 0)) (heap_alloc_new w7 _))) | (go_at_call_of 84 (Value.slice A5 (flg xss) (flg xss)); refine hT1.mono ?_; rintro e w6 ⟨A6, rfl, o6, f6⟩; have y6 := f6.size; have f6b : Below wo.heap.size wo w6 := below_then f5 f6 (by omega); have K6 := (f6b.cell (p := ⟨w3.heap.size, 0, none⟩) (by simp; omega)).trans C9; have hT2 := then_any A6 (flg xss) (flg xss) (thenL (invL ps) M) A1 (flg xss) c1 ps w6 o6.ri (Nat.le_refl _) (R9_h1.below f6b (by omega)) (by omega) (by omega) htr.out) | (go_at_call 85; refine hInv.mono ?_; rintro e w5 ⟨A5, rfl, o5, f5⟩; have f5 : Below wo.heap.size wo w5 := ⟨f5.os, f5.tape, f5.output, f5.size, f5.block⟩; have y5 := f5.size; have o5 : Own w5 wo.heap.size w5.heap.size _ _ _ _ _ := o5; have K5 := (f5.cell (p := ⟨w3.heap.size, 0, none⟩) (by simp; omega)).trans C9; have hT1 := then_any A5 (flg xss) (flg xss) (invL ps) Ak (flg xss) ck M w5 o5.ri (Nat.le_refl _) (hMr.below f5 (by omega)) (by omega) (by omega) hir.out))))
            all_goals
              have y8 := hg8.size
              have B8 : Below w3.heap.size w3 w8 := (hb9.trans ((f7b.alloc (by omega) _).mono (by omega))).grown hg8 (by simp; omega) (fun q hq => by have := (ho8.out.lt q hq).1; omega)
              have o7b : Own (w7.alloc (.cells #[.slice A7 (flg xss) (flg xss)] 22)) w6.heap.size w7.heap.size _ _ _ _ _ := o7.keep (same_alloc _ _ _ _ (Nat.le_refl _))
              have hrowsb := (hrows.keep (Same.of_below f7b (Nat.le_refl _))).keep (same_alloc w7 (.cells #[.slice A7 (flg xss) (flg xss)] 22) _ _ (by omega))
              have hrw8 := (hrowsb.kept_ty ho8.out (by decide) hg8).snoc ((o7b.kept_ty ho8.out (by decide) hg8).more (show wo.heap.size ≤ _ by omega) (show _ ≤ w7.heap.size by omega)) (by omega) (by omega)
              have ho8b := Own.of_row hr8
              have hz8 : w7.heap.size + 1 ≤ w8.heap.size := by have := y8; simpa using this
              clear C9 F9 hg8 hr8 ho8 ho9 hrows hrowsb 
              go_wp2_with fail
              go_roundw
              case measure => simp [intOf]; omega
              case rel =>
                refine ⟨k + 1, vs ++ [.slice A7 (flg xss) (flg xss)], _, c4, by omega, by simp; omega, by go_num, Lib.hid ?_, (ho8b.far (.inl (by simp)) _).more (Nat.le_refl _) (by simp), ?_, by simp; omega, B8.setCell (by simp) _⟩
                · have := heap_setCell_same _ _ 0 _ _ (Value.slice (some ⟨g4, 0, none⟩) (k + 1) c4) g8.out
                  simpa using this
                · rw [htk.out, List.map_append, List.map_singleton]
                  exact (hrw8.keep (same_set _ _ _ _ _ (.inl (by simp)))).more (Nat.le_refl _) (by simp; omega)
          · have hkm2 : k = n := by omega
            subst hkm2
            have e9 : xss.take k = xss := List.take_of_length_le (by have := hl.out; omega)
            rw [e9] at hrows
            have B9 : Below W1.heap.size W1 wr := below_then B3 hb9 (by omega)
            clear hb9
            have Q9 := (B9.block (w.heap.size + 1) (by omega)).trans hQ.out
            have CQ9 : wr.cell? ⟨w.heap.size + 1, 0, none⟩ = some (.slice none 0 0) := by rw [cell_of_row _ _ _ _ _ _ Q9]; rfl
            have FQ9 : wr.frozen? ⟨w.heap.size + 1, 0, none⟩ = false := frozen_of_row _ _ _ _ _ Q9
            replace Q9 := Lib.hid Q9
            go_wp2_with fail
            have g2 := heap_setCell_same _ _ 0 _ _ (Value.slice A2 k c2) Q9.out
            (try simp only [Exit.inBlock, Exit.then])
            refine bodyPost_ret (v := .tuple #[.agg #[.slice A2 k c2], .int .i64 0]) ?_ rfl ?_
            · exact results_cell_row2 rfl _ _ (w.heap.size + 1) 46 #[.slice A2 k c2] (0, 0) _ rfl (by simpa using g2) Try.underlying46 rfl (by kernel_rfl) _ rfl
            · exact ⟨A2, k, c2, _, _, rfl, Lib.hid hF.out.symm, ⟨vs, ((ho9.keep (same_set _ _ _ _ _ (.inl (by simp; omega)))).more (by omega) (by simp)), ((hrows.keep (same_set _ _ _ _ _ (.inl (by simp; omega)))).more (by omega) (by simp))⟩, hnum, (hB.trans (B9.mono (by omega))).setCell (by simp) _⟩
end Go.Proofs.Ytonojnblcleggaa
