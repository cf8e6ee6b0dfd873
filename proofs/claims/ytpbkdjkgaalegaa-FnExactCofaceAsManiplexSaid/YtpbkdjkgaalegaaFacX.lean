/- Walks: FaceAsManiplex and CofaceAsManiplex, the program's and the reference's. No condition but the sizes of memory. -/
import Derived.Test.YtpbkdjkgaalegaaLw
import Derived.Test.YtpbkdjkgaalegaaSec
import Derived.Test.YtpbkdjkgaalegaaFormS
namespace Go.Proofs.Ytpbkdjkgaalegaa
open Go.RowKit
set_option linter.unusedVariables false
set_option maxRecDepth 100000
/-- what they return -/
noncomputable def genF (xss : List (List Int)) (i y st : Int) (R : Int → List (List Int)) : List (List Int) × Int := if (lwF xss i y).2 = 0 then (if i = st then ([], 5) else (R (lwF xss i y).1, 0)) else ([], (lwF xss i y).2)
noncomputable def facF (xss : List (List Int)) (i y : Int) : List (List Int) × Int := genF xss i y 0 (fun fl => formL (subL xss 0 i.toNat) (flg xss) fl)
noncomputable def cofF (xss : List (List Int)) (i y : Int) : List (List Int) × Int := genF xss i y ((xss.length : Int) - 1) (fun fl => formL (subL xss (i.toNat + 1) xss.length) (flg xss) fl)
theorem gen_c {xss : List (List Int)} {i y st fl cd : Int} {R : Int → List (List Int)} (h : (fl, cd) = lwF xss i y) (hc : cd ≠ 0) : genF xss i y st R = ([], cd) := by unfold genF; rw [← h, if_neg hc]
theorem gen_5 {xss : List (List Int)} {i y st fl : Int} {R : Int → List (List Int)} (h : (fl, (0 : Int)) = lwF xss i y) (hs : i = st) : genF xss i y st R = ([], 5) := by unfold genF; rw [← h, if_pos rfl, if_pos hs]
theorem gen_0 {xss : List (List Int)} {i y st fl : Int} {R : Int → List (List Int)} (h : (fl, (0 : Int)) = lwF xss i y) (hs : i ≠ st) : genF xss i y st R = (R fl, 0) := by unfold genF; rw [← h, if_pos rfl, if_neg hs]
theorem l4_c {xss : List (List Int)} {i y st fl cd : Int} {R : Int → List (List Int)} (h : (fl, cd) = l4F xss i y st) (hc : cd ≠ 0) : genF xss i y st R = ([], cd) := by
  unfold l4F at h
  by_cases hh : (lwF xss i y).2 = 0 ∧ i = st
  · rw [if_pos hh] at h
    injection h with _ e
    unfold genF
    rw [if_pos hh.1, if_pos hh.2, e]
  · rw [if_neg hh] at h
    exact gen_c h hc
theorem l4_0 {xss : List (List Int)} {i y st fl : Int} (h : (fl, (0 : Int)) = l4F xss i y st) : (fl, (0 : Int)) = lwF xss i y ∧ i ≠ st := by
  unfold l4F at h
  by_cases hh : (lwF xss i y).2 = 0 ∧ i = st
  · rw [if_pos hh] at h
    injection h with _ e
    cases e
  · rw [if_neg hh] at h
    exact ⟨h, fun e => hh ⟨by rw [← h], e⟩⟩
set_option maxHeartbeats 8000000 in
theorem s_FaceAsManiplex_any (w : World) (A : Option Addr) (n c : Nat) (xss : List (List Int)) {lo hi : Nat} (h : RS w lo hi A n xss) (hhi : hi ≤ w.heap.size) (hnc : n ≤ c) (x : Int) (hx : -9223372036854775808 ≤ x ∧ x ≤ 9223372036854775807) (y : Int) (hy : -9223372036854775808 ≤ y ∧ y ≤ 9223372036854775807) :
    Calls Try.prog 35 #[.agg #[.slice A n c], .int .i64 x, .int .i64 y] w fun e w' => ∃ (A1 : Option Addr) (n1 c1 : Nat) (zss : List (List Int)) (code : Int), e = .returned (.tuple #[.agg #[.slice A1 n1 c1], .int .i64 code]) ∧ Hid ((zss, code) = facF xss x y) ∧ OwnS w' w.heap.size w'.heap.size 26 2 A1 n1 c1 zss ∧ n1 + numsIn zss ≤ 1048576 ∧ Below w.heap.size w w' := by
  have hm := h.max
  have hl := h.len
  obtain ⟨hx0, hx1⟩ := hx
  obtain ⟨hy0, hy1⟩ := hy
  have hR := rs_alloc (rs_alloc h hhi (.cells #[.slice A n c] 29)) (by simp; omega) (.cells #[.slice none 0 0] 29)
  have hC : ((w.alloc (.cells #[.slice A n c] 29)).alloc (.cells #[.slice none 0 0] 29)).cell? ⟨w.heap.size, 0, none⟩ = some (.slice A n c) := (al_old _ _ _ _ (by simp)).trans (al_new _ _ _ _ rfl)
  have hQ : ((w.alloc (.cells #[.slice A n c] 29)).alloc (.cells #[.slice none 0 0] 29)).heap[w.heap.size + 1]? = some (.cells #[.slice none 0 0] 29 (0, 0)) := heap_new _ _ _ (by simp)
  have hB : Below w.heap.size w ((w.alloc (.cells #[.slice A n c] 29)).alloc (.cells #[.slice none 0 0] 29)) := ((Below.refl _ _).alloc (Nat.le_refl _) _).alloc (by simp) _
  replace hl := Lib.hid hl
  go_enter Try.func35, Try.ntmps35
  go_wp2_with fail
  obtain ⟨W1, hW⟩ : ∃ W1 : World, (w.alloc (.cells #[.slice A n c] 29)).alloc (.cells #[.slice none 0 0] 29) = W1 := ⟨_, rfl⟩
  have hz1 : W1.heap.size = w.heap.size + 2 := by rw [← hW]; simp
  rw [hW] at hR hC hB hQ ⊢
  replace hQ := Lib.hid hQ
  clear hW h
  ((with_reducible refine (l04Face_any A n c xss x y _ _ hR (by omega)).mono ?_); rintro e w2 ⟨fl, cd, rfl, Hl, f2⟩)
  have y2 := f2.size
  have B2 : Below W1.heap.size W1 w2 := f2
  have C2 := (f2.cell (p := ⟨w.heap.size, 0, none⟩) (by simp; omega)).trans hC
  have R2 := hR.below f2 (by omega)
  have Q2 := (B2.block (w.heap.size + 1) (by omega)).trans hQ.out
  have CQ2 : w2.cell? ⟨w.heap.size + 1, 0, none⟩ = some (.slice none 0 0) := by rw [cell_of_row _ _ _ _ _ _ Q2]; rfl
  have FQ2 : w2.frozen? ⟨w.heap.size + 1, 0, none⟩ = false := frozen_of_row _ _ _ _ _ Q2
  replace Q2 := Lib.hid Q2
  by_cases hcd : cd = 0
  · subst hcd
    obtain ⟨Hl, hne⟩ := l4_0 Hl.out
    replace Hl := Lib.hid Hl
    obtain ⟨hM, hi0, hi1, hxa, hxc⟩ := lw_zero Hl.out
    rw [hl.out] at hi1
    have hP := isManB_iff.1 hM
    have hn1 : 1 ≤ n := by have := hP.r1; have := hl.out; omega
    have hn5 : n ≤ 5 := by have := hP.r5; have := hl.out; omega
    have hf4 := hP.f4
    have hS := Lib.hid hP.sys
    clear hP
    replace hM := Lib.hid hM
    have hF0 := gen_0 (st := 0) (R := (fun fl => formL (subL xss 0 x.toNat) (flg xss) fl)) Hl.out (by exact hne)
    have hst : ¬ x = 0 := hne
    obtain ⟨x, rfl⟩ : ∃ q : Nat, x = q := ⟨x.toNat, by omega⟩
    have hF : facF xss x y = (formL (subL xss 0 x) (flg xss) fl, 0) := by have h9 := hF0; rw [Int.toNat_natCast] at h9; unfold facF; rw [Int.toNat_natCast]; exact h9
    have hsl : (subL xss 0 x).length = x := subL_length (by have := hl.out; omega) (by omega)
    have hnum := formL_nums (sysOf_sub hS.out 0 x) hxa hxc hf4 (by have := hl.out; omega)
    rw [formL_length, hsl] at hnum
    replace hsl := Lib.hid hsl
    replace hF := Lib.hid hF
    replace hF0 := Lib.hid hF0
    replace hst := Lib.hid hst
    have hst9 := hst.out
    obtain ⟨b0, o0, A0, n0, c0, p0, rfl, _, _, _, _, _⟩ := R2.at_ (k := 0) (by omega)
    have hxp : 0 < x := by omega
    have hxn : x ≤ n := by omega
    have hxcc : x ≤ c := by omega
    have hI2 : (x : Int) ≤ (n : Int) := by omega
    have hI3 : (x : Int) ≤ (c : Int) := by omega
    replace hst9 := Lib.hid hst9
    go_wp2_with fail
    have hsec := l04Section_any (flg xss) (some ⟨b0, o0, none⟩) n c xss fl 0 (x - 1) 0 ((x : Int) - 1) rfl (by omega) _ R2 (by omega) hnc (by omega) (by omega) (by omega) rfl hf4 hS.out hxa hxc
    rw [show x - 1 + 1 = x by omega, Nat.sub_zero] at hsec
    ((with_reducible refine hsec.mono ?_); rintro e w9 ⟨A9, c9, rfl, o9, f9⟩)
    have B9 : Below W1.heap.size W1 w9 := below_then B2 f9 (by omega)
    have Q9 := (B9.block (w.heap.size + 1) (by omega)).trans hQ.out
    have CQ9 : w9.cell? ⟨w.heap.size + 1, 0, none⟩ = some (.slice none 0 0) := by rw [cell_of_row _ _ _ _ _ _ Q9]; rfl
    have FQ9 : w9.frozen? ⟨w.heap.size + 1, 0, none⟩ = false := frozen_of_row _ _ _ _ _ Q9
    replace Q9 := Lib.hid Q9
    go_wp2_with fail
    have g2 := heap_setCell_same _ _ 0 _ _ (Value.slice A9 (x) c9) Q9.out
    (try simp only [Exit.inBlock, Exit.then])
    refine bodyPost_ret (v := .tuple #[.agg #[.slice A9 (x) c9], .int .i64 0]) ?_ rfl ?_
    · exact results_cell_row2 rfl _ _ (w.heap.size + 1) 29 #[.slice A9 (x) c9] (0, 0) _ rfl (by simpa using g2) Try.underlying29 rfl (by kernel_rfl) _ rfl
    · exact ⟨A9, _, c9, _, _, rfl, Lib.hid hF.out.symm, (o9.keep (same_set _ _ _ _ _ (.inl (by simp; omega)))).more (by omega) (by simp), hnum, (hB.trans (B9.mono (by omega))).setCell (by simp) _⟩
  · have hF : facF xss x y = ([], cd) := l4_c Hl.out hcd
    have hcb : (cd != 0) = true := by simpa using hcd
    replace hF := Lib.hid hF
    replace hcd := Lib.hid hcd
    go_wp2_with fail
    have g2 := heap_setCell_same _ _ 0 _ _ (Value.slice none 0 0) Q2.out
    (try simp only [Exit.inBlock, Exit.then])
    refine bodyPost_ret (v := .tuple #[.agg #[.slice none 0 0], .int .i64 cd]) ?_ rfl ?_
    · exact results_cell_row2 rfl _ _ (w.heap.size + 1) 29 #[.slice none 0 0] (0, 0) _ rfl (by simpa using g2) Try.underlying29 rfl (by kernel_rfl) _ rfl
    · exact ⟨_, 0, _, [], _, rfl, Lib.hid hF.out.symm, OwnS.nil, by simp [numsIn], (hB.trans (B2.mono (by omega))).setCell (by simp) _⟩
set_option maxHeartbeats 8000000 in
theorem i_FaceAsManiplex_any (w : World) (A : Option Addr) (n c : Nat) (xss : List (List Int)) {lo hi : Nat} (h : RS w lo hi A n xss) (hhi : hi ≤ w.heap.size) (hnc : n ≤ c) (x : Int) (hx : -9223372036854775808 ≤ x ∧ x ≤ 9223372036854775807) (y : Int) (hy : -9223372036854775808 ≤ y ∧ y ≤ 9223372036854775807) :
    Calls Try.prog 36 #[.agg #[.slice A n c], .int .i64 x, .int .i64 y] w fun e w' => ∃ (A1 : Option Addr) (n1 c1 : Nat) (zss : List (List Int)) (code : Int), e = .returned (.tuple #[.agg #[.slice A1 n1 c1], .int .i64 code]) ∧ Hid ((zss, code) = facF xss x y) ∧ OwnS w' w.heap.size w'.heap.size 26 2 A1 n1 c1 zss ∧ n1 + numsIn zss ≤ 1048576 ∧ Below w.heap.size w w' := by
  have hm := h.max
  have hl := h.len
  obtain ⟨hx0, hx1⟩ := hx
  obtain ⟨hy0, hy1⟩ := hy
  have hR := rs_alloc (rs_alloc h hhi (.cells #[.slice A n c] 29)) (by simp; omega) (.cells #[.slice none 0 0] 29)
  have hC : ((w.alloc (.cells #[.slice A n c] 29)).alloc (.cells #[.slice none 0 0] 29)).cell? ⟨w.heap.size, 0, none⟩ = some (.slice A n c) := (al_old _ _ _ _ (by simp)).trans (al_new _ _ _ _ rfl)
  have hQ : ((w.alloc (.cells #[.slice A n c] 29)).alloc (.cells #[.slice none 0 0] 29)).heap[w.heap.size + 1]? = some (.cells #[.slice none 0 0] 29 (0, 0)) := heap_new _ _ _ (by simp)
  have hB : Below w.heap.size w ((w.alloc (.cells #[.slice A n c] 29)).alloc (.cells #[.slice none 0 0] 29)) := ((Below.refl _ _).alloc (Nat.le_refl _) _).alloc (by simp) _
  replace hl := Lib.hid hl
  go_enter Try.func36, Try.ntmps36
  go_wp2_with fail
  obtain ⟨W1, hW⟩ : ∃ W1 : World, (w.alloc (.cells #[.slice A n c] 29)).alloc (.cells #[.slice none 0 0] 29) = W1 := ⟨_, rfl⟩
  have hz1 : W1.heap.size = w.heap.size + 2 := by rw [← hW]; simp
  rw [hW] at hR hC hB hQ ⊢
  replace hQ := Lib.hid hQ
  clear hW h
  ((with_reducible refine (leastWith_any _ A n c xss x y _ hC (by omega) hR (by omega) hnc).mono ?_); rintro e w2 ⟨fl, cd, rfl, Hl, f2⟩)
  have y2 := f2.size
  have B2 : Below W1.heap.size W1 w2 := f2
  have C2 := (f2.cell (p := ⟨w.heap.size, 0, none⟩) (by simp; omega)).trans hC
  have R2 := hR.below f2 (by omega)
  have Q2 := (B2.block (w.heap.size + 1) (by omega)).trans hQ.out
  have CQ2 : w2.cell? ⟨w.heap.size + 1, 0, none⟩ = some (.slice none 0 0) := by rw [cell_of_row _ _ _ _ _ _ Q2]; rfl
  have FQ2 : w2.frozen? ⟨w.heap.size + 1, 0, none⟩ = false := frozen_of_row _ _ _ _ _ Q2
  replace Q2 := Lib.hid Q2
  by_cases hcd : cd = 0
  · subst hcd
    obtain ⟨hM, hi0, hi1, hxa, hxc⟩ := lw_zero Hl.out
    rw [hl.out] at hi1
    have hP := isManB_iff.1 hM
    have hn1 : 1 ≤ n := by have := hP.r1; have := hl.out; omega
    have hn5 : n ≤ 5 := by have := hP.r5; have := hl.out; omega
    have hf4 := hP.f4
    have hS := Lib.hid hP.sys
    clear hP
    replace hM := Lib.hid hM
    by_cases hst : x = 0
    · have hF : facF xss x y = ([], 5) := gen_5 Hl.out (by rw [hst])
      have hsb : (x == 0) = true := by simpa using hst
      replace hF := Lib.hid hF
      replace hst := Lib.hid hst
      go_wp2_with fail
      have g2 := heap_setCell_same _ _ 0 _ _ (Value.slice none 0 0) Q2.out
      (try simp only [Exit.inBlock, Exit.then])
      refine bodyPost_ret (v := .tuple #[.agg #[.slice none 0 0], .int .i64 5]) ?_ rfl ?_
      · exact results_cell_row2 rfl _ _ (w.heap.size + 1) 29 #[.slice none 0 0] (0, 0) _ rfl (by simpa using g2) Try.underlying29 rfl (by kernel_rfl) _ rfl
      · exact ⟨_, 0, _, [], _, rfl, Lib.hid hF.out.symm, OwnS.nil, by simp [numsIn], (hB.trans (B2.mono (by omega))).setCell (by simp) _⟩
    · have hF0 := gen_0 (st := 0) (R := (fun fl => formL (subL xss 0 x.toNat) (flg xss) fl)) Hl.out (by exact hst)
      have hsb : (x == 0) = false := by simpa using hst
      obtain ⟨x, rfl⟩ : ∃ q : Nat, x = q := ⟨x.toNat, by omega⟩
      have hF : facF xss x y = (formL (subL xss 0 x) (flg xss) fl, 0) := by have h9 := hF0; rw [Int.toNat_natCast] at h9; unfold facF; rw [Int.toNat_natCast]; exact h9
      have hsl : (subL xss 0 x).length = x := subL_length (by have := hl.out; omega) (by omega)
      have hnum := formL_nums (sysOf_sub hS.out 0 x) hxa hxc hf4 (by have := hl.out; omega)
      rw [formL_length, hsl] at hnum
      replace hsl := Lib.hid hsl
      replace hF := Lib.hid hF
      replace hF0 := Lib.hid hF0
      replace hst := Lib.hid hst
      have hst9 := hst.out
      obtain ⟨b0, o0, A0, n0, c0, p0, rfl, _, _, _, _, _⟩ := R2.at_ (k := 0) (by omega)
      have hxp : 0 < x := by omega
      have hxn : x ≤ n := by omega
      have hxcc : x ≤ c := by omega
      have hI2 : (x : Int) ≤ (n : Int) := by omega
      have hI3 : (x : Int) ≤ (c : Int) := by omega
      replace hst9 := Lib.hid hst9
      go_wp2_with fail
      have hsb9 : RS w2 lo hi (some ⟨b0, o0, none⟩) x (subL xss 0 x) := rs_sub (i := 0) (j := x) R2 (by omega) (by omega) (fun _ => by simp)
      ((with_reducible refine (formFrom_any (flg xss) (some ⟨b0, o0, none⟩) x c (subL xss 0 x) fl _ hsb9 (by omega) (by omega) (by omega) hf4 (sysOf_sub hS.out 0 x) hxa hxc).mono ?_); rintro e w9 ⟨A9, c9, rfl, o9, f9⟩)
      have B9 : Below W1.heap.size W1 w9 := below_then B2 f9 (by omega)
      have Q9 := (B9.block (w.heap.size + 1) (by omega)).trans hQ.out
      have CQ9 : w9.cell? ⟨w.heap.size + 1, 0, none⟩ = some (.slice none 0 0) := by rw [cell_of_row _ _ _ _ _ _ Q9]; rfl
      have FQ9 : w9.frozen? ⟨w.heap.size + 1, 0, none⟩ = false := frozen_of_row _ _ _ _ _ Q9
      replace Q9 := Lib.hid Q9
      go_wp2_with fail
      have g2 := heap_setCell_same _ _ 0 _ _ (Value.slice A9 (x) c9) Q9.out
      (try simp only [Exit.inBlock, Exit.then])
      refine bodyPost_ret (v := .tuple #[.agg #[.slice A9 (x) c9], .int .i64 0]) ?_ rfl ?_
      · exact results_cell_row2 rfl _ _ (w.heap.size + 1) 29 #[.slice A9 (x) c9] (0, 0) _ rfl (by simpa using g2) Try.underlying29 rfl (by kernel_rfl) _ rfl
      · exact ⟨A9, _, c9, _, _, rfl, Lib.hid hF.out.symm, (o9.keep (same_set _ _ _ _ _ (.inl (by simp; omega)))).more (by omega) (by simp), hnum, (hB.trans (B9.mono (by omega))).setCell (by simp) _⟩
  · have hF : facF xss x y = ([], cd) := gen_c Hl.out hcd
    have hcb : (cd != 0) = true := by simpa using hcd
    replace hF := Lib.hid hF
    replace hcd := Lib.hid hcd
    go_wp2_with fail
    have g2 := heap_setCell_same _ _ 0 _ _ (Value.slice none 0 0) Q2.out
    (try simp only [Exit.inBlock, Exit.then])
    refine bodyPost_ret (v := .tuple #[.agg #[.slice none 0 0], .int .i64 cd]) ?_ rfl ?_
    · exact results_cell_row2 rfl _ _ (w.heap.size + 1) 29 #[.slice none 0 0] (0, 0) _ rfl (by simpa using g2) Try.underlying29 rfl (by kernel_rfl) _ rfl
    · exact ⟨_, 0, _, [], _, rfl, Lib.hid hF.out.symm, OwnS.nil, by simp [numsIn], (hB.trans (B2.mono (by omega))).setCell (by simp) _⟩
set_option maxHeartbeats 8000000 in
theorem s_CofaceAsManiplex_any (w : World) (A : Option Addr) (n c : Nat) (xss : List (List Int)) {lo hi : Nat} (h : RS w lo hi A n xss) (hhi : hi ≤ w.heap.size) (hnc : n ≤ c) (x : Int) (hx : -9223372036854775808 ≤ x ∧ x ≤ 9223372036854775807) (y : Int) (hy : -9223372036854775808 ≤ y ∧ y ≤ 9223372036854775807) :
    Calls Try.prog 37 #[.agg #[.slice A n c], .int .i64 x, .int .i64 y] w fun e w' => ∃ (A1 : Option Addr) (n1 c1 : Nat) (zss : List (List Int)) (code : Int), e = .returned (.tuple #[.agg #[.slice A1 n1 c1], .int .i64 code]) ∧ Hid ((zss, code) = cofF xss x y) ∧ OwnS w' w.heap.size w'.heap.size 26 2 A1 n1 c1 zss ∧ n1 + numsIn zss ≤ 1048576 ∧ Below w.heap.size w w' := by
  have hm := h.max
  have hl := h.len
  obtain ⟨hx0, hx1⟩ := hx
  obtain ⟨hy0, hy1⟩ := hy
  have hR := rs_alloc (rs_alloc h hhi (.cells #[.slice A n c] 29)) (by simp; omega) (.cells #[.slice none 0 0] 29)
  have hC : ((w.alloc (.cells #[.slice A n c] 29)).alloc (.cells #[.slice none 0 0] 29)).cell? ⟨w.heap.size, 0, none⟩ = some (.slice A n c) := (al_old _ _ _ _ (by simp)).trans (al_new _ _ _ _ rfl)
  have hQ : ((w.alloc (.cells #[.slice A n c] 29)).alloc (.cells #[.slice none 0 0] 29)).heap[w.heap.size + 1]? = some (.cells #[.slice none 0 0] 29 (0, 0)) := heap_new _ _ _ (by simp)
  have hB : Below w.heap.size w ((w.alloc (.cells #[.slice A n c] 29)).alloc (.cells #[.slice none 0 0] 29)) := ((Below.refl _ _).alloc (Nat.le_refl _) _).alloc (by simp) _
  replace hl := Lib.hid hl
  go_enter Try.func37, Try.ntmps37
  go_wp2_with fail
  obtain ⟨W1, hW⟩ : ∃ W1 : World, (w.alloc (.cells #[.slice A n c] 29)).alloc (.cells #[.slice none 0 0] 29) = W1 := ⟨_, rfl⟩
  have hz1 : W1.heap.size = w.heap.size + 2 := by rw [← hW]; simp
  rw [hW] at hR hC hB hQ ⊢
  replace hQ := Lib.hid hQ
  clear hW h
  ((with_reducible refine (l04Face_any A n c xss x y _ _ hR (by omega)).mono ?_); rintro e w2 ⟨fl, cd, rfl, Hl, f2⟩)
  have y2 := f2.size
  have B2 : Below W1.heap.size W1 w2 := f2
  have C2 := (f2.cell (p := ⟨w.heap.size, 0, none⟩) (by simp; omega)).trans hC
  have R2 := hR.below f2 (by omega)
  have Q2 := (B2.block (w.heap.size + 1) (by omega)).trans hQ.out
  have CQ2 : w2.cell? ⟨w.heap.size + 1, 0, none⟩ = some (.slice none 0 0) := by rw [cell_of_row _ _ _ _ _ _ Q2]; rfl
  have FQ2 : w2.frozen? ⟨w.heap.size + 1, 0, none⟩ = false := frozen_of_row _ _ _ _ _ Q2
  replace Q2 := Lib.hid Q2
  by_cases hcd : cd = 0
  · subst hcd
    obtain ⟨Hl, hne⟩ := l4_0 Hl.out
    replace Hl := Lib.hid Hl
    obtain ⟨hM, hi0, hi1, hxa, hxc⟩ := lw_zero Hl.out
    rw [hl.out] at hi1
    have hP := isManB_iff.1 hM
    have hn1 : 1 ≤ n := by have := hP.r1; have := hl.out; omega
    have hn5 : n ≤ 5 := by have := hP.r5; have := hl.out; omega
    have hf4 := hP.f4
    have hS := Lib.hid hP.sys
    clear hP
    replace hM := Lib.hid hM
    have hF0 := gen_0 (st := ((xss.length : Int) - 1)) (R := (fun fl => formL (subL xss (x.toNat + 1) xss.length) (flg xss) fl)) Hl.out (by rw [hl.out]; exact hne)
    have hst : ¬ x = ((n : Int) - 1) := hne
    obtain ⟨x, rfl⟩ : ∃ q : Nat, x = q := ⟨x.toNat, by omega⟩
    have hF : cofF xss x y = (formL (subL xss (x + 1) n) (flg xss) fl, 0) := by have h9 := hF0; rw [Int.toNat_natCast] at h9; rw [hl.out] at h9; unfold cofF; rw [Int.toNat_natCast]; rw [hl.out]; exact h9
    have hsl : (subL xss (x + 1) n).length = n - (x + 1) := subL_length (by have := hl.out; omega) (by omega)
    have hnum := formL_nums (sysOf_sub hS.out (x + 1) n) hxa hxc hf4 (by have := hl.out; omega)
    rw [formL_length, hsl] at hnum
    replace hsl := Lib.hid hsl
    replace hF := Lib.hid hF
    replace hF0 := Lib.hid hF0
    replace hst := Lib.hid hst
    have hst9 := hst.out
    obtain ⟨b0, o0, A0, n0, c0, p0, rfl, _, _, _, _, _⟩ := R2.at_ (k := 0) (by omega)
    have hxn : x + 1 < n := by omega
    have hxcc : x + 1 ≤ c := by omega
    have hcx : ¬ c = x + 1 := by omega
    have hI2 : (x : Int) + 1 ≤ (n : Int) := by omega
    have hI3 : (x : Int) + 1 ≤ (c : Int) := by omega
    replace hst9 := Lib.hid hst9
    go_wp2_with fail
    have hsec := l04Section_any (flg xss) (some ⟨b0, o0, none⟩) n c xss fl (x + 1) (n - 1) ((x : Int) + 1) ((n : Int) - 1) (by omega) (by omega) _ R2 (by omega) hnc (by omega) (by omega) (by omega) rfl hf4 hS.out hxa hxc
    rw [show n - 1 + 1 = n by omega] at hsec
    ((with_reducible refine hsec.mono ?_); rintro e w9 ⟨A9, c9, rfl, o9, f9⟩)
    have B9 : Below W1.heap.size W1 w9 := below_then B2 f9 (by omega)
    have Q9 := (B9.block (w.heap.size + 1) (by omega)).trans hQ.out
    have CQ9 : w9.cell? ⟨w.heap.size + 1, 0, none⟩ = some (.slice none 0 0) := by rw [cell_of_row _ _ _ _ _ _ Q9]; rfl
    have FQ9 : w9.frozen? ⟨w.heap.size + 1, 0, none⟩ = false := frozen_of_row _ _ _ _ _ Q9
    replace Q9 := Lib.hid Q9
    go_wp2_with fail
    have g2 := heap_setCell_same _ _ 0 _ _ (Value.slice A9 (n - (x + 1)) c9) Q9.out
    (try simp only [Exit.inBlock, Exit.then])
    refine bodyPost_ret (v := .tuple #[.agg #[.slice A9 (n - (x + 1)) c9], .int .i64 0]) ?_ rfl ?_
    · exact results_cell_row2 rfl _ _ (w.heap.size + 1) 29 #[.slice A9 (n - (x + 1)) c9] (0, 0) _ rfl (by simpa using g2) Try.underlying29 rfl (by kernel_rfl) _ rfl
    · exact ⟨A9, _, c9, _, _, rfl, Lib.hid hF.out.symm, (o9.keep (same_set _ _ _ _ _ (.inl (by simp; omega)))).more (by omega) (by simp), hnum, (hB.trans (B9.mono (by omega))).setCell (by simp) _⟩
  · have hF : cofF xss x y = ([], cd) := by have h9 := Hl.out; rw [← hl.out] at h9; exact l4_c h9 hcd
    have hcb : (cd != 0) = true := by simpa using hcd
    replace hF := Lib.hid hF
    replace hcd := Lib.hid hcd
    go_wp2_with fail
    have g2 := heap_setCell_same _ _ 0 _ _ (Value.slice none 0 0) Q2.out
    (try simp only [Exit.inBlock, Exit.then])
    refine bodyPost_ret (v := .tuple #[.agg #[.slice none 0 0], .int .i64 cd]) ?_ rfl ?_
    · exact results_cell_row2 rfl _ _ (w.heap.size + 1) 29 #[.slice none 0 0] (0, 0) _ rfl (by simpa using g2) Try.underlying29 rfl (by kernel_rfl) _ rfl
    · exact ⟨_, 0, _, [], _, rfl, Lib.hid hF.out.symm, OwnS.nil, by simp [numsIn], (hB.trans (B2.mono (by omega))).setCell (by simp) _⟩
set_option maxHeartbeats 8000000 in
theorem i_CofaceAsManiplex_any (w : World) (A : Option Addr) (n c : Nat) (xss : List (List Int)) {lo hi : Nat} (h : RS w lo hi A n xss) (hhi : hi ≤ w.heap.size) (hnc : n ≤ c) (x : Int) (hx : -9223372036854775808 ≤ x ∧ x ≤ 9223372036854775807) (y : Int) (hy : -9223372036854775808 ≤ y ∧ y ≤ 9223372036854775807) :
    Calls Try.prog 38 #[.agg #[.slice A n c], .int .i64 x, .int .i64 y] w fun e w' => ∃ (A1 : Option Addr) (n1 c1 : Nat) (zss : List (List Int)) (code : Int), e = .returned (.tuple #[.agg #[.slice A1 n1 c1], .int .i64 code]) ∧ Hid ((zss, code) = cofF xss x y) ∧ OwnS w' w.heap.size w'.heap.size 26 2 A1 n1 c1 zss ∧ n1 + numsIn zss ≤ 1048576 ∧ Below w.heap.size w w' := by
  have hm := h.max
  have hl := h.len
  obtain ⟨hx0, hx1⟩ := hx
  obtain ⟨hy0, hy1⟩ := hy
  have hR := rs_alloc (rs_alloc h hhi (.cells #[.slice A n c] 29)) (by simp; omega) (.cells #[.slice none 0 0] 29)
  have hC : ((w.alloc (.cells #[.slice A n c] 29)).alloc (.cells #[.slice none 0 0] 29)).cell? ⟨w.heap.size, 0, none⟩ = some (.slice A n c) := (al_old _ _ _ _ (by simp)).trans (al_new _ _ _ _ rfl)
  have hQ : ((w.alloc (.cells #[.slice A n c] 29)).alloc (.cells #[.slice none 0 0] 29)).heap[w.heap.size + 1]? = some (.cells #[.slice none 0 0] 29 (0, 0)) := heap_new _ _ _ (by simp)
  have hB : Below w.heap.size w ((w.alloc (.cells #[.slice A n c] 29)).alloc (.cells #[.slice none 0 0] 29)) := ((Below.refl _ _).alloc (Nat.le_refl _) _).alloc (by simp) _
  replace hl := Lib.hid hl
  go_enter Try.func38, Try.ntmps38
  go_wp2_with fail
  obtain ⟨W1, hW⟩ : ∃ W1 : World, (w.alloc (.cells #[.slice A n c] 29)).alloc (.cells #[.slice none 0 0] 29) = W1 := ⟨_, rfl⟩
  have hz1 : W1.heap.size = w.heap.size + 2 := by rw [← hW]; simp
  rw [hW] at hR hC hB hQ ⊢
  replace hQ := Lib.hid hQ
  clear hW h
  ((with_reducible refine (leastWith_any _ A n c xss x y _ hC (by omega) hR (by omega) hnc).mono ?_); rintro e w2 ⟨fl, cd, rfl, Hl, f2⟩)
  have y2 := f2.size
  have B2 : Below W1.heap.size W1 w2 := f2
  have C2 := (f2.cell (p := ⟨w.heap.size, 0, none⟩) (by simp; omega)).trans hC
  have R2 := hR.below f2 (by omega)
  have Q2 := (B2.block (w.heap.size + 1) (by omega)).trans hQ.out
  have CQ2 : w2.cell? ⟨w.heap.size + 1, 0, none⟩ = some (.slice none 0 0) := by rw [cell_of_row _ _ _ _ _ _ Q2]; rfl
  have FQ2 : w2.frozen? ⟨w.heap.size + 1, 0, none⟩ = false := frozen_of_row _ _ _ _ _ Q2
  replace Q2 := Lib.hid Q2
  by_cases hcd : cd = 0
  · subst hcd
    obtain ⟨hM, hi0, hi1, hxa, hxc⟩ := lw_zero Hl.out
    rw [hl.out] at hi1
    have hP := isManB_iff.1 hM
    have hn1 : 1 ≤ n := by have := hP.r1; have := hl.out; omega
    have hn5 : n ≤ 5 := by have := hP.r5; have := hl.out; omega
    have hf4 := hP.f4
    have hS := Lib.hid hP.sys
    clear hP
    replace hM := Lib.hid hM
    by_cases hst : x = ((n : Int) - 1)
    · have hF : cofF xss x y = ([], 5) := gen_5 Hl.out (by rw [hst]; rw [hl.out])
      have hsb : (x == ((n : Int) - 1)) = true := by simpa using hst
      replace hF := Lib.hid hF
      replace hst := Lib.hid hst
      go_wp2_with fail
      ((with_reducible refine (rank_any _ A n c _ C2 (by omega)).mono ?_); rintro e w' ⟨rfl, rfl⟩)
      go_wp2_with fail
      have g2 := heap_setCell_same _ _ 0 _ _ (Value.slice none 0 0) Q2.out
      (try simp only [Exit.inBlock, Exit.then])
      refine bodyPost_ret (v := .tuple #[.agg #[.slice none 0 0], .int .i64 5]) ?_ rfl ?_
      · exact results_cell_row2 rfl _ _ (w.heap.size + 1) 29 #[.slice none 0 0] (0, 0) _ rfl (by simpa using g2) Try.underlying29 rfl (by kernel_rfl) _ rfl
      · exact ⟨_, 0, _, [], _, rfl, Lib.hid hF.out.symm, OwnS.nil, by simp [numsIn], (hB.trans (B2.mono (by omega))).setCell (by simp) _⟩
    · have hF0 := gen_0 (st := ((xss.length : Int) - 1)) (R := (fun fl => formL (subL xss (x.toNat + 1) xss.length) (flg xss) fl)) Hl.out (by rw [hl.out]; exact hst)
      have hsb : (x == ((n : Int) - 1)) = false := by simpa using hst
      obtain ⟨x, rfl⟩ : ∃ q : Nat, x = q := ⟨x.toNat, by omega⟩
      have hF : cofF xss x y = (formL (subL xss (x + 1) n) (flg xss) fl, 0) := by have h9 := hF0; rw [Int.toNat_natCast] at h9; rw [hl.out] at h9; unfold cofF; rw [Int.toNat_natCast]; rw [hl.out]; exact h9
      have hsl : (subL xss (x + 1) n).length = n - (x + 1) := subL_length (by have := hl.out; omega) (by omega)
      have hnum := formL_nums (sysOf_sub hS.out (x + 1) n) hxa hxc hf4 (by have := hl.out; omega)
      rw [formL_length, hsl] at hnum
      replace hsl := Lib.hid hsl
      replace hF := Lib.hid hF
      replace hF0 := Lib.hid hF0
      replace hst := Lib.hid hst
      have hst9 := hst.out
      obtain ⟨b0, o0, A0, n0, c0, p0, rfl, _, _, _, _, _⟩ := R2.at_ (k := 0) (by omega)
      have hxn : x + 1 < n := by omega
      have hxcc : x + 1 ≤ c := by omega
      have hcx : ¬ c = x + 1 := by omega
      have hI2 : (x : Int) + 1 ≤ (n : Int) := by omega
      have hI3 : (x : Int) + 1 ≤ (c : Int) := by omega
      replace hst9 := Lib.hid hst9
      go_wp2_with fail
      ((with_reducible refine (rank_any _ (some ⟨b0, o0, none⟩) n c _ C2 (by omega)).mono ?_); rintro e w' ⟨rfl, rfl⟩)
      go_wp2_with fail
      ((with_reducible refine (formFrom_any (flg xss) (some ⟨b0, o0 + (x + 1), none⟩) (n - (x + 1)) (c - (x + 1)) (subL xss (x + 1) n) fl _ (rs_sub R2 (by omega) (by omega) (fun _ => rfl)) (by omega) (by omega) (by omega) hf4 (sysOf_sub hS.out (x + 1) n) hxa hxc).mono ?_); rintro e w9 ⟨A9, c9, rfl, o9, f9⟩)
      have B9 : Below W1.heap.size W1 w9 := below_then B2 f9 (by omega)
      have Q9 := (B9.block (w.heap.size + 1) (by omega)).trans hQ.out
      have CQ9 : w9.cell? ⟨w.heap.size + 1, 0, none⟩ = some (.slice none 0 0) := by rw [cell_of_row _ _ _ _ _ _ Q9]; rfl
      have FQ9 : w9.frozen? ⟨w.heap.size + 1, 0, none⟩ = false := frozen_of_row _ _ _ _ _ Q9
      replace Q9 := Lib.hid Q9
      go_wp2_with fail
      have g2 := heap_setCell_same _ _ 0 _ _ (Value.slice A9 (n - (x + 1)) c9) Q9.out
      (try simp only [Exit.inBlock, Exit.then])
      refine bodyPost_ret (v := .tuple #[.agg #[.slice A9 (n - (x + 1)) c9], .int .i64 0]) ?_ rfl ?_
      · exact results_cell_row2 rfl _ _ (w.heap.size + 1) 29 #[.slice A9 (n - (x + 1)) c9] (0, 0) _ rfl (by simpa using g2) Try.underlying29 rfl (by kernel_rfl) _ rfl
      · exact ⟨A9, _, c9, _, _, rfl, Lib.hid hF.out.symm, (o9.keep (same_set _ _ _ _ _ (.inl (by simp; omega)))).more (by omega) (by simp), hnum, (hB.trans (B9.mono (by omega))).setCell (by simp) _⟩
  · have hF : cofF xss x y = ([], cd) := gen_c Hl.out hcd
    have hcb : (cd != 0) = true := by simpa using hcd
    replace hF := Lib.hid hF
    replace hcd := Lib.hid hcd
    go_wp2_with fail
    have g2 := heap_setCell_same _ _ 0 _ _ (Value.slice none 0 0) Q2.out
    (try simp only [Exit.inBlock, Exit.then])
    refine bodyPost_ret (v := .tuple #[.agg #[.slice none 0 0], .int .i64 cd]) ?_ rfl ?_
    · exact results_cell_row2 rfl _ _ (w.heap.size + 1) 29 #[.slice none 0 0] (0, 0) _ rfl (by simpa using g2) Try.underlying29 rfl (by kernel_rfl) _ rfl
    · exact ⟨_, 0, _, [], _, rfl, Lib.hid hF.out.symm, OwnS.nil, by simp [numsIn], (hB.trans (B2.mono (by omega))).setCell (by simp) _⟩
end Go.Proofs.Ytpbkdjkgaalegaa
