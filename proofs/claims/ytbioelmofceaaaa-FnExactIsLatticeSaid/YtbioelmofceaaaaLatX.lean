/- Walks: IsLattice, the program's and the reference's. No condition but the sizes of memory. -/
import Derived.Test.YtbioelmofceaaaaLat
import Derived.Test.YtbioelmofceaaaaLatS
import Derived.Test.YtbioelmofceaaaaOppX
import Derived.Test.YtbioelmofceaaaaLawP
namespace Go.Proofs.Ytbioelmofceaaaa
open Go.RowKit
set_option linter.unusedVariables false
set_option maxRecDepth 100000
theorem latF_no {r : Int} {ps : List Int} {xss : List (List Int)} (h : isPosB r ps xss = false) : latF r ps xss = (false, 1) := by unfold latF; rw [h]; rfl
theorem latF_a {r : Int} {ps : List Int} {xss : List (List Int)} (h : isPosB r ps xss = true) (h1 : meetB xss = false) : latF r ps xss = (false, 0) := by unfold latF; rw [if_pos h, h1]; rfl
theorem latF_b {r : Int} {ps : List Int} {xss : List (List Int)} (h : isPosB r ps xss = true) (h1 : meetB xss = true) : latF r ps xss = (meetB (oppB xss), 0) := by unfold latF; rw [if_pos h, h1]; rfl
set_option maxHeartbeats 4000000 in
theorem i_IsLattice_any (w : World) (r : Int) (hr : -9223372036854775808 ≤ r ∧ r ≤ 9223372036854775807) (D : Option Addr) (k e : Nat) (ps : List Int) {lo hi : Nat} (g : RI w lo hi D k ps) (hg : hi ≤ w.heap.size) (hke : k ≤ e) (A : Option Addr) (n c : Nat) (xss : List (List Int)) {lo' hi' : Nat} (h : RS w lo' hi' A n xss) (hhi : hi' ≤ w.heap.size) (hnc : n ≤ c) :
    Calls Try.prog 10 #[.agg #[.int .i64 r, .slice D k e, .slice A n c]] w fun e' w' => ∃ (y : Bool) (code : Int), e' = .returned (.tuple #[.bool y, .int .i64 code]) ∧ Hid ((y, code) = latF r ps xss) ∧ Below w.heap.size w w' := by
  have hl := g.len
  have hl1 := h.len
  have hm := g.max
  have hm1 := h.max
  have hR := rs_alloc h hhi (.cells #[.int .i64 r, .slice D k e, .slice A n c] 29)
  have hG := ri_alloc g hg (.cells #[.int .i64 r, .slice D k e, .slice A n c] 29)
  have hB : Below w.heap.size w (w.alloc (.cells #[.int .i64 r, .slice D k e, .slice A n c] 29)) := (Below.refl _ _).alloc (Nat.le_refl _) _
  have p0 : (w.alloc (.cells #[.int .i64 r, .slice D k e, .slice A n c] 29)).heap[w.heap.size]? = some (.cells #[.int .i64 r, .slice D k e, .slice A n c] 29 (0, 0)) := heap_new _ _ _ rfl
  have b0 : (w.alloc (.cells #[.int .i64 r, .slice D k e, .slice A n c] 29)).cell? ⟨w.heap.size, 0, none⟩ = some (.int .i64 r) := by simp
  have b1 : (w.alloc (.cells #[.int .i64 r, .slice D k e, .slice A n c] 29)).cell? ⟨w.heap.size, 1, none⟩ = some (.slice D k e) := by simp
  have b2 : (w.alloc (.cells #[.int .i64 r, .slice D k e, .slice A n c] 29)).cell? ⟨w.heap.size, 2, none⟩ = some (.slice A n c) := by simp
  replace p0 := Lib.hid p0
  cases hM : isPosB r ps xss with
  | false =>
    have hF := latF_no hM
    replace hF := Lib.hid hF
    replace hM := Lib.hid hM
    replace hl := Lib.hid hl
    replace hl1 := Lib.hid hl1
    go_enter Try.func10, Try.ntmps10
    go_wp2_with fail
    obtain ⟨W1, hW⟩ : ∃ W1 : World, w.alloc (.cells #[.int .i64 r, .slice D k e, .slice A n c] 29) = W1 := ⟨_, rfl⟩
    have hz1 : W1.heap.size = w.heap.size + 1 := by rw [← hW]; simp
    rw [hW] at hR hG hB p0 b0 b1 b2 ⊢
    clear hW h g
    ((with_reducible refine (isPoset_any r hr D k e ps A n c xss _ hG (by omega) hR (by omega)).mono ?_); rintro e2 w2 ⟨rfl, f2⟩)
    rw [hM.out]
    go_wp2_with fail
    go_ret2
    exact ⟨_, _, rfl, Lib.hid hF.out.symm, hB.trans (f2.mono (by omega))⟩
  | true =>
    have hp := isPosB_iff.1 hM
    have hnk : n = k := by have := hp.len; omega
    subst hnk
    have hn5 : n ≤ 500 := by have := hp.n5; omega
    have hD1 := dwn_pos hp
    have hD2 := dwn_opp xss
    cases hG1 : meetB xss with
    | false =>
      have hF := latF_a hM hG1
      replace hF := Lib.hid hF
      replace hM := Lib.hid hM
      replace hG1 := Lib.hid hG1
      replace hl := Lib.hid hl
      replace hl1 := Lib.hid hl1
      replace hD1 := Lib.hid hD1
      replace hD2 := Lib.hid hD2
      replace hp := Lib.hid hp
      go_enter Try.func10, Try.ntmps10
      go_wp2_with fail
      obtain ⟨W1, hW⟩ : ∃ W1 : World, w.alloc (.cells #[.int .i64 r, .slice D n e, .slice A n c] 29) = W1 := ⟨_, rfl⟩
      have hz1 : W1.heap.size = w.heap.size + 1 := by rw [← hW]; simp
      rw [hW] at hR hG hB p0 b0 b1 b2 ⊢
      clear hW h g
      ((with_reducible refine (isPoset_any r hr D n e ps A n c xss _ hG (by omega) hR (by omega)).mono ?_); rintro e2 w2 ⟨rfl, f2⟩)
      rw [hM.out]
      have y2 := f2.size
      have a0 : w2.cell? ⟨w.heap.size, 0, none⟩ = some (.int .i64 r) := by rw [cell_of_row _ _ _ _ _ _ ((f2.block _ (by omega)).trans p0.out)]; rfl
      have a1 : w2.cell? ⟨w.heap.size, 1, none⟩ = some (.slice D n e) := by rw [cell_of_row _ _ _ _ _ _ ((f2.block _ (by omega)).trans p0.out)]; rfl
      have a2 : w2.cell? ⟨w.heap.size, 2, none⟩ = some (.slice A n c) := by rw [cell_of_row _ _ _ _ _ _ ((f2.block _ (by omega)).trans p0.out)]; rfl
      go_wp2_with fail
      ((with_reducible refine (haveGreatest_any r D e n ps A c xss w2 (hR.below f2 (by omega)) (by omega) hn5 hD1.out).mono ?_); rintro e3 w3 ⟨rfl, f3⟩)
      rw [hG1.out]
      have y3 := f3.size
      have F3 : Below W1.heap.size W1 w3 := below_then f2 f3 (by omega)
      go_wp2_with fail
      go_ret2
      exact ⟨_, _, rfl, Lib.hid hF.out.symm, hB.trans (F3.mono (by omega))⟩
    | true =>
      have hF := latF_b hM hG1
      replace hF := Lib.hid hF
      replace hM := Lib.hid hM
      replace hG1 := Lib.hid hG1
      replace hl := Lib.hid hl
      replace hl1 := Lib.hid hl1
      replace hD1 := Lib.hid hD1
      replace hD2 := Lib.hid hD2
      replace hp := Lib.hid hp
      go_enter Try.func10, Try.ntmps10
      go_wp2_with fail
      obtain ⟨W1, hW⟩ : ∃ W1 : World, w.alloc (.cells #[.int .i64 r, .slice D n e, .slice A n c] 29) = W1 := ⟨_, rfl⟩
      have hz1 : W1.heap.size = w.heap.size + 1 := by rw [← hW]; simp
      rw [hW] at hR hG hB p0 b0 b1 b2 ⊢
      clear hW h g
      ((with_reducible refine (isPoset_any r hr D n e ps A n c xss _ hG (by omega) hR (by omega)).mono ?_); rintro e2 w2 ⟨rfl, f2⟩)
      rw [hM.out]
      have y2 := f2.size
      have a0 : w2.cell? ⟨w.heap.size, 0, none⟩ = some (.int .i64 r) := by rw [cell_of_row _ _ _ _ _ _ ((f2.block _ (by omega)).trans p0.out)]; rfl
      have a1 : w2.cell? ⟨w.heap.size, 1, none⟩ = some (.slice D n e) := by rw [cell_of_row _ _ _ _ _ _ ((f2.block _ (by omega)).trans p0.out)]; rfl
      have a2 : w2.cell? ⟨w.heap.size, 2, none⟩ = some (.slice A n c) := by rw [cell_of_row _ _ _ _ _ _ ((f2.block _ (by omega)).trans p0.out)]; rfl
      go_wp2_with fail
      ((with_reducible refine (haveGreatest_any r D e n ps A c xss w2 (hR.below f2 (by omega)) (by omega) hn5 hD1.out).mono ?_); rintro e3 w3 ⟨rfl, f3⟩)
      rw [hG1.out]
      have y3 := f3.size
      have F3 : Below W1.heap.size W1 w3 := below_then f2 f3 (by omega)
      have d0 : w3.cell? ⟨w.heap.size, 0, none⟩ = some (.int .i64 r) := by rw [cell_of_row _ _ _ _ _ _ ((F3.block _ (by omega)).trans p0.out)]; rfl
      have d1 : w3.cell? ⟨w.heap.size, 1, none⟩ = some (.slice D n e) := by rw [cell_of_row _ _ _ _ _ _ ((F3.block _ (by omega)).trans p0.out)]; rfl
      have d2 : w3.cell? ⟨w.heap.size, 2, none⟩ = some (.slice A n c) := by rw [cell_of_row _ _ _ _ _ _ ((F3.block _ (by omega)).trans p0.out)]; rfl
      go_wp2_with fail
      ((with_reducible refine (oppositePoset_any r D e n ps A c xss w3 (hG.below F3 (by omega)) (by omega) (hR.below F3 (by omega)) (by omega) hp.out).mono ?_); rintro e4 w4 ⟨D4, A4, M4, rfl, o4, f4⟩)
      have y4 := f4.size
      have F4 : Below W1.heap.size W1 w4 := below_then F3 f4 (by omega)
      go_wp2_with fail
      ((with_reducible refine (haveGreatest_any r D4 n n (oppR r ps) A4 n (oppB xss) w4 o4.rs (by omega) hn5 hD2.out).mono ?_); rintro e5 w5 ⟨rfl, f5⟩)
      go_wp2_with fail
      go_ret2
      exact ⟨_, _, rfl, Lib.hid hF.out.symm, hB.trans ((below_then F4 f5 (by omega)).mono (by omega))⟩
set_option maxHeartbeats 4000000 in
theorem s_IsLattice_any (w : World) (r : Int) (hr : -9223372036854775808 ≤ r ∧ r ≤ 9223372036854775807) (D : Option Addr) (k e : Nat) (ps : List Int) {lo hi : Nat} (g : RI w lo hi D k ps) (hg : hi ≤ w.heap.size) (hke : k ≤ e) (A : Option Addr) (n c : Nat) (xss : List (List Int)) {lo' hi' : Nat} (h : RS w lo' hi' A n xss) (hhi : hi' ≤ w.heap.size) (hnc : n ≤ c) :
    Calls Try.prog 8 #[.agg #[.int .i64 r, .slice D k e, .slice A n c]] w fun e' w' => ∃ (y : Bool) (code : Int), e' = .returned (.tuple #[.bool y, .int .i64 code]) ∧ Hid ((y, code) = latF r ps xss) ∧ Below w.heap.size w w' := by
  have hl := g.len
  have hl1 := h.len
  have hm := g.max
  have hm1 := h.max
  have hR := rs_alloc h hhi (.cells #[.int .i64 r, .slice D k e, .slice A n c] 29)
  have hG := ri_alloc g hg (.cells #[.int .i64 r, .slice D k e, .slice A n c] 29)
  have hB : Below w.heap.size w (w.alloc (.cells #[.int .i64 r, .slice D k e, .slice A n c] 29)) := (Below.refl _ _).alloc (Nat.le_refl _) _
  have p0 : (w.alloc (.cells #[.int .i64 r, .slice D k e, .slice A n c] 29)).heap[w.heap.size]? = some (.cells #[.int .i64 r, .slice D k e, .slice A n c] 29 (0, 0)) := heap_new _ _ _ rfl
  have b0 : (w.alloc (.cells #[.int .i64 r, .slice D k e, .slice A n c] 29)).cell? ⟨w.heap.size, 0, none⟩ = some (.int .i64 r) := by simp
  have b1 : (w.alloc (.cells #[.int .i64 r, .slice D k e, .slice A n c] 29)).cell? ⟨w.heap.size, 1, none⟩ = some (.slice D k e) := by simp
  have b2 : (w.alloc (.cells #[.int .i64 r, .slice D k e, .slice A n c] 29)).cell? ⟨w.heap.size, 2, none⟩ = some (.slice A n c) := by simp
  replace p0 := Lib.hid p0
  cases hM : isPosB r ps xss with
  | false =>
    have hF := latF_no hM
    have hO : oppF r ps xss = (0, [], [], 1) := by unfold oppF; rw [hM]; rfl
    replace hF := Lib.hid hF
    replace hM := Lib.hid hM
    replace hl := Lib.hid hl
    replace hl1 := Lib.hid hl1
    replace hO := Lib.hid hO
    go_enter Try.func8, Try.ntmps8
    go_wp2_with fail
    obtain ⟨W1, hW⟩ : ∃ W1 : World, w.alloc (.cells #[.int .i64 r, .slice D k e, .slice A n c] 29) = W1 := ⟨_, rfl⟩
    have hz1 : W1.heap.size = w.heap.size + 1 := by rw [← hW]; simp
    rw [hW] at hR hG hB p0 b0 b1 b2 ⊢
    clear hW h g
    ((with_reducible refine (s_OppositePoset_any W1 r hr D k e ps hG (by omega) (by omega) A n c xss hR (by omega) (by omega)).mono ?_); rintro e2 w2 ⟨q1, D2, k2, e2', ds, A2, n2, c2, zss, code, rfl, H2, o2, -, f2⟩)
    obtain ⟨rfl, rfl, rfl, rfl⟩ : q1 = 0 ∧ ds = [] ∧ zss = [] ∧ code = 1 := by have e := H2.out.trans hO.out; simpa [and_assoc] using e
    clear H2
    have y2 := f2.size
    go_wp2_with fail
    go_ret2
    exact ⟨_, _, rfl, Lib.hid hF.out.symm, hB.trans ((f2.alloc (by omega) _).mono (by omega))⟩
  | true =>
    have hp := isPosB_iff.1 hM
    have hnk : n = k := by have := hp.len; omega
    subst hnk
    have hn5 : n ≤ 500 := by have := hp.n5; omega
    have hD1 := dwn_pos hp
    have hD2 := dwn_opp xss
    have hO : oppF r ps xss = (r, oppR r ps, oppB xss, 0) := by unfold oppF; rw [if_pos hM]
    have hln : (oppB xss).length = n := by rw [oppB_length, hl1]
    have hln2 : (oppR r ps).length = n := by rw [oppR_length, hl]
    cases hG1 : meetB xss with
    | false =>
      have hF := latF_a hM hG1
      replace hF := Lib.hid hF
      replace hM := Lib.hid hM
      replace hG1 := Lib.hid hG1
      replace hl := Lib.hid hl
      replace hl1 := Lib.hid hl1
      replace hD1 := Lib.hid hD1
      replace hD2 := Lib.hid hD2
      replace hp := Lib.hid hp
      replace hO := Lib.hid hO
      replace hln := Lib.hid hln
      replace hln2 := Lib.hid hln2
      go_enter Try.func8, Try.ntmps8
      go_wp2_with fail
      obtain ⟨W1, hW⟩ : ∃ W1 : World, w.alloc (.cells #[.int .i64 r, .slice D n e, .slice A n c] 29) = W1 := ⟨_, rfl⟩
      have hz1 : W1.heap.size = w.heap.size + 1 := by rw [← hW]; simp
      rw [hW] at hR hG hB p0 b0 b1 b2 ⊢
      clear hW h g
      ((with_reducible refine (s_OppositePoset_any W1 r hr D n e ps hG (by omega) (by omega) A n c xss hR (by omega) (by omega)).mono ?_); rintro e2 w2 ⟨q1, D2, k2, e2', ds, A2, n2, c2, zss, code, rfl, H2, o2, -, f2⟩)
      obtain ⟨rfl, rfl, rfl, rfl⟩ : q1 = r ∧ ds = oppR r ps ∧ zss = oppB xss ∧ code = 0 := by have e := H2.out.trans hO.out; simpa [and_assoc] using e
      clear H2
      have y2 := f2.size
      obtain rfl : n = k2 := by have := o2.ri.len; have := hln2.out; omega
      obtain rfl : n = n2 := by have := o2.rs.len; have := hln.out; omega
      have fa : Below w2.heap.size w2 (w2.alloc (.cells #[.int .i64 q1, .slice D2 n e2', .slice A2 n c2] 29)) := (Below.refl _ _).alloc (Nat.le_refl _) _
      have o3 := o2.below fa (Nat.le_refl _)
      have g0 : (w2.alloc (.cells #[.int .i64 q1, .slice D2 n e2', .slice A2 n c2] 29)).cell? ⟨w2.heap.size, 0, none⟩ = some (.int .i64 q1) := by simp
      have g1 : (w2.alloc (.cells #[.int .i64 q1, .slice D2 n e2', .slice A2 n c2] 29)).cell? ⟨w2.heap.size, 1, none⟩ = some (.slice D2 n e2') := by simp
      have g2 : (w2.alloc (.cells #[.int .i64 q1, .slice D2 n e2', .slice A2 n c2] 29)).cell? ⟨w2.heap.size, 2, none⟩ = some (.slice A2 n c2) := by simp
      have F3 := below_then f2 fa (by omega)
      have d0 : (w2.alloc (.cells #[.int .i64 q1, .slice D2 n e2', .slice A2 n c2] 29)).cell? ⟨w.heap.size, 0, none⟩ = some (.int .i64 q1) := by rw [cell_of_row _ _ _ _ _ _ ((F3.block _ (by omega)).trans p0.out)]; rfl
      have d1 : (w2.alloc (.cells #[.int .i64 q1, .slice D2 n e2', .slice A2 n c2] 29)).cell? ⟨w.heap.size, 1, none⟩ = some (.slice D n e) := by rw [cell_of_row _ _ _ _ _ _ ((F3.block _ (by omega)).trans p0.out)]; rfl
      have d2 : (w2.alloc (.cells #[.int .i64 q1, .slice D2 n e2', .slice A2 n c2] 29)).cell? ⟨w.heap.size, 2, none⟩ = some (.slice A n c) := by rw [cell_of_row _ _ _ _ _ _ ((F3.block _ (by omega)).trans p0.out)]; rfl
      go_wp2_with fail
      obtain ⟨w3, hw3⟩ : ∃ w3 : World, w2.alloc (.cells #[.int .i64 q1, .slice D2 n e2', .slice A2 n c2] 29) = w3 := ⟨_, rfl⟩
      have y3 : w3.heap.size = w2.heap.size + 1 := by rw [← hw3]; simp
      rw [hw3] at fa o3 g0 g1 g2 F3 d0 d1 d2 ⊢
      clear hw3
      ((with_reducible refine (l03Meets_any q1 D e n ps A c xss w3 (hR.below F3 (by omega)) (by omega) hn5 hD1.out).mono ?_); rintro e4 w4 ⟨rfl, f4⟩)
      rw [hG1.out]
      have y4 := f4.size
      have F4 := below_then F3 f4 (by omega)
      go_wp2_with fail
      go_ret2
      exact ⟨_, _, rfl, Lib.hid hF.out.symm, hB.trans (F4.mono (by omega))⟩
    | true =>
      have hF := latF_b hM hG1
      replace hF := Lib.hid hF
      replace hM := Lib.hid hM
      replace hG1 := Lib.hid hG1
      replace hl := Lib.hid hl
      replace hl1 := Lib.hid hl1
      replace hD1 := Lib.hid hD1
      replace hD2 := Lib.hid hD2
      replace hp := Lib.hid hp
      replace hO := Lib.hid hO
      replace hln := Lib.hid hln
      replace hln2 := Lib.hid hln2
      go_enter Try.func8, Try.ntmps8
      go_wp2_with fail
      obtain ⟨W1, hW⟩ : ∃ W1 : World, w.alloc (.cells #[.int .i64 r, .slice D n e, .slice A n c] 29) = W1 := ⟨_, rfl⟩
      have hz1 : W1.heap.size = w.heap.size + 1 := by rw [← hW]; simp
      rw [hW] at hR hG hB p0 b0 b1 b2 ⊢
      clear hW h g
      ((with_reducible refine (s_OppositePoset_any W1 r hr D n e ps hG (by omega) (by omega) A n c xss hR (by omega) (by omega)).mono ?_); rintro e2 w2 ⟨q1, D2, k2, e2', ds, A2, n2, c2, zss, code, rfl, H2, o2, -, f2⟩)
      obtain ⟨rfl, rfl, rfl, rfl⟩ : q1 = r ∧ ds = oppR r ps ∧ zss = oppB xss ∧ code = 0 := by have e := H2.out.trans hO.out; simpa [and_assoc] using e
      clear H2
      have y2 := f2.size
      obtain rfl : n = k2 := by have := o2.ri.len; have := hln2.out; omega
      obtain rfl : n = n2 := by have := o2.rs.len; have := hln.out; omega
      have fa : Below w2.heap.size w2 (w2.alloc (.cells #[.int .i64 q1, .slice D2 n e2', .slice A2 n c2] 29)) := (Below.refl _ _).alloc (Nat.le_refl _) _
      have o3 := o2.below fa (Nat.le_refl _)
      have g0 : (w2.alloc (.cells #[.int .i64 q1, .slice D2 n e2', .slice A2 n c2] 29)).cell? ⟨w2.heap.size, 0, none⟩ = some (.int .i64 q1) := by simp
      have g1 : (w2.alloc (.cells #[.int .i64 q1, .slice D2 n e2', .slice A2 n c2] 29)).cell? ⟨w2.heap.size, 1, none⟩ = some (.slice D2 n e2') := by simp
      have g2 : (w2.alloc (.cells #[.int .i64 q1, .slice D2 n e2', .slice A2 n c2] 29)).cell? ⟨w2.heap.size, 2, none⟩ = some (.slice A2 n c2) := by simp
      have F3 := below_then f2 fa (by omega)
      have d0 : (w2.alloc (.cells #[.int .i64 q1, .slice D2 n e2', .slice A2 n c2] 29)).cell? ⟨w.heap.size, 0, none⟩ = some (.int .i64 q1) := by rw [cell_of_row _ _ _ _ _ _ ((F3.block _ (by omega)).trans p0.out)]; rfl
      have d1 : (w2.alloc (.cells #[.int .i64 q1, .slice D2 n e2', .slice A2 n c2] 29)).cell? ⟨w.heap.size, 1, none⟩ = some (.slice D n e) := by rw [cell_of_row _ _ _ _ _ _ ((F3.block _ (by omega)).trans p0.out)]; rfl
      have d2 : (w2.alloc (.cells #[.int .i64 q1, .slice D2 n e2', .slice A2 n c2] 29)).cell? ⟨w.heap.size, 2, none⟩ = some (.slice A n c) := by rw [cell_of_row _ _ _ _ _ _ ((F3.block _ (by omega)).trans p0.out)]; rfl
      go_wp2_with fail
      obtain ⟨w3, hw3⟩ : ∃ w3 : World, w2.alloc (.cells #[.int .i64 q1, .slice D2 n e2', .slice A2 n c2] 29) = w3 := ⟨_, rfl⟩
      have y3 : w3.heap.size = w2.heap.size + 1 := by rw [← hw3]; simp
      rw [hw3] at fa o3 g0 g1 g2 F3 d0 d1 d2 ⊢
      clear hw3
      ((with_reducible refine (l03Meets_any q1 D e n ps A c xss w3 (hR.below F3 (by omega)) (by omega) hn5 hD1.out).mono ?_); rintro e4 w4 ⟨rfl, f4⟩)
      rw [hG1.out]
      have y4 := f4.size
      have F4 := below_then F3 f4 (by omega)
      have g0 := (f4.cell (p := ⟨w2.heap.size, 0, none⟩) (by simp; omega)).trans g0
      have g1 := (f4.cell (p := ⟨w2.heap.size, 1, none⟩) (by simp; omega)).trans g1
      have g2 := (f4.cell (p := ⟨w2.heap.size, 2, none⟩) (by simp; omega)).trans g2
      go_wp2_with fail
      ((with_reducible refine (l03Meets_any q1 D2 e2' n (oppR q1 ps) A2 c2 (oppB xss) w4 (o3.rs.below f4 (by omega)) (by omega) hn5 hD2.out).mono ?_); rintro e5 w5 ⟨rfl, f5⟩)
      go_wp2_with fail
      go_ret2
      exact ⟨_, _, rfl, Lib.hid hF.out.symm, hB.trans ((below_then F4 f5 (by omega)).mono (by omega))⟩
end Go.Proofs.Ytbioelmofceaaaa
