/- The exported functions on permutations, of the program and of the reference: each returns what the plain function of these texts says. No condition. -/
import Derived.Test.YtdaljeghdiknpaaPerm2
namespace Go.Proofs.Ytdaljeghdiknpaa
open Go.RowKit
set_option linter.unusedVariables false
set_option maxRecDepth 100000
def invF (xs : List Int) : List Int × Int := if isPermB xs = true then (invL xs, 0) else ([], 1)
def thenF (xs ys : List Int) : List Int × Int := if okTwo xs ys = true then (thenL xs ys, 0) else ([], 1)
def conjF (xs ys : List Int) : List Int × Int := if okTwo xs ys = true then (thenL (thenL (invL ys) xs) ys, 0) else ([], 1)
theorem s_IsPermutation_any (w : World) (A : Option Addr) (n c : Nat) (xs : List Int) {lo hi : Nat} (h : RI w lo hi A n xs) (hhi : hi ≤ w.heap.size) :
    Calls Try.prog 55 #[.slice A n c] w fun e w' => ∃ b, e = .returned (.bool b) ∧ Hid (b = isPermB xs) ∧ Below w.heap.size w w' := by
  go_enter Try.func55, Try.ntmps55
  go_wp2_with fail
  ((with_reducible refine (l01Perm_any _ _ _ xs _ _ _ h hhi).mono ?_); rintro e w1 ⟨rfl, hb⟩)
  go_wp2_with fail
  go_ret
  exact ⟨_, rfl, rfl, hb⟩
theorem i_IsPermutation_any (w : World) (A : Option Addr) (n c : Nat) (xs : List Int) {lo hi : Nat} (h : RI w lo hi A n xs) (hhi : hi ≤ w.heap.size) :
    Calls Try.prog 54 #[.slice A n c] w fun e w' => ∃ b, e = .returned (.bool b) ∧ Hid (b = isPermB xs) ∧ Below w.heap.size w w' := by
  go_enter Try.func54, Try.ntmps54
  go_wp2_with fail
  ((with_reducible refine (isPerm_any _ _ _ xs _ _ _ h hhi).mono ?_); rintro e w1 ⟨rfl, hb⟩)
  go_wp2_with fail
  go_ret
  exact ⟨_, rfl, rfl, hb⟩
theorem i_InversePermutation_any (w : World) (A : Option Addr) (n c : Nat) (xs : List Int) {lo hi : Nat} (h : RI w lo hi A n xs) (hhi : hi ≤ w.heap.size) :
    Calls Try.prog 57 #[.slice A n c] w fun e w' => ∃ (A1 : Option Addr) (n1 c1 : Nat) (zs : List Int) (code : Int), e = .returned (.tuple #[.slice A1 n1 c1, .int .i64 code]) ∧ Hid ((zs, code) = invF xs) ∧ Own w' w.heap.size w'.heap.size 2 A1 n1 c1 (zs.map (Value.int .i64)) ∧ n1 ≤ 1048576 ∧ Below w.heap.size w w' := by
  have hl := h.len
  by_cases hp : isPermB xs = true
  · have hF : (invL xs, (0 : Int)) = invF xs := by simp [invF, hp]
    replace hF := Lib.hid hF
    obtain ⟨hP1, hP2, hP3⟩ := isPermB_iff.1 hp
    rw [hl] at hP1 hP2
    replace hl := Lib.hid hl
    replace hP2 := Lib.hid hP2
    replace hP3 := Lib.hid hP3
    replace hp := Lib.hid hp
    go_enter Try.func57, Try.ntmps57
    go_wp2_with fail
    ((with_reducible refine (isPerm_any _ _ _ xs _ _ _ h hhi).mono ?_); rintro e w1 ⟨rfl, hb⟩)
    rw [hp.out]
    have hs1 := hb.size
    go_wp2_with fail
    ((with_reducible refine (inverse_any _ _ _ xs _ _ _ (h.below hb hhi) (by omega) (by omega) hP2.out hP3.out).mono ?_); rintro e w2 ⟨A1, rfl, ho, hb2⟩)
    go_wp2_with fail
    go_ret2
    exact ⟨_, _, _, _, _, rfl, hF, ho.more hs1 (Nat.le_refl _), by omega, below_then hb hb2 hb.size⟩
  · have hp : isPermB xs = false := by simpa using hp
    have hF : (([] : List Int), (1 : Int)) = invF xs := by simp [invF, hp]
    replace hF := Lib.hid hF
    replace hp := Lib.hid hp
    replace hl := Lib.hid hl
    go_enter Try.func57, Try.ntmps57
    go_wp2_with fail
    ((with_reducible refine (isPerm_any _ _ _ xs _ _ _ h hhi).mono ?_); rintro e w1 ⟨rfl, hb⟩)
    rw [hp.out]
    go_wp2_with fail
    go_ret2
    exact ⟨_, _, _, _, _, rfl, hF, Own.nil, by omega, hb⟩
theorem i_ThenPermutation_any (w : World) (A : Option Addr) (n c : Nat) (xs : List Int) {lo hi : Nat} (h : RI w lo hi A n xs) (hhi : hi ≤ w.heap.size) (A' : Option Addr) (n' c' : Nat) (ys : List Int) {lo' hi' : Nat} (h' : RI w lo' hi' A' n' ys) (hhi' : hi' ≤ w.heap.size) :
    Calls Try.prog 43 #[.slice A n c, .slice A' n' c'] w fun e w' => ∃ (A1 : Option Addr) (n1 c1 : Nat) (zs : List Int) (code : Int), e = .returned (.tuple #[.slice A1 n1 c1, .int .i64 code]) ∧ Hid ((zs, code) = thenF xs ys) ∧ Own w' w.heap.size w'.heap.size 2 A1 n1 c1 (zs.map (Value.int .i64)) ∧ n1 ≤ 1048576 ∧ Below w.heap.size w w' := by
  have hl := h.len
  have hl' := h'.len
  have hm := h.max
  have hm' := h'.max
  by_cases hp : okTwo xs ys = true
  · have hF : (thenL xs ys, (0 : Int)) = thenF xs ys := by unfold thenF; rw [if_pos hp]
    replace hF := Lib.hid hF
    have hp' : isPermB xs = true ∧ isPermB ys = true ∧ n = n' := by rw [← hl, ← hl']; simpa [okTwo, and_assoc] using hp
    obtain ⟨hp1, hp2, hn⟩ := hp'
    subst hn
    have hP := isPermB_iff.1 hp1
    have hQ := isPermB_iff.1 hp2
    have hn4 : n ≤ 400 := by have := hP.le; omega
    replace hP := Lib.hid hP
    replace hQ := Lib.hid hQ
    replace hl := Lib.hid hl
    replace hl' := Lib.hid hl'
    have hpt := Lib.hid hp
    clear hp hp1 hp2
    go_enter Try.func43, Try.ntmps43
    go_wp2_with fail
    ((with_reducible refine (arePerm_any _ _ _ xs _ _ _ ys _ h hhi h' hhi').mono ?_); rintro e w1 ⟨rfl, hb⟩)
    rw [hpt.out]
    skip
    have hs1 := hb.size
    have g := h.below hb hhi
    have g' := h'.below hb hhi'
    go_wp2_with fail
    ((with_reducible refine (then_any _ _ _ xs _ _ _ ys _ g (by omega) g' (by omega) (by omega) (by have := hP.out.rng; rw [hl.out] at this; exact this)).mono ?_); rintro e w2 ⟨A1, rfl, ho, hb2⟩)
    have hB := below_then hb hb2 hb.size
    go_wp2_with fail
    go_ret2
    exact ⟨_, _, _, _, _, rfl, hF, ho.more (by omega) (Nat.le_refl _), by omega, hB⟩
  · have hF : (([] : List Int), (1 : Int)) = thenF xs ys := by unfold thenF; rw [if_neg hp]
    replace hF := Lib.hid hF
    have hp : okTwo xs ys = false := by simpa using hp
    replace hp := Lib.hid hp
    replace hl := Lib.hid hl
    replace hl' := Lib.hid hl'
    go_enter Try.func43, Try.ntmps43
    go_wp2_with fail
    ((with_reducible refine (arePerm_any _ _ _ xs _ _ _ ys _ h hhi h' hhi').mono ?_); rintro e w1 ⟨rfl, hb⟩)
    rw [hp.out]
    skip
    go_wp2_with fail
    go_ret2
    exact ⟨_, _, _, _, _, rfl, hF, Own.nil, by omega, hb⟩
theorem s_ConjugatePermutation_any (w : World) (A : Option Addr) (n c : Nat) (xs : List Int) {lo hi : Nat} (h : RI w lo hi A n xs) (hhi : hi ≤ w.heap.size) (A' : Option Addr) (n' c' : Nat) (ys : List Int) {lo' hi' : Nat} (h' : RI w lo' hi' A' n' ys) (hhi' : hi' ≤ w.heap.size) :
    Calls Try.prog 40 #[.slice A n c, .slice A' n' c'] w fun e w' => ∃ (A1 : Option Addr) (n1 c1 : Nat) (zs : List Int) (code : Int), e = .returned (.tuple #[.slice A1 n1 c1, .int .i64 code]) ∧ Hid ((zs, code) = conjF xs ys) ∧ Own w' w.heap.size w'.heap.size 2 A1 n1 c1 (zs.map (Value.int .i64)) ∧ n1 ≤ 1048576 ∧ Below w.heap.size w w' := by
  have hl := h.len
  have hl' := h'.len
  have hm := h.max
  have hm' := h'.max
  by_cases hp : okTwo xs ys = true
  · have hF : (thenL (thenL (invL ys) xs) ys, (0 : Int)) = conjF xs ys := by unfold conjF; rw [if_pos hp]
    replace hF := Lib.hid hF
    have hp' : isPermB xs = true ∧ isPermB ys = true ∧ n = n' := by rw [← hl, ← hl']; simpa [okTwo, and_assoc] using hp
    obtain ⟨hp1, hp2, hn⟩ := hp'
    subst hn
    have hP := isPermB_iff.1 hp1
    have hQ := isPermB_iff.1 hp2
    have hn4 : n ≤ 400 := by have := hP.le; omega
    replace hP := Lib.hid hP
    replace hQ := Lib.hid hQ
    replace hl := Lib.hid hl
    replace hl' := Lib.hid hl'
    have hpt := Lib.hid hp
    clear hp hp1 hp2
    go_enter Try.func40, Try.ntmps40
    go_wp2_with fail
    ((with_reducible refine (l01Two_any _ _ _ xs _ _ _ ys _ h hhi h' hhi').mono ?_); rintro e w1 ⟨rfl, hb⟩)
    rw [hpt.out]
    rw [show code01 true = 0 from rfl]
    have hs1 := hb.size
    have g := h.below hb hhi
    have g' := h'.below hb hhi'
    have hQl : (invL ys).length = n := by rw [invL_length]; exact hl'.out
    have hR := invL_perm hQ.out
    have hRr := hR.rng
    rw [hQl] at hRr
    have hSl : (thenL (invL ys) xs).length = n := by rw [thenL_length]; exact hQl
    have hS := thenL_perm hR hP.out (by rw [hQl]; exact hl.out.symm)
    have hSr := hS.rng
    rw [hSl] at hSr
    have hQ2 := hQ.out.rng
    rw [hl'.out] at hQ2
    replace hRr := Lib.hid hRr
    replace hSr := Lib.hid hSr
    replace hQ2 := Lib.hid hQ2
    clear hQl hSl hR hS
    go_wp2_with fail
    ((with_reducible refine (l01Back_any _ _ _ ys _ _ _ g' (by omega) (by omega) hQ2.out hQ.out.nd).mono ?_); rintro e w2 ⟨A2, rfl, ho2, hb2⟩)
    have hs2 := hb2.size
    have g := g.below hb2 (by omega)
    have g' := g'.below hb2 (by omega)
    go_wp2_with fail
    ((with_reducible refine (l01Then_any _ _ _ (invL ys) _ _ _ xs _ ho2.ri (by omega) g (by omega) (by omega) hRr.out).mono ?_); rintro e w3 ⟨A3, c3, rfl, ho3, hb3⟩)
    have hs3 := hb3.size
    have g' := g'.below hb3 (by omega)
    go_wp2_with fail
    ((with_reducible refine (l01Then_any _ _ _ (thenL (invL ys) xs) _ _ _ ys _ ho3.ri (by omega) g' (by omega) (by omega) hSr.out).mono ?_); rintro e w4 ⟨A4, c4, rfl, ho, hb4⟩)
    have hB := below_then (below_then (below_then hb hb2 (by omega)) hb3 (by omega)) hb4 (by omega)
    go_wp2_with fail
    go_ret2
    exact ⟨_, _, _, _, _, rfl, hF, ho.more (by omega) (Nat.le_refl _), by omega, hB⟩
  · have hF : (([] : List Int), (1 : Int)) = conjF xs ys := by unfold conjF; rw [if_neg hp]
    replace hF := Lib.hid hF
    have hp : okTwo xs ys = false := by simpa using hp
    replace hp := Lib.hid hp
    replace hl := Lib.hid hl
    replace hl' := Lib.hid hl'
    go_enter Try.func40, Try.ntmps40
    go_wp2_with fail
    ((with_reducible refine (l01Two_any _ _ _ xs _ _ _ ys _ h hhi h' hhi').mono ?_); rintro e w1 ⟨rfl, hb⟩)
    rw [hp.out]
    rw [show code01 false = 1 from rfl]
    go_wp2_with fail
    go_ret2
    exact ⟨_, _, _, _, _, rfl, hF, Own.nil, by omega, hb⟩
theorem i_ConjugatePermutation_any (w : World) (A : Option Addr) (n c : Nat) (xs : List Int) {lo hi : Nat} (h : RI w lo hi A n xs) (hhi : hi ≤ w.heap.size) (A' : Option Addr) (n' c' : Nat) (ys : List Int) {lo' hi' : Nat} (h' : RI w lo' hi' A' n' ys) (hhi' : hi' ≤ w.heap.size) :
    Calls Try.prog 39 #[.slice A n c, .slice A' n' c'] w fun e w' => ∃ (A1 : Option Addr) (n1 c1 : Nat) (zs : List Int) (code : Int), e = .returned (.tuple #[.slice A1 n1 c1, .int .i64 code]) ∧ Hid ((zs, code) = conjF xs ys) ∧ Own w' w.heap.size w'.heap.size 2 A1 n1 c1 (zs.map (Value.int .i64)) ∧ n1 ≤ 1048576 ∧ Below w.heap.size w w' := by
  have hl := h.len
  have hl' := h'.len
  have hm := h.max
  have hm' := h'.max
  by_cases hp : okTwo xs ys = true
  · have hF : (thenL (thenL (invL ys) xs) ys, (0 : Int)) = conjF xs ys := by unfold conjF; rw [if_pos hp]
    replace hF := Lib.hid hF
    have hp' : isPermB xs = true ∧ isPermB ys = true ∧ n = n' := by rw [← hl, ← hl']; simpa [okTwo, and_assoc] using hp
    obtain ⟨hp1, hp2, hn⟩ := hp'
    subst hn
    have hP := isPermB_iff.1 hp1
    have hQ := isPermB_iff.1 hp2
    have hn4 : n ≤ 400 := by have := hP.le; omega
    replace hP := Lib.hid hP
    replace hQ := Lib.hid hQ
    replace hl := Lib.hid hl
    replace hl' := Lib.hid hl'
    have hpt := Lib.hid hp
    clear hp hp1 hp2
    go_enter Try.func39, Try.ntmps39
    go_wp2_with fail
    ((with_reducible refine (arePerm_any _ _ _ xs _ _ _ ys _ h hhi h' hhi').mono ?_); rintro e w1 ⟨rfl, hb⟩)
    rw [hpt.out]
    skip
    have hs1 := hb.size
    have g := h.below hb hhi
    have g' := h'.below hb hhi'
    have hQl : (invL ys).length = n := by rw [invL_length]; exact hl'.out
    have hR := invL_perm hQ.out
    have hRr := hR.rng
    rw [hQl] at hRr
    have hSl : (thenL (invL ys) xs).length = n := by rw [thenL_length]; exact hQl
    have hS := thenL_perm hR hP.out (by rw [hQl]; exact hl.out.symm)
    have hSr := hS.rng
    rw [hSl] at hSr
    have hQ2 := hQ.out.rng
    rw [hl'.out] at hQ2
    replace hRr := Lib.hid hRr
    replace hSr := Lib.hid hSr
    replace hQ2 := Lib.hid hQ2
    clear hQl hSl hR hS
    go_wp2_with fail
    ((with_reducible refine (inverse_any _ _ _ ys _ _ _ g' (by omega) (by omega) hQ2.out hQ.out.nd).mono ?_); rintro e w2 ⟨A2, rfl, ho2, hb2⟩)
    have hs2 := hb2.size
    have g := g.below hb2 (by omega)
    have g' := g'.below hb2 (by omega)
    go_wp2_with fail
    ((with_reducible refine (then_any _ _ _ (invL ys) _ _ _ xs _ ho2.ri (by omega) g (by omega) (by omega) hRr.out).mono ?_); rintro e w3 ⟨A3, rfl, ho3, hb3⟩)
    have hs3 := hb3.size
    have g' := g'.below hb3 (by omega)
    go_wp2_with fail
    ((with_reducible refine (then_any _ _ _ (thenL (invL ys) xs) _ _ _ ys _ ho3.ri (by omega) g' (by omega) (by omega) hSr.out).mono ?_); rintro e w4 ⟨A4, rfl, ho, hb4⟩)
    have hB := below_then (below_then (below_then hb hb2 (by omega)) hb3 (by omega)) hb4 (by omega)
    go_wp2_with fail
    go_ret2
    exact ⟨_, _, _, _, _, rfl, hF, ho.more (by omega) (Nat.le_refl _), by omega, hB⟩
  · have hF : (([] : List Int), (1 : Int)) = conjF xs ys := by unfold conjF; rw [if_neg hp]
    replace hF := Lib.hid hF
    have hp : okTwo xs ys = false := by simpa using hp
    replace hp := Lib.hid hp
    replace hl := Lib.hid hl
    replace hl' := Lib.hid hl'
    go_enter Try.func39, Try.ntmps39
    go_wp2_with fail
    ((with_reducible refine (arePerm_any _ _ _ xs _ _ _ ys _ h hhi h' hhi').mono ?_); rintro e w1 ⟨rfl, hb⟩)
    rw [hp.out]
    skip
    go_wp2_with fail
    go_ret2
    exact ⟨_, _, _, _, _, rfl, hF, Own.nil, by omega, hb⟩
end Go.Proofs.Ytdaljeghdiknpaa
