/- Draws: two permutations (l01Pair, DrawConjugatePermutation). -/
import Derived.Test.YtdaljeghdiknpaaDrwZ
namespace Go.Proofs.Ytdaljeghdiknpaa
open Go.RowKit
set_option linter.unusedVariables false
set_option maxRecDepth 100000
/-- two lists in rows of their own -/
def PairP (w w' : World) (T : TypeId) (A1 : Option Addr) (n1 c1 : Nat) (A2 : Option Addr) (n2 c2 : Nat) : Prop :=
  ∃ (xs ys : List Int), Own w' w.heap.size w'.heap.size T A1 n1 c1 (xs.map (Value.int .i64)) ∧ Own w' w.heap.size w'.heap.size T A2 n2 c2 (ys.map (Value.int .i64)) ∧ n1 ≤ 402 ∧ n2 ≤ 402 ∧ Below w.heap.size w w'
set_option maxHeartbeats 1000000 in
theorem pair_any (w : World) (A : Option Addr) (n c : Nat) (bs : List Int) (h : Rd w 0 w.heap.size A n (bs.map (Value.int .u8))) (hb : ∀ x ∈ bs, 0 ≤ x ∧ x < 256) (hn : n ≤ 1048576) :
    Calls Try.prog 96 #[.slice A n c] w fun e w' => ∃ (A1 : Option Addr) (n1 c1 : Nat) (A2 : Option Addr) (n2 c2 : Nat), e = .returned (.tuple #[.slice A1 n1 c1, .slice A2 n2 c2]) ∧ PairP w w' 2 A1 n1 c1 A2 n2 c2 := by
  have hF := from_any w A n c bs h hb hn
  replace hb := Lib.hid hb
  go_enter Try.func96, Try.ntmps96
  go_wp2_with fail
  ((with_reducible refine hF.mono ?_); rintro e w1 ⟨H1, rfl, S1, B1⟩)
  clear hF
  go_wp2_with fail
  ((with_reducible refine (size_any w1 _ _ A n c bs _ _ S1).mono ?_); rintro e w2 ⟨m, rfl, hm, i2, h2, S2, C2⟩)
  have g2 := S2.lt
  have s1 := B1.size
  have s2 := C2.size
  go_wp2_with fail
  ((with_reducible refine (spoil_any w2 _ _ A n c bs _ _ S2 m (by omega)).mono ?_); rintro e w3 ⟨A1, c1, rfl, i3, h3, xs, O3, S3, C3⟩)
  have s3 := C3.size
  go_wp2_with fail
  ((with_reducible refine (next_nat w3 _ _ A n c bs _ _ S3 20 (by omega) (by omega)).mono ?_); rintro e w4 ⟨v, rfl, hv, i4, h4, S4, C4⟩)
  have s4 := C4.size
  have O4 := O3.keep (Same.of_chg C4 (Nat.le_refl _) (by omega))
  have D4 := (C2.trans C3 ⟨Nat.le_refl _, Nat.le_refl _⟩ ⟨Nat.le_refl _, Nat.le_refl _⟩).trans C4 ⟨Nat.le_refl _, Nat.le_refl _⟩ ⟨Nat.le_refl _, Nat.le_refl _⟩
  by_cases h0 : v = 0
  · subst h0
    have hS := spoil_any w4 _ _ A n c bs _ _ S4 (m + 1) (by omega)
    rw [show ((m + 1 : Nat) : Int) = (m : Int) + 1 by omega] at hS
    go_wp2_with fail
    ((with_reducible refine hS.mono ?_); rintro e w5 ⟨A2, c2, rfl, i5, h5, ys, O5, S5, C5⟩)
    have s5 := C5.size
    have P5 := O4.keep (Same.of_chg C5 (by omega) (by omega))
    have D5 := D4.trans C5 ⟨Nat.le_refl _, Nat.le_refl _⟩ ⟨Nat.le_refl _, Nat.le_refl _⟩
    have E5 := B1.trans (D5.below (Nat.le_refl _) (by omega))
    clear hS
    go_wp2_with fail
    go_ret2
    exact ⟨A1, m, c1, A2, m + 1, c2, rfl, xs, ys, P5.more (by omega) (by omega), O5.more (by omega) (Nat.le_refl _), by omega, by omega, E5⟩
  · have hS := spoil_any w4 _ _ A n c bs _ _ S4 m (by omega)
    have d0 : ((v : Int) == 0) = false := by simp; omega
    go_wp2_with fail
    ((with_reducible refine hS.mono ?_); rintro e w5 ⟨A2, c2, rfl, i5, h5, ys, O5, S5, C5⟩)
    have s5 := C5.size
    have P5 := O4.keep (Same.of_chg C5 (by omega) (by omega))
    have D5 := D4.trans C5 ⟨Nat.le_refl _, Nat.le_refl _⟩ ⟨Nat.le_refl _, Nat.le_refl _⟩
    have E5 := B1.trans (D5.below (Nat.le_refl _) (by omega))
    clear hS
    go_wp2_with fail
    go_ret2
    exact ⟨A1, m, c1, A2, m, c2, rfl, xs, ys, P5.more (by omega) (by omega), O5.more (by omega) (Nat.le_refl _), by omega, by omega, E5⟩
theorem drawConjugate_any (w : World) (A : Option Addr) (n c : Nat) (bs : List Int) (h : Rd w 0 w.heap.size A n (bs.map (Value.int .u8))) (hb : ∀ x ∈ bs, 0 ≤ x ∧ x < 256) (hn : n ≤ 1048576) :
    Calls Try.prog 38 #[.slice A n c] w fun e w' => ∃ (A1 : Option Addr) (n1 c1 : Nat) (A2 : Option Addr) (n2 c2 : Nat), e = .returned (.tuple #[.slice A1 n1 c1, .slice A2 n2 c2]) ∧ PairP w w' 2 A1 n1 c1 A2 n2 c2 := by
  have hF := pair_any w A n c bs h hb hn
  replace hb := Lib.hid hb
  go_enter Try.func38, Try.ntmps38
  go_wp2_with fail
  ((with_reducible refine hF.mono ?_); rintro e w1 ⟨A1, n1, c1, A2, n2, c2, rfl, P⟩)
  clear hF
  go_wp2_with fail
  go_ret2
  exact ⟨A1, n1, c1, A2, n2, c2, rfl, P⟩
end Go.Proofs.Ytdaljeghdiknpaa
