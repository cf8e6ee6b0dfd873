/- FnExactOppositePoset: the program's OppositePoset and the reference's return the same for all arguments, the arguments stay as they were, and the results are memory of their own. No condition. -/
import Derived.Test.YtpbmhhopgjikhaaRows
import Derived.Test.YtpbmhhopgjikhaaOpen
import Derived.Test.YtpbmhhopgjikhaaLawI
import Derived.Test.YtpbmhhopgjikhaaOpenS
import Derived.Test.YtpbmhhopgjikhaaLawS
import Derived.Test.YtpbmhhopgjikhaaLawM
import Derived.Test.YtpbmhhopgjikhaaLawP
import Derived.Test.YtpbmhhopgjikhaaOppX
namespace Go.Proofs.Ytpbmhhopgjikhaa.fnExactOppositePoset
open Go.ChangeShapes Go.WideShapes Go.ChangeAt Go.RowKit
open Go.ChangeMaps (open_string shut_string)
set_option linter.unusedVariables false
theorem own : ownKnob Try.prog.godebug = none := by kernel_rfl
theorem laidOut : laidOutB Try.prog = true := by kernel_rfl
set_option maxRecDepth 100000 in
set_option maxHeartbeats 8000000 in
theorem walk (r0 : Int) (d0 : Option Addr) (k0 e0 : Nat) (ps0 : List Int) (a0 : Option Addr) (n0 c0 : Nat) (xss0 : List (List Int)) (w : World) (br : I64 r0) (g0 : RI w 0 w.heap.size d0 k0 ps0) (bg : ∀ x ∈ ps0, I64 x) (h0 : RS w 0 w.heap.size a0 n0 xss0) (b0 : ∀ xs ∈ xss0, ∀ x ∈ xs, I64 x) :
    Calls Try.prog 4 #[.agg #[.int .i64 r0, .slice d0 k0 e0, .slice a0 n0 c0]] w fun e w' => e = .returned (.bool true) ∧ Below w.heap.size w w' := by
  have m0 := h0.max
  have mg := g0.max
  have qr := br; unfold I64 at qr
  have hR := rs_alloc h0 (Nat.le_refl _) (.cells #[.int .i64 r0, .slice d0 k0 e0, .slice a0 n0 c0] 25)
  have hG : RI (w.alloc (.cells #[.int .i64 r0, .slice d0 k0 e0, .slice a0 n0 c0] 25)) 0 w.heap.size d0 k0 ps0 := g0.keep (same_alloc w _ _ _ (Nat.le_refl _))
  have hC0 : (w.alloc (.cells #[.int .i64 r0, .slice d0 k0 e0, .slice a0 n0 c0] 25)).cell? ⟨w.heap.size, 0, none⟩ = some (.int .i64 r0) := by simp
  have hC1 : (w.alloc (.cells #[.int .i64 r0, .slice d0 k0 e0, .slice a0 n0 c0] 25)).cell? ⟨w.heap.size, 1, none⟩ = some (.slice d0 k0 e0) := by simp
  have hC2 : (w.alloc (.cells #[.int .i64 r0, .slice d0 k0 e0, .slice a0 n0 c0] 25)).cell? ⟨w.heap.size, 2, none⟩ = some (.slice a0 n0 c0) := by simp
  have hB : Below w.heap.size w (w.alloc (.cells #[.int .i64 r0, .slice d0 k0 e0, .slice a0 n0 c0] 25)) := (Below.refl _ _).alloc (Nat.le_refl _) _
  by_cases s0 : k0 + (n0 + numsIn xss0) ≤ 1048576
  · skip
    have z0 := leftOf_pos s0
    replace z0 := Lib.hid z0
    go_enter Try.func4, Try.ntmps4
    go_wp2_with fail
    obtain ⟨W1, hW⟩ : ∃ W1 : World, (w.alloc (.cells #[.int .i64 r0, .slice d0 k0 e0, .slice a0 n0 c0] 25)) = W1 := ⟨_, rfl⟩
    have hz1 : W1.heap.size = w.heap.size + 1 := by rw [← hW]; simp
    rw [hW] at hR hG hC0 hC1 hC2 hB ⊢
    clear hW
    have B0 : Below W1.heap.size W1 W1 := Below.refl _ _
    ((with_reducible refine (szP0_any r0 d0 k0 e0 ps0 a0 n0 c0 xss0 _ hG hR (by omega) (by omega)).mono ?_); rintro e w1 ⟨rfl, f1⟩)
    rw [z0.out]
    have y1 := f1.size
    have B1 : Below W1.heap.size W1 w1 := below_then B0 f1 (by omega)
    clear B0
    have C0 := (B1.cell (p := ⟨w.heap.size, 0, none⟩) (by simp; omega)).trans hC0
    have C1 := (B1.cell (p := ⟨w.heap.size, 1, none⟩) (by simp; omega)).trans hC1
    have C2 := (B1.cell (p := ⟨w.heap.size, 2, none⟩) (by simp; omega)).trans hC2
    go_wp2_with fail
    ((with_reducible refine (toP_any r0 d0 k0 e0 ps0 a0 n0 c0 xss0 _ (hG.below B1 (by omega)) (hR.below B1 (by omega)) (by omega) (by omega) (by omega)).mono ?_); rintro e w2 ⟨T2, U2, M2, rfl, t2, f2⟩)
    have y2 := f2.size
    have B2 : Below W1.heap.size W1 w2 := below_then B1 f2 (by omega)
    clear B1
    clear C0 C1 C2
    go_wp2_with fail
    ((with_reducible refine (s_OppositePoset_any _ r0 qr T2 k0 k0 ps0 t2.ri (by omega) (Nat.le_refl _) U2 n0 n0 xss0 t2.rs (by omega) (Nat.le_refl _)).mono ?_); rintro e w3 ⟨p0r, p0D, p0k, p0e, p0d, p0A, p0n, p0c, p0, p1, rfl, Hp, op0, lp0, f3⟩)
    have y3 := f3.size
    have B3 : Below W1.heap.size W1 w3 := below_then B2 f3 (by omega)
    have t2 := t2.below f3 (by omega)
    clear B2
    have f4 : Below w3.heap.size w3 (w3.alloc (.cells #[.int .i64 p0r, .slice p0D p0k p0e, .slice p0A p0n p0c] 28)) := (Below.refl _ _).alloc (Nat.le_refl _) _
    have Z4 : (w3.alloc (.cells #[.int .i64 p0r, .slice p0D p0k p0e, .slice p0A p0n p0c] 28)).heap.size = w3.heap.size + 1 := by simp
    have D4_0 : (w3.alloc (.cells #[.int .i64 p0r, .slice p0D p0k p0e, .slice p0A p0n p0c] 28)).cell? ⟨w3.heap.size, 0, none⟩ = some (.int .i64 p0r) := by simp
    have D4_1 : (w3.alloc (.cells #[.int .i64 p0r, .slice p0D p0k p0e, .slice p0A p0n p0c] 28)).cell? ⟨w3.heap.size, 1, none⟩ = some (.slice p0D p0k p0e) := by simp
    have D4_2 : (w3.alloc (.cells #[.int .i64 p0r, .slice p0D p0k p0e, .slice p0A p0n p0c] 28)).cell? ⟨w3.heap.size, 2, none⟩ = some (.slice p0A p0n p0c) := by simp
    have t2 := t2.below f4 (by omega)
    have op0 := op0.below f4 (by omega)
    have X0 := (f4.cell (p := ⟨w.heap.size, 0, none⟩) (by simp; omega)).trans ((B3.cell (p := ⟨w.heap.size, 0, none⟩) (by simp; omega)).trans hC0)
    have X1 := (f4.cell (p := ⟨w.heap.size, 1, none⟩) (by simp; omega)).trans ((B3.cell (p := ⟨w.heap.size, 1, none⟩) (by simp; omega)).trans hC1)
    have X2 := (f4.cell (p := ⟨w.heap.size, 2, none⟩) (by simp; omega)).trans ((B3.cell (p := ⟨w.heap.size, 2, none⟩) (by simp; omega)).trans hC2)
    go_wp2_with fail
    obtain ⟨w4, hq4⟩ : ∃ w4 : World, (w3.alloc (.cells #[.int .i64 p0r, .slice p0D p0k p0e, .slice p0A p0n p0c] 28)) = w4 := ⟨_, rfl⟩
    rw [hq4] at f4 Z4 D4_0 D4_1 D4_2 t2 op0 X0 X1 X2 ⊢
    clear hq4
    have y4 := f4.size
    have B4 : Below W1.heap.size W1 w4 := below_then B3 f4 (by omega)
    clear B3 X0 X1 X2
    clear t2
    have C0 := (B4.cell (p := ⟨w.heap.size, 0, none⟩) (by simp; omega)).trans hC0
    have C1 := (B4.cell (p := ⟨w.heap.size, 1, none⟩) (by simp; omega)).trans hC1
    have C2 := (B4.cell (p := ⟨w.heap.size, 2, none⟩) (by simp; omega)).trans hC2
    go_wp2_with fail
    ((with_reducible refine (toP_any r0 d0 k0 e0 ps0 a0 n0 c0 xss0 _ (hG.below B4 (by omega)) (hR.below B4 (by omega)) (by omega) (by omega) (by omega)).mono ?_); rintro e w5 ⟨T5, U5, M5, rfl, t5, f5⟩)
    have y5 := f5.size
    have B5 : Below W1.heap.size W1 w5 := below_then B4 f5 (by omega)
    have op0 := op0.below f5 (by omega)
    have D4_0 := (f5.cell (p := ⟨w3.heap.size, 0, none⟩) (by simp; omega)).trans D4_0
    have D4_1 := (f5.cell (p := ⟨w3.heap.size, 1, none⟩) (by simp; omega)).trans D4_1
    have D4_2 := (f5.cell (p := ⟨w3.heap.size, 2, none⟩) (by simp; omega)).trans D4_2
    clear B4
    clear C0 C1 C2
    have f6 : Below w5.heap.size w5 (w5.alloc (.cells #[.int .i64 r0, .slice T5 k0 k0, .slice U5 n0 n0] 28)) := (Below.refl _ _).alloc (Nat.le_refl _) _
    have Z6 : (w5.alloc (.cells #[.int .i64 r0, .slice T5 k0 k0, .slice U5 n0 n0] 28)).heap.size = w5.heap.size + 1 := by simp
    have D6_0 : (w5.alloc (.cells #[.int .i64 r0, .slice T5 k0 k0, .slice U5 n0 n0] 28)).cell? ⟨w5.heap.size, 0, none⟩ = some (.int .i64 r0) := by simp
    have D6_1 : (w5.alloc (.cells #[.int .i64 r0, .slice T5 k0 k0, .slice U5 n0 n0] 28)).cell? ⟨w5.heap.size, 1, none⟩ = some (.slice T5 k0 k0) := by simp
    have D6_2 : (w5.alloc (.cells #[.int .i64 r0, .slice T5 k0 k0, .slice U5 n0 n0] 28)).cell? ⟨w5.heap.size, 2, none⟩ = some (.slice U5 n0 n0) := by simp
    have op0 := op0.below f6 (by omega)
    have D4_0 := (f6.cell (p := ⟨w3.heap.size, 0, none⟩) (by simp; omega)).trans D4_0
    have D4_1 := (f6.cell (p := ⟨w3.heap.size, 1, none⟩) (by simp; omega)).trans D4_1
    have D4_2 := (f6.cell (p := ⟨w3.heap.size, 2, none⟩) (by simp; omega)).trans D4_2
    have t5 := t5.below f6 (by omega)
    have X0 := (f6.cell (p := ⟨w.heap.size, 0, none⟩) (by simp; omega)).trans ((B5.cell (p := ⟨w.heap.size, 0, none⟩) (by simp; omega)).trans hC0)
    have X1 := (f6.cell (p := ⟨w.heap.size, 1, none⟩) (by simp; omega)).trans ((B5.cell (p := ⟨w.heap.size, 1, none⟩) (by simp; omega)).trans hC1)
    have X2 := (f6.cell (p := ⟨w.heap.size, 2, none⟩) (by simp; omega)).trans ((B5.cell (p := ⟨w.heap.size, 2, none⟩) (by simp; omega)).trans hC2)
    go_wp2_with fail
    obtain ⟨w6, hq6⟩ : ∃ w6 : World, (w5.alloc (.cells #[.int .i64 r0, .slice T5 k0 k0, .slice U5 n0 n0] 28)) = w6 := ⟨_, rfl⟩
    rw [hq6] at f6 Z6 D6_0 D6_1 D6_2 op0 D4_0 D4_1 D4_2 t5 X0 X1 X2 ⊢
    clear hq6
    have y6 := f6.size
    have B6 : Below W1.heap.size W1 w6 := below_then B5 f6 (by omega)
    clear B5 X0 X1 X2
    go_wp2_with fail
    ((with_reducible refine (i_OppositePoset_any _ r0 qr T5 k0 k0 ps0 t5.ri (by omega) (Nat.le_refl _) U5 n0 n0 xss0 t5.rs (by omega) (Nat.le_refl _)).mono ?_); rintro e w7 ⟨q0r, q0D, q0k, q0e, q0d, q0A, q0n, q0c, q0, Mq0, q1, rfl, Hq, oq0, lq0, f7⟩)
    have y7 := f7.size
    have B7 : Below W1.heap.size W1 w7 := below_then B6 f7 (by omega)
    have op0 := op0.below f7 (by omega)
    have D4_0 := (f7.cell (p := ⟨w3.heap.size, 0, none⟩) (by simp; omega)).trans D4_0
    have D4_1 := (f7.cell (p := ⟨w3.heap.size, 1, none⟩) (by simp; omega)).trans D4_1
    have D4_2 := (f7.cell (p := ⟨w3.heap.size, 2, none⟩) (by simp; omega)).trans D4_2
    have t5 := t5.below f7 (by omega)
    have D6_0 := (f7.cell (p := ⟨w5.heap.size, 0, none⟩) (by simp; omega)).trans D6_0
    have D6_1 := (f7.cell (p := ⟨w5.heap.size, 1, none⟩) (by simp; omega)).trans D6_1
    have D6_2 := (f7.cell (p := ⟨w5.heap.size, 2, none⟩) (by simp; omega)).trans D6_2
    clear B6
    have f8 : Below w7.heap.size w7 (w7.alloc (.cells #[.int .i64 q0r, .slice q0D q0k q0e, .slice q0A q0n q0c] 28)) := (Below.refl _ _).alloc (Nat.le_refl _) _
    have Z8 : (w7.alloc (.cells #[.int .i64 q0r, .slice q0D q0k q0e, .slice q0A q0n q0c] 28)).heap.size = w7.heap.size + 1 := by simp
    have D8_0 : (w7.alloc (.cells #[.int .i64 q0r, .slice q0D q0k q0e, .slice q0A q0n q0c] 28)).cell? ⟨w7.heap.size, 0, none⟩ = some (.int .i64 q0r) := by simp
    have D8_1 : (w7.alloc (.cells #[.int .i64 q0r, .slice q0D q0k q0e, .slice q0A q0n q0c] 28)).cell? ⟨w7.heap.size, 1, none⟩ = some (.slice q0D q0k q0e) := by simp
    have D8_2 : (w7.alloc (.cells #[.int .i64 q0r, .slice q0D q0k q0e, .slice q0A q0n q0c] 28)).cell? ⟨w7.heap.size, 2, none⟩ = some (.slice q0A q0n q0c) := by simp
    have op0 := op0.below f8 (by omega)
    have D4_0 := (f8.cell (p := ⟨w3.heap.size, 0, none⟩) (by simp; omega)).trans D4_0
    have D4_1 := (f8.cell (p := ⟨w3.heap.size, 1, none⟩) (by simp; omega)).trans D4_1
    have D4_2 := (f8.cell (p := ⟨w3.heap.size, 2, none⟩) (by simp; omega)).trans D4_2
    have t5 := t5.below f8 (by omega)
    have D6_0 := (f8.cell (p := ⟨w5.heap.size, 0, none⟩) (by simp; omega)).trans D6_0
    have D6_1 := (f8.cell (p := ⟨w5.heap.size, 1, none⟩) (by simp; omega)).trans D6_1
    have D6_2 := (f8.cell (p := ⟨w5.heap.size, 2, none⟩) (by simp; omega)).trans D6_2
    have oq0 := oq0.below f8 (by omega)
    have X0 := (f8.cell (p := ⟨w.heap.size, 0, none⟩) (by simp; omega)).trans ((B7.cell (p := ⟨w.heap.size, 0, none⟩) (by simp; omega)).trans hC0)
    have X1 := (f8.cell (p := ⟨w.heap.size, 1, none⟩) (by simp; omega)).trans ((B7.cell (p := ⟨w.heap.size, 1, none⟩) (by simp; omega)).trans hC1)
    have X2 := (f8.cell (p := ⟨w.heap.size, 2, none⟩) (by simp; omega)).trans ((B7.cell (p := ⟨w.heap.size, 2, none⟩) (by simp; omega)).trans hC2)
    go_wp2_with fail
    obtain ⟨w8, hq8⟩ : ∃ w8 : World, (w7.alloc (.cells #[.int .i64 q0r, .slice q0D q0k q0e, .slice q0A q0n q0c] 28)) = w8 := ⟨_, rfl⟩
    rw [hq8] at f8 Z8 D8_0 D8_1 D8_2 op0 D4_0 D4_1 D4_2 t5 D6_0 D6_1 D6_2 oq0 X0 X1 X2 ⊢
    clear hq8
    have y8 := f8.size
    have B8 : Below W1.heap.size W1 w8 := below_then B7 f8 (by omega)
    clear B7 X0 X1 X2
    obtain ⟨rfl, rfl, rfl, rfl⟩ : p0r = q0r ∧ p0d = q0d ∧ p0 = q0 ∧ p1 = q1 := by have e := Hp.out.trans Hq.out.symm; simpa [and_assoc] using e
    clear Hq
    go_wp2_with fail
    ((with_reducible refine (eqP_any _ _ _ _ _ _ _ _ _ _ _ _ _ _ _ _ _ _ _ oq0.ri oq0.rs op0.ri op0.rs (by omega) (by omega) (by omega) (by omega)).mono ?_); rintro e w9 ⟨rfl, f9⟩)
    have y9 := f9.size
    have B9 : Below W1.heap.size W1 w9 := below_then B8 f9 (by omega)
    have op0 := op0.below f9 (by omega)
    have D4_0 := (f9.cell (p := ⟨w3.heap.size, 0, none⟩) (by simp; omega)).trans D4_0
    have D4_1 := (f9.cell (p := ⟨w3.heap.size, 1, none⟩) (by simp; omega)).trans D4_1
    have D4_2 := (f9.cell (p := ⟨w3.heap.size, 2, none⟩) (by simp; omega)).trans D4_2
    have t5 := t5.below f9 (by omega)
    have D6_0 := (f9.cell (p := ⟨w5.heap.size, 0, none⟩) (by simp; omega)).trans D6_0
    have D6_1 := (f9.cell (p := ⟨w5.heap.size, 1, none⟩) (by simp; omega)).trans D6_1
    have D6_2 := (f9.cell (p := ⟨w5.heap.size, 2, none⟩) (by simp; omega)).trans D6_2
    have oq0 := oq0.below f9 (by omega)
    have D8_0 := (f9.cell (p := ⟨w7.heap.size, 0, none⟩) (by simp; omega)).trans D8_0
    have D8_1 := (f9.cell (p := ⟨w7.heap.size, 1, none⟩) (by simp; omega)).trans D8_1
    have D8_2 := (f9.cell (p := ⟨w7.heap.size, 2, none⟩) (by simp; omega)).trans D8_2
    clear B8
    have C0 := (B9.cell (p := ⟨w.heap.size, 0, none⟩) (by simp; omega)).trans hC0
    have C1 := (B9.cell (p := ⟨w.heap.size, 1, none⟩) (by simp; omega)).trans hC1
    have C2 := (B9.cell (p := ⟨w.heap.size, 2, none⟩) (by simp; omega)).trans hC2
    have Bd := below_drew B9
    have hT := toP_any r0 d0 k0 e0 ps0 a0 n0 c0 xss0 w9.drew (ri_drew (hG.below B9 (by omega))) (rs_drew (hR.below B9 (by omega))) (show _ ≤ w9.heap.size by omega) (show _ ≤ w9.heap.size by omega) (by omega)
    have rg := ri_drew t5.ri
    have rd := rs_drew t5.rs
    go_wp2_with fail
    go_region_with (first
      | (go_at_call 16; refine hT.mono ?_; rintro e w10 ⟨T10, U10, M10, rfl, t10, f10⟩; have GD6_0 := (f10.cell (p := ⟨w5.heap.size, 0, none⟩) (by simp; omega)).trans D6_0; have GD6_1 := (f10.cell (p := ⟨w5.heap.size, 1, none⟩) (by simp; omega)).trans D6_1; have GD6_2 := (f10.cell (p := ⟨w5.heap.size, 2, none⟩) (by simp; omega)).trans D6_2; have y10 : w9.heap.size ≤ w10.heap.size := f10.size; have qe := eqP_any r0 T5 k0 k0 ps0 U5 n0 n0 xss0 r0 T10 k0 k0 ps0 U10 n0 n0 xss0 w10 (rg.below f10 (show _ ≤ w9.heap.size by omega)) (rd.below f10 (show _ ≤ w9.heap.size by omega)) t10.ri t10.rs (by omega) (by omega) (Nat.le_refl _) (Nat.le_refl _))
      | (go_at_call 18; refine qe.mono ?_; rintro e w11 ⟨rfl, f11⟩))
    all_goals
      clear qe hT rd rg GD6_0 GD6_1 GD6_2
      have f10 : Below w9.heap.size w9 w10 := ⟨f10.os, f10.tape, f10.output, f10.size, f10.block⟩
      clear y10 Bd
      have y10 := f10.size
      have B10 : Below W1.heap.size W1 w10 := below_then B9 f10 (by omega)
      have op0 := op0.below f10 (by omega)
      have D4_0 := (f10.cell (p := ⟨w3.heap.size, 0, none⟩) (by simp; omega)).trans D4_0
      have D4_1 := (f10.cell (p := ⟨w3.heap.size, 1, none⟩) (by simp; omega)).trans D4_1
      have D4_2 := (f10.cell (p := ⟨w3.heap.size, 2, none⟩) (by simp; omega)).trans D4_2
      have t5 := t5.below f10 (by omega)
      have D6_0 := (f10.cell (p := ⟨w5.heap.size, 0, none⟩) (by simp; omega)).trans D6_0
      have D6_1 := (f10.cell (p := ⟨w5.heap.size, 1, none⟩) (by simp; omega)).trans D6_1
      have D6_2 := (f10.cell (p := ⟨w5.heap.size, 2, none⟩) (by simp; omega)).trans D6_2
      have oq0 := oq0.below f10 (by omega)
      have D8_0 := (f10.cell (p := ⟨w7.heap.size, 0, none⟩) (by simp; omega)).trans D8_0
      have D8_1 := (f10.cell (p := ⟨w7.heap.size, 1, none⟩) (by simp; omega)).trans D8_1
      have D8_2 := (f10.cell (p := ⟨w7.heap.size, 2, none⟩) (by simp; omega)).trans D8_2
      clear B9
      have y11 := f11.size
      have B11 : Below W1.heap.size W1 w11 := below_then B10 f11 (by omega)
      have op0 := op0.below f11 (by omega)
      have D4_0 := (f11.cell (p := ⟨w3.heap.size, 0, none⟩) (by simp; omega)).trans D4_0
      have D4_1 := (f11.cell (p := ⟨w3.heap.size, 1, none⟩) (by simp; omega)).trans D4_1
      have D4_2 := (f11.cell (p := ⟨w3.heap.size, 2, none⟩) (by simp; omega)).trans D4_2
      have t5 := t5.below f11 (by omega)
      have D6_0 := (f11.cell (p := ⟨w5.heap.size, 0, none⟩) (by simp; omega)).trans D6_0
      have D6_1 := (f11.cell (p := ⟨w5.heap.size, 1, none⟩) (by simp; omega)).trans D6_1
      have D6_2 := (f11.cell (p := ⟨w5.heap.size, 2, none⟩) (by simp; omega)).trans D6_2
      have oq0 := oq0.below f11 (by omega)
      have D8_0 := (f11.cell (p := ⟨w7.heap.size, 0, none⟩) (by simp; omega)).trans D8_0
      have D8_1 := (f11.cell (p := ⟨w7.heap.size, 1, none⟩) (by simp; omega)).trans D8_1
      have D8_2 := (f11.cell (p := ⟨w7.heap.size, 2, none⟩) (by simp; omega)).trans D8_2
      clear B10
      clear C0 C1 C2
      go_wp2_with fail
      ((with_reducible refine (markP_any _ _ _ _ _ _ _ _ _ _ _ _ _ _ t5 (by omega) (by omega) (by omega)).mono ?_); rintro e w12 ⟨rfl, t5, f12⟩)
      have y12 := f12.size
      have B12 : Below W1.heap.size W1 w12 := B11.trans (f12.below (by omega) (by omega))
      have op0 := op0.keep (Same.of_chg f12 (by omega) (by omega))
      have D4_0 := (World.cell?_of_block (w := w11) (a := ⟨w3.heap.size, 0, none⟩) (f12.block _ (by first | omega | (simp; done) | (simp; omega)) (by first | omega | (simp; done) | (simp; omega)))).trans D4_0
      have D4_1 := (World.cell?_of_block (w := w11) (a := ⟨w3.heap.size, 1, none⟩) (f12.block _ (by first | omega | (simp; done) | (simp; omega)) (by first | omega | (simp; done) | (simp; omega)))).trans D4_1
      have D4_2 := (World.cell?_of_block (w := w11) (a := ⟨w3.heap.size, 2, none⟩) (f12.block _ (by first | omega | (simp; done) | (simp; omega)) (by first | omega | (simp; done) | (simp; omega)))).trans D4_2
      have D6_0 := (World.cell?_of_block (w := w11) (a := ⟨w5.heap.size, 0, none⟩) (f12.block _ (by first | omega | (simp; done) | (simp; omega)) (by first | omega | (simp; done) | (simp; omega)))).trans D6_0
      have D6_1 := (World.cell?_of_block (w := w11) (a := ⟨w5.heap.size, 1, none⟩) (f12.block _ (by first | omega | (simp; done) | (simp; omega)) (by first | omega | (simp; done) | (simp; omega)))).trans D6_1
      have D6_2 := (World.cell?_of_block (w := w11) (a := ⟨w5.heap.size, 2, none⟩) (f12.block _ (by first | omega | (simp; done) | (simp; omega)) (by first | omega | (simp; done) | (simp; omega)))).trans D6_2
      have oq0 := oq0.keep (Same.of_chg f12 (by omega) (by omega))
      have D8_0 := (World.cell?_of_block (w := w11) (a := ⟨w7.heap.size, 0, none⟩) (f12.block _ (by first | omega | (simp; done) | (simp; omega)) (by first | omega | (simp; done) | (simp; omega)))).trans D8_0
      have D8_1 := (World.cell?_of_block (w := w11) (a := ⟨w7.heap.size, 1, none⟩) (f12.block _ (by first | omega | (simp; done) | (simp; omega)) (by first | omega | (simp; done) | (simp; omega)))).trans D8_1
      have D8_2 := (World.cell?_of_block (w := w11) (a := ⟨w7.heap.size, 2, none⟩) (f12.block _ (by first | omega | (simp; done) | (simp; omega)) (by first | omega | (simp; done) | (simp; omega)))).trans D8_2
      clear B11
      go_wp2_with fail
      ((with_reducible refine (eqP_any _ _ _ _ _ _ _ _ _ _ _ _ _ _ _ _ _ _ _ oq0.ri oq0.rs op0.ri op0.rs (by omega) (by omega) (by omega) (by omega)).mono ?_); rintro e w13 ⟨rfl, f13⟩)
      have y13 := f13.size
      have B13 : Below W1.heap.size W1 w13 := below_then B12 f13 (by omega)
      have op0 := op0.below f13 (by omega)
      have D4_0 := (f13.cell (p := ⟨w3.heap.size, 0, none⟩) (by simp; omega)).trans D4_0
      have D4_1 := (f13.cell (p := ⟨w3.heap.size, 1, none⟩) (by simp; omega)).trans D4_1
      have D4_2 := (f13.cell (p := ⟨w3.heap.size, 2, none⟩) (by simp; omega)).trans D4_2
      have t5 := t5.below f13 (by omega)
      have D6_0 := (f13.cell (p := ⟨w5.heap.size, 0, none⟩) (by simp; omega)).trans D6_0
      have D6_1 := (f13.cell (p := ⟨w5.heap.size, 1, none⟩) (by simp; omega)).trans D6_1
      have D6_2 := (f13.cell (p := ⟨w5.heap.size, 2, none⟩) (by simp; omega)).trans D6_2
      have oq0 := oq0.below f13 (by omega)
      have D8_0 := (f13.cell (p := ⟨w7.heap.size, 0, none⟩) (by simp; omega)).trans D8_0
      have D8_1 := (f13.cell (p := ⟨w7.heap.size, 1, none⟩) (by simp; omega)).trans D8_1
      have D8_2 := (f13.cell (p := ⟨w7.heap.size, 2, none⟩) (by simp; omega)).trans D8_2
      clear B12
      go_wp2_with fail
      ((with_reducible refine (markP_any _ _ _ _ _ _ _ _ _ _ _ _ _ _ oq0 (by omega) (by omega) (by omega)).mono ?_); rintro e w14 ⟨rfl, oq0, f14⟩)
      have y14 := f14.size
      have B14 : Below W1.heap.size W1 w14 := B13.trans (f14.below (by omega) (by omega))
      have op0 := op0.keep (Same.of_chg f14 (by omega) (by omega))
      have D4_0 := (World.cell?_of_block (w := w13) (a := ⟨w3.heap.size, 0, none⟩) (f14.block _ (by first | omega | (simp; done) | (simp; omega)) (by first | omega | (simp; done) | (simp; omega)))).trans D4_0
      have D4_1 := (World.cell?_of_block (w := w13) (a := ⟨w3.heap.size, 1, none⟩) (f14.block _ (by first | omega | (simp; done) | (simp; omega)) (by first | omega | (simp; done) | (simp; omega)))).trans D4_1
      have D4_2 := (World.cell?_of_block (w := w13) (a := ⟨w3.heap.size, 2, none⟩) (f14.block _ (by first | omega | (simp; done) | (simp; omega)) (by first | omega | (simp; done) | (simp; omega)))).trans D4_2
      have t5 := t5.keep (Same.of_chg f14 (by omega) (by omega))
      have D6_0 := (World.cell?_of_block (w := w13) (a := ⟨w5.heap.size, 0, none⟩) (f14.block _ (by first | omega | (simp; done) | (simp; omega)) (by first | omega | (simp; done) | (simp; omega)))).trans D6_0
      have D6_1 := (World.cell?_of_block (w := w13) (a := ⟨w5.heap.size, 1, none⟩) (f14.block _ (by first | omega | (simp; done) | (simp; omega)) (by first | omega | (simp; done) | (simp; omega)))).trans D6_1
      have D6_2 := (World.cell?_of_block (w := w13) (a := ⟨w5.heap.size, 2, none⟩) (f14.block _ (by first | omega | (simp; done) | (simp; omega)) (by first | omega | (simp; done) | (simp; omega)))).trans D6_2
      have D8_0 := (World.cell?_of_block (w := w13) (a := ⟨w7.heap.size, 0, none⟩) (f14.block _ (by first | omega | (simp; done) | (simp; omega)) (by first | omega | (simp; done) | (simp; omega)))).trans D8_0
      have D8_1 := (World.cell?_of_block (w := w13) (a := ⟨w7.heap.size, 1, none⟩) (f14.block _ (by first | omega | (simp; done) | (simp; omega)) (by first | omega | (simp; done) | (simp; omega)))).trans D8_1
      have D8_2 := (World.cell?_of_block (w := w13) (a := ⟨w7.heap.size, 2, none⟩) (f14.block _ (by first | omega | (simp; done) | (simp; omega)) (by first | omega | (simp; done) | (simp; omega)))).trans D8_2
      clear B13
      go_wp2_with fail
      ((with_reducible refine (heldP_any _ _ _ _ _ _ _ _ _ _ oq0.ri oq0.rs (by omega) (by omega) (by omega) (by omega)).mono ?_); rintro e w15 ⟨rfl, f15⟩)
      have y15 := f15.size
      have B15 : Below W1.heap.size W1 w15 := below_then B14 f15 (by omega)
      have op0 := op0.below f15 (by omega)
      have D4_0 := (f15.cell (p := ⟨w3.heap.size, 0, none⟩) (by simp; omega)).trans D4_0
      have D4_1 := (f15.cell (p := ⟨w3.heap.size, 1, none⟩) (by simp; omega)).trans D4_1
      have D4_2 := (f15.cell (p := ⟨w3.heap.size, 2, none⟩) (by simp; omega)).trans D4_2
      have t5 := t5.below f15 (by omega)
      have D6_0 := (f15.cell (p := ⟨w5.heap.size, 0, none⟩) (by simp; omega)).trans D6_0
      have D6_1 := (f15.cell (p := ⟨w5.heap.size, 1, none⟩) (by simp; omega)).trans D6_1
      have D6_2 := (f15.cell (p := ⟨w5.heap.size, 2, none⟩) (by simp; omega)).trans D6_2
      have oq0 := oq0.below f15 (by omega)
      have D8_0 := (f15.cell (p := ⟨w7.heap.size, 0, none⟩) (by simp; omega)).trans D8_0
      have D8_1 := (f15.cell (p := ⟨w7.heap.size, 1, none⟩) (by simp; omega)).trans D8_1
      have D8_2 := (f15.cell (p := ⟨w7.heap.size, 2, none⟩) (by simp; omega)).trans D8_2
      clear B14
      clear t5 D6_0 D6_1 D6_2
      have C0 := (B15.cell (p := ⟨w.heap.size, 0, none⟩) (by simp; omega)).trans hC0
      have C1 := (B15.cell (p := ⟨w.heap.size, 1, none⟩) (by simp; omega)).trans hC1
      have C2 := (B15.cell (p := ⟨w.heap.size, 2, none⟩) (by simp; omega)).trans hC2
      go_wp2_with fail
      ((with_reducible refine (toP_any r0 d0 k0 e0 ps0 a0 n0 c0 xss0 _ (hG.below B15 (by omega)) (hR.below B15 (by omega)) (by omega) (by omega) (by omega)).mono ?_); rintro e w16 ⟨T16, U16, M16, rfl, t16, f16⟩)
      have y16 := f16.size
      have B16 : Below W1.heap.size W1 w16 := below_then B15 f16 (by omega)
      have op0 := op0.below f16 (by omega)
      have D4_0 := (f16.cell (p := ⟨w3.heap.size, 0, none⟩) (by simp; omega)).trans D4_0
      have D4_1 := (f16.cell (p := ⟨w3.heap.size, 1, none⟩) (by simp; omega)).trans D4_1
      have D4_2 := (f16.cell (p := ⟨w3.heap.size, 2, none⟩) (by simp; omega)).trans D4_2
      have oq0 := oq0.below f16 (by omega)
      have D8_0 := (f16.cell (p := ⟨w7.heap.size, 0, none⟩) (by simp; omega)).trans D8_0
      have D8_1 := (f16.cell (p := ⟨w7.heap.size, 1, none⟩) (by simp; omega)).trans D8_1
      have D8_2 := (f16.cell (p := ⟨w7.heap.size, 2, none⟩) (by simp; omega)).trans D8_2
      clear B15
      clear C0 C1 C2
      go_wp2_with fail
      ((with_reducible refine (i_OppositePoset_any _ r0 qr T16 k0 k0 ps0 t16.ri (by omega) (Nat.le_refl _) U16 n0 n0 xss0 t16.rs (by omega) (Nat.le_refl _)).mono ?_); rintro e w17 ⟨h0r, h0D, h0k, h0e, h0d, h0A, h0n, h0c, h0, Mh0, h1, rfl, Hh, oh0, lh0, f17⟩)
      have y17 := f17.size
      have B17 : Below W1.heap.size W1 w17 := below_then B16 f17 (by omega)
      have op0 := op0.below f17 (by omega)
      have D4_0 := (f17.cell (p := ⟨w3.heap.size, 0, none⟩) (by simp; omega)).trans D4_0
      have D4_1 := (f17.cell (p := ⟨w3.heap.size, 1, none⟩) (by simp; omega)).trans D4_1
      have D4_2 := (f17.cell (p := ⟨w3.heap.size, 2, none⟩) (by simp; omega)).trans D4_2
      have oq0 := oq0.below f17 (by omega)
      have D8_0 := (f17.cell (p := ⟨w7.heap.size, 0, none⟩) (by simp; omega)).trans D8_0
      have D8_1 := (f17.cell (p := ⟨w7.heap.size, 1, none⟩) (by simp; omega)).trans D8_1
      have D8_2 := (f17.cell (p := ⟨w7.heap.size, 2, none⟩) (by simp; omega)).trans D8_2
      have t16 := t16.below f17 (by omega)
      clear B16
      have f18 : Below w17.heap.size w17 (w17.alloc (.cells #[.int .i64 h0r, .slice h0D h0k h0e, .slice h0A h0n h0c] 28)) := (Below.refl _ _).alloc (Nat.le_refl _) _
      have Z18 : (w17.alloc (.cells #[.int .i64 h0r, .slice h0D h0k h0e, .slice h0A h0n h0c] 28)).heap.size = w17.heap.size + 1 := by simp
      have D18_0 : (w17.alloc (.cells #[.int .i64 h0r, .slice h0D h0k h0e, .slice h0A h0n h0c] 28)).cell? ⟨w17.heap.size, 0, none⟩ = some (.int .i64 h0r) := by simp
      have D18_1 : (w17.alloc (.cells #[.int .i64 h0r, .slice h0D h0k h0e, .slice h0A h0n h0c] 28)).cell? ⟨w17.heap.size, 1, none⟩ = some (.slice h0D h0k h0e) := by simp
      have D18_2 : (w17.alloc (.cells #[.int .i64 h0r, .slice h0D h0k h0e, .slice h0A h0n h0c] 28)).cell? ⟨w17.heap.size, 2, none⟩ = some (.slice h0A h0n h0c) := by simp
      have op0 := op0.below f18 (by omega)
      have D4_0 := (f18.cell (p := ⟨w3.heap.size, 0, none⟩) (by simp; omega)).trans D4_0
      have D4_1 := (f18.cell (p := ⟨w3.heap.size, 1, none⟩) (by simp; omega)).trans D4_1
      have D4_2 := (f18.cell (p := ⟨w3.heap.size, 2, none⟩) (by simp; omega)).trans D4_2
      have oq0 := oq0.below f18 (by omega)
      have D8_0 := (f18.cell (p := ⟨w7.heap.size, 0, none⟩) (by simp; omega)).trans D8_0
      have D8_1 := (f18.cell (p := ⟨w7.heap.size, 1, none⟩) (by simp; omega)).trans D8_1
      have D8_2 := (f18.cell (p := ⟨w7.heap.size, 2, none⟩) (by simp; omega)).trans D8_2
      have t16 := t16.below f18 (by omega)
      have oh0 := oh0.below f18 (by omega)
      have X0 := (f18.cell (p := ⟨w.heap.size, 0, none⟩) (by simp; omega)).trans ((B17.cell (p := ⟨w.heap.size, 0, none⟩) (by simp; omega)).trans hC0)
      have X1 := (f18.cell (p := ⟨w.heap.size, 1, none⟩) (by simp; omega)).trans ((B17.cell (p := ⟨w.heap.size, 1, none⟩) (by simp; omega)).trans hC1)
      have X2 := (f18.cell (p := ⟨w.heap.size, 2, none⟩) (by simp; omega)).trans ((B17.cell (p := ⟨w.heap.size, 2, none⟩) (by simp; omega)).trans hC2)
      go_wp2_with fail
      obtain ⟨w18, hq18⟩ : ∃ w18 : World, (w17.alloc (.cells #[.int .i64 h0r, .slice h0D h0k h0e, .slice h0A h0n h0c] 28)) = w18 := ⟨_, rfl⟩
      rw [hq18] at f18 Z18 D18_0 D18_1 D18_2 op0 D4_0 D4_1 D4_2 oq0 D8_0 D8_1 D8_2 t16 oh0 X0 X1 X2 ⊢
      clear hq18
      have y18 := f18.size
      have B18 : Below W1.heap.size W1 w18 := below_then B17 f18 (by omega)
      clear B17 X0 X1 X2
      obtain ⟨rfl, rfl, rfl, rfl⟩ : p0r = h0r ∧ p0d = h0d ∧ p0 = h0 ∧ p1 = h1 := by have e := Hp.out.trans Hh.out.symm; simpa [and_assoc] using e
      clear Hh
      clear t16
      go_wp2_with fail
      ((with_reducible refine (eqP_any _ _ _ _ _ _ _ _ _ _ _ _ _ _ _ _ _ _ _ oh0.ri oh0.rs op0.ri op0.rs (by omega) (by omega) (by omega) (by omega)).mono ?_); rintro e w19 ⟨rfl, f19⟩)
      have y19 := f19.size
      have B19 : Below W1.heap.size W1 w19 := below_then B18 f19 (by omega)
      have op0 := op0.below f19 (by omega)
      have D4_0 := (f19.cell (p := ⟨w3.heap.size, 0, none⟩) (by simp; omega)).trans D4_0
      have D4_1 := (f19.cell (p := ⟨w3.heap.size, 1, none⟩) (by simp; omega)).trans D4_1
      have D4_2 := (f19.cell (p := ⟨w3.heap.size, 2, none⟩) (by simp; omega)).trans D4_2
      have oq0 := oq0.below f19 (by omega)
      have D8_0 := (f19.cell (p := ⟨w7.heap.size, 0, none⟩) (by simp; omega)).trans D8_0
      have D8_1 := (f19.cell (p := ⟨w7.heap.size, 1, none⟩) (by simp; omega)).trans D8_1
      have D8_2 := (f19.cell (p := ⟨w7.heap.size, 2, none⟩) (by simp; omega)).trans D8_2
      have oh0 := oh0.below f19 (by omega)
      have D18_0 := (f19.cell (p := ⟨w17.heap.size, 0, none⟩) (by simp; omega)).trans D18_0
      have D18_1 := (f19.cell (p := ⟨w17.heap.size, 1, none⟩) (by simp; omega)).trans D18_1
      have D18_2 := (f19.cell (p := ⟨w17.heap.size, 2, none⟩) (by simp; omega)).trans D18_2
      clear B18
      go_wp2_with fail
      ((with_reducible refine (heldP_any _ _ _ _ _ _ _ _ _ _ oq0.ri oq0.rs (by omega) (by omega) (by omega) (by omega)).mono ?_); rintro e w20 ⟨rfl, f20⟩)
      have y20 := f20.size
      have B20 : Below W1.heap.size W1 w20 := below_then B19 f20 (by omega)
      have op0 := op0.below f20 (by omega)
      have D4_0 := (f20.cell (p := ⟨w3.heap.size, 0, none⟩) (by simp; omega)).trans D4_0
      have D4_1 := (f20.cell (p := ⟨w3.heap.size, 1, none⟩) (by simp; omega)).trans D4_1
      have D4_2 := (f20.cell (p := ⟨w3.heap.size, 2, none⟩) (by simp; omega)).trans D4_2
      have oq0 := oq0.below f20 (by omega)
      have D8_0 := (f20.cell (p := ⟨w7.heap.size, 0, none⟩) (by simp; omega)).trans D8_0
      have D8_1 := (f20.cell (p := ⟨w7.heap.size, 1, none⟩) (by simp; omega)).trans D8_1
      have D8_2 := (f20.cell (p := ⟨w7.heap.size, 2, none⟩) (by simp; omega)).trans D8_2
      have oh0 := oh0.below f20 (by omega)
      have D18_0 := (f20.cell (p := ⟨w17.heap.size, 0, none⟩) (by simp; omega)).trans D18_0
      have D18_1 := (f20.cell (p := ⟨w17.heap.size, 1, none⟩) (by simp; omega)).trans D18_1
      have D18_2 := (f20.cell (p := ⟨w17.heap.size, 2, none⟩) (by simp; omega)).trans D18_2
      clear B19
      go_wp2_with fail
      go_ret
      exact ⟨rfl, hB.trans (B20.mono (by omega))⟩
  · have z0 := leftOf_neg s0
    replace z0 := Lib.hid z0
    go_enter Try.func4, Try.ntmps4
    go_wp2_with fail
    ((with_reducible refine (szP0_any r0 d0 k0 e0 ps0 a0 n0 c0 xss0 _ hG hR (by simp) (by simp)).mono ?_); rintro e w2 ⟨rfl, f2⟩)
    rw [z0.out]
    go_wp2_with fail
    go_ret
    exact ⟨rfl, hB.trans (f2.mono (by simp))⟩
set_option maxRecDepth 100000 in
theorem lifted (os : Os) (started : os.Started) (H : Type) (enc : TypeId × Value → H) :
    ReturnsInHanded {} Try.checked os 4 .any (Rows.fnExactOppositePosetSpec.pre6 enc Try.prog Try.f4 Rows.fnExactOppositePosetRow.domain false) (Rows.fnExactOppositePosetSpec.post enc Try.prog Try.f4 false true false false) := by
  refine returnsInHanded_of_change (C := Try.checked) own started (by kernel_rfl) Try.func4
    (ChangeSpec.witness6 (enc := enc) (C := Try.checked) false ⟨#[], #[.agg #[.int .i64 0, .slice none 0 0, .slice none 0 0]], []⟩ 8 (by kernel_rfl) (by kernel_rfl) (by kernel_rfl) (by kernel_rfl)) ?_
  intro W base args ds gs before hval0 hW hcnd _
  have hval : ∀ (j : Nat) t v, Try.f4.params[j]? = some t → args[j]? = some v → Value.okWide Try.prog W .any base t v := hval0
  have hW' := hW
  obtain ⟨p, q, hA0, hV, rfl, hfz, hnd⟩ := hW
  have hA : DataW.TrodAll enc Try.prog W 0 (fun _ => true) true Try.f4.params.toList args.toList ds p := hA0
  rw [Try.params4] at hA hval
  obtain ⟨v0, vs0, dd0, ds0, p0, q0, hargs, rfl, rfl, h0, rr0⟩ := trodAll_cons hA
  obtain ⟨rfl, rfl, rfl⟩ := trodAll_nil rr0
  obtain rfl : args = #[v0] := by cases args; simp_all
  obtain ⟨rfl, rfl⟩ := trodVars_none hV
  have kk0 := h0
  have lt0 : ∀ x ∈ p0, x.block < W.heap.size := by obtain ⟨m, hm⟩ := kk0; exact DataW.trod_lt m _ _ _ hm
  obtain ⟨r0, d0, k0, e0, ps0, a0, n0, c0, xss0, rfl, br, g0, bg, w0, b0⟩ := open_RP Try.underlying25 (by kernel_rfl) (by kernel_rfl) rfl rfl rfl Try.underlying23 Try.underlying22 Try.underlying2 (by kernel_rfl) (by kernel_rfl) (hval 0 25 v0 rfl rfl) h0
  clear hA0 hval0
  refine (walk r0 d0 k0 e0 ps0 a0 n0 c0 xss0 W br g0 bg w0 b0).mono fun e W' ⟨he, bel⟩ => ?_
  subst he
  exact ⟨_, rfl, _, _, _, [], _, [], hW', trodAll_mk1 (shut_bool Try.underlying4 _), (trodAll_cons_mk (Below.trod laidOut (by kernel_rfl) (of_decide_eq_true (by kernel_rfl)) kk0 bel lt0) trodAll_mk0), rfl, bel.frame _, fun h => by cases h⟩
theorem over : Rows.fnExactOppositePosetRow.holds Try.pinned (OpenSpec.ofChange Rows.fnExactOppositePosetSpec) :=
  OpenClaim.holds_of_wide 4 Try.f4 rfl rfl rfl rfl rfl rfl rfl ⟨rfl, rfl, rfl, rfl, rfl⟩ rfl rfl rfl rfl rfl (by kernel_rfl) Try.func4 (by kernel_rfl)
    (of_decide_eq_true (by kernel_rfl)) (by unfold Func.isWrapper; first | (rw [if_pos (by decide +kernel)]; kernel_rfl) | (rw [if_neg (by decide +kernel)]; exact ⟨rfl, rfl⟩))
    (fun os started H enc _ => lifted os started H enc)
/-- THE STATEMENT -/
theorem proved : Rows.FnExactOppositePosetSaid := over
end Go.Proofs.Ytpbmhhopgjikhaa.fnExactOppositePoset
