/- FnExactFlagsOf: the program's FlagsOf and the reference's return the same for all arguments, the arguments stay as they were, and the results are memory of their own. No condition. -/
import Derived.Test.YtdhkaclkheokbaaRows
import Derived.Test.YtdhkaclkheokbaaOpen
import Derived.Test.YtdhkaclkheokbaaLawI
import Derived.Test.YtdhkaclkheokbaaOpenS
import Derived.Test.YtdhkaclkheokbaaLawS
import Derived.Test.YtdhkaclkheokbaaLawM
import Derived.Test.YtdhkaclkheokbaaLawP
import Derived.Test.YtdhkaclkheokbaaFlgX
namespace Go.Proofs.Ytdhkaclkheokbaa.fnExactFlagsOf
open Go.ChangeShapes Go.WideShapes Go.ChangeAt Go.RowKit
open Go.ChangeMaps (open_string shut_string)
set_option linter.unusedVariables false
theorem own : ownKnob Try.prog.godebug = none := by kernel_rfl
theorem laidOut : laidOutB Try.prog = true := by kernel_rfl
set_option maxRecDepth 100000 in
set_option maxHeartbeats 8000000 in
theorem walk (r0 : Int) (d0 : Option Addr) (k0 e0 : Nat) (ps0 : List Int) (a0 : Option Addr) (n0 c0 : Nat) (xss0 : List (List Int)) (w : World) (br : I64 r0) (g0 : RI w 0 w.heap.size d0 k0 ps0) (bg : ∀ x ∈ ps0, I64 x) (h0 : RS w 0 w.heap.size a0 n0 xss0) (b0 : ∀ xs ∈ xss0, ∀ x ∈ xs, I64 x) :
    Calls Try.prog 4 #[.agg #[.int .i64 r0, .slice d0 k0 e0, .slice a0 n0 c0]] w fun e w' => e = .returned (.bool true) ∧ Below w.heap.size w w' := by
  have m0 := h0.max
  have mg := g0.max
  have qr := br; unfold I64 at qr
  have hR := rs_alloc h0 (Nat.le_refl _) (.cells #[.int .i64 r0, .slice d0 k0 e0, .slice a0 n0 c0] 25)
  have hG : RI (w.alloc (.cells #[.int .i64 r0, .slice d0 k0 e0, .slice a0 n0 c0] 25)) 0 w.heap.size d0 k0 ps0 := g0.keep (same_alloc w _ _ _ (Nat.le_refl _))
  have hC0 : (w.alloc (.cells #[.int .i64 r0, .slice d0 k0 e0, .slice a0 n0 c0] 25)).cell? ⟨w.heap.size, 0, none⟩ = some (.int .i64 r0) := by simp
  have hC1 : (w.alloc (.cells #[.int .i64 r0, .slice d0 k0 e0, .slice a0 n0 c0] 25)).cell? ⟨w.heap.size, 1, none⟩ = some (.slice d0 k0 e0) := by simp
  have hC2 : (w.alloc (.cells #[.int .i64 r0, .slice d0 k0 e0, .slice a0 n0 c0] 25)).cell? ⟨w.heap.size, 2, none⟩ = some (.slice a0 n0 c0) := by simp
  have hB : Below w.heap.size w (w.alloc (.cells #[.int .i64 r0, .slice d0 k0 e0, .slice a0 n0 c0] 25)) := (Below.refl _ _).alloc (Nat.le_refl _) _
  by_cases s0 : k0 + (n0 + numsIn xss0) ≤ 1048576
  · skip
    have z0 := leftOf_pos s0
    replace z0 := Lib.hid z0
    go_enter Try.func4, Try.ntmps4
    go_wp2_with fail
    obtain ⟨W1, hW⟩ : ∃ W1 : World, (w.alloc (.cells #[.int .i64 r0, .slice d0 k0 e0, .slice a0 n0 c0] 25)) = W1 := ⟨_, rfl⟩
    have hz1 : W1.heap.size = w.heap.size + 1 := by rw [← hW]; simp
    rw [hW] at hR hG hC0 hC1 hC2 hB ⊢
    clear hW
    have B0 : Below W1.heap.size W1 W1 := Below.refl _ _
    ((with_reducible refine (szP0_any r0 d0 k0 e0 ps0 a0 n0 c0 xss0 _ hG hR (by omega) (by omega)).mono ?_); rintro e w1 ⟨rfl, f1⟩)
    rw [z0.out]
    have y1 := f1.size
    have B1 : Below W1.heap.size W1 w1 := below_then B0 f1 (by omega)
    clear B0
    have C0 := (B1.cell (p := ⟨w.heap.size, 0, none⟩) (by simp; omega)).trans hC0
    have C1 := (B1.cell (p := ⟨w.heap.size, 1, none⟩) (by simp; omega)).trans hC1
    have C2 := (B1.cell (p := ⟨w.heap.size, 2, none⟩) (by simp; omega)).trans hC2
    go_wp2_with fail
    ((with_reducible refine (toP_any r0 d0 k0 e0 ps0 a0 n0 c0 xss0 _ (hG.below B1 (by omega)) (hR.below B1 (by omega)) (by omega) (by omega) (by omega)).mono ?_); rintro e w2 ⟨T2, U2, M2, rfl, t2, f2⟩)
    have y2 := f2.size
    have B2 : Below W1.heap.size W1 w2 := below_then B1 f2 (by omega)
    clear B1
    clear C0 C1 C2
    go_wp2_with fail
    ((with_reducible refine (s_FlagsOf_any _ r0 qr T2 k0 k0 ps0 t2.ri (by omega) (Nat.le_refl _) U2 n0 n0 xss0 t2.rs (by omega) (Nat.le_refl _)).mono ?_); rintro e w3 ⟨p0A, p0n, p0c, p0, p1, rfl, Hp, op0, lp0, f3⟩)
    have y3 := f3.size
    have B3 : Below W1.heap.size W1 w3 := below_then B2 f3 (by omega)
    have t2 := t2.below f3 (by omega)
    clear B2
    clear t2
    have C0 := (B3.cell (p := ⟨w.heap.size, 0, none⟩) (by simp; omega)).trans hC0
    have C1 := (B3.cell (p := ⟨w.heap.size, 1, none⟩) (by simp; omega)).trans hC1
    have C2 := (B3.cell (p := ⟨w.heap.size, 2, none⟩) (by simp; omega)).trans hC2
    go_wp2_with fail
    ((with_reducible refine (toP_any r0 d0 k0 e0 ps0 a0 n0 c0 xss0 _ (hG.below B3 (by omega)) (hR.below B3 (by omega)) (by omega) (by omega) (by omega)).mono ?_); rintro e w4 ⟨T4, U4, M4, rfl, t4, f4⟩)
    have y4 := f4.size
    have B4 : Below W1.heap.size W1 w4 := below_then B3 f4 (by omega)
    have op0 := op0.below f4 (by omega)
    clear B3
    clear C0 C1 C2
    have f5 : Below w4.heap.size w4 (w4.alloc (.cells #[.int .i64 r0, .slice T4 k0 k0, .slice U4 n0 n0] 29)) := (Below.refl _ _).alloc (Nat.le_refl _) _
    have Z5 : (w4.alloc (.cells #[.int .i64 r0, .slice T4 k0 k0, .slice U4 n0 n0] 29)).heap.size = w4.heap.size + 1 := by simp
    have D5_0 : (w4.alloc (.cells #[.int .i64 r0, .slice T4 k0 k0, .slice U4 n0 n0] 29)).cell? ⟨w4.heap.size, 0, none⟩ = some (.int .i64 r0) := by simp
    have D5_1 : (w4.alloc (.cells #[.int .i64 r0, .slice T4 k0 k0, .slice U4 n0 n0] 29)).cell? ⟨w4.heap.size, 1, none⟩ = some (.slice T4 k0 k0) := by simp
    have D5_2 : (w4.alloc (.cells #[.int .i64 r0, .slice T4 k0 k0, .slice U4 n0 n0] 29)).cell? ⟨w4.heap.size, 2, none⟩ = some (.slice U4 n0 n0) := by simp
    have op0 := op0.below f5 (by omega)
    have t4 := t4.below f5 (by omega)
    have X0 := (f5.cell (p := ⟨w.heap.size, 0, none⟩) (by simp; omega)).trans ((B4.cell (p := ⟨w.heap.size, 0, none⟩) (by simp; omega)).trans hC0)
    have X1 := (f5.cell (p := ⟨w.heap.size, 1, none⟩) (by simp; omega)).trans ((B4.cell (p := ⟨w.heap.size, 1, none⟩) (by simp; omega)).trans hC1)
    have X2 := (f5.cell (p := ⟨w.heap.size, 2, none⟩) (by simp; omega)).trans ((B4.cell (p := ⟨w.heap.size, 2, none⟩) (by simp; omega)).trans hC2)
    go_wp2_with fail
    obtain ⟨w5, hq5⟩ : ∃ w5 : World, (w4.alloc (.cells #[.int .i64 r0, .slice T4 k0 k0, .slice U4 n0 n0] 29)) = w5 := ⟨_, rfl⟩
    rw [hq5] at f5 Z5 D5_0 D5_1 D5_2 op0 t4 X0 X1 X2 ⊢
    clear hq5
    have y5 := f5.size
    have B5 : Below W1.heap.size W1 w5 := below_then B4 f5 (by omega)
    clear B4 X0 X1 X2
    go_wp2_with fail
    ((with_reducible refine (i_FlagsOf_any _ r0 qr T4 k0 k0 ps0 t4.ri (by omega) (Nat.le_refl _) U4 n0 n0 xss0 t4.rs (by omega) (Nat.le_refl _)).mono ?_); rintro e w6 ⟨q0A, q0n, q0c, q0, q1, rfl, Hq, oq0, lq0, f6⟩)
    have y6 := f6.size
    have B6 : Below W1.heap.size W1 w6 := below_then B5 f6 (by omega)
    have op0 := op0.below f6 (by omega)
    have t4 := t4.below f6 (by omega)
    have D5_0 := (f6.cell (p := ⟨w4.heap.size, 0, none⟩) (by simp; omega)).trans D5_0
    have D5_1 := (f6.cell (p := ⟨w4.heap.size, 1, none⟩) (by simp; omega)).trans D5_1
    have D5_2 := (f6.cell (p := ⟨w4.heap.size, 2, none⟩) (by simp; omega)).trans D5_2
    clear B5
    obtain ⟨rfl, rfl⟩ : p0 = q0 ∧ p1 = q1 := by have e := Hp.out.trans Hq.out.symm; simpa [and_assoc] using e
    clear Hq
    go_wp2_with fail
    ((with_reducible refine (eqS_any _ _ _ _ _ _ _ _ _ oq0.rs op0.rs (by omega) (by omega)).mono ?_); rintro e w7 ⟨rfl, f7⟩)
    have y7 := f7.size
    have B7 : Below W1.heap.size W1 w7 := below_then B6 f7 (by omega)
    have op0 := op0.below f7 (by omega)
    have t4 := t4.below f7 (by omega)
    have D5_0 := (f7.cell (p := ⟨w4.heap.size, 0, none⟩) (by simp; omega)).trans D5_0
    have D5_1 := (f7.cell (p := ⟨w4.heap.size, 1, none⟩) (by simp; omega)).trans D5_1
    have D5_2 := (f7.cell (p := ⟨w4.heap.size, 2, none⟩) (by simp; omega)).trans D5_2
    have oq0 := oq0.below f7 (by omega)
    clear B6
    have C0 := (B7.cell (p := ⟨w.heap.size, 0, none⟩) (by simp; omega)).trans hC0
    have C1 := (B7.cell (p := ⟨w.heap.size, 1, none⟩) (by simp; omega)).trans hC1
    have C2 := (B7.cell (p := ⟨w.heap.size, 2, none⟩) (by simp; omega)).trans hC2
    have Bd := below_drew B7
    have hT := toP_any r0 d0 k0 e0 ps0 a0 n0 c0 xss0 w7.drew (ri_drew (hG.below B7 (by omega))) (rs_drew (hR.below B7 (by omega))) (show _ ≤ w7.heap.size by omega) (show _ ≤ w7.heap.size by omega) (by omega)
    have rg := ri_drew t4.ri
    have rd := rs_drew t4.rs
    go_wp2_with fail
    go_region_with (first
      | (go_at_call 12; refine hT.mono ?_; rintro e w8 ⟨T8, U8, M8, rfl, t8, f8⟩; have GD5_0 := (f8.cell (p := ⟨w4.heap.size, 0, none⟩) (by simp; omega)).trans D5_0; have GD5_1 := (f8.cell (p := ⟨w4.heap.size, 1, none⟩) (by simp; omega)).trans D5_1; have GD5_2 := (f8.cell (p := ⟨w4.heap.size, 2, none⟩) (by simp; omega)).trans D5_2; have y8 : w7.heap.size ≤ w8.heap.size := f8.size; have qe := eqP_any r0 T4 k0 k0 ps0 U4 n0 n0 xss0 r0 T8 k0 k0 ps0 U8 n0 n0 xss0 w8 (rg.below f8 (show _ ≤ w7.heap.size by omega)) (rd.below f8 (show _ ≤ w7.heap.size by omega)) t8.ri t8.rs (by omega) (by omega) (Nat.le_refl _) (Nat.le_refl _))
      | (go_at_call 14; refine qe.mono ?_; rintro e w9 ⟨rfl, f9⟩))
    all_goals
      clear qe hT rd rg GD5_0 GD5_1 GD5_2
      have f8 : Below w7.heap.size w7 w8 := ⟨f8.os, f8.tape, f8.output, f8.size, f8.block⟩
      clear y8 Bd
      have y8 := f8.size
      have B8 : Below W1.heap.size W1 w8 := below_then B7 f8 (by omega)
      have op0 := op0.below f8 (by omega)
      have t4 := t4.below f8 (by omega)
      have D5_0 := (f8.cell (p := ⟨w4.heap.size, 0, none⟩) (by simp; omega)).trans D5_0
      have D5_1 := (f8.cell (p := ⟨w4.heap.size, 1, none⟩) (by simp; omega)).trans D5_1
      have D5_2 := (f8.cell (p := ⟨w4.heap.size, 2, none⟩) (by simp; omega)).trans D5_2
      have oq0 := oq0.below f8 (by omega)
      clear B7
      have y9 := f9.size
      have B9 : Below W1.heap.size W1 w9 := below_then B8 f9 (by omega)
      have op0 := op0.below f9 (by omega)
      have t4 := t4.below f9 (by omega)
      have D5_0 := (f9.cell (p := ⟨w4.heap.size, 0, none⟩) (by simp; omega)).trans D5_0
      have D5_1 := (f9.cell (p := ⟨w4.heap.size, 1, none⟩) (by simp; omega)).trans D5_1
      have D5_2 := (f9.cell (p := ⟨w4.heap.size, 2, none⟩) (by simp; omega)).trans D5_2
      have oq0 := oq0.below f9 (by omega)
      clear B8
      clear C0 C1 C2
      go_wp2_with fail
      ((with_reducible refine (markP_any _ _ _ _ _ _ _ _ _ _ _ _ _ _ t4 (by omega) (by omega) (by omega)).mono ?_); rintro e w10 ⟨rfl, t4, f10⟩)
      have y10 := f10.size
      have B10 : Below W1.heap.size W1 w10 := B9.trans (f10.below (by omega) (by omega))
      have op0 := op0.keep (Same.of_chg f10 (by omega) (by omega))
      have D5_0 := (World.cell?_of_block (w := w9) (a := ⟨w4.heap.size, 0, none⟩) (f10.block _ (by first | omega | (simp; done) | (simp; omega)) (by first | omega | (simp; done) | (simp; omega)))).trans D5_0
      have D5_1 := (World.cell?_of_block (w := w9) (a := ⟨w4.heap.size, 1, none⟩) (f10.block _ (by first | omega | (simp; done) | (simp; omega)) (by first | omega | (simp; done) | (simp; omega)))).trans D5_1
      have D5_2 := (World.cell?_of_block (w := w9) (a := ⟨w4.heap.size, 2, none⟩) (f10.block _ (by first | omega | (simp; done) | (simp; omega)) (by first | omega | (simp; done) | (simp; omega)))).trans D5_2
      have oq0 := oq0.keep (Same.of_chg f10 (by omega) (by omega))
      clear B9
      go_wp2_with fail
      ((with_reducible refine (eqS_any _ _ _ _ _ _ _ _ _ oq0.rs op0.rs (by omega) (by omega)).mono ?_); rintro e w11 ⟨rfl, f11⟩)
      have y11 := f11.size
      have B11 : Below W1.heap.size W1 w11 := below_then B10 f11 (by omega)
      have op0 := op0.below f11 (by omega)
      have t4 := t4.below f11 (by omega)
      have D5_0 := (f11.cell (p := ⟨w4.heap.size, 0, none⟩) (by simp; omega)).trans D5_0
      have D5_1 := (f11.cell (p := ⟨w4.heap.size, 1, none⟩) (by simp; omega)).trans D5_1
      have D5_2 := (f11.cell (p := ⟨w4.heap.size, 2, none⟩) (by simp; omega)).trans D5_2
      have oq0 := oq0.below f11 (by omega)
      clear B10
      go_wp2_with fail
      ((with_reducible refine (markS_any _ _ _ _ _ _ _ _ oq0 (by omega) (by omega) (by omega)).mono ?_); rintro e w12 ⟨rfl, oq0, f12⟩)
      have y12 := f12.size
      have B12 : Below W1.heap.size W1 w12 := B11.trans (f12.below (by omega) (by omega))
      have op0 := op0.keep (Same.of_chg f12 (by omega) (by omega))
      have t4 := t4.keep (Same.of_chg f12 (by omega) (by omega))
      have D5_0 := (World.cell?_of_block (w := w11) (a := ⟨w4.heap.size, 0, none⟩) (f12.block _ (by first | omega | (simp; done) | (simp; omega)) (by first | omega | (simp; done) | (simp; omega)))).trans D5_0
      have D5_1 := (World.cell?_of_block (w := w11) (a := ⟨w4.heap.size, 1, none⟩) (f12.block _ (by first | omega | (simp; done) | (simp; omega)) (by first | omega | (simp; done) | (simp; omega)))).trans D5_1
      have D5_2 := (World.cell?_of_block (w := w11) (a := ⟨w4.heap.size, 2, none⟩) (f12.block _ (by first | omega | (simp; done) | (simp; omega)) (by first | omega | (simp; done) | (simp; omega)))).trans D5_2
      clear B11
      go_wp2_with fail
      ((with_reducible refine (heldS_any _ _ _ _ _ _ _ _ oq0.rs (by omega) (by omega) (by omega)).mono ?_); rintro e w13 ⟨rfl, f13⟩)
      have y13 := f13.size
      have B13 : Below W1.heap.size W1 w13 := below_then B12 f13 (by omega)
      have op0 := op0.below f13 (by omega)
      have t4 := t4.below f13 (by omega)
      have D5_0 := (f13.cell (p := ⟨w4.heap.size, 0, none⟩) (by simp; omega)).trans D5_0
      have D5_1 := (f13.cell (p := ⟨w4.heap.size, 1, none⟩) (by simp; omega)).trans D5_1
      have D5_2 := (f13.cell (p := ⟨w4.heap.size, 2, none⟩) (by simp; omega)).trans D5_2
      have oq0 := oq0.below f13 (by omega)
      clear B12
      clear t4 D5_0 D5_1 D5_2
      have C0 := (B13.cell (p := ⟨w.heap.size, 0, none⟩) (by simp; omega)).trans hC0
      have C1 := (B13.cell (p := ⟨w.heap.size, 1, none⟩) (by simp; omega)).trans hC1
      have C2 := (B13.cell (p := ⟨w.heap.size, 2, none⟩) (by simp; omega)).trans hC2
      go_wp2_with fail
      ((with_reducible refine (toP_any r0 d0 k0 e0 ps0 a0 n0 c0 xss0 _ (hG.below B13 (by omega)) (hR.below B13 (by omega)) (by omega) (by omega) (by omega)).mono ?_); rintro e w14 ⟨T14, U14, M14, rfl, t14, f14⟩)
      have y14 := f14.size
      have B14 : Below W1.heap.size W1 w14 := below_then B13 f14 (by omega)
      have op0 := op0.below f14 (by omega)
      have oq0 := oq0.below f14 (by omega)
      clear B13
      clear C0 C1 C2
      go_wp2_with fail
      ((with_reducible refine (i_FlagsOf_any _ r0 qr T14 k0 k0 ps0 t14.ri (by omega) (Nat.le_refl _) U14 n0 n0 xss0 t14.rs (by omega) (Nat.le_refl _)).mono ?_); rintro e w15 ⟨h0A, h0n, h0c, h0, h1, rfl, Hh, oh0, lh0, f15⟩)
      have y15 := f15.size
      have B15 : Below W1.heap.size W1 w15 := below_then B14 f15 (by omega)
      have op0 := op0.below f15 (by omega)
      have oq0 := oq0.below f15 (by omega)
      have t14 := t14.below f15 (by omega)
      clear B14
      obtain ⟨rfl, rfl⟩ : p0 = h0 ∧ p1 = h1 := by have e := Hp.out.trans Hh.out.symm; simpa [and_assoc] using e
      clear Hh
      clear t14
      go_wp2_with fail
      ((with_reducible refine (eqS_any _ _ _ _ _ _ _ _ _ oh0.rs op0.rs (by omega) (by omega)).mono ?_); rintro e w16 ⟨rfl, f16⟩)
      have y16 := f16.size
      have B16 : Below W1.heap.size W1 w16 := below_then B15 f16 (by omega)
      have op0 := op0.below f16 (by omega)
      have oq0 := oq0.below f16 (by omega)
      have oh0 := oh0.below f16 (by omega)
      clear B15
      go_wp2_with fail
      ((with_reducible refine (heldS_any _ _ _ _ _ _ _ _ oq0.rs (by omega) (by omega) (by omega)).mono ?_); rintro e w17 ⟨rfl, f17⟩)
      have y17 := f17.size
      have B17 : Below W1.heap.size W1 w17 := below_then B16 f17 (by omega)
      have op0 := op0.below f17 (by omega)
      have oq0 := oq0.below f17 (by omega)
      have oh0 := oh0.below f17 (by omega)
      clear B16
      go_wp2_with fail
      go_ret
      exact ⟨rfl, hB.trans (B17.mono (by omega))⟩
  · have z0 := leftOf_neg s0
    replace z0 := Lib.hid z0
    go_enter Try.func4, Try.ntmps4
    go_wp2_with fail
    ((with_reducible refine (szP0_any r0 d0 k0 e0 ps0 a0 n0 c0 xss0 _ hG hR (by simp) (by simp)).mono ?_); rintro e w2 ⟨rfl, f2⟩)
    rw [z0.out]
    go_wp2_with fail
    go_ret
    exact ⟨rfl, hB.trans (f2.mono (by simp))⟩
set_option maxRecDepth 100000 in
theorem lifted (os : Os) (started : os.Started) (H : Type) (enc : TypeId × Value → H) :
    ReturnsInHanded {} Try.checked os 4 .any (Rows.fnExactFlagsOfSpec.pre6 enc Try.prog Try.f4 Rows.fnExactFlagsOfRow.domain false) (Rows.fnExactFlagsOfSpec.post enc Try.prog Try.f4 false true false false) := by
  refine returnsInHanded_of_change (C := Try.checked) own started (by kernel_rfl) Try.func4
    (ChangeSpec.witness6 (enc := enc) (C := Try.checked) false ⟨#[], #[.agg #[.int .i64 0, .slice none 0 0, .slice none 0 0]], []⟩ 8 (by kernel_rfl) (by kernel_rfl) (by kernel_rfl) (by kernel_rfl)) ?_
  intro W base args ds gs before hval0 hW hcnd _
  have hval : ∀ (j : Nat) t v, Try.f4.params[j]? = some t → args[j]? = some v → Value.okWide Try.prog W .any base t v := hval0
  have hW' := hW
  obtain ⟨p, q, hA0, hV, rfl, hfz, hnd⟩ := hW
  have hA : DataW.TrodAll enc Try.prog W 0 (fun _ => true) true Try.f4.params.toList args.toList ds p := hA0
  rw [Try.params4] at hA hval
  obtain ⟨v0, vs0, dd0, ds0, p0, q0, hargs, rfl, rfl, h0, rr0⟩ := trodAll_cons hA
  obtain ⟨rfl, rfl, rfl⟩ := trodAll_nil rr0
  obtain rfl : args = #[v0] := by cases args; simp_all
  obtain ⟨rfl, rfl⟩ := trodVars_none hV
  have kk0 := h0
  have lt0 : ∀ x ∈ p0, x.block < W.heap.size := by obtain ⟨m, hm⟩ := kk0; exact DataW.trod_lt m _ _ _ hm
  obtain ⟨r0, d0, k0, e0, ps0, a0, n0, c0, xss0, rfl, br, g0, bg, w0, b0⟩ := open_RP Try.underlying25 (by kernel_rfl) (by kernel_rfl) rfl rfl rfl Try.underlying23 Try.underlying22 Try.underlying2 (by kernel_rfl) (by kernel_rfl) (hval 0 25 v0 rfl rfl) h0
  clear hA0 hval0
  refine (walk r0 d0 k0 e0 ps0 a0 n0 c0 xss0 W br g0 bg w0 b0).mono fun e W' ⟨he, bel⟩ => ?_
  subst he
  exact ⟨_, rfl, _, _, _, [], _, [], hW', trodAll_mk1 (shut_bool Try.underlying4 _), (trodAll_cons_mk (Below.trod laidOut (by kernel_rfl) (of_decide_eq_true (by kernel_rfl)) kk0 bel lt0) trodAll_mk0), rfl, bel.frame _, fun h => by cases h⟩
theorem over : Rows.fnExactFlagsOfRow.holds Try.pinned (OpenSpec.ofChange Rows.fnExactFlagsOfSpec) :=
  OpenClaim.holds_of_wide 4 Try.f4 rfl rfl rfl rfl rfl rfl rfl ⟨rfl, rfl, rfl, rfl, rfl⟩ rfl rfl rfl rfl rfl (by kernel_rfl) Try.func4 (by kernel_rfl)
    (of_decide_eq_true (by kernel_rfl)) (by unfold Func.isWrapper; first | (rw [if_pos (by decide +kernel)]; kernel_rfl) | (rw [if_neg (by decide +kernel)]; exact ⟨rfl, rfl⟩))
    (fun os started H enc _ => lifted os started H enc)
/-- THE STATEMENT -/
theorem proved : Rows.FnExactFlagsOfSaid := over
end Go.Proofs.Ytdhkaclkheokbaa.fnExactFlagsOf
