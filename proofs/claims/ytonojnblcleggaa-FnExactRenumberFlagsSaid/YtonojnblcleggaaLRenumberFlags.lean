/- FnExactRenumberFlags: the program's RenumberFlags and the reference's return the same for all arguments, the arguments stay as they were, and the results are memory of their own. No condition. -/
import Derived.Test.YtonojnblcleggaaRows
import Derived.Test.YtonojnblcleggaaOpen
import Derived.Test.YtonojnblcleggaaLawI
import Derived.Test.YtonojnblcleggaaOpenS
import Derived.Test.YtonojnblcleggaaLawS
import Derived.Test.YtonojnblcleggaaLawM
import Derived.Test.YtonojnblcleggaaRenX
namespace Go.Proofs.Ytonojnblcleggaa.fnExactRenumberFlags
open Go.ChangeShapes Go.WideShapes Go.ChangeAt Go.RowKit
open Go.ChangeMaps (open_string shut_string)
set_option linter.unusedVariables false
theorem own : ownKnob Try.prog.godebug = none := by kernel_rfl
theorem laidOut : laidOutB Try.prog = true := by kernel_rfl
set_option maxRecDepth 100000 in
set_option maxHeartbeats 8000000 in
theorem walk (a0 : Option Addr) (n0 c0 : Nat) (xss0 : List (List Int)) (a1 : Option Addr) (n1 c1 : Nat) (xs1 : List Int) (w : World) (h0 : RS w 0 w.heap.size a0 n0 xss0) (b0 : ∀ xs ∈ xss0, ∀ x ∈ xs, I64 x) (h1 : RI w 0 w.heap.size a1 n1 xs1) (b1 : ∀ x ∈ xs1, I64 x) :
    Calls Try.prog 11 #[.agg #[.slice a0 n0 c0], .slice a1 n1 c1] w fun e w' => e = .returned (.bool true) ∧ Below w.heap.size w w' := by
  have m0 := h0.max
  have m1 := h1.max
  have hR := rs_alloc h0 (Nat.le_refl _) (.cells #[.slice a0 n0 c0] 42)
  have hI1 : RI (w.alloc (.cells #[.slice a0 n0 c0] 42)) 0 w.heap.size a1 n1 xs1 := h1.keep (same_alloc w _ _ _ (Nat.le_refl _))
  have hC0 : (w.alloc (.cells #[.slice a0 n0 c0] 42)).cell? ⟨w.heap.size, 0, none⟩ = some (.slice a0 n0 c0) := by simp
  have hB : Below w.heap.size w (w.alloc (.cells #[.slice a0 n0 c0] 42)) := (Below.refl _ _).alloc (Nat.le_refl _) _
  by_cases s1 : n1 ≤ 1048576
  · skip
    have t1 : decide ((1048576 : Int) < (n1 : Int)) = false := by simp; omega
    by_cases s0 : n0 + numsIn xss0 ≤ 1048576
    · skip
      have z0 := leftOf_pos s0
      replace z0 := Lib.hid z0
      go_enter Try.func11, Try.ntmps11
      go_wp2_with fail
      obtain ⟨W1, hW⟩ : ∃ W1 : World, (w.alloc (.cells #[.slice a0 n0 c0] 42)) = W1 := ⟨_, rfl⟩
      have hz1 : W1.heap.size = w.heap.size + 1 := by rw [← hW]; simp
      rw [hW] at hR hI1 hC0 hB ⊢
      clear hW
      have B0 : Below W1.heap.size W1 W1 := Below.refl _ _
      ((with_reducible refine (szM0_any a0 n0 c0 xss0 _ hR (by omega)).mono ?_); rintro e w1 ⟨rfl, f1⟩)
      rw [z0.out]
      have y1 := f1.size
      have B1 : Below W1.heap.size W1 w1 := below_then B0 f1 (by omega)
      clear B0
      have C0 := (B1.cell (p := ⟨w.heap.size, 0, none⟩) (by simp; omega)).trans hC0
      go_wp2_with fail
      ((with_reducible refine (toM_any a0 n0 c0 xss0 _ (hR.below B1 (by omega)) (by omega) (by omega)).mono ?_); rintro e w2 ⟨T2, rfl, t2, f2⟩)
      have y2 := f2.size
      have B2 : Below W1.heap.size W1 w2 := below_then B1 f2 (by omega)
      clear B1
      clear C0
      go_wp2_with fail
      ((with_reducible refine (toI_any _ _ _ xs1 _ 0 w.heap.size (hI1.below B2 (by omega)) (by omega) (by omega)).mono ?_); rintro e w3 ⟨T3, rfl, t3, f3⟩)
      have y3 := f3.size
      have B3 : Below W1.heap.size W1 w3 := below_then B2 f3 (by omega)
      have t2 := t2.below f3 (by omega)
      clear B2
      go_wp2_with fail
      ((with_reducible refine (s_RenumberFlags_any _ T2 n0 n0 xss0 t2.rs (by omega) (Nat.le_refl _) _ _ _ xs1 t3.ri (by omega)).mono ?_); rintro e w4 ⟨p0A, p0n, p0c, p0, p1, rfl, Hp, op0, lp0, f4⟩)
      have y4 := f4.size
      have B4 : Below W1.heap.size W1 w4 := below_then B3 f4 (by omega)
      have t2 := t2.below f4 (by omega)
      have t3 := t3.below f4 (by omega)
      clear B3
      have f5 : Below w4.heap.size w4 (w4.alloc (.cells #[.slice p0A p0n p0c] 46)) := (Below.refl _ _).alloc (Nat.le_refl _) _
      have Z5 : (w4.alloc (.cells #[.slice p0A p0n p0c] 46)).heap.size = w4.heap.size + 1 := by simp
      have D5_0 : (w4.alloc (.cells #[.slice p0A p0n p0c] 46)).cell? ⟨w4.heap.size, 0, none⟩ = some (.slice p0A p0n p0c) := by simp
      have t2 := t2.below f5 (by omega)
      have t3 := t3.below f5 (by omega)
      have op0 := op0.below f5 (by omega)
      have X0 := (f5.cell (p := ⟨w.heap.size, 0, none⟩) (by simp; omega)).trans ((B4.cell (p := ⟨w.heap.size, 0, none⟩) (by simp; omega)).trans hC0)
      go_wp2_with fail
      obtain ⟨w5, hq5⟩ : ∃ w5 : World, (w4.alloc (.cells #[.slice p0A p0n p0c] 46)) = w5 := ⟨_, rfl⟩
      rw [hq5] at f5 Z5 D5_0 t2 t3 op0 X0 ⊢
      clear hq5
      have y5 := f5.size
      have B5 : Below W1.heap.size W1 w5 := below_then B4 f5 (by omega)
      clear B4 X0
      clear t2
      clear t3
      have C0 := (B5.cell (p := ⟨w.heap.size, 0, none⟩) (by simp; omega)).trans hC0
      go_wp2_with fail
      ((with_reducible refine (toM_any a0 n0 c0 xss0 _ (hR.below B5 (by omega)) (by omega) (by omega)).mono ?_); rintro e w6 ⟨T6, rfl, t6, f6⟩)
      have y6 := f6.size
      have B6 : Below W1.heap.size W1 w6 := below_then B5 f6 (by omega)
      have op0 := op0.below f6 (by omega)
      have D5_0 := (f6.cell (p := ⟨w4.heap.size, 0, none⟩) (by simp; omega)).trans D5_0
      clear B5
      clear C0
      have f7 : Below w6.heap.size w6 (w6.alloc (.cells #[.slice T6 n0 n0] 46)) := (Below.refl _ _).alloc (Nat.le_refl _) _
      have Z7 : (w6.alloc (.cells #[.slice T6 n0 n0] 46)).heap.size = w6.heap.size + 1 := by simp
      have D7_0 : (w6.alloc (.cells #[.slice T6 n0 n0] 46)).cell? ⟨w6.heap.size, 0, none⟩ = some (.slice T6 n0 n0) := by simp
      have op0 := op0.below f7 (by omega)
      have D5_0 := (f7.cell (p := ⟨w4.heap.size, 0, none⟩) (by simp; omega)).trans D5_0
      have t6 := t6.below f7 (by omega)
      have X0 := (f7.cell (p := ⟨w.heap.size, 0, none⟩) (by simp; omega)).trans ((B6.cell (p := ⟨w.heap.size, 0, none⟩) (by simp; omega)).trans hC0)
      go_wp2_with fail
      obtain ⟨w7, hq7⟩ : ∃ w7 : World, (w6.alloc (.cells #[.slice T6 n0 n0] 46)) = w7 := ⟨_, rfl⟩
      rw [hq7] at f7 Z7 D7_0 op0 D5_0 t6 X0 ⊢
      clear hq7
      have y7 := f7.size
      have B7 : Below W1.heap.size W1 w7 := below_then B6 f7 (by omega)
      clear B6 X0
      go_wp2_with fail
      ((with_reducible refine (toI_any _ _ _ xs1 _ 0 w.heap.size (hI1.below B7 (by omega)) (by omega) (by omega)).mono ?_); rintro e w8 ⟨T8, rfl, t8, f8⟩)
      have y8 := f8.size
      have B8 : Below W1.heap.size W1 w8 := below_then B7 f8 (by omega)
      have op0 := op0.below f8 (by omega)
      have D5_0 := (f8.cell (p := ⟨w4.heap.size, 0, none⟩) (by simp; omega)).trans D5_0
      have t6 := t6.below f8 (by omega)
      have D7_0 := (f8.cell (p := ⟨w6.heap.size, 0, none⟩) (by simp; omega)).trans D7_0
      clear B7
      go_wp2_with fail
      ((with_reducible refine (i_RenumberFlags_any _ T6 n0 n0 xss0 t6.rs (by omega) (Nat.le_refl _) _ _ _ xs1 t8.ri (by omega)).mono ?_); rintro e w9 ⟨q0A, q0n, q0c, q0, q1, rfl, Hq, oq0, lq0, f9⟩)
      have y9 := f9.size
      have B9 : Below W1.heap.size W1 w9 := below_then B8 f9 (by omega)
      have op0 := op0.below f9 (by omega)
      have D5_0 := (f9.cell (p := ⟨w4.heap.size, 0, none⟩) (by simp; omega)).trans D5_0
      have t6 := t6.below f9 (by omega)
      have D7_0 := (f9.cell (p := ⟨w6.heap.size, 0, none⟩) (by simp; omega)).trans D7_0
      have t8 := t8.below f9 (by omega)
      clear B8
      have f10 : Below w9.heap.size w9 (w9.alloc (.cells #[.slice q0A q0n q0c] 46)) := (Below.refl _ _).alloc (Nat.le_refl _) _
      have Z10 : (w9.alloc (.cells #[.slice q0A q0n q0c] 46)).heap.size = w9.heap.size + 1 := by simp
      have D10_0 : (w9.alloc (.cells #[.slice q0A q0n q0c] 46)).cell? ⟨w9.heap.size, 0, none⟩ = some (.slice q0A q0n q0c) := by simp
      have op0 := op0.below f10 (by omega)
      have D5_0 := (f10.cell (p := ⟨w4.heap.size, 0, none⟩) (by simp; omega)).trans D5_0
      have t6 := t6.below f10 (by omega)
      have D7_0 := (f10.cell (p := ⟨w6.heap.size, 0, none⟩) (by simp; omega)).trans D7_0
      have t8 := t8.below f10 (by omega)
      have oq0 := oq0.below f10 (by omega)
      have X0 := (f10.cell (p := ⟨w.heap.size, 0, none⟩) (by simp; omega)).trans ((B9.cell (p := ⟨w.heap.size, 0, none⟩) (by simp; omega)).trans hC0)
      go_wp2_with fail
      obtain ⟨w10, hq10⟩ : ∃ w10 : World, (w9.alloc (.cells #[.slice q0A q0n q0c] 46)) = w10 := ⟨_, rfl⟩
      rw [hq10] at f10 Z10 D10_0 op0 D5_0 t6 D7_0 t8 oq0 X0 ⊢
      clear hq10
      have y10 := f10.size
      have B10 : Below W1.heap.size W1 w10 := below_then B9 f10 (by omega)
      clear B9 X0
      obtain ⟨rfl, rfl⟩ : p0 = q0 ∧ p1 = q1 := by have e := Hp.out.trans Hq.out.symm; simpa [and_assoc] using e
      clear Hq
      go_wp2_with fail
      ((with_reducible refine (eqM_any _ _ _ _ _ _ _ _ _ oq0.rs op0.rs (by omega) (by omega)).mono ?_); rintro e w11 ⟨rfl, f11⟩)
      have y11 := f11.size
      have B11 : Below W1.heap.size W1 w11 := below_then B10 f11 (by omega)
      have op0 := op0.below f11 (by omega)
      have D5_0 := (f11.cell (p := ⟨w4.heap.size, 0, none⟩) (by simp; omega)).trans D5_0
      have t6 := t6.below f11 (by omega)
      have D7_0 := (f11.cell (p := ⟨w6.heap.size, 0, none⟩) (by simp; omega)).trans D7_0
      have t8 := t8.below f11 (by omega)
      have oq0 := oq0.below f11 (by omega)
      have D10_0 := (f11.cell (p := ⟨w9.heap.size, 0, none⟩) (by simp; omega)).trans D10_0
      clear B10
      have C0 := (B11.cell (p := ⟨w.heap.size, 0, none⟩) (by simp; omega)).trans hC0
      have Bd := below_drew B11
      have hT := toM_any a0 n0 c0 xss0 w11.drew (rs_drew (hR.below B11 (by omega))) (show _ ≤ w11.heap.size by omega) (by omega)
      have rd := rs_drew t6.rs
      go_wp2_with fail
      go_region_with (first
        | (go_at_call 33; refine hT.mono ?_; rintro e w12 ⟨T12, rfl, t12, f12⟩; have GD7_0 := (f12.cell (p := ⟨w6.heap.size, 0, none⟩) (by simp; omega)).trans D7_0; have y12 : w11.heap.size ≤ w12.heap.size := f12.size; have qe := eqM_any T6 n0 n0 xss0 T12 n0 n0 xss0 w12 (rd.below f12 (show _ ≤ w11.heap.size by omega)) t12.rs (by omega) (Nat.le_refl _))
        | (go_at_call 35; refine qe.mono ?_; rintro e w13 ⟨rfl, f13⟩))
      all_goals
        clear qe hT rd GD7_0
        have f12 : Below w11.heap.size w11 w12 := ⟨f12.os, f12.tape, f12.output, f12.size, f12.block⟩
        clear y12 Bd
        have y12 := f12.size
        have B12 : Below W1.heap.size W1 w12 := below_then B11 f12 (by omega)
        have op0 := op0.below f12 (by omega)
        have D5_0 := (f12.cell (p := ⟨w4.heap.size, 0, none⟩) (by simp; omega)).trans D5_0
        have t6 := t6.below f12 (by omega)
        have D7_0 := (f12.cell (p := ⟨w6.heap.size, 0, none⟩) (by simp; omega)).trans D7_0
        have t8 := t8.below f12 (by omega)
        have oq0 := oq0.below f12 (by omega)
        have D10_0 := (f12.cell (p := ⟨w9.heap.size, 0, none⟩) (by simp; omega)).trans D10_0
        clear B11
        have y13 := f13.size
        have B13 : Below W1.heap.size W1 w13 := below_then B12 f13 (by omega)
        have op0 := op0.below f13 (by omega)
        have D5_0 := (f13.cell (p := ⟨w4.heap.size, 0, none⟩) (by simp; omega)).trans D5_0
        have t6 := t6.below f13 (by omega)
        have D7_0 := (f13.cell (p := ⟨w6.heap.size, 0, none⟩) (by simp; omega)).trans D7_0
        have t8 := t8.below f13 (by omega)
        have oq0 := oq0.below f13 (by omega)
        have D10_0 := (f13.cell (p := ⟨w9.heap.size, 0, none⟩) (by simp; omega)).trans D10_0
        clear B12
        clear C0
        go_wp2_with fail
        ((with_reducible refine (toI_any _ _ _ xs1 _ 0 w.heap.size (hI1.below B13 (by omega)) (by omega) (by omega)).mono ?_); rintro e w14 ⟨T14, rfl, t14, f14⟩)
        have y14 := f14.size
        have B14 : Below W1.heap.size W1 w14 := below_then B13 f14 (by omega)
        have op0 := op0.below f14 (by omega)
        have D5_0 := (f14.cell (p := ⟨w4.heap.size, 0, none⟩) (by simp; omega)).trans D5_0
        have t6 := t6.below f14 (by omega)
        have D7_0 := (f14.cell (p := ⟨w6.heap.size, 0, none⟩) (by simp; omega)).trans D7_0
        have t8 := t8.below f14 (by omega)
        have oq0 := oq0.below f14 (by omega)
        have D10_0 := (f14.cell (p := ⟨w9.heap.size, 0, none⟩) (by simp; omega)).trans D10_0
        clear B13
        go_wp2_with fail
        ((with_reducible refine (eqI_any _ _ _ _ _ _ _ _ _ _ _ _ _ t8.ri t14.ri (by omega) (by omega)).mono ?_); rintro e w15 ⟨rfl, f15⟩)
        have y15 := f15.size
        have B15 : Below W1.heap.size W1 w15 := below_then B14 f15 (by omega)
        have op0 := op0.below f15 (by omega)
        have D5_0 := (f15.cell (p := ⟨w4.heap.size, 0, none⟩) (by simp; omega)).trans D5_0
        have t6 := t6.below f15 (by omega)
        have D7_0 := (f15.cell (p := ⟨w6.heap.size, 0, none⟩) (by simp; omega)).trans D7_0
        have t8 := t8.below f15 (by omega)
        have oq0 := oq0.below f15 (by omega)
        have D10_0 := (f15.cell (p := ⟨w9.heap.size, 0, none⟩) (by simp; omega)).trans D10_0
        have t14 := t14.below f15 (by omega)
        clear B14
        clear t14
        go_wp2_with fail
        ((with_reducible refine (markM_any _ _ _ _ _ _ _ _ t6 (by omega) (by omega) (by omega)).mono ?_); rintro e w16 ⟨rfl, t6, f16⟩)
        have y16 := f16.size
        have B16 : Below W1.heap.size W1 w16 := B15.trans (f16.below (by omega) (by omega))
        have op0 := op0.keep (Same.of_chg f16 (by omega) (by omega))
        have D5_0 := (World.cell?_of_block (w := w15) (a := ⟨w4.heap.size, 0, none⟩) (f16.block _ (by first | omega | (simp; done) | (simp; omega)) (by first | omega | (simp; done) | (simp; omega)))).trans D5_0
        have D7_0 := (World.cell?_of_block (w := w15) (a := ⟨w6.heap.size, 0, none⟩) (f16.block _ (by first | omega | (simp; done) | (simp; omega)) (by first | omega | (simp; done) | (simp; omega)))).trans D7_0
        have t8 := t8.keep (Same.of_chg f16 (by omega) (by omega))
        have oq0 := oq0.keep (Same.of_chg f16 (by omega) (by omega))
        have D10_0 := (World.cell?_of_block (w := w15) (a := ⟨w9.heap.size, 0, none⟩) (f16.block _ (by first | omega | (simp; done) | (simp; omega)) (by first | omega | (simp; done) | (simp; omega)))).trans D10_0
        clear B15
        go_wp2_with fail
        ((with_reducible refine (markI_any _ _ _ _ _ _ _ _ t8 (by omega) (by omega) (by omega)).mono ?_); rintro e w17 ⟨rfl, t8, f17⟩)
        have y17 := f17.size
        have B17 : Below W1.heap.size W1 w17 := B16.trans (f17.below (by omega) (by omega))
        have op0 := op0.keep (Same.of_chg f17 (by omega) (by omega))
        have D5_0 := (World.cell?_of_block (w := w16) (a := ⟨w4.heap.size, 0, none⟩) (f17.block _ (by first | omega | (simp; done) | (simp; omega)) (by first | omega | (simp; done) | (simp; omega)))).trans D5_0
        have t6 := t6.keep (Same.of_chg f17 (by omega) (by omega))
        have D7_0 := (World.cell?_of_block (w := w16) (a := ⟨w6.heap.size, 0, none⟩) (f17.block _ (by first | omega | (simp; done) | (simp; omega)) (by first | omega | (simp; done) | (simp; omega)))).trans D7_0
        have oq0 := oq0.keep (Same.of_chg f17 (by omega) (by omega))
        have D10_0 := (World.cell?_of_block (w := w16) (a := ⟨w9.heap.size, 0, none⟩) (f17.block _ (by first | omega | (simp; done) | (simp; omega)) (by first | omega | (simp; done) | (simp; omega)))).trans D10_0
        clear B16
        go_wp2_with fail
        ((with_reducible refine (eqM_any _ _ _ _ _ _ _ _ _ oq0.rs op0.rs (by omega) (by omega)).mono ?_); rintro e w18 ⟨rfl, f18⟩)
        have y18 := f18.size
        have B18 : Below W1.heap.size W1 w18 := below_then B17 f18 (by omega)
        have op0 := op0.below f18 (by omega)
        have D5_0 := (f18.cell (p := ⟨w4.heap.size, 0, none⟩) (by simp; omega)).trans D5_0
        have t6 := t6.below f18 (by omega)
        have D7_0 := (f18.cell (p := ⟨w6.heap.size, 0, none⟩) (by simp; omega)).trans D7_0
        have t8 := t8.below f18 (by omega)
        have oq0 := oq0.below f18 (by omega)
        have D10_0 := (f18.cell (p := ⟨w9.heap.size, 0, none⟩) (by simp; omega)).trans D10_0
        clear B17
        go_wp2_with fail
        ((with_reducible refine (markM_any _ _ _ _ _ _ _ _ oq0 (by omega) (by omega) (by omega)).mono ?_); rintro e w19 ⟨rfl, oq0, f19⟩)
        have y19 := f19.size
        have B19 : Below W1.heap.size W1 w19 := B18.trans (f19.below (by omega) (by omega))
        have op0 := op0.keep (Same.of_chg f19 (by omega) (by omega))
        have D5_0 := (World.cell?_of_block (w := w18) (a := ⟨w4.heap.size, 0, none⟩) (f19.block _ (by first | omega | (simp; done) | (simp; omega)) (by first | omega | (simp; done) | (simp; omega)))).trans D5_0
        have t6 := t6.keep (Same.of_chg f19 (by omega) (by omega))
        have D7_0 := (World.cell?_of_block (w := w18) (a := ⟨w6.heap.size, 0, none⟩) (f19.block _ (by first | omega | (simp; done) | (simp; omega)) (by first | omega | (simp; done) | (simp; omega)))).trans D7_0
        have t8 := t8.keep (Same.of_chg f19 (by omega) (by omega))
        have D10_0 := (World.cell?_of_block (w := w18) (a := ⟨w9.heap.size, 0, none⟩) (f19.block _ (by first | omega | (simp; done) | (simp; omega)) (by first | omega | (simp; done) | (simp; omega)))).trans D10_0
        clear B18
        go_wp2_with fail
        ((with_reducible refine (heldM_any _ _ _ _ _ _ _ _ oq0.rs (by omega) (by omega) (by omega)).mono ?_); rintro e w20 ⟨rfl, f20⟩)
        have y20 := f20.size
        have B20 : Below W1.heap.size W1 w20 := below_then B19 f20 (by omega)
        have op0 := op0.below f20 (by omega)
        have D5_0 := (f20.cell (p := ⟨w4.heap.size, 0, none⟩) (by simp; omega)).trans D5_0
        have t6 := t6.below f20 (by omega)
        have D7_0 := (f20.cell (p := ⟨w6.heap.size, 0, none⟩) (by simp; omega)).trans D7_0
        have t8 := t8.below f20 (by omega)
        have oq0 := oq0.below f20 (by omega)
        have D10_0 := (f20.cell (p := ⟨w9.heap.size, 0, none⟩) (by simp; omega)).trans D10_0
        clear B19
        clear t6 D7_0
        clear t8
        have C0 := (B20.cell (p := ⟨w.heap.size, 0, none⟩) (by simp; omega)).trans hC0
        go_wp2_with fail
        ((with_reducible refine (toM_any a0 n0 c0 xss0 _ (hR.below B20 (by omega)) (by omega) (by omega)).mono ?_); rintro e w21 ⟨T21, rfl, t21, f21⟩)
        have y21 := f21.size
        have B21 : Below W1.heap.size W1 w21 := below_then B20 f21 (by omega)
        have op0 := op0.below f21 (by omega)
        have D5_0 := (f21.cell (p := ⟨w4.heap.size, 0, none⟩) (by simp; omega)).trans D5_0
        have oq0 := oq0.below f21 (by omega)
        have D10_0 := (f21.cell (p := ⟨w9.heap.size, 0, none⟩) (by simp; omega)).trans D10_0
        clear B20
        clear C0
        go_wp2_with fail
        ((with_reducible refine (toI_any _ _ _ xs1 _ 0 w.heap.size (hI1.below B21 (by omega)) (by omega) (by omega)).mono ?_); rintro e w22 ⟨T22, rfl, t22, f22⟩)
        have y22 := f22.size
        have B22 : Below W1.heap.size W1 w22 := below_then B21 f22 (by omega)
        have op0 := op0.below f22 (by omega)
        have D5_0 := (f22.cell (p := ⟨w4.heap.size, 0, none⟩) (by simp; omega)).trans D5_0
        have oq0 := oq0.below f22 (by omega)
        have D10_0 := (f22.cell (p := ⟨w9.heap.size, 0, none⟩) (by simp; omega)).trans D10_0
        have t21 := t21.below f22 (by omega)
        clear B21
        go_wp2_with fail
        ((with_reducible refine (i_RenumberFlags_any _ T21 n0 n0 xss0 t21.rs (by omega) (Nat.le_refl _) _ _ _ xs1 t22.ri (by omega)).mono ?_); rintro e w23 ⟨h0A, h0n, h0c, h0, h1, rfl, Hh, oh0, lh0, f23⟩)
        have y23 := f23.size
        have B23 : Below W1.heap.size W1 w23 := below_then B22 f23 (by omega)
        have op0 := op0.below f23 (by omega)
        have D5_0 := (f23.cell (p := ⟨w4.heap.size, 0, none⟩) (by simp; omega)).trans D5_0
        have oq0 := oq0.below f23 (by omega)
        have D10_0 := (f23.cell (p := ⟨w9.heap.size, 0, none⟩) (by simp; omega)).trans D10_0
        have t21 := t21.below f23 (by omega)
        have t22 := t22.below f23 (by omega)
        clear B22
        have f24 : Below w23.heap.size w23 (w23.alloc (.cells #[.slice h0A h0n h0c] 46)) := (Below.refl _ _).alloc (Nat.le_refl _) _
        have Z24 : (w23.alloc (.cells #[.slice h0A h0n h0c] 46)).heap.size = w23.heap.size + 1 := by simp
        have D24_0 : (w23.alloc (.cells #[.slice h0A h0n h0c] 46)).cell? ⟨w23.heap.size, 0, none⟩ = some (.slice h0A h0n h0c) := by simp
        have op0 := op0.below f24 (by omega)
        have D5_0 := (f24.cell (p := ⟨w4.heap.size, 0, none⟩) (by simp; omega)).trans D5_0
        have oq0 := oq0.below f24 (by omega)
        have D10_0 := (f24.cell (p := ⟨w9.heap.size, 0, none⟩) (by simp; omega)).trans D10_0
        have t21 := t21.below f24 (by omega)
        have t22 := t22.below f24 (by omega)
        have oh0 := oh0.below f24 (by omega)
        have X0 := (f24.cell (p := ⟨w.heap.size, 0, none⟩) (by simp; omega)).trans ((B23.cell (p := ⟨w.heap.size, 0, none⟩) (by simp; omega)).trans hC0)
        go_wp2_with fail
        obtain ⟨w24, hq24⟩ : ∃ w24 : World, (w23.alloc (.cells #[.slice h0A h0n h0c] 46)) = w24 := ⟨_, rfl⟩
        rw [hq24] at f24 Z24 D24_0 op0 D5_0 oq0 D10_0 t21 t22 oh0 X0 ⊢
        clear hq24
        have y24 := f24.size
        have B24 : Below W1.heap.size W1 w24 := below_then B23 f24 (by omega)
        clear B23 X0
        obtain ⟨rfl, rfl⟩ : p0 = h0 ∧ p1 = h1 := by have e := Hp.out.trans Hh.out.symm; simpa [and_assoc] using e
        clear Hh
        clear t21
        clear t22
        go_wp2_with fail
        ((with_reducible refine (eqM_any _ _ _ _ _ _ _ _ _ oh0.rs op0.rs (by omega) (by omega)).mono ?_); rintro e w25 ⟨rfl, f25⟩)
        have y25 := f25.size
        have B25 : Below W1.heap.size W1 w25 := below_then B24 f25 (by omega)
        have op0 := op0.below f25 (by omega)
        have D5_0 := (f25.cell (p := ⟨w4.heap.size, 0, none⟩) (by simp; omega)).trans D5_0
        have oq0 := oq0.below f25 (by omega)
        have D10_0 := (f25.cell (p := ⟨w9.heap.size, 0, none⟩) (by simp; omega)).trans D10_0
        have oh0 := oh0.below f25 (by omega)
        have D24_0 := (f25.cell (p := ⟨w23.heap.size, 0, none⟩) (by simp; omega)).trans D24_0
        clear B24
        go_wp2_with fail
        ((with_reducible refine (heldM_any _ _ _ _ _ _ _ _ oq0.rs (by omega) (by omega) (by omega)).mono ?_); rintro e w26 ⟨rfl, f26⟩)
        have y26 := f26.size
        have B26 : Below W1.heap.size W1 w26 := below_then B25 f26 (by omega)
        have op0 := op0.below f26 (by omega)
        have D5_0 := (f26.cell (p := ⟨w4.heap.size, 0, none⟩) (by simp; omega)).trans D5_0
        have oq0 := oq0.below f26 (by omega)
        have D10_0 := (f26.cell (p := ⟨w9.heap.size, 0, none⟩) (by simp; omega)).trans D10_0
        have oh0 := oh0.below f26 (by omega)
        have D24_0 := (f26.cell (p := ⟨w23.heap.size, 0, none⟩) (by simp; omega)).trans D24_0
        clear B25
        go_wp2_with fail
        go_ret
        exact ⟨rfl, hB.trans (B26.mono (by omega))⟩
    · have z0 := leftOf_neg s0
      replace z0 := Lib.hid z0
      go_enter Try.func11, Try.ntmps11
      go_wp2_with fail
      ((with_reducible refine (szM0_any a0 n0 c0 xss0 _ hR (by simp)).mono ?_); rintro e w2 ⟨rfl, f2⟩)
      rw [z0.out]
      go_wp2_with fail
      go_ret
      exact ⟨rfl, hB.trans (f2.mono (by simp))⟩
  · have t1 : decide ((1048576 : Int) < (n1 : Int)) = true := by simp; omega
    go_enter Try.func11, Try.ntmps11
    go_wp2_with fail
    go_ret
    exact ⟨rfl, hB⟩
set_option maxRecDepth 100000 in
theorem lifted (os : Os) (started : os.Started) (H : Type) (enc : TypeId × Value → H) :
    ReturnsInHanded {} Try.checked os 11 .any (Rows.fnExactRenumberFlagsSpec.pre6 enc Try.prog Try.f11 Rows.fnExactRenumberFlagsRow.domain false) (Rows.fnExactRenumberFlagsSpec.post enc Try.prog Try.f11 false true false false) := by
  refine returnsInHanded_of_change (C := Try.checked) own started (by kernel_rfl) Try.func11
    (ChangeSpec.witness6 (enc := enc) (C := Try.checked) false ⟨#[], #[.agg #[.slice none 0 0], .slice none 0 0], []⟩ 8 (by kernel_rfl) (by kernel_rfl) (by kernel_rfl) (by kernel_rfl)) ?_
  intro W base args ds gs before hval0 hW hcnd _
  have hval : ∀ (j : Nat) t v, Try.f11.params[j]? = some t → args[j]? = some v → Value.okWide Try.prog W .any base t v := hval0
  have hW' := hW
  obtain ⟨p, q, hA0, hV, rfl, hfz, hnd⟩ := hW
  have hA : DataW.TrodAll enc Try.prog W 0 (fun _ => true) true Try.f11.params.toList args.toList ds p := hA0
  rw [Try.params11] at hA hval
  obtain ⟨v0, vs0, dd0, ds0, p0, q0, hargs, rfl, rfl, h0, rr0⟩ := trodAll_cons hA
  obtain ⟨v1, vs1, dd1, ds1, p1, q1, rfl, rfl, rfl, h1, rr1⟩ := trodAll_cons rr0
  obtain ⟨rfl, rfl, rfl⟩ := trodAll_nil rr1
  obtain rfl : args = #[v0, v1] := by cases args; simp_all
  obtain ⟨rfl, rfl⟩ := trodVars_none hV
  have kk0 := h0
  have lt0 : ∀ x ∈ p0, x.block < W.heap.size := by obtain ⟨m, hm⟩ := kk0; exact DataW.trod_lt m _ _ _ hm
  obtain ⟨a0, n0, c0, xss0, rfl, w0, b0⟩ := open_RM Try.underlying42 (by kernel_rfl) (by kernel_rfl) rfl Try.underlying23 Try.underlying22 Try.underlying2 (by kernel_rfl) (by kernel_rfl) (hval 0 42 v0 rfl rfl) h0
  have kk1 := h1
  have lt1 : ∀ x ∈ p1, x.block < W.heap.size := by obtain ⟨m, hm⟩ := kk1; exact DataW.trod_lt m _ _ _ hm
  obtain ⟨a1, n1, c1, rfl⟩ := okWide_slice Try.underlying22 (hval 1 22 v1 rfl rfl)
  obtain ⟨xs1, w1, b1⟩ := open_RI Try.underlying22 Try.underlying2 (by kernel_rfl) h1
  clear hA0 hval0
  refine (walk a0 n0 c0 xss0 a1 n1 c1 xs1 W w0 b0 w1 b1).mono fun e W' ⟨he, bel⟩ => ?_
  subst he
  exact ⟨_, rfl, _, _, _, [], _, [], hW', trodAll_mk1 (shut_bool Try.underlying4 _), (trodAll_cons_mk (Below.trod laidOut (by kernel_rfl) (of_decide_eq_true (by kernel_rfl)) kk0 bel lt0) (trodAll_cons_mk (Below.trod laidOut (by kernel_rfl) (of_decide_eq_true (by kernel_rfl)) kk1 bel lt1) trodAll_mk0)), rfl, bel.frame _, fun h => by cases h⟩
theorem over : Rows.fnExactRenumberFlagsRow.holds Try.pinned (OpenSpec.ofChange Rows.fnExactRenumberFlagsSpec) :=
  OpenClaim.holds_of_wide 11 Try.f11 rfl rfl rfl rfl rfl rfl rfl ⟨rfl, rfl, rfl, rfl, rfl⟩ rfl rfl rfl rfl rfl (by kernel_rfl) Try.func11 (by kernel_rfl)
    (of_decide_eq_true (by kernel_rfl)) (by unfold Func.isWrapper; first | (rw [if_pos (by decide +kernel)]; kernel_rfl) | (rw [if_neg (by decide +kernel)]; exact ⟨rfl, rfl⟩))
    (fun os started H enc _ => lifted os started H enc)
/-- THE STATEMENT -/
theorem proved : Rows.FnExactRenumberFlagsSaid := over
end Go.Proofs.Ytonojnblcleggaa.fnExactRenumberFlags
