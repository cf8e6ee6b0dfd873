/- FnExactRunMoves: the program's RunMoves and the reference's return the same for all arguments, the arguments stay as they were, and the results are memory of their own. No condition. -/
import Derived.Test.YtnkmpcdipmajhaaRows
import Derived.Test.YtnkmpcdipmajhaaOpen
import Derived.Test.YtnkmpcdipmajhaaLawI
import Derived.Test.YtnkmpcdipmajhaaOpenS
import Derived.Test.YtnkmpcdipmajhaaLawS
import Derived.Test.YtnkmpcdipmajhaaManX
import Derived.Test.YtnkmpcdipmajhaaLawM
import Derived.Test.YtnkmpcdipmajhaaRun
namespace Go.Proofs.Ytnkmpcdipmajhaa.fnExactRunMoves
open Go.ChangeShapes Go.WideShapes Go.ChangeAt Go.RowKit
open Go.ChangeMaps (open_string shut_string)
set_option linter.unusedVariables false
theorem own : ownKnob Try.prog.godebug = none := by kernel_rfl
theorem laidOut : laidOutB Try.prog = true := by kernel_rfl
set_option maxRecDepth 100000 in
set_option maxHeartbeats 4000000 in
theorem walk (a0 : Option Addr) (n0 c0 : Nat) (xss0 : List (List Int)) (x1 : Int) (a2 : Option Addr) (n2 c2 : Nat) (xs2 : List Int) (w : World) (h0 : RS w 0 w.heap.size a0 n0 xss0) (b0 : ∀ xs ∈ xss0, ∀ x ∈ xs, I64 x) (b1 : I64 x1) (h2 : RI w 0 w.heap.size a2 n2 xs2) (b2 : ∀ x ∈ xs2, I64 x) :
    Calls Try.prog 13 #[.agg #[.slice a0 n0 c0], .int .i64 x1, .slice a2 n2 c2] w fun e w' => e = .returned (.bool true) ∧ Below w.heap.size w w' := by
  have m0 := h0.max
  have m2 := h2.max
  have q1 := b1; unfold I64 at q1
  have hR := rs_alloc h0 (Nat.le_refl _) (.cells #[.slice a0 n0 c0] 49)
  have hI : RI (w.alloc (.cells #[.slice a0 n0 c0] 49)) 0 w.heap.size a2 n2 xs2 := h2.keep (same_alloc w _ _ _ (Nat.le_refl _))
  have hC : (w.alloc (.cells #[.slice a0 n0 c0] 49)).cell? ⟨w.heap.size, 0, none⟩ = some (.slice a0 n0 c0) := al_new _ _ _ _ rfl
  have hB : Below w.heap.size w (w.alloc (.cells #[.slice a0 n0 c0] 49)) := (Below.refl _ _).alloc (Nat.le_refl _) _
  by_cases s2 : n2 ≤ 1048576
  · have t2 : decide ((1048576 : Int) < (n2 : Int)) = false := by simp; omega
    by_cases s0 : n0 + numsIn xss0 ≤ 1048576
    · have z0 := leftOf_pos s0
      replace z0 := Lib.hid z0
      go_enter Try.func13, Try.ntmps13
      go_wp2_with fail
      obtain ⟨W1, hW⟩ : ∃ W1 : World, w.alloc (.cells #[.slice a0 n0 c0] 49) = W1 := ⟨_, rfl⟩
      have hz1 : W1.heap.size = w.heap.size + 1 := by rw [← hW]; simp
      rw [hW] at hR hI hC hB ⊢
      clear hW
      ((with_reducible refine (szM0_any a0 n0 c0 xss0 _ hR (by omega)).mono ?_); rintro e w2 ⟨rfl, f2⟩)
      rw [z0.out]
      have y2 := f2.size
      have C2 := (f2.cell (p := ⟨w.heap.size, 0, none⟩) (by simp; omega)).trans hC
      go_wp2_with fail
      ((with_reducible refine (toM_any a0 n0 c0 xss0 _ (hR.below f2 (by omega)) (by omega) (by omega)).mono ?_); rintro e w3 ⟨T3, rfl, t3, f3⟩)
      have y3 := f3.size
      have B3 : Below W1.heap.size W1 w3 := below_then f2 f3 (by omega)
      go_wp2_with fail
      ((with_reducible refine (toI_any _ _ _ xs2 _ 0 w.heap.size (hI.below B3 (by omega)) (by omega) (by omega)).mono ?_); rintro e w4 ⟨T4, rfl, t4, f4⟩)
      have y4 := f4.size
      have B4 : Below W1.heap.size W1 w4 := below_then B3 f4 (by omega)
      have t3 := t3.below f4 (by omega)
      go_wp2_with fail
      ((with_reducible refine (s_RunMoves_any _ T3 n0 n0 xss0 t3.rs (by omega) (Nat.le_refl _) x1 q1 _ _ _ xs2 t4.ri (by omega)).mono ?_); rintro e w5 ⟨p0, p1, rfl, Hp, f5⟩)
      have y5 := f5.size
      have B5 : Below W1.heap.size W1 w5 := below_then B4 f5 (by omega)
      have C5 := (B5.cell (p := ⟨w.heap.size, 0, none⟩) (by simp; omega)).trans hC
      clear C2 t3 t4 B3 B4
      go_wp2_with fail
      ((with_reducible refine (toM_any a0 n0 c0 xss0 _ (hR.below B5 (by omega)) (by omega) (by omega)).mono ?_); rintro e w6 ⟨T6, rfl, t6, f6⟩)
      have y6 := f6.size
      have B6 : Below W1.heap.size W1 w6 := below_then B5 f6 (by omega)
      have r7 : RS (w6.alloc (.cells #[.slice T6 n0 n0] 52)) w5.heap.size w6.heap.size T6 n0 xss0 := t6.rs.keep (same_alloc _ _ _ _ (Nat.le_refl _))
      have b7 : Below w6.heap.size w6 (w6.alloc (.cells #[.slice T6 n0 n0] 52)) := (Below.refl _ _).alloc (Nat.le_refl _) _
      have z7 : (w6.alloc (.cells #[.slice T6 n0 n0] 52)).heap.size = w6.heap.size + 1 := by simp
      have c7 : (w6.alloc (.cells #[.slice T6 n0 n0] 52)).cell? ⟨w6.heap.size, 0, none⟩ = some (.slice T6 n0 n0) := al_new _ _ _ _ rfl
      clear C5 t6
      go_wp2_with fail
      obtain ⟨w7, h7⟩ : ∃ w7 : World, w6.alloc (.cells #[.slice T6 n0 n0] 52) = w7 := ⟨_, rfl⟩
      rw [h7] at r7 b7 z7 c7 ⊢
      clear h7
      have B7 : Below W1.heap.size W1 w7 := below_then B6 b7 (by omega)
      ((with_reducible refine (toI_any _ _ _ xs2 _ 0 w.heap.size (hI.below B7 (by omega)) (by omega) (by omega)).mono ?_); rintro e w8 ⟨T8, rfl, t8, f8⟩)
      have y8 := f8.size
      have B8 : Below W1.heap.size W1 w8 := below_then B7 f8 (by omega)
      have r8 := r7.below f8 (by omega)
      have c8 := (f8.cell (p := ⟨w6.heap.size, 0, none⟩) (by simp; omega)).trans c7
      go_wp2_with fail
      ((with_reducible refine (i_RunMoves_any _ T6 n0 n0 xss0 r8 (by omega) (Nat.le_refl _) x1 q1 _ _ _ xs2 t8.ri (by omega)).mono ?_); rintro e w9 ⟨q0', q1', rfl, Hq, f9⟩)
      have y9 := f9.size
      have B9 : Below W1.heap.size W1 w9 := below_then B8 f9 (by omega)
      have t8 := t8.below f9 (by omega)
      obtain ⟨rfl, rfl⟩ : p0 = q0' ∧ p1 = q1' := by have e := Hp.out.trans Hq.out.symm; simpa using e
      clear Hq
      have C9 := (B9.cell (p := ⟨w.heap.size, 0, none⟩) (by simp; omega)).trans hC
      have D9 := (f9.cell (p := ⟨w6.heap.size, 0, none⟩) (by simp; omega)).trans c8
      have r9 := rs_drew (r8.below f9 (by omega))
      have B9' := below_drew B9
      have hT := toM_any a0 n0 c0 xss0 w9.drew (rs_drew (hR.below B9 (by omega))) (show _ ≤ w9.heap.size by omega) (by omega)
      have t9 : RI w9.drew w7.heap.size w8.heap.size T8 n2 xs2 := t8.ri.keep (fun _ _ _ => rfl)
      clear B5 B6 B7 B8 r7 r8 c7 c8
      go_wp2_with fail
      go_region_with (first
        | (go_at_call 38; refine hT.mono ?_; rintro e wa ⟨Ta, rfl, ta, fa⟩; have Da := (fa.cell (p := ⟨w6.heap.size, 0, none⟩) (by simp; omega)).trans D9; have ya : w9.heap.size ≤ wa.heap.size := fa.size; have qa := eqM_any T6 n0 n0 xss0 Ta n0 n0 xss0 wa (r9.below fa (show _ ≤ w9.heap.size by omega)) ta.rs (by omega) (Nat.le_refl _))
        | (go_at_call 40; refine qa.mono ?_; rintro e wb ⟨rfl, fb⟩))
      all_goals
        have yb := fb.size
        have Bb : Below W1.heap.size W1 wb := (B9'.trans (fa.mono (show W1.heap.size ≤ w9.heap.size by omega))).trans (fb.mono (by omega))
        have tb := (t9.below fa (show _ ≤ w9.heap.size by omega)).below fb (by omega)
        go_wp2_with fail
        ((with_reducible refine (toI_any _ _ _ xs2 _ 0 w.heap.size (hI.below Bb (by omega)) (by omega) (by omega)).mono ?_); rintro e wc ⟨Tc, rfl, tc, fc⟩)
        have yc := fc.size
        go_wp2_with fail
        ((with_reducible refine (eqI_any _ _ _ _ _ _ _ _ _ _ _ _ _ (tb.below fc (by omega)) tc.ri (by omega) (by omega)).mono ?_); rintro e wd ⟨rfl, fd⟩)
        go_wp2_with fail
        go_ret
        exact ⟨rfl, hB.trans (((Bb.trans (fc.mono (by omega))).trans (fd.mono (by omega))).mono (by omega))⟩
    · have z0 := leftOf_neg s0
      replace z0 := Lib.hid z0
      go_enter Try.func13, Try.ntmps13
      go_wp2_with fail
      ((with_reducible refine (szM0_any a0 n0 c0 xss0 _ hR (by simp)).mono ?_); rintro e w2 ⟨rfl, f2⟩)
      rw [z0.out]
      go_wp2_with fail
      go_ret
      exact ⟨rfl, hB.trans (f2.mono (by simp))⟩
  · have t2 : decide ((1048576 : Int) < (n2 : Int)) = true := by simp; omega
    go_enter Try.func13, Try.ntmps13
    go_wp2_with fail
    go_ret
    exact ⟨rfl, hB⟩
set_option maxRecDepth 100000 in
theorem lifted (os : Os) (started : os.Started) (H : Type) (enc : TypeId × Value → H) :
    ReturnsInHanded {} Try.checked os 13 .any (Rows.fnExactRunMovesSpec.pre6 enc Try.prog Try.f13 Rows.fnExactRunMovesRow.domain false) (Rows.fnExactRunMovesSpec.post enc Try.prog Try.f13 false true false false) := by
  refine returnsInHanded_of_change (C := Try.checked) own started (by kernel_rfl) Try.func13
    (ChangeSpec.witness6 (enc := enc) (C := Try.checked) false ⟨#[], #[.agg #[.slice none 0 0], .int .i64 0, .slice none 0 0], []⟩ 8 (by kernel_rfl) (by kernel_rfl) (by kernel_rfl) (by kernel_rfl)) ?_
  intro W base args ds gs before hval0 hW hcnd _
  have hval : ∀ (j : Nat) t v, Try.f13.params[j]? = some t → args[j]? = some v → Value.okWide Try.prog W .any base t v := hval0
  have hW' := hW
  obtain ⟨p, q, hA0, hV, rfl, hfz, hnd⟩ := hW
  have hA : DataW.TrodAll enc Try.prog W 0 (fun _ => true) true Try.f13.params.toList args.toList ds p := hA0
  rw [Try.params13] at hA hval
  obtain ⟨v0, vs0, d0, ds0, p0, q0, hargs, rfl, rfl, h0, r0⟩ := trodAll_cons hA
  obtain ⟨v1, vs1, d1, ds1, p1, q1, rfl, rfl, rfl, h1, r1⟩ := trodAll_cons r0
  obtain ⟨v2, vs2, d2, ds2, p2, q2, rfl, rfl, rfl, h2, r2⟩ := trodAll_cons r1
  obtain ⟨rfl, rfl, rfl⟩ := trodAll_nil r2
  obtain rfl : args = #[v0, v1, v2] := by cases args; simp_all
  obtain ⟨rfl, rfl⟩ := trodVars_none hV
  have k0 := h0
  have lt0 : ∀ x ∈ p0, x.block < W.heap.size := by obtain ⟨m, hm⟩ := k0; exact DataW.trod_lt m _ _ _ hm
  obtain ⟨a0, n0, c0, xss0, rfl, w0, b0⟩ := open_RM Try.underlying49 (by kernel_rfl) (by kernel_rfl) rfl Try.underlying28 Try.underlying22 Try.underlying2 (by kernel_rfl) (by kernel_rfl) (hval 0 49 v0 rfl rfl) h0
  obtain ⟨x1, rfl, rfl, rfl, w1⟩ := open_int Try.underlying2 (hval 1 2 v1 rfl rfl) h1
  obtain ⟨a2, n2, c2, rfl⟩ := okWide_slice Try.underlying22 (hval 2 22 v2 rfl rfl)
  have k2 := h2
  have lt2 : ∀ x ∈ p2, x.block < W.heap.size := by obtain ⟨m, hm⟩ := k2; exact DataW.trod_lt m _ _ _ hm
  obtain ⟨xs2, w2, b2⟩ := open_RI Try.underlying22 Try.underlying2 (by kernel_rfl) h2
  clear hA0 hval0
  refine (walk a0 n0 c0 xss0 x1 a2 n2 c2 xs2 W w0 b0 (bounds_i64 w1) w2 b2).mono fun e W' ⟨he, bel⟩ => ?_
  subst he
  exact ⟨_, rfl, _, _, _, [], _, [], hW', trodAll_mk1 (shut_bool Try.underlying4 _), (trodAll_cons_mk (Below.trod laidOut (by kernel_rfl) (of_decide_eq_true (by kernel_rfl)) k0 bel lt0) (trodAll_cons_mk (shut_int Try.underlying2 w1) (trodAll_cons_mk (Below.trod laidOut (by kernel_rfl) (of_decide_eq_true (by kernel_rfl)) k2 bel lt2) trodAll_mk0))), rfl, bel.frame _, fun h => by cases h⟩
theorem over : Rows.fnExactRunMovesRow.holds Try.pinned (OpenSpec.ofChange Rows.fnExactRunMovesSpec) :=
  OpenClaim.holds_of_wide 13 Try.f13 rfl rfl rfl rfl rfl rfl rfl ⟨rfl, rfl, rfl, rfl, rfl⟩ rfl rfl rfl rfl rfl (by kernel_rfl) Try.func13 (by kernel_rfl)
    (of_decide_eq_true (by kernel_rfl)) (by unfold Func.isWrapper; first | (rw [if_pos (by decide +kernel)]; kernel_rfl) | (rw [if_neg (by decide +kernel)]; exact ⟨rfl, rfl⟩))
    (fun os started H enc _ => lifted os started H enc)
/-- THE STATEMENT -/
theorem proved : Rows.FnExactRunMovesSaid := over
end Go.Proofs.Ytnkmpcdipmajhaa.fnExactRunMoves
