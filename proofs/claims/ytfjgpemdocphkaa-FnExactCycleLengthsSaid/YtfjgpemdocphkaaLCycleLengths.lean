/- FnExactCycleLengths: the program's CycleLengths and the reference's return the same for all arguments, the arguments stay as they were, and the results are memory of their own. No condition. -/
import Derived.Test.YtfjgpemdocphkaaRows
import Derived.Test.YtfjgpemdocphkaaOpen
import Derived.Test.YtfjgpemdocphkaaLawI
import Derived.Test.YtfjgpemdocphkaaLen
namespace Go.Proofs.Ytfjgpemdocphkaa.fnExactCycleLengths
open Go.ChangeShapes Go.WideShapes Go.ChangeAt Go.RowKit
open Go.ChangeMaps (open_string shut_string)
set_option linter.unusedVariables false
theorem own : ownKnob Try.prog.godebug = none := by kernel_rfl
theorem laidOut : laidOutB Try.prog = true := by kernel_rfl
set_option maxRecDepth 100000 in
set_option maxHeartbeats 4000000 in
theorem walk (a0 : Option Addr) (n0 c0 : Nat) (xs0 : List Int) (w : World) (h0 : RI w 0 w.heap.size a0 n0 xs0) (b0 : ∀ x ∈ xs0, I64 x) :
    Calls Try.prog 4 #[.slice a0 n0 c0] w fun e w' => e = .returned (.bool true) ∧ Below w.heap.size w w' := by
  have m0 := h0.max
  by_cases s0 : n0 ≤ 1048576
  · skip
    have t0 : decide ((1048576 : Int) < (n0 : Int)) = false := by simp; omega
    go_enter Try.func4, Try.ntmps4
    have B0 : Below w.heap.size w w := Below.refl _ _
    go_wp2_with fail
    ((with_reducible refine (toI_any _ _ _ xs0 _ 0 w.heap.size (h0.below B0 (Nat.le_refl _)) (by omega) (by omega)).mono ?_); rintro e w1 ⟨T1, rfl, t1, f1⟩)
    have y1 := f1.size
    have B1 : Below w.heap.size w w1 := below_then B0 f1 (by omega)
    clear B0
    go_wp2_with fail
    ((with_reducible refine (s_CycleLengths_any _ _ _ _ xs0 t1.ri (by omega)).mono ?_); rintro e w2 ⟨p0A, p0n, p0c, p0, p1, rfl, Hp, op0, lp0, f2⟩)
    have y2 := f2.size
    have B2 : Below w.heap.size w w2 := below_then B1 f2 (by omega)
    have t1 := t1.below f2 (by omega)
    clear B1
    clear t1
    go_wp2_with fail
    ((with_reducible refine (toI_any _ _ _ xs0 _ 0 w.heap.size (h0.below B2 (Nat.le_refl _)) (by omega) (by omega)).mono ?_); rintro e w3 ⟨T3, rfl, t3, f3⟩)
    have y3 := f3.size
    have B3 : Below w.heap.size w w3 := below_then B2 f3 (by omega)
    have op0 := op0.below f3 (by omega)
    clear B2
    go_wp2_with fail
    ((with_reducible refine (i_CycleLengths_any _ _ _ _ xs0 t3.ri (by omega)).mono ?_); rintro e w4 ⟨q0A, q0n, q0c, q0, q1, rfl, Hq, oq0, lq0, f4⟩)
    have y4 := f4.size
    have B4 : Below w.heap.size w w4 := below_then B3 f4 (by omega)
    have op0 := op0.below f4 (by omega)
    have t3 := t3.below f4 (by omega)
    clear B3
    obtain ⟨rfl, rfl⟩ : p0 = q0 ∧ p1 = q1 := by have e := Hp.out.trans Hq.out.symm; simpa using e
    clear Hq
    go_wp2_with fail
    ((with_reducible refine (eqI_any _ _ _ _ _ _ _ _ _ _ _ _ _ oq0.ri op0.ri (by omega) (by omega)).mono ?_); rintro e w5 ⟨rfl, f5⟩)
    have y5 := f5.size
    have B5 : Below w.heap.size w w5 := below_then B4 f5 (by omega)
    have op0 := op0.below f5 (by omega)
    have t3 := t3.below f5 (by omega)
    have oq0 := oq0.below f5 (by omega)
    clear B4
    go_wp2_with fail
    ((with_reducible refine (toI_any _ _ _ xs0 _ 0 w.heap.size (h0.below B5 (Nat.le_refl _)) (by omega) (by omega)).mono ?_); rintro e w6 ⟨T6, rfl, t6, f6⟩)
    have y6 := f6.size
    have B6 : Below w.heap.size w w6 := below_then B5 f6 (by omega)
    have op0 := op0.below f6 (by omega)
    have t3 := t3.below f6 (by omega)
    have oq0 := oq0.below f6 (by omega)
    clear B5
    go_wp2_with fail
    ((with_reducible refine (eqI_any _ _ _ _ _ _ _ _ _ _ _ _ _ t3.ri t6.ri (by omega) (by omega)).mono ?_); rintro e w7 ⟨rfl, f7⟩)
    have y7 := f7.size
    have B7 : Below w.heap.size w w7 := below_then B6 f7 (by omega)
    have op0 := op0.below f7 (by omega)
    have t3 := t3.below f7 (by omega)
    have oq0 := oq0.below f7 (by omega)
    have t6 := t6.below f7 (by omega)
    clear B6
    clear t6
    go_wp2_with fail
    ((with_reducible refine (markI_any _ _ _ _ _ _ _ _ t3 (by omega) (by omega) (by omega)).mono ?_); rintro e w8 ⟨rfl, t3, f8⟩)
    have y8 := f8.size
    have B8 : Below w.heap.size w w8 := B7.trans (f8.below (by omega) (by omega))
    have op0 := op0.keep (Same.of_chg f8 (by omega) (by omega))
    have oq0 := oq0.keep (Same.of_chg f8 (by omega) (by omega))
    clear B7
    go_wp2_with fail
    ((with_reducible refine (eqI_any _ _ _ _ _ _ _ _ _ _ _ _ _ oq0.ri op0.ri (by omega) (by omega)).mono ?_); rintro e w9 ⟨rfl, f9⟩)
    have y9 := f9.size
    have B9 : Below w.heap.size w w9 := below_then B8 f9 (by omega)
    have op0 := op0.below f9 (by omega)
    have t3 := t3.below f9 (by omega)
    have oq0 := oq0.below f9 (by omega)
    clear B8
    go_wp2_with fail
    ((with_reducible refine (markI_any _ _ _ _ _ _ _ _ oq0 (by omega) (by omega) (by omega)).mono ?_); rintro e w10 ⟨rfl, oq0, f10⟩)
    have y10 := f10.size
    have B10 : Below w.heap.size w w10 := B9.trans (f10.below (by omega) (by omega))
    have op0 := op0.keep (Same.of_chg f10 (by omega) (by omega))
    have t3 := t3.keep (Same.of_chg f10 (by omega) (by omega))
    clear B9
    go_wp2_with fail
    ((with_reducible refine (heldI_any _ _ _ _ _ _ _ oq0.ri (by omega) (by omega) (by omega)).mono ?_); rintro e w11 ⟨rfl, f11⟩)
    have y11 := f11.size
    have B11 : Below w.heap.size w w11 := below_then B10 f11 (by omega)
    have op0 := op0.below f11 (by omega)
    have t3 := t3.below f11 (by omega)
    have oq0 := oq0.below f11 (by omega)
    clear B10
    clear t3
    go_wp2_with fail
    ((with_reducible refine (toI_any _ _ _ xs0 _ 0 w.heap.size (h0.below B11 (Nat.le_refl _)) (by omega) (by omega)).mono ?_); rintro e w12 ⟨T12, rfl, t12, f12⟩)
    have y12 := f12.size
    have B12 : Below w.heap.size w w12 := below_then B11 f12 (by omega)
    have op0 := op0.below f12 (by omega)
    have oq0 := oq0.below f12 (by omega)
    clear B11
    go_wp2_with fail
    ((with_reducible refine (i_CycleLengths_any _ _ _ _ xs0 t12.ri (by omega)).mono ?_); rintro e w13 ⟨h0A, h0n, h0c, h0, h1, rfl, Hh, oh0, lh0, f13⟩)
    have y13 := f13.size
    have B13 : Below w.heap.size w w13 := below_then B12 f13 (by omega)
    have op0 := op0.below f13 (by omega)
    have oq0 := oq0.below f13 (by omega)
    have t12 := t12.below f13 (by omega)
    clear B12
    obtain ⟨rfl, rfl⟩ : p0 = h0 ∧ p1 = h1 := by have e := Hp.out.trans Hh.out.symm; simpa using e
    clear Hh
    go_wp2_with fail
    ((with_reducible refine (eqI_any _ _ _ _ _ _ _ _ _ _ _ _ _ oh0.ri op0.ri (by omega) (by omega)).mono ?_); rintro e w14 ⟨rfl, f14⟩)
    have y14 := f14.size
    have B14 : Below w.heap.size w w14 := below_then B13 f14 (by omega)
    have op0 := op0.below f14 (by omega)
    have oq0 := oq0.below f14 (by omega)
    have t12 := t12.below f14 (by omega)
    have oh0 := oh0.below f14 (by omega)
    clear B13
    go_wp2_with fail
    ((with_reducible refine (heldI_any _ _ _ _ _ _ _ oq0.ri (by omega) (by omega) (by omega)).mono ?_); rintro e w15 ⟨rfl, f15⟩)
    have y15 := f15.size
    have B15 : Below w.heap.size w w15 := below_then B14 f15 (by omega)
    have op0 := op0.below f15 (by omega)
    have oq0 := oq0.below f15 (by omega)
    have t12 := t12.below f15 (by omega)
    have oh0 := oh0.below f15 (by omega)
    clear B14
    go_wp2_with fail
    go_ret
    exact ⟨rfl, B15⟩
  · have t0 : decide ((1048576 : Int) < (n0 : Int)) = true := by simp; omega
    go_enter Try.func4, Try.ntmps4
    go_wp2_with fail
    go_ret
    exact ⟨rfl, Below.refl _ _⟩
set_option maxRecDepth 100000 in
theorem lifted (os : Os) (started : os.Started) (H : Type) (enc : TypeId × Value → H) :
    ReturnsInHanded {} Try.checked os 4 .any (Rows.fnExactCycleLengthsSpec.pre6 enc Try.prog Try.f4 Rows.fnExactCycleLengthsRow.domain false) (Rows.fnExactCycleLengthsSpec.post enc Try.prog Try.f4 false true false false) := by
  refine returnsInHanded_of_change (C := Try.checked) own started (by kernel_rfl) Try.func4
    (ChangeSpec.witness6 (enc := enc) (C := Try.checked) false ⟨#[], #[.slice none 0 0], []⟩ 8 (by kernel_rfl) (by kernel_rfl) (by kernel_rfl) (by kernel_rfl)) ?_
  intro W base args ds gs before hval0 hW hcnd _
  have hval : ∀ (j : Nat) t v, Try.f4.params[j]? = some t → args[j]? = some v → Value.okWide Try.prog W .any base t v := hval0
  have hW' := hW
  obtain ⟨p, q, hA0, hV, rfl, hfz, hnd⟩ := hW
  have hA : DataW.TrodAll enc Try.prog W 0 (fun _ => true) true Try.f4.params.toList args.toList ds p := hA0
  rw [Try.params4] at hA hval
  obtain ⟨v0, vs0, d0, ds0, p0, q0, hargs, rfl, rfl, h0, r0⟩ := trodAll_cons hA
  obtain ⟨rfl, rfl, rfl⟩ := trodAll_nil r0
  obtain rfl : args = #[v0] := by cases args; simp_all
  obtain ⟨rfl, rfl⟩ := trodVars_none hV
  obtain ⟨a0, n0, c0, rfl⟩ := okWide_slice Try.underlying27 (hval 0 27 v0 rfl rfl)
  have k0 := h0
  have lt0 : ∀ x ∈ p0, x.block < W.heap.size := by obtain ⟨m, hm⟩ := k0; exact DataW.trod_lt m _ _ _ hm
  obtain ⟨xs0, w0, b0⟩ := open_RI Try.underlying27 Try.underlying2 (by kernel_rfl) h0
  clear hA0 hval0
  refine (walk a0 n0 c0 xs0 W w0 b0).mono fun e W' ⟨he, bel⟩ => ?_
  subst he
  exact ⟨_, rfl, _, _, _, [], _, [], hW', trodAll_mk1 (shut_bool Try.underlying4 _), (trodAll_cons_mk (Below.trod laidOut (by kernel_rfl) (of_decide_eq_true (by kernel_rfl)) k0 bel lt0) trodAll_mk0), rfl, bel.frame _, fun h => by cases h⟩
theorem over : Rows.fnExactCycleLengthsRow.holds Try.pinned (OpenSpec.ofChange Rows.fnExactCycleLengthsSpec) :=
  OpenClaim.holds_of_wide 4 Try.f4 rfl rfl rfl rfl rfl rfl rfl ⟨rfl, rfl, rfl, rfl, rfl⟩ rfl rfl rfl rfl rfl (by kernel_rfl) Try.func4 (by kernel_rfl)
    (of_decide_eq_true (by kernel_rfl)) (by unfold Func.isWrapper; first | (rw [if_pos (by decide +kernel)]; kernel_rfl) | (rw [if_neg (by decide +kernel)]; exact ⟨rfl, rfl⟩))
    (fun os started H enc _ => lifted os started H enc)
/-- THE STATEMENT -/
theorem proved : Rows.FnExactCycleLengthsSaid := over
end Go.Proofs.Ytfjgpemdocphkaa.fnExactCycleLengths
