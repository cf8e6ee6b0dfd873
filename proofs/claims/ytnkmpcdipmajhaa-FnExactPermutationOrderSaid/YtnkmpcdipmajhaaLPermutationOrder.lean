/- FnExactPermutationOrder: the program's PermutationOrder and the reference's return the same for all arguments, the arguments stay as they were, and the results are memory of their own. No condition. -/
import Derived.Test.YtnkmpcdipmajhaaRows
import Derived.Test.YtnkmpcdipmajhaaOpen
import Derived.Test.YtnkmpcdipmajhaaLawI
import Derived.Test.YtnkmpcdipmajhaaOrd
namespace Go.Proofs.Ytnkmpcdipmajhaa.fnExactPermutationOrder
open Go.ChangeShapes Go.WideShapes Go.ChangeAt Go.RowKit
open Go.ChangeMaps (open_string shut_string)
set_option linter.unusedVariables false
theorem own : ownKnob Try.prog.godebug = none := by kernel_rfl
theorem laidOut : laidOutB Try.prog = true := by kernel_rfl
set_option maxRecDepth 100000 in
set_option maxHeartbeats 2000000 in
theorem walk (a0 : Option Addr) (n0 c0 : Nat) (xs0 : List Int) (w : World) (h0 : RI w 0 w.heap.size a0 n0 xs0) (b0 : ∀ x ∈ xs0, I64 x) :
    Calls Try.prog 3 #[.slice a0 n0 c0] w fun e w' => e = .returned (.bool true) ∧ Below w.heap.size w w' := by
  have m0 := h0.max
  by_cases s0 : n0 ≤ 1048576
  · skip
    have t0 : decide ((1048576 : Int) < (n0 : Int)) = false := by simp; omega
    go_enter Try.func3, Try.ntmps3
    have B0 : Below w.heap.size w w := Below.refl _ _
    go_wp2_with fail
    ((with_reducible refine (toI_any _ _ _ xs0 _ 0 w.heap.size (h0.below B0 (Nat.le_refl _)) (by omega) (by omega)).mono ?_); rintro e w1 ⟨T1, rfl, t1, f1⟩)
    have z1 := f1.size
    have B1 : Below w.heap.size w w1 := below_then B0 f1 (by omega)
    clear B0
    go_wp2_with fail
    ((with_reducible refine (s_PermutationOrder_any _ _ _ _ xs0 t1.ri (by omega)).mono ?_); rintro e w2 ⟨p0, p1, rfl, Hp, f2⟩)
    have z2 := f2.size
    have B2 : Below w.heap.size w w2 := below_then B1 f2 (by omega)
    have t1 := t1.below f2 (by omega)
    clear B1
    clear t1
    go_wp2_with fail
    ((with_reducible refine (toI_any _ _ _ xs0 _ 0 w.heap.size (h0.below B2 (Nat.le_refl _)) (by omega) (by omega)).mono ?_); rintro e w3 ⟨T3, rfl, t3, f3⟩)
    have z3 := f3.size
    have B3 : Below w.heap.size w w3 := below_then B2 f3 (by omega)
    clear B2
    go_wp2_with fail
    ((with_reducible refine (i_PermutationOrder_any _ _ _ _ xs0 t3.ri (by omega)).mono ?_); rintro e w4 ⟨q0, q1, rfl, Hq, f4⟩)
    have z4 := f4.size
    have B4 : Below w.heap.size w w4 := below_then B3 f4 (by omega)
    have t3 := t3.below f4 (by omega)
    clear B3
    obtain ⟨rfl, rfl⟩ : p0 = q0 ∧ p1 = q1 := by have e := Hp.out.trans Hq.out.symm; simpa using e
    clear Hq
    go_wp2_with fail
    ((with_reducible refine (toI_any _ _ _ xs0 _ 0 w.heap.size (h0.below B4 (Nat.le_refl _)) (by omega) (by omega)).mono ?_); rintro e w5 ⟨T5, rfl, t5, f5⟩)
    have z5 := f5.size
    have B5 : Below w.heap.size w w5 := below_then B4 f5 (by omega)
    have t3 := t3.below f5 (by omega)
    clear B4
    go_wp2_with fail
    ((with_reducible refine (eqI_any _ _ _ _ _ _ _ _ _ _ _ _ _ t3.ri t5.ri (by omega) (by omega)).mono ?_); rintro e w6 ⟨rfl, f6⟩)
    have z6 := f6.size
    have B6 : Below w.heap.size w w6 := below_then B5 f6 (by omega)
    have t3 := t3.below f6 (by omega)
    have t5 := t5.below f6 (by omega)
    clear B5
    clear t5
    go_wp2_with fail
    go_ret
    exact ⟨rfl, B6⟩
  · have t0 : decide ((1048576 : Int) < (n0 : Int)) = true := by simp; omega
    go_enter Try.func3, Try.ntmps3
    go_wp2_with fail
    go_ret
    exact ⟨rfl, Below.refl _ _⟩
set_option maxRecDepth 100000 in
theorem lifted (os : Os) (started : os.Started) (H : Type) (enc : TypeId × Value → H) :
    ReturnsInHanded {} Try.checked os 3 .any (Rows.fnExactPermutationOrderSpec.pre6 enc Try.prog Try.f3 Rows.fnExactPermutationOrderRow.domain false) (Rows.fnExactPermutationOrderSpec.post enc Try.prog Try.f3 false true false false) := by
  refine returnsInHanded_of_change (C := Try.checked) own started (by kernel_rfl) Try.func3
    (ChangeSpec.witness6 (enc := enc) (C := Try.checked) false ⟨#[], #[.slice none 0 0], []⟩ 8 (by kernel_rfl) (by kernel_rfl) (by kernel_rfl) (by kernel_rfl)) ?_
  intro W base args ds gs before hval0 hW hcnd _
  have hval : ∀ (j : Nat) t v, Try.f3.params[j]? = some t → args[j]? = some v → Value.okWide Try.prog W .any base t v := hval0
  have hW' := hW
  obtain ⟨p, q, hA0, hV, rfl, hfz, hnd⟩ := hW
  have hA : DataW.TrodAll enc Try.prog W 0 (fun _ => true) true Try.f3.params.toList args.toList ds p := hA0
  rw [Try.params3] at hA hval
  obtain ⟨v0, vs0, d0, ds0, p0, q0, hargs, rfl, rfl, h0, r0⟩ := trodAll_cons hA
  obtain ⟨rfl, rfl, rfl⟩ := trodAll_nil r0
  obtain rfl : args = #[v0] := by cases args; simp_all
  obtain ⟨rfl, rfl⟩ := trodVars_none hV
  obtain ⟨a0, n0, c0, rfl⟩ := okWide_slice Try.underlying22 (hval 0 22 v0 rfl rfl)
  have k0 := h0
  have lt0 : ∀ x ∈ p0, x.block < W.heap.size := by obtain ⟨m, hm⟩ := k0; exact DataW.trod_lt m _ _ _ hm
  obtain ⟨xs0, w0, b0⟩ := open_RI Try.underlying22 Try.underlying2 (by kernel_rfl) h0
  clear hA0 hval0
  refine (walk a0 n0 c0 xs0 W w0 b0).mono fun e W' ⟨he, bel⟩ => ?_
  subst he
  exact ⟨_, rfl, _, _, _, [], _, [], hW', trodAll_mk1 (shut_bool Try.underlying4 _), (trodAll_cons_mk (Below.trod laidOut (by kernel_rfl) (of_decide_eq_true (by kernel_rfl)) k0 bel lt0) trodAll_mk0), rfl, bel.frame _, fun h => by cases h⟩
theorem over : Rows.fnExactPermutationOrderRow.holds Try.pinned (OpenSpec.ofChange Rows.fnExactPermutationOrderSpec) :=
  OpenClaim.holds_of_wide 3 Try.f3 rfl rfl rfl rfl rfl rfl rfl ⟨rfl, rfl, rfl, rfl, rfl⟩ rfl rfl rfl rfl rfl (by kernel_rfl) Try.func3 (by kernel_rfl)
    (of_decide_eq_true (by kernel_rfl)) (by unfold Func.isWrapper; first | (rw [if_pos (by decide +kernel)]; kernel_rfl) | (rw [if_neg (by decide +kernel)]; exact ⟨rfl, rfl⟩))
    (fun os started H enc _ => lifted os started H enc)
/-- THE STATEMENT -/
theorem proved : Rows.FnExactPermutationOrderSaid := over
end Go.Proofs.Ytnkmpcdipmajhaa.fnExactPermutationOrder
