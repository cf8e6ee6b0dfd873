/- FnExactApplyWord: the program's ApplyWord and the reference's return the same for all arguments, the arguments stay as they were, and the results are memory of their own. No condition. -/
import Derived.Test.YtnkmpcdipmajhaaRows
import Derived.Test.YtnkmpcdipmajhaaOpen
import Derived.Test.YtnkmpcdipmajhaaLawI
import Derived.Test.YtnkmpcdipmajhaaOpenS
import Derived.Test.YtnkmpcdipmajhaaLawS
import Derived.Test.YtnkmpcdipmajhaaWord
namespace Go.Proofs.Ytnkmpcdipmajhaa.fnExactApplyWord
open Go.ChangeShapes Go.WideShapes Go.ChangeAt Go.RowKit
open Go.ChangeMaps (open_string shut_string)
set_option linter.unusedVariables false
theorem own : ownKnob Try.prog.godebug = none := by kernel_rfl
theorem laidOut : laidOutB Try.prog = true := by kernel_rfl
set_option maxRecDepth 100000 in
set_option maxHeartbeats 4000000 in
theorem walk (x0 : Int) (a1 : Option Addr) (n1 c1 : Nat) (xss1 : List (List Int)) (a2 : Option Addr) (n2 c2 : Nat) (xs2 : List Int) (x3 : Int) (w : World) (b0 : I64 x0) (h1 : RS w 0 w.heap.size a1 n1 xss1) (b1 : ∀ xs ∈ xss1, ∀ x ∈ xs, I64 x) (h2 : RI w 0 w.heap.size a2 n2 xs2) (b2 : ∀ x ∈ xs2, I64 x) (b3 : I64 x3) :
    Calls Try.prog 4 #[.int .i64 x0, .slice a1 n1 c1, .slice a2 n2 c2, .int .i64 x3] w fun e w' => e = .returned (.bool true) ∧ Below w.heap.size w w' := by
  have m2 := h2.max
  have m1 := h1.max
  have q0 := b0; unfold I64 at q0
  have q3 := b3; unfold I64 at q3
  by_cases s2 : n2 ≤ 1048576
  · skip
    have t2 : decide ((1048576 : Int) < (n2 : Int)) = false := by simp; omega
    by_cases s1 : n1 + numsIn xss1 ≤ 1048576
    · skip
      have z1 : leftOf (1048576) (n1 + numsIn xss1) = ((1048576 - (n1 + numsIn xss1) : Nat) : Int) := by unfold leftOf; rw [if_pos s1]; omega
      replace z1 := Lib.hid z1
      go_enter Try.func4, Try.ntmps4
      have B0 : Below w.heap.size w w := Below.refl _ _
      go_wp2_with fail
      ((with_reducible refine (szS0_any _ _ _ xss1 _ h1).mono ?_); rintro e w' ⟨rfl, rfl⟩)
      rw [z1.out]
      go_wp2_with fail
      ((with_reducible refine (toS_any _ _ _ xss1 _ (h1.below B0 (Nat.le_refl _)) (by omega) (by omega)).mono ?_); rintro e w1 ⟨T1, rfl, t1, f1⟩)
      have y1 := f1.size
      have B1 : Below w.heap.size w w1 := below_then B0 f1 (by omega)
      clear B0
      go_wp2_with fail
      ((with_reducible refine (toI_any _ _ _ xs2 _ 0 w.heap.size (h2.below B1 (Nat.le_refl _)) (by omega) (by omega)).mono ?_); rintro e w2 ⟨T2, rfl, t2, f2⟩)
      have y2 := f2.size
      have B2 : Below w.heap.size w w2 := below_then B1 f2 (by omega)
      have t1 := t1.below f2 (by omega)
      clear B1
      go_wp2_with fail
      ((with_reducible refine (s_ApplyWord_any _ x0 q0 _ _ _ xss1 t1.rs (by omega) _ _ _ xs2 t2.ri (by omega) x3 q3).mono ?_); rintro e w3 ⟨p0, p1, rfl, Hp, f3⟩)
      have y3 := f3.size
      have B3 : Below w.heap.size w w3 := below_then B2 f3 (by omega)
      have t1 := t1.below f3 (by omega)
      have t2 := t2.below f3 (by omega)
      clear B2
      clear t1
      clear t2
      go_wp2_with fail
      ((with_reducible refine (toS_any _ _ _ xss1 _ (h1.below B3 (Nat.le_refl _)) (by omega) (by omega)).mono ?_); rintro e w4 ⟨T4, rfl, t4, f4⟩)
      have y4 := f4.size
      have B4 : Below w.heap.size w w4 := below_then B3 f4 (by omega)
      clear B3
      go_wp2_with fail
      ((with_reducible refine (toI_any _ _ _ xs2 _ 0 w.heap.size (h2.below B4 (Nat.le_refl _)) (by omega) (by omega)).mono ?_); rintro e w5 ⟨T5, rfl, t5, f5⟩)
      have y5 := f5.size
      have B5 : Below w.heap.size w w5 := below_then B4 f5 (by omega)
      have t4 := t4.below f5 (by omega)
      clear B4
      go_wp2_with fail
      ((with_reducible refine (i_ApplyWord_any _ x0 q0 _ _ _ xss1 t4.rs (by omega) _ _ _ xs2 t5.ri (by omega) x3 q3).mono ?_); rintro e w6 ⟨q0, q1, rfl, Hq, f6⟩)
      have y6 := f6.size
      have B6 : Below w.heap.size w w6 := below_then B5 f6 (by omega)
      have t4 := t4.below f6 (by omega)
      have t5 := t5.below f6 (by omega)
      clear B5
      obtain ⟨rfl, rfl⟩ : p0 = q0 ∧ p1 = q1 := by have e := Hp.out.trans Hq.out.symm; simpa using e
      clear Hq
      go_wp2_with fail
      ((with_reducible refine (toS_any _ _ _ xss1 _ (h1.below B6 (Nat.le_refl _)) (by omega) (by omega)).mono ?_); rintro e w7 ⟨T7, rfl, t7, f7⟩)
      have y7 := f7.size
      have B7 : Below w.heap.size w w7 := below_then B6 f7 (by omega)
      have t4 := t4.below f7 (by omega)
      have t5 := t5.below f7 (by omega)
      clear B6
      go_wp2_with fail
      ((with_reducible refine (eqS_any _ _ _ _ _ _ _ _ _ t4.rs t7.rs (by omega) (by omega)).mono ?_); rintro e w8 ⟨rfl, f8⟩)
      have y8 := f8.size
      have B8 : Below w.heap.size w w8 := below_then B7 f8 (by omega)
      have t4 := t4.below f8 (by omega)
      have t5 := t5.below f8 (by omega)
      have t7 := t7.below f8 (by omega)
      clear B7
      clear t7
      go_wp2_with fail
      ((with_reducible refine (toI_any _ _ _ xs2 _ 0 w.heap.size (h2.below B8 (Nat.le_refl _)) (by omega) (by omega)).mono ?_); rintro e w9 ⟨T9, rfl, t9, f9⟩)
      have y9 := f9.size
      have B9 : Below w.heap.size w w9 := below_then B8 f9 (by omega)
      have t4 := t4.below f9 (by omega)
      have t5 := t5.below f9 (by omega)
      clear B8
      go_wp2_with fail
      ((with_reducible refine (eqI_any _ _ _ _ _ _ _ _ _ _ _ _ _ t5.ri t9.ri (by omega) (by omega)).mono ?_); rintro e w10 ⟨rfl, f10⟩)
      have y10 := f10.size
      have B10 : Below w.heap.size w w10 := below_then B9 f10 (by omega)
      have t4 := t4.below f10 (by omega)
      have t5 := t5.below f10 (by omega)
      have t9 := t9.below f10 (by omega)
      clear B9
      clear t9
      go_wp2_with fail
      go_ret
      exact ⟨rfl, B10⟩
    · have z1 : leftOf (1048576) (n1 + numsIn xss1) = -1 := by unfold leftOf; rw [if_neg s1]
      replace z1 := Lib.hid z1
      go_enter Try.func4, Try.ntmps4
      go_wp2_with fail
      ((with_reducible refine (szS0_any _ _ _ xss1 _ h1).mono ?_); rintro e w' ⟨rfl, rfl⟩)
      rw [z1.out]
      go_wp2_with fail
      go_ret
      exact ⟨rfl, Below.refl _ _⟩
  · have t2 : decide ((1048576 : Int) < (n2 : Int)) = true := by simp; omega
    go_enter Try.func4, Try.ntmps4
    go_wp2_with fail
    go_ret
    exact ⟨rfl, Below.refl _ _⟩
set_option maxRecDepth 100000 in
theorem lifted (os : Os) (started : os.Started) (H : Type) (enc : TypeId × Value → H) :
    ReturnsInHanded {} Try.checked os 4 .any (Rows.fnExactApplyWordSpec.pre6 enc Try.prog Try.f4 Rows.fnExactApplyWordRow.domain false) (Rows.fnExactApplyWordSpec.post enc Try.prog Try.f4 false true false false) := by
  refine returnsInHanded_of_change (C := Try.checked) own started (by kernel_rfl) Try.func4
    (ChangeSpec.witness6 (enc := enc) (C := Try.checked) false ⟨#[], #[.int .i64 0, .slice none 0 0, .slice none 0 0, .int .i64 0], []⟩ 8 (by kernel_rfl) (by kernel_rfl) (by kernel_rfl) (by kernel_rfl)) ?_
  intro W base args ds gs before hval0 hW hcnd _
  have hval : ∀ (j : Nat) t v, Try.f4.params[j]? = some t → args[j]? = some v → Value.okWide Try.prog W .any base t v := hval0
  have hW' := hW
  obtain ⟨p, q, hA0, hV, rfl, hfz, hnd⟩ := hW
  have hA : DataW.TrodAll enc Try.prog W 0 (fun _ => true) true Try.f4.params.toList args.toList ds p := hA0
  rw [Try.params4] at hA hval
  obtain ⟨v0, vs0, d0, ds0, p0, q0, hargs, rfl, rfl, h0, r0⟩ := trodAll_cons hA
  obtain ⟨v1, vs1, d1, ds1, p1, q1, rfl, rfl, rfl, h1, r1⟩ := trodAll_cons r0
  obtain ⟨v2, vs2, d2, ds2, p2, q2, rfl, rfl, rfl, h2, r2⟩ := trodAll_cons r1
  obtain ⟨v3, vs3, d3, ds3, p3, q3, rfl, rfl, rfl, h3, r3⟩ := trodAll_cons r2
  obtain ⟨rfl, rfl, rfl⟩ := trodAll_nil r3
  obtain rfl : args = #[v0, v1, v2, v3] := by cases args; simp_all
  obtain ⟨rfl, rfl⟩ := trodVars_none hV
  obtain ⟨x0, rfl, rfl, rfl, w0⟩ := open_int Try.underlying2 (hval 0 2 v0 rfl rfl) h0
  obtain ⟨a1, n1, c1, rfl⟩ := okWide_slice Try.underlying28 (hval 1 28 v1 rfl rfl)
  have k1 := h1
  have lt1 : ∀ x ∈ p1, x.block < W.heap.size := by obtain ⟨m, hm⟩ := k1; exact DataW.trod_lt m _ _ _ hm
  obtain ⟨xss1, w1, b1⟩ := open_RS Try.underlying28 Try.underlying22 Try.underlying2 (by kernel_rfl) (by kernel_rfl) h1
  obtain ⟨a2, n2, c2, rfl⟩ := okWide_slice Try.underlying22 (hval 2 22 v2 rfl rfl)
  have k2 := h2
  have lt2 : ∀ x ∈ p2, x.block < W.heap.size := by obtain ⟨m, hm⟩ := k2; exact DataW.trod_lt m _ _ _ hm
  obtain ⟨xs2, w2, b2⟩ := open_RI Try.underlying22 Try.underlying2 (by kernel_rfl) h2
  obtain ⟨x3, rfl, rfl, rfl, w3⟩ := open_int Try.underlying2 (hval 3 2 v3 rfl rfl) h3
  clear hA0 hval0
  refine (walk x0 a1 n1 c1 xss1 a2 n2 c2 xs2 x3 W (bounds_i64 w0) w1 b1 w2 b2 (bounds_i64 w3)).mono fun e W' ⟨he, bel⟩ => ?_
  subst he
  exact ⟨_, rfl, _, _, _, [], _, [], hW', trodAll_mk1 (shut_bool Try.underlying4 _), (trodAll_cons_mk (shut_int Try.underlying2 w0) (trodAll_cons_mk (Below.trod laidOut (by kernel_rfl) (of_decide_eq_true (by kernel_rfl)) k1 bel lt1) (trodAll_cons_mk (Below.trod laidOut (by kernel_rfl) (of_decide_eq_true (by kernel_rfl)) k2 bel lt2) (trodAll_cons_mk (shut_int Try.underlying2 w3) trodAll_mk0)))), rfl, bel.frame _, fun h => by cases h⟩
theorem over : Rows.fnExactApplyWordRow.holds Try.pinned (OpenSpec.ofChange Rows.fnExactApplyWordSpec) :=
  OpenClaim.holds_of_wide 4 Try.f4 rfl rfl rfl rfl rfl rfl rfl ⟨rfl, rfl, rfl, rfl, rfl⟩ rfl rfl rfl rfl rfl (by kernel_rfl) Try.func4 (by kernel_rfl)
    (of_decide_eq_true (by kernel_rfl)) (by unfold Func.isWrapper; first | (rw [if_pos (by decide +kernel)]; kernel_rfl) | (rw [if_neg (by decide +kernel)]; exact ⟨rfl, rfl⟩))
    (fun os started H enc _ => lifted os started H enc)
/-- THE STATEMENT -/
theorem proved : Rows.FnExactApplyWordSaid := over
end Go.Proofs.Ytnkmpcdipmajhaa.fnExactApplyWord
