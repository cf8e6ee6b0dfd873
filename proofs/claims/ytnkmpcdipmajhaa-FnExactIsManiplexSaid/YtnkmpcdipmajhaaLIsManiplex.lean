/- FnExactIsManiplex: the program's IsManiplex and the reference's return the same for all arguments, the arguments stay as they were, and the results are memory of their own. No condition. -/
import Derived.Test.YtnkmpcdipmajhaaRows
import Derived.Test.YtnkmpcdipmajhaaOpen
import Derived.Test.YtnkmpcdipmajhaaLawI
import Derived.Test.YtnkmpcdipmajhaaOpenS
import Derived.Test.YtnkmpcdipmajhaaLawS
import Derived.Test.YtnkmpcdipmajhaaManX
import Derived.Test.YtnkmpcdipmajhaaLawM
namespace Go.Proofs.Ytnkmpcdipmajhaa.fnExactIsManiplex
open Go.ChangeShapes Go.WideShapes Go.ChangeAt Go.RowKit
open Go.ChangeMaps (open_string shut_string)
set_option linter.unusedVariables false
theorem own : ownKnob Try.prog.godebug = none := by kernel_rfl
theorem laidOut : laidOutB Try.prog = true := by kernel_rfl
set_option maxRecDepth 100000 in
set_option maxHeartbeats 4000000 in
theorem walk (a0 : Option Addr) (n0 c0 : Nat) (xss0 : List (List Int)) (w : World) (h0 : RS w 0 w.heap.size a0 n0 xss0) (b0 : ∀ xs ∈ xss0, ∀ x ∈ xs, I64 x) :
    Calls Try.prog 8 #[.agg #[.slice a0 n0 c0]] w fun e w' => e = .returned (.bool true) ∧ Below w.heap.size w w' := by
  have m0 := h0.max
  have hR := rs_alloc h0 (Nat.le_refl _) (.cells #[.slice a0 n0 c0] 49)
  have hC : (w.alloc (.cells #[.slice a0 n0 c0] 49)).cell? ⟨w.heap.size, 0, none⟩ = some (.slice a0 n0 c0) := al_new _ _ _ _ rfl
  have hB : Below w.heap.size w (w.alloc (.cells #[.slice a0 n0 c0] 49)) := (Below.refl _ _).alloc (Nat.le_refl _) _
  by_cases s0 : n0 + numsIn xss0 ≤ 1048576
  · have z0 := leftOf_pos s0
    replace z0 := Lib.hid z0
    go_enter Try.func8, Try.ntmps8
    go_wp2_with fail
    obtain ⟨W1, hW⟩ : ∃ W1 : World, w.alloc (.cells #[.slice a0 n0 c0] 49) = W1 := ⟨_, rfl⟩
    have hz1 : W1.heap.size = w.heap.size + 1 := by rw [← hW]; simp
    rw [hW] at hR hC hB ⊢
    clear hW
    ((with_reducible refine (szM0_any a0 n0 c0 xss0 _ hR (by omega)).mono ?_); rintro e w2 ⟨rfl, f2⟩)
    rw [z0.out]
    have y2 := f2.size
    have C2 := (f2.cell (p := ⟨w.heap.size, 0, none⟩) (by simp; omega)).trans hC
    go_wp2_with fail
    ((with_reducible refine (toM_any a0 n0 c0 xss0 _ (hR.below f2 (by omega)) (by omega) (by omega)).mono ?_); rintro e w3 ⟨T3, rfl, t3, f3⟩)
    have y3 := f3.size
    have B3 : Below W1.heap.size W1 w3 := below_then f2 f3 (by omega)
    go_wp2_with fail
    ((with_reducible refine (s_IsManiplex_any T3 n0 n0 xss0 _ t3.rs (by omega)).mono ?_); rintro e w4 ⟨rfl, f4⟩)
    have y4 := f4.size
    have B4 : Below W1.heap.size W1 w4 := below_then B3 f4 (by omega)
    have C4 := (B4.cell (p := ⟨w.heap.size, 0, none⟩) (by simp; omega)).trans hC
    clear C2 t3 B3
    go_wp2_with fail
    ((with_reducible refine (toM_any a0 n0 c0 xss0 _ (hR.below B4 (by omega)) (by omega) (by omega)).mono ?_); rintro e w5 ⟨T5, rfl, t5, f5⟩)
    have y5 := f5.size
    have B5 : Below W1.heap.size W1 w5 := below_then B4 f5 (by omega)
    have r6 : RS (w5.alloc (.cells #[.slice T5 n0 n0] 52)) w4.heap.size w5.heap.size T5 n0 xss0 := t5.rs.keep (same_alloc _ _ _ _ (Nat.le_refl _))
    have b6 : Below w5.heap.size w5 (w5.alloc (.cells #[.slice T5 n0 n0] 52)) := (Below.refl _ _).alloc (Nat.le_refl _) _
    have z6 : (w5.alloc (.cells #[.slice T5 n0 n0] 52)).heap.size = w5.heap.size + 1 := by simp
    have c6 : (w5.alloc (.cells #[.slice T5 n0 n0] 52)).cell? ⟨w5.heap.size, 0, none⟩ = some (.slice T5 n0 n0) := al_new _ _ _ _ rfl
    clear C4 t5
    go_wp2_with fail
    obtain ⟨w6, h6⟩ : ∃ w6 : World, w5.alloc (.cells #[.slice T5 n0 n0] 52) = w6 := ⟨_, rfl⟩
    rw [h6] at r6 b6 z6 c6 ⊢
    clear h6
    have B6 : Below W1.heap.size W1 w6 := below_then B5 b6 (by omega)
    ((with_reducible refine (i_IsManiplex_any T5 n0 n0 xss0 _ r6 (by omega) (Nat.le_refl _)).mono ?_); rintro e w7 ⟨rfl, f7⟩)
    have y7 := f7.size
    have B7 : Below W1.heap.size W1 w7 := below_then B6 f7 (by omega)
    have C7 := (B7.cell (p := ⟨w.heap.size, 0, none⟩) (by simp; omega)).trans hC
    have D7 := (f7.cell (p := ⟨w5.heap.size, 0, none⟩) (by simp; omega)).trans c6
    have hd : (isManB xss0 != isManB xss0) = false := by simp
    have r7 := rs_drew (r6.below f7 (by omega))
    have B7' := below_drew B7
    have hT := toM_any a0 n0 c0 xss0 w7.drew (rs_drew (hR.below B7 (by omega))) (show _ ≤ w7.heap.size by omega) (by omega)
    clear B4 B5 B6 r6
    go_wp2_with fail
    go_region_with (first
      | (go_at_call 38; refine hT.mono ?_; rintro e w8 ⟨T8, rfl, t8, f8⟩; have D8 := (f8.cell (p := ⟨w5.heap.size, 0, none⟩) (by simp; omega)).trans D7; have y8 : w7.heap.size ≤ w8.heap.size := f8.size; have q8 := eqM_any T5 n0 n0 xss0 T8 n0 n0 xss0 w8 (r7.below f8 (show _ ≤ w7.heap.size by omega)) t8.rs (by omega) (Nat.le_refl _))
      | (go_at_call 40; refine q8.mono ?_; rintro e w9 ⟨rfl, f9⟩))
    all_goals
      go_wp2_with fail
      go_ret
      exact ⟨rfl, hB.trans ((B7'.trans ((f8.mono (show W1.heap.size ≤ w7.heap.size by omega)).trans (f9.mono (by omega)))).mono (by omega))⟩
  · have z0 := leftOf_neg s0
    replace z0 := Lib.hid z0
    go_enter Try.func8, Try.ntmps8
    go_wp2_with fail
    ((with_reducible refine (szM0_any a0 n0 c0 xss0 _ hR (by simp)).mono ?_); rintro e w2 ⟨rfl, f2⟩)
    rw [z0.out]
    go_wp2_with fail
    go_ret
    exact ⟨rfl, hB.trans (f2.mono (by simp))⟩
set_option maxRecDepth 100000 in
theorem lifted (os : Os) (started : os.Started) (H : Type) (enc : TypeId × Value → H) :
    ReturnsInHanded {} Try.checked os 8 .any (Rows.fnExactIsManiplexSpec.pre6 enc Try.prog Try.f8 Rows.fnExactIsManiplexRow.domain false) (Rows.fnExactIsManiplexSpec.post enc Try.prog Try.f8 false true false false) := by
  refine returnsInHanded_of_change (C := Try.checked) own started (by kernel_rfl) Try.func8
    (ChangeSpec.witness6 (enc := enc) (C := Try.checked) false ⟨#[], #[.agg #[.slice none 0 0]], []⟩ 8 (by kernel_rfl) (by kernel_rfl) (by kernel_rfl) (by kernel_rfl)) ?_
  intro W base args ds gs before hval0 hW hcnd _
  have hval : ∀ (j : Nat) t v, Try.f8.params[j]? = some t → args[j]? = some v → Value.okWide Try.prog W .any base t v := hval0
  have hW' := hW
  obtain ⟨p, q, hA0, hV, rfl, hfz, hnd⟩ := hW
  have hA : DataW.TrodAll enc Try.prog W 0 (fun _ => true) true Try.f8.params.toList args.toList ds p := hA0
  rw [Try.params8] at hA hval
  obtain ⟨v0, vs0, d0, ds0, p0, q0, hargs, rfl, rfl, h0, r0⟩ := trodAll_cons hA
  obtain ⟨rfl, rfl, rfl⟩ := trodAll_nil r0
  obtain rfl : args = #[v0] := by cases args; simp_all
  obtain ⟨rfl, rfl⟩ := trodVars_none hV
  have k0 := h0
  have lt0 : ∀ x ∈ p0, x.block < W.heap.size := by obtain ⟨m, hm⟩ := k0; exact DataW.trod_lt m _ _ _ hm
  obtain ⟨a0, n0, c0, xss0, rfl, w0, b0⟩ := open_RM Try.underlying49 (by kernel_rfl) (by kernel_rfl) rfl Try.underlying28 Try.underlying22 Try.underlying2 (by kernel_rfl) (by kernel_rfl) (hval 0 49 v0 rfl rfl) h0
  clear hA0 hval0
  refine (walk a0 n0 c0 xss0 W w0 b0).mono fun e W' ⟨he, bel⟩ => ?_
  subst he
  exact ⟨_, rfl, _, _, _, [], _, [], hW', trodAll_mk1 (shut_bool Try.underlying4 _), (trodAll_cons_mk (Below.trod laidOut (by kernel_rfl) (of_decide_eq_true (by kernel_rfl)) k0 bel lt0) trodAll_mk0), rfl, bel.frame _, fun h => by cases h⟩
theorem over : Rows.fnExactIsManiplexRow.holds Try.pinned (OpenSpec.ofChange Rows.fnExactIsManiplexSpec) :=
  OpenClaim.holds_of_wide 8 Try.f8 rfl rfl rfl rfl rfl rfl rfl ⟨rfl, rfl, rfl, rfl, rfl⟩ rfl rfl rfl rfl rfl (by kernel_rfl) Try.func8 (by kernel_rfl)
    (of_decide_eq_true (by kernel_rfl)) (by unfold Func.isWrapper; first | (rw [if_pos (by decide +kernel)]; kernel_rfl) | (rw [if_neg (by decide +kernel)]; exact ⟨rfl, rfl⟩))
    (fun os started H enc _ => lifted os started H enc)
/-- THE STATEMENT -/
theorem proved : Rows.FnExactIsManiplexSaid := over
end Go.Proofs.Ytnkmpcdipmajhaa.fnExactIsManiplex
