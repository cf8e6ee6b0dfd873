/- FnExactIsLattice: the program's IsLattice and the reference's return the same for all arguments, the arguments stay as they were, and the results are memory of their own. No condition. -/
import Derived.Test.YtbioelmofceaaaaRows
import Derived.Test.YtbioelmofceaaaaOpen
import Derived.Test.YtbioelmofceaaaaLawI
import Derived.Test.YtbioelmofceaaaaOpenS
import Derived.Test.YtbioelmofceaaaaLawS
import Derived.Test.YtbioelmofceaaaaLawM
import Derived.Test.YtbioelmofceaaaaLawP
import Derived.Test.YtbioelmofceaaaaLatX
namespace Go.Proofs.Ytbioelmofceaaaa.fnExactIsLattice
open Go.ChangeShapes Go.WideShapes Go.ChangeAt Go.RowKit
open Go.ChangeMaps (open_string shut_string)
set_option linter.unusedVariables false
theorem own : ownKnob Try.prog.godebug = none := by kernel_rfl
theorem laidOut : laidOutB Try.prog = true := by kernel_rfl
set_option maxRecDepth 100000 in
set_option maxHeartbeats 8000000 in
theorem walk (r0 : Int) (d0 : Option Addr) (k0 e0 : Nat) (ps0 : List Int) (a0 : Option Addr) (n0 c0 : Nat) (xss0 : List (List Int)) (w : World) (br : I64 r0) (g0 : RI w 0 w.heap.size d0 k0 ps0) (bg : ∀ x ∈ ps0, I64 x) (h0 : RS w 0 w.heap.size a0 n0 xss0) (b0 : ∀ xs ∈ xss0, ∀ x ∈ xs, I64 x) :
    Calls Try.prog 3 #[.agg #[.int .i64 r0, .slice d0 k0 e0, .slice a0 n0 c0]] w fun e w' => e = .returned (.bool true) ∧ Below w.heap.size w w' := by
  have m0 := h0.max
  have mg := g0.max
  have qr := br; unfold I64 at qr
  have hR := rs_alloc h0 (Nat.le_refl _) (.cells #[.int .i64 r0, .slice d0 k0 e0, .slice a0 n0 c0] 25)
  have hG : RI (w.alloc (.cells #[.int .i64 r0, .slice d0 k0 e0, .slice a0 n0 c0] 25)) 0 w.heap.size d0 k0 ps0 := g0.keep (same_alloc w _ _ _ (Nat.le_refl _))
  have hC0 : (w.alloc (.cells #[.int .i64 r0, .slice d0 k0 e0, .slice a0 n0 c0] 25)).cell? ⟨w.heap.size, 0, none⟩ = some (.int .i64 r0) := by simp
  have hC1 : (w.alloc (.cells #[.int .i64 r0, .slice d0 k0 e0, .slice a0 n0 c0] 25)).cell? ⟨w.heap.size, 1, none⟩ = some (.slice d0 k0 e0) := by simp
  have hC2 : (w.alloc (.cells #[.int .i64 r0, .slice d0 k0 e0, .slice a0 n0 c0] 25)).cell? ⟨w.heap.size, 2, none⟩ = some (.slice a0 n0 c0) := by simp
  have hB : Below w.heap.size w (w.alloc (.cells #[.int .i64 r0, .slice d0 k0 e0, .slice a0 n0 c0] 25)) := (Below.refl _ _).alloc (Nat.le_refl _) _
  by_cases s0 : k0 + (n0 + numsIn xss0) ≤ 1048576
  · skip
    have z0 := leftOf_pos s0
    replace z0 := Lib.hid z0
    go_enter Try.func3, Try.ntmps3
    go_wp2_with fail
    obtain ⟨W1, hW⟩ : ∃ W1 : World, (w.alloc (.cells #[.int .i64 r0, .slice d0 k0 e0, .slice a0 n0 c0] 25)) = W1 := ⟨_, rfl⟩
    have hz1 : W1.heap.size = w.heap.size + 1 := by rw [← hW]; simp
    rw [hW] at hR hG hC0 hC1 hC2 hB ⊢
    clear hW
    have B0 : Below W1.heap.size W1 W1 := Below.refl _ _
    ((with_reducible refine (szP0_any r0 d0 k0 e0 ps0 a0 n0 c0 xss0 _ hG hR (by omega) (by omega)).mono ?_); rintro e w1 ⟨rfl, f1⟩)
    rw [z0.out]
    have y1 := f1.size
    have B1 : Below W1.heap.size W1 w1 := below_then B0 f1 (by omega)
    clear B0
    have C0 := (B1.cell (p := ⟨w.heap.size, 0, none⟩) (by simp; omega)).trans hC0
    have C1 := (B1.cell (p := ⟨w.heap.size, 1, none⟩) (by simp; omega)).trans hC1
    have C2 := (B1.cell (p := ⟨w.heap.size, 2, none⟩) (by simp; omega)).trans hC2
    go_wp2_with fail
    ((with_reducible refine (toP_any r0 d0 k0 e0 ps0 a0 n0 c0 xss0 _ (hG.below B1 (by omega)) (hR.below B1 (by omega)) (by omega) (by omega) (by omega)).mono ?_); rintro e w2 ⟨T2, U2, M2, rfl, t2, f2⟩)
    have y2 := f2.size
    have B2 : Below W1.heap.size W1 w2 := below_then B1 f2 (by omega)
    clear B1
    clear C0 C1 C2
    go_wp2_with fail
    ((with_reducible refine (s_IsLattice_any _ r0 qr T2 k0 k0 ps0 t2.ri (by omega) (Nat.le_refl _) U2 n0 n0 xss0 t2.rs (by omega) (Nat.le_refl _)).mono ?_); rintro e w3 ⟨p0, p1, rfl, Hp, f3⟩)
    have y3 := f3.size
    have B3 : Below W1.heap.size W1 w3 := below_then B2 f3 (by omega)
    have t2 := t2.below f3 (by omega)
    clear B2
    clear t2
    have C0 := (B3.cell (p := ⟨w.heap.size, 0, none⟩) (by simp; omega)).trans hC0
    have C1 := (B3.cell (p := ⟨w.heap.size, 1, none⟩) (by simp; omega)).trans hC1
    have C2 := (B3.cell (p := ⟨w.heap.size, 2, none⟩) (by simp; omega)).trans hC2
    go_wp2_with fail
    ((with_reducible refine (toP_any r0 d0 k0 e0 ps0 a0 n0 c0 xss0 _ (hG.below B3 (by omega)) (hR.below B3 (by omega)) (by omega) (by omega) (by omega)).mono ?_); rintro e w4 ⟨T4, U4, M4, rfl, t4, f4⟩)
    have y4 := f4.size
    have B4 : Below W1.heap.size W1 w4 := below_then B3 f4 (by omega)
    clear B3
    clear C0 C1 C2
    have f5 : Below w4.heap.size w4 (w4.alloc (.cells #[.int .i64 r0, .slice T4 k0 k0, .slice U4 n0 n0] 29)) := (Below.refl _ _).alloc (Nat.le_refl _) _
    have Z5 : (w4.alloc (.cells #[.int .i64 r0, .slice T4 k0 k0, .slice U4 n0 n0] 29)).heap.size = w4.heap.size + 1 := by simp
    have D5_0 : (w4.alloc (.cells #[.int .i64 r0, .slice T4 k0 k0, .slice U4 n0 n0] 29)).cell? ⟨w4.heap.size, 0, none⟩ = some (.int .i64 r0) := by simp
    have D5_1 : (w4.alloc (.cells #[.int .i64 r0, .slice T4 k0 k0, .slice U4 n0 n0] 29)).cell? ⟨w4.heap.size, 1, none⟩ = some (.slice T4 k0 k0) := by simp
    have D5_2 : (w4.alloc (.cells #[.int .i64 r0, .slice T4 k0 k0, .slice U4 n0 n0] 29)).cell? ⟨w4.heap.size, 2, none⟩ = some (.slice U4 n0 n0) := by simp
    have t4 := t4.below f5 (by omega)
    have X0 := (f5.cell (p := ⟨w.heap.size, 0, none⟩) (by simp; omega)).trans ((B4.cell (p := ⟨w.heap.size, 0, none⟩) (by simp; omega)).trans hC0)
    have X1 := (f5.cell (p := ⟨w.heap.size, 1, none⟩) (by simp; omega)).trans ((B4.cell (p := ⟨w.heap.size, 1, none⟩) (by simp; omega)).trans hC1)
    have X2 := (f5.cell (p := ⟨w.heap.size, 2, none⟩) (by simp; omega)).trans ((B4.cell (p := ⟨w.heap.size, 2, none⟩) (by simp; omega)).trans hC2)
    go_wp2_with fail
    obtain ⟨w5, hq5⟩ : ∃ w5 : World, (w4.alloc (.cells #[.int .i64 r0, .slice T4 k0 k0, .slice U4 n0 n0] 29)) = w5 := ⟨_, rfl⟩
    rw [hq5] at f5 Z5 D5_0 D5_1 D5_2 t4 X0 X1 X2 ⊢
    clear hq5
    have y5 := f5.size
    have B5 : Below W1.heap.size W1 w5 := below_then B4 f5 (by omega)
    clear B4 X0 X1 X2
    go_wp2_with fail
    ((with_reducible refine (i_IsLattice_any _ r0 qr T4 k0 k0 ps0 t4.ri (by omega) (Nat.le_refl _) U4 n0 n0 xss0 t4.rs (by omega) (Nat.le_refl _)).mono ?_); rintro e w6 ⟨q0, q1, rfl, Hq, f6⟩)
    have y6 := f6.size
    have B6 : Below W1.heap.size W1 w6 := below_then B5 f6 (by omega)
    have t4 := t4.below f6 (by omega)
    have D5_0 := (f6.cell (p := ⟨w4.heap.size, 0, none⟩) (by simp; omega)).trans D5_0
    have D5_1 := (f6.cell (p := ⟨w4.heap.size, 1, none⟩) (by simp; omega)).trans D5_1
    have D5_2 := (f6.cell (p := ⟨w4.heap.size, 2, none⟩) (by simp; omega)).trans D5_2
    clear B5
    obtain ⟨rfl, rfl⟩ : p0 = q0 ∧ p1 = q1 := by have e := Hp.out.trans Hq.out.symm; simpa [and_assoc] using e
    clear Hq
    have C0 := (B6.cell (p := ⟨w.heap.size, 0, none⟩) (by simp; omega)).trans hC0
    have C1 := (B6.cell (p := ⟨w.heap.size, 1, none⟩) (by simp; omega)).trans hC1
    have C2 := (B6.cell (p := ⟨w.heap.size, 2, none⟩) (by simp; omega)).trans hC2
    have Bd := below_drew B6
    have hT := toP_any r0 d0 k0 e0 ps0 a0 n0 c0 xss0 w6.drew (ri_drew (hG.below B6 (by omega))) (rs_drew (hR.below B6 (by omega))) (show _ ≤ w6.heap.size by omega) (show _ ≤ w6.heap.size by omega) (by omega)
    have rg := ri_drew t4.ri
    have rd := rs_drew t4.rs
    go_wp2_with fail
    go_region_with (first
      | (go_at_call 9; refine hT.mono ?_; rintro e w7 ⟨T7, U7, M7, rfl, t7, f7⟩; have GD5_0 := (f7.cell (p := ⟨w4.heap.size, 0, none⟩) (by simp; omega)).trans D5_0; have GD5_1 := (f7.cell (p := ⟨w4.heap.size, 1, none⟩) (by simp; omega)).trans D5_1; have GD5_2 := (f7.cell (p := ⟨w4.heap.size, 2, none⟩) (by simp; omega)).trans D5_2; have y7 : w6.heap.size ≤ w7.heap.size := f7.size; have qe := eqP_any r0 T4 k0 k0 ps0 U4 n0 n0 xss0 r0 T7 k0 k0 ps0 U7 n0 n0 xss0 w7 (rg.below f7 (show _ ≤ w6.heap.size by omega)) (rd.below f7 (show _ ≤ w6.heap.size by omega)) t7.ri t7.rs (by omega) (by omega) (Nat.le_refl _) (Nat.le_refl _))
      | (go_at_call 11; refine qe.mono ?_; rintro e w8 ⟨rfl, f8⟩))
    all_goals
      clear qe hT rd rg GD5_0 GD5_1 GD5_2
      have f7 : Below w6.heap.size w6 w7 := ⟨f7.os, f7.tape, f7.output, f7.size, f7.block⟩
      clear y7 Bd
      have y7 := f7.size
      have B7 : Below W1.heap.size W1 w7 := below_then B6 f7 (by omega)
      have t4 := t4.below f7 (by omega)
      have D5_0 := (f7.cell (p := ⟨w4.heap.size, 0, none⟩) (by simp; omega)).trans D5_0
      have D5_1 := (f7.cell (p := ⟨w4.heap.size, 1, none⟩) (by simp; omega)).trans D5_1
      have D5_2 := (f7.cell (p := ⟨w4.heap.size, 2, none⟩) (by simp; omega)).trans D5_2
      clear B6
      have y8 := f8.size
      have B8 : Below W1.heap.size W1 w8 := below_then B7 f8 (by omega)
      have t4 := t4.below f8 (by omega)
      have D5_0 := (f8.cell (p := ⟨w4.heap.size, 0, none⟩) (by simp; omega)).trans D5_0
      have D5_1 := (f8.cell (p := ⟨w4.heap.size, 1, none⟩) (by simp; omega)).trans D5_1
      have D5_2 := (f8.cell (p := ⟨w4.heap.size, 2, none⟩) (by simp; omega)).trans D5_2
      clear B7
      clear C0 C1 C2
      go_wp2_with fail
      go_ret
      exact ⟨rfl, hB.trans (B8.mono (by omega))⟩
  · have z0 := leftOf_neg s0
    replace z0 := Lib.hid z0
    go_enter Try.func3, Try.ntmps3
    go_wp2_with fail
    ((with_reducible refine (szP0_any r0 d0 k0 e0 ps0 a0 n0 c0 xss0 _ hG hR (by simp) (by simp)).mono ?_); rintro e w2 ⟨rfl, f2⟩)
    rw [z0.out]
    go_wp2_with fail
    go_ret
    exact ⟨rfl, hB.trans (f2.mono (by simp))⟩
set_option maxRecDepth 100000 in
theorem lifted (os : Os) (started : os.Started) (H : Type) (enc : TypeId × Value → H) :
    ReturnsInHanded {} Try.checked os 3 .any (Rows.fnExactIsLatticeSpec.pre6 enc Try.prog Try.f3 Rows.fnExactIsLatticeRow.domain false) (Rows.fnExactIsLatticeSpec.post enc Try.prog Try.f3 false true false false) := by
  refine returnsInHanded_of_change (C := Try.checked) own started (by kernel_rfl) Try.func3
    (ChangeSpec.witness6 (enc := enc) (C := Try.checked) false ⟨#[], #[.agg #[.int .i64 0, .slice none 0 0, .slice none 0 0]], []⟩ 8 (by kernel_rfl) (by kernel_rfl) (by kernel_rfl) (by kernel_rfl)) ?_
  intro W base args ds gs before hval0 hW hcnd _
  have hval : ∀ (j : Nat) t v, Try.f3.params[j]? = some t → args[j]? = some v → Value.okWide Try.prog W .any base t v := hval0
  have hW' := hW
  obtain ⟨p, q, hA0, hV, rfl, hfz, hnd⟩ := hW
  have hA : DataW.TrodAll enc Try.prog W 0 (fun _ => true) true Try.f3.params.toList args.toList ds p := hA0
  rw [Try.params3] at hA hval
  obtain ⟨v0, vs0, dd0, ds0, p0, q0, hargs, rfl, rfl, h0, rr0⟩ := trodAll_cons hA
  obtain ⟨rfl, rfl, rfl⟩ := trodAll_nil rr0
  obtain rfl : args = #[v0] := by cases args; simp_all
  obtain ⟨rfl, rfl⟩ := trodVars_none hV
  have kk0 := h0
  have lt0 : ∀ x ∈ p0, x.block < W.heap.size := by obtain ⟨m, hm⟩ := kk0; exact DataW.trod_lt m _ _ _ hm
  obtain ⟨r0, d0, k0, e0, ps0, a0, n0, c0, xss0, rfl, br, g0, bg, w0, b0⟩ := open_RP Try.underlying25 (by kernel_rfl) (by kernel_rfl) rfl rfl rfl Try.underlying23 Try.underlying22 Try.underlying2 (by kernel_rfl) (by kernel_rfl) (hval 0 25 v0 rfl rfl) h0
  clear hA0 hval0
  refine (walk r0 d0 k0 e0 ps0 a0 n0 c0 xss0 W br g0 bg w0 b0).mono fun e W' ⟨he, bel⟩ => ?_
  subst he
  exact ⟨_, rfl, _, _, _, [], _, [], hW', trodAll_mk1 (shut_bool Try.underlying4 _), (trodAll_cons_mk (Below.trod laidOut (by kernel_rfl) (of_decide_eq_true (by kernel_rfl)) kk0 bel lt0) trodAll_mk0), rfl, bel.frame _, fun h => by cases h⟩
theorem over : Rows.fnExactIsLatticeRow.holds Try.pinned (OpenSpec.ofChange Rows.fnExactIsLatticeSpec) :=
  OpenClaim.holds_of_wide 3 Try.f3 rfl rfl rfl rfl rfl rfl rfl ⟨rfl, rfl, rfl, rfl, rfl⟩ rfl rfl rfl rfl rfl (by kernel_rfl) Try.func3 (by kernel_rfl)
    (of_decide_eq_true (by kernel_rfl)) (by unfold Func.isWrapper; first | (rw [if_pos (by decide +kernel)]; kernel_rfl) | (rw [if_neg (by decide +kernel)]; exact ⟨rfl, rfl⟩))
    (fun os started H enc _ => lifted os started H enc)
/-- THE STATEMENT -/
theorem proved : Rows.FnExactIsLatticeSaid := over
end Go.Proofs.Ytbioelmofceaaaa.fnExactIsLattice
