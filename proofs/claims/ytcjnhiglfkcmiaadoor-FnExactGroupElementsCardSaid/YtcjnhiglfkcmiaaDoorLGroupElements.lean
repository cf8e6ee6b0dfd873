/- FnExactGroupElements: the program's GroupElements and the reference's return the same for all arguments, the arguments stay as they were, and the results are memory of their own. No condition. -/
import Derived.Test.YtcjnhiglfkcmiaaDoorRows
import Derived.Test.YtcjnhiglfkcmiaaDoorTie
import Derived.Test.YtcjnhiglfkcmiaaDoorCards
import Derived.ProofKit
import Derived.LaidMore
import Derived.OpenShut
import Derived.Stop.Joined
import Derived.Stop.LaidErr
import Derived.SevenTiedAt
import Derived.Lib.LaidTab
import Derived.MakeChecks
import Derived.Lay
import Derived.Test.YtcjnhiglfkcmiaaDoorOpen
import Derived.Test.YtcjnhiglfkcmiaaDoorLawI
import Derived.Test.YtcjnhiglfkcmiaaDoorOpenS
import Derived.Test.YtcjnhiglfkcmiaaDoorLawS
import Derived.Test.YtcjnhiglfkcmiaaDoorGrpX
namespace Go.Proofs.YtcjnhiglfkcmiaaDoor.fnExactGroupElements
open Go.ChangeShapes Go.WideShapes Go.ChangeAt Go.RowKit
open Go.ChangeMaps (open_string shut_string)
set_option linter.unusedVariables false
theorem own : ownKnob Tryd.prog.godebug = none := by kernel_rfl
theorem laidOut : laidOutB Tryd.prog = true := by kernel_rfl
/-- what the condition gives the walk: the table of the powers of ten -/
theorem t10 {W : World} (h : laidMetH Tryd.prog Rows.fnExactGroupElementsRow.laid W) : T10 W.heap.size W := by
  rw [MakeChecks.laidMetH_plain _ _ _ (by kernel_rfl)] at h
  exact Lib.tabBelow_of_tabIs (Lib.tabIs_of_head (g := 3) (t := 201) (e := 54) (n := 20) (by kernel_rfl) (by kernel_rfl) Tryd.underlying201 Tryd.underlying54 (by kernel_rfl) (by kernel_rfl) h.tail.tail)
set_option maxRecDepth 100000 in
set_option maxHeartbeats 4000000 in
theorem walk (x0 : Int) (a1 : Option Addr) (n1 c1 : Nat) (xss1 : List (List Int)) (w : World) (b0 : I64 x0) (h1 : RS w 0 w.heap.size a1 n1 xss1) (b1 : ∀ xs ∈ xss1, ∀ x ∈ xs, I64 x) (hT : T10 w.heap.size w) :
    Calls Tryd.prog 5 #[.int .i64 x0, .slice a1 n1 c1] w fun e w' => e = .returned (.bool true) ∧ Below w.heap.size w w' := by
  have m1 := h1.max
  have q0 := b0; unfold I64 at q0
  by_cases s1 : n1 + numsIn xss1 ≤ 1048576
  · skip
    have z1 : leftOf (1048576) (n1 + numsIn xss1) = ((1048576 - (n1 + numsIn xss1) : Nat) : Int) := by unfold leftOf; rw [if_pos s1]; omega
    replace z1 := Lib.hid z1
    go_enter Tryd.func5, Tryd.ntmps5
    have B0 : Below w.heap.size w w := Below.refl _ _
    go_wp2_with fail
    ((with_reducible refine (szS0_any _ _ _ xss1 _ h1).mono ?_); rintro e w' ⟨rfl, rfl⟩)
    rw [z1.out]
    go_wp2_with fail
    ((with_reducible refine (toS_any _ _ _ xss1 _ (h1.below B0 (Nat.le_refl _)) (by omega) (by omega)).mono ?_); rintro e w1 ⟨T1, rfl, t1, f1⟩)
    have y1 := f1.size
    have B1 : Below w.heap.size w w1 := below_then B0 f1 (by omega)
    clear B0
    go_wp2_with fail
    ((with_reducible refine (s_GroupElements_any _ x0 q0 _ _ _ xss1 t1.rs (by omega)).mono ?_); rintro e w2 ⟨p0A, p0n, p0c, p0, p1, rfl, Hp, op0, lp0, f2⟩)
    have y2 := f2.size
    have B2 : Below w.heap.size w w2 := below_then B1 f2 (by omega)
    have t1 := t1.below f2 (by omega)
    clear B1
    clear t1
    go_wp2_with fail
    ((with_reducible refine (toS_any _ _ _ xss1 _ (h1.below B2 (Nat.le_refl _)) (by omega) (by omega)).mono ?_); rintro e w3 ⟨T3, rfl, t3, f3⟩)
    have y3 := f3.size
    have B3 : Below w.heap.size w w3 := below_then B2 f3 (by omega)
    have op0 := op0.below f3 (by omega)
    clear B2
    go_wp2_with fail
    ((with_reducible refine (i_GroupElements_any _ x0 q0 _ _ _ xss1 t3.rs (by omega) (hT.on B3) (by omega)).mono ?_); rintro e w4 ⟨q0A, q0n, q0c, q0, q1, rfl, Hq, oq0, lq0, f4⟩)
    have y4 := f4.size
    have B4 : Below w.heap.size w w4 := below_then B3 f4 (by omega)
    have op0 := op0.below f4 (by omega)
    have t3 := t3.below f4 (by omega)
    clear B3
    obtain ⟨rfl, rfl⟩ : p0 = q0 ∧ p1 = q1 := by have e := Hp.out.trans Hq.out.symm; simpa using e
    clear Hq
    go_wp2_with fail
    ((with_reducible refine (eqS_any _ _ _ _ _ _ _ _ _ oq0.rs op0.rs (by omega) (by omega)).mono ?_); rintro e w5 ⟨rfl, f5⟩)
    have y5 := f5.size
    have B5 : Below w.heap.size w w5 := below_then B4 f5 (by omega)
    have op0 := op0.below f5 (by omega)
    have t3 := t3.below f5 (by omega)
    have oq0 := oq0.below f5 (by omega)
    clear B4
    go_wp2_with fail
    ((with_reducible refine (toS_any _ _ _ xss1 _ (h1.below B5 (Nat.le_refl _)) (by omega) (by omega)).mono ?_); rintro e w6 ⟨T6, rfl, t6, f6⟩)
    have y6 := f6.size
    have B6 : Below w.heap.size w w6 := below_then B5 f6 (by omega)
    have op0 := op0.below f6 (by omega)
    have t3 := t3.below f6 (by omega)
    have oq0 := oq0.below f6 (by omega)
    clear B5
    go_wp2_with fail
    ((with_reducible refine (eqS_any _ _ _ _ _ _ _ _ _ t3.rs t6.rs (by omega) (by omega)).mono ?_); rintro e w7 ⟨rfl, f7⟩)
    have y7 := f7.size
    have B7 : Below w.heap.size w w7 := below_then B6 f7 (by omega)
    have op0 := op0.below f7 (by omega)
    have t3 := t3.below f7 (by omega)
    have oq0 := oq0.below f7 (by omega)
    have t6 := t6.below f7 (by omega)
    clear B6
    clear t6
    go_wp2_with fail
    ((with_reducible refine (markS_any _ _ _ _ _ _ _ _ t3 (by omega) (by omega) (by omega)).mono ?_); rintro e w8 ⟨rfl, t3, f8⟩)
    have y8 := f8.size
    have B8 : Below w.heap.size w w8 := B7.trans (f8.below (by omega) (by omega))
    have op0 := op0.keep (Same.of_chg f8 (by omega) (by omega))
    have oq0 := oq0.keep (Same.of_chg f8 (by omega) (by omega))
    clear B7
    go_wp2_with fail
    ((with_reducible refine (eqS_any _ _ _ _ _ _ _ _ _ oq0.rs op0.rs (by omega) (by omega)).mono ?_); rintro e w9 ⟨rfl, f9⟩)
    have y9 := f9.size
    have B9 : Below w.heap.size w w9 := below_then B8 f9 (by omega)
    have op0 := op0.below f9 (by omega)
    have t3 := t3.below f9 (by omega)
    have oq0 := oq0.below f9 (by omega)
    clear B8
    go_wp2_with fail
    ((with_reducible refine (markS_any _ _ _ _ _ _ _ _ oq0 (by omega) (by omega) (by omega)).mono ?_); rintro e w10 ⟨rfl, oq0, f10⟩)
    have y10 := f10.size
    have B10 : Below w.heap.size w w10 := B9.trans (f10.below (by omega) (by omega))
    have op0 := op0.keep (Same.of_chg f10 (by omega) (by omega))
    have t3 := t3.keep (Same.of_chg f10 (by omega) (by omega))
    clear B9
    go_wp2_with fail
    ((with_reducible refine (heldS_any _ _ _ _ _ _ _ _ oq0.rs (by omega) (by omega) (by omega)).mono ?_); rintro e w11 ⟨rfl, f11⟩)
    have y11 := f11.size
    have B11 : Below w.heap.size w w11 := below_then B10 f11 (by omega)
    have op0 := op0.below f11 (by omega)
    have t3 := t3.below f11 (by omega)
    have oq0 := oq0.below f11 (by omega)
    clear B10
    clear t3
    go_wp2_with fail
    ((with_reducible refine (toS_any _ _ _ xss1 _ (h1.below B11 (Nat.le_refl _)) (by omega) (by omega)).mono ?_); rintro e w12 ⟨T12, rfl, t12, f12⟩)
    have y12 := f12.size
    have B12 : Below w.heap.size w w12 := below_then B11 f12 (by omega)
    have op0 := op0.below f12 (by omega)
    have oq0 := oq0.below f12 (by omega)
    clear B11
    go_wp2_with fail
    ((with_reducible refine (i_GroupElements_any _ x0 q0 _ _ _ xss1 t12.rs (by omega) (hT.on B12) (by omega)).mono ?_); rintro e w13 ⟨h0A, h0n, h0c, h0, h1, rfl, Hh, oh0, lh0, f13⟩)
    have y13 := f13.size
    have B13 : Below w.heap.size w w13 := below_then B12 f13 (by omega)
    have op0 := op0.below f13 (by omega)
    have oq0 := oq0.below f13 (by omega)
    have t12 := t12.below f13 (by omega)
    clear B12
    obtain ⟨rfl, rfl⟩ : p0 = h0 ∧ p1 = h1 := by have e := Hp.out.trans Hh.out.symm; simpa using e
    clear Hh
    go_wp2_with fail
    ((with_reducible refine (eqS_any _ _ _ _ _ _ _ _ _ oh0.rs op0.rs (by omega) (by omega)).mono ?_); rintro e w14 ⟨rfl, f14⟩)
    have y14 := f14.size
    have B14 : Below w.heap.size w w14 := below_then B13 f14 (by omega)
    have op0 := op0.below f14 (by omega)
    have oq0 := oq0.below f14 (by omega)
    have t12 := t12.below f14 (by omega)
    have oh0 := oh0.below f14 (by omega)
    clear B13
    go_wp2_with fail
    ((with_reducible refine (heldS_any _ _ _ _ _ _ _ _ oq0.rs (by omega) (by omega) (by omega)).mono ?_); rintro e w15 ⟨rfl, f15⟩)
    have y15 := f15.size
    have B15 : Below w.heap.size w w15 := below_then B14 f15 (by omega)
    have op0 := op0.below f15 (by omega)
    have oq0 := oq0.below f15 (by omega)
    have t12 := t12.below f15 (by omega)
    have oh0 := oh0.below f15 (by omega)
    clear B14
    go_wp2_with fail
    go_ret
    exact ⟨rfl, B15⟩
  · have z1 : leftOf (1048576) (n1 + numsIn xss1) = -1 := by unfold leftOf; rw [if_neg s1]
    replace z1 := Lib.hid z1
    go_enter Tryd.func5, Tryd.ntmps5
    go_wp2_with fail
    ((with_reducible refine (szS0_any _ _ _ xss1 _ h1).mono ?_); rintro e w' ⟨rfl, rfl⟩)
    rw [z1.out]
    go_wp2_with fail
    go_ret
    exact ⟨rfl, Below.refl _ _⟩
/-- a world in which the listed variables lie meets the condition -/
theorem door_met (os : Os) (args : Array Value) : laidMetH Tryd.prog Rows.fnExactGroupElementsRow.laid ((World.laidAll Tryd.prog os Rows.fnExactGroupElementsRow.laid).forCall (fun _ _ => 0) ⟨#[], args, []⟩).memory :=
  by rw [MakeChecks.laidMetH_plain _ _ _ (by kernel_rfl)]; exact laidMet_laidAll _ (by kernel_rfl) (by kernel_rfl)
set_option maxRecDepth 100000 in
theorem lifted (os : Os) (started : os.Started) (H : Type) (enc : TypeId × Value → H) :
    ReturnsInHanded {} Tryd.checked os 5 .any (fun w args => (Rows.fnExactGroupElementsSpec.pre enc Tryd.prog Tryd.f5 [] false w args ∧ laidMetH Tryd.prog Rows.fnExactGroupElementsRow.laid w) ∧ sizedMet enc Tryd.prog Tryd.f5 (OpenSpec.ofChange Rows.fnExactGroupElementsSpec) false w args)
      (Rows.fnExactGroupElementsSpec.post enc Tryd.prog Tryd.f5 false true false false) := by
  refine returnsInHanded_of_change_and (C := Tryd.checked) (X := fun w _ => laidMetH Tryd.prog Rows.fnExactGroupElementsRow.laid w) (fun _ _ _ hh h => h.of_heap hh) own started (by kernel_rfl) Tryd.func5
    (ChangeSpec.witness_shaped (enc := enc) (C := Tryd.checked) (os := os) (X := fun w _ => laidMetH Tryd.prog Rows.fnExactGroupElementsRow.laid w) false (World.laidAll Tryd.prog os Rows.fnExactGroupElementsRow.laid) #[.int .i64 0, .slice none 0 0] 8 (World.laidAll_os _ _ _) (World.shaped_of_ZipB (by kernel_rfl) (by kernel_rfl)) (by kernel_rfl) (by kernel_rfl) (by kernel_rfl) (door_met os _)) ?_
  intro W base args ds gs before hval0 hW _ _ hL _
  have hval : ∀ (j : Nat) t v, Tryd.f5.params[j]? = some t → args[j]? = some v → Value.okWide Tryd.prog W .any base t v := hval0
  have hW' := hW
  obtain ⟨p, q, hA0, hV, rfl, hfz, hnd⟩ := hW
  have hA : DataW.TrodAll enc Tryd.prog W 0 (fun _ => true) true Tryd.f5.params.toList args.toList ds p := hA0
  rw [Tryd.params5] at hA hval
  obtain ⟨v0, vs0, d0, ds0, p0, q0, hargs, rfl, rfl, h0, r0⟩ := trodAll_cons hA
  obtain ⟨v1, vs1, d1, ds1, p1, q1, rfl, rfl, rfl, h1, r1⟩ := trodAll_cons r0
  obtain ⟨rfl, rfl, rfl⟩ := trodAll_nil r1
  obtain rfl : args = #[v0, v1] := by cases args; simp_all
  obtain ⟨rfl, rfl⟩ := trodVars_none hV
  obtain ⟨x0, rfl, rfl, rfl, w0⟩ := open_int Tryd.underlying2 (hval 0 2 v0 rfl rfl) h0
  obtain ⟨a1, n1, c1, rfl⟩ := okWide_slice Tryd.underlying33 (hval 1 33 v1 rfl rfl)
  have k1 := h1
  have lt1 : ∀ x ∈ p1, x.block < W.heap.size := by obtain ⟨m, hm⟩ := k1; exact DataW.trod_lt m _ _ _ hm
  obtain ⟨xss1, w1, b1⟩ := open_RS Tryd.underlying33 Tryd.underlying24 Tryd.underlying2 (by kernel_rfl) (by kernel_rfl) h1
  clear hA0 hval0
  refine (walk x0 a1 n1 c1 xss1 W (bounds_i64 w0) w1 b1 (t10 hL)).mono fun e W' ⟨he, bel⟩ => ?_
  subst he
  exact ⟨_, rfl, _, _, _, [], _, [], hW', trodAll_mk1 (shut_bool Tryd.underlying4 _), (trodAll_cons_mk (shut_int Tryd.underlying2 w0) (trodAll_cons_mk (Below.trod laidOut (by kernel_rfl) (of_decide_eq_true (by kernel_rfl)) k1 bel lt1) trodAll_mk0)), rfl, bel.frame _, fun h => by cases h⟩
theorem over : Rows.fnExactGroupElementsRow.holds Tryd.pinned (OpenSpec.ofChange Rows.fnExactGroupElementsSpec) :=
  OpenClaim.holds_of_wide 5 Tryd.f5 rfl rfl rfl rfl rfl rfl rfl ⟨rfl, rfl, rfl, rfl, rfl⟩ rfl rfl rfl rfl rfl (by kernel_rfl) Tryd.func5 (by kernel_rfl)
    (of_decide_eq_true (by kernel_rfl)) (by unfold Func.isWrapper; first | (rw [if_pos (by decide +kernel)]; kernel_rfl) | (rw [if_neg (by decide +kernel)]; exact ⟨rfl, rfl⟩))
    (fun os started H enc _ => lifted os started H enc)
/-- THE STATEMENT -/
theorem proved : Rows.FnExactGroupElementsCardSaid :=
  Claim7.holds_tied_plain_at .later [] [.data, .data, .data] true _ true
    over (fun _ h => by cases h) (by kernel_rfl) (fun _ h => by cases h) fnExactGroupElements_row_tie rfl ⟨rfl, rfl⟩ (by kernel_rfl) rfl
    (fun f fn hf hfn => by
      obtain rfl : f = 5 := Option.some.inj ((show Tryd.prog.funcNamed "loop.example/g01108/laws.FnExactGroupElements" = some 5 by kernel_rfl).symm.trans hf) |>.symm
      obtain rfl : fn = Tryd.f5 := (Option.some.inj (Tryd.func5.symm.trans hfn)).symm
      exact ⟨by kernel_rfl, fun j t ht => by
        rw [Tryd.params5] at ht
        have hm : t ∈ [2, 33] := by simpa using Array.mem_of_getElem? ht
        have hall : ([2, 33].all fun u => !Tryd.prog.wantsStandIn u) = true := by kernel_rfl
        exact (show Tryd.prog.wantsStandIn t = false by simpa using List.all_eq_true.1 hall t hm)⟩)
    (by kernel_rfl)
end Go.Proofs.YtcjnhiglfkcmiaaDoor.fnExactGroupElements
