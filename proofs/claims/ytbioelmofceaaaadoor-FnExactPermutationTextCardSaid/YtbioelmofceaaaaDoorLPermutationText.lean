/- FnExactPermutationText: the program's PermutationText and the reference's return the same for all arguments, the arguments stay as they were, and the results are memory of their own. No condition. -/
import Derived.Test.YtbioelmofceaaaaDoorRows
import Derived.Test.YtbioelmofceaaaaDoorTie
import Derived.Test.YtbioelmofceaaaaDoorCards
import Derived.ProofKit
import Derived.LaidMore
import Derived.OpenShut
import Derived.Stop.Joined
import Derived.Stop.LaidErr
import Derived.SevenTiedAt
import Derived.Lib.LaidTab
import Derived.MakeChecks
import Derived.Test.YtbioelmofceaaaaDoorOpen
import Derived.Test.YtbioelmofceaaaaDoorLawI
import Derived.Test.YtbioelmofceaaaaDoorPtxX
namespace Go.Proofs.YtbioelmofceaaaaDoor.fnExactPermutationText
open Go.ChangeShapes Go.WideShapes Go.ChangeAt Go.RowKit
open Go.ChangeMaps (open_string shut_string)
set_option linter.unusedVariables false
theorem own : ownKnob Tryd.prog.godebug = none := by kernel_rfl
theorem laidOut : laidOutB Tryd.prog = true := by kernel_rfl
/-- what the condition gives the walk: the table of the powers of ten -/
theorem t10 {W : World} (h : laidMetH Tryd.prog Rows.fnExactPermutationTextRow.laid W) : T10 W.heap.size W := by
  rw [MakeChecks.laidMetH_plain _ _ _ (by kernel_rfl)] at h
  exact Lib.tabBelow_of_tabIs (Lib.tabIs_of_head (g := 3) (t := 188) (e := 60) (n := 20) (by kernel_rfl) (by kernel_rfl) Tryd.underlying188 Tryd.underlying60 (by kernel_rfl) (by kernel_rfl) h.tail.tail)
set_option maxRecDepth 100000 in
set_option maxHeartbeats 4000000 in
theorem walk (a0 : Option Addr) (n0 c0 : Nat) (xs0 : List Int) (w : World) (h0 : RI w 0 w.heap.size a0 n0 xs0) (b0 : ∀ x ∈ xs0, I64 x) (hT : T10 w.heap.size w) :
    Calls Tryd.prog 3 #[.slice a0 n0 c0] w fun e w' => e = .returned (.bool true) ∧ Below w.heap.size w w' := by
  have m0 := h0.max
  by_cases s0 : n0 ≤ 1048576
  · skip
    have t0 : decide ((1048576 : Int) < (n0 : Int)) = false := by simp; omega
    go_enter Tryd.func3, Tryd.ntmps3
    have B0 : Below w.heap.size w w := Below.refl _ _
    go_wp2_with fail
    ((with_reducible refine (toI_any _ _ _ xs0 _ 0 w.heap.size (h0.below B0 (Nat.le_refl _)) (by omega) (by omega)).mono ?_); rintro e w1 ⟨T1, rfl, t1, f1⟩)
    have y1 := f1.size
    have B1 : Below w.heap.size w w1 := below_then B0 f1 (by omega)
    clear B0
    go_wp2_with fail
    ((with_reducible refine (s_PermutationText_any _ _ _ _ xs0 t1.ri (by omega)).mono ?_); rintro e w2 ⟨p0, p1, rfl, Hp, f2⟩)
    have y2 := f2.size
    have B2 : Below w.heap.size w w2 := below_then B1 f2 (by omega)
    have t1 := t1.below f2 (by omega)
    clear B1
    clear t1
    go_wp2_with fail
    ((with_reducible refine (toI_any _ _ _ xs0 _ 0 w.heap.size (h0.below B2 (Nat.le_refl _)) (by omega) (by omega)).mono ?_); rintro e w3 ⟨T3, rfl, t3, f3⟩)
    have y3 := f3.size
    have B3 : Below w.heap.size w w3 := below_then B2 f3 (by omega)
    clear B2
    go_wp2_with fail
    ((with_reducible refine (i_PermutationText_any _ _ _ _ xs0 t3.ri (by omega) (hT.on B3) (by omega)).mono ?_); rintro e w4 ⟨q0, q1, rfl, Hq, f4⟩)
    have y4 := f4.size
    have B4 : Below w.heap.size w w4 := below_then B3 f4 (by omega)
    have t3 := t3.below f4 (by omega)
    clear B3
    obtain ⟨rfl, rfl⟩ : p0 = q0 ∧ p1 = q1 := by have e := Hp.out.trans Hq.out.symm; simpa using e
    clear Hq
    go_wp2_with fail
    ((with_reducible refine (toI_any _ _ _ xs0 _ 0 w.heap.size (h0.below B4 (Nat.le_refl _)) (by omega) (by omega)).mono ?_); rintro e w5 ⟨T5, rfl, t5, f5⟩)
    have y5 := f5.size
    have B5 : Below w.heap.size w w5 := below_then B4 f5 (by omega)
    have t3 := t3.below f5 (by omega)
    clear B4
    go_wp2_with fail
    ((with_reducible refine (eqI_any _ _ _ _ _ _ _ _ _ _ _ _ _ t3.ri t5.ri (by omega) (by omega)).mono ?_); rintro e w6 ⟨rfl, f6⟩)
    have y6 := f6.size
    have B6 : Below w.heap.size w w6 := below_then B5 f6 (by omega)
    have t3 := t3.below f6 (by omega)
    have t5 := t5.below f6 (by omega)
    clear B5
    clear t5
    go_wp2_with fail
    go_ret
    exact ⟨rfl, B6⟩
  · have t0 : decide ((1048576 : Int) < (n0 : Int)) = true := by simp; omega
    go_enter Tryd.func3, Tryd.ntmps3
    go_wp2_with fail
    go_ret
    exact ⟨rfl, Below.refl _ _⟩
/-- the heap that the program's own start leaves meets the condition -/
theorem door_met (os : Os) (args : Array Value) : laidMetH Tryd.prog Rows.fnExactPermutationTextRow.laid ((World.doorLaid Tryd.prog 34 os).forCall (fun _ _ => 0) ⟨#[], args, []⟩).memory :=
  laidMetH_of_parts3 (fuel := 8) (laidMet_of_run' 8 (by kernel_rfl) (by kernel_rfl)) (by kernel_rfl) (by kernel_rfl)
set_option maxRecDepth 100000 in
theorem lifted (os : Os) (started : os.Started) (H : Type) (enc : TypeId × Value → H) :
    ReturnsInHanded {} Tryd.checked os 3 .any (fun w args => (Rows.fnExactPermutationTextSpec.pre enc Tryd.prog Tryd.f3 [] false w args ∧ laidMetH Tryd.prog Rows.fnExactPermutationTextRow.laid w) ∧ sizedMet enc Tryd.prog Tryd.f3 (OpenSpec.ofChange Rows.fnExactPermutationTextSpec) false w args)
      (Rows.fnExactPermutationTextSpec.post enc Tryd.prog Tryd.f3 false true false false) := by
  refine returnsInHanded_of_change_and (C := Tryd.checked) (X := fun w _ => laidMetH Tryd.prog Rows.fnExactPermutationTextRow.laid w) (fun _ _ _ hh h => h.of_heap hh) own started (by kernel_rfl) Tryd.func3
    (ChangeSpec.witness_shaped (enc := enc) (C := Tryd.checked) (os := os) (X := fun w _ => laidMetH Tryd.prog Rows.fnExactPermutationTextRow.laid w) false (World.doorLaid Tryd.prog 34 os) #[.slice none 0 0] 8 rfl (World.shaped_of_RefB (by kernel_rfl) (by kernel_rfl)) (by kernel_rfl) (by kernel_rfl) (by kernel_rfl) (door_met os _)) ?_
  intro W base args ds gs before hval0 hW _ _ hL _
  have hval : ∀ (j : Nat) t v, Tryd.f3.params[j]? = some t → args[j]? = some v → Value.okWide Tryd.prog W .any base t v := hval0
  have hW' := hW
  obtain ⟨p, q, hA0, hV, rfl, hfz, hnd⟩ := hW
  have hA : DataW.TrodAll enc Tryd.prog W 0 (fun _ => true) true Tryd.f3.params.toList args.toList ds p := hA0
  rw [Tryd.params3] at hA hval
  obtain ⟨v0, vs0, d0, ds0, p0, q0, hargs, rfl, rfl, h0, r0⟩ := trodAll_cons hA
  obtain ⟨rfl, rfl, rfl⟩ := trodAll_nil r0
  obtain rfl : args = #[v0] := by cases args; simp_all
  obtain ⟨rfl, rfl⟩ := trodVars_none hV
  obtain ⟨a0, n0, c0, rfl⟩ := okWide_slice Tryd.underlying22 (hval 0 22 v0 rfl rfl)
  have k0 := h0
  have lt0 : ∀ x ∈ p0, x.block < W.heap.size := by obtain ⟨m, hm⟩ := k0; exact DataW.trod_lt m _ _ _ hm
  obtain ⟨xs0, w0, b0⟩ := open_RI Tryd.underlying22 Tryd.underlying2 (by kernel_rfl) h0
  clear hA0 hval0
  refine (walk a0 n0 c0 xs0 W w0 b0 (t10 hL)).mono fun e W' ⟨he, bel⟩ => ?_
  subst he
  exact ⟨_, rfl, _, _, _, [], _, [], hW', trodAll_mk1 (shut_bool Tryd.underlying4 _), (trodAll_cons_mk (Below.trod laidOut (by kernel_rfl) (of_decide_eq_true (by kernel_rfl)) k0 bel lt0) trodAll_mk0), rfl, bel.frame _, fun h => by cases h⟩
theorem over : Rows.fnExactPermutationTextRow.holds Tryd.pinned (OpenSpec.ofChange Rows.fnExactPermutationTextSpec) :=
  OpenClaim.holds_of_wide 3 Tryd.f3 rfl rfl rfl rfl rfl rfl rfl ⟨rfl, rfl, rfl, rfl, rfl⟩ rfl rfl rfl rfl rfl (by kernel_rfl) Tryd.func3 (by kernel_rfl)
    (of_decide_eq_true (by kernel_rfl)) (by unfold Func.isWrapper; first | (rw [if_pos (by decide +kernel)]; kernel_rfl) | (rw [if_neg (by decide +kernel)]; exact ⟨rfl, rfl⟩))
    (fun os started H enc _ => lifted os started H enc)
/-- THE STATEMENT -/
theorem proved : Rows.FnExactPermutationTextCardSaid :=
  Claim7.holds_tied_plain_at .later [] [.data, .data, .data] true _ false
    over (fun _ h => by cases h) (by kernel_rfl) (fun _ h => by cases h) fnExactPermutationText_row_tie rfl ⟨rfl, rfl⟩ (by kernel_rfl) rfl
    (fun f fn hf hfn => by
      obtain rfl : f = 3 := Option.some.inj ((show Tryd.prog.funcNamed "loop.example/g01108/laws.FnExactPermutationText" = some 3 by kernel_rfl).symm.trans hf) |>.symm
      obtain rfl : fn = Tryd.f3 := (Option.some.inj (Tryd.func3.symm.trans hfn)).symm
      exact ⟨by kernel_rfl, fun j t ht => by
        rw [Tryd.params3] at ht
        have hm : t ∈ [22] := by simpa using Array.mem_of_getElem? ht
        have hall : ([22].all fun u => !Tryd.prog.wantsStandIn u) = true := by kernel_rfl
        exact (show Tryd.prog.wantsStandIn t = false by simpa using List.all_eq_true.1 hall t hm)⟩)
    (by kernel_rfl)
end Go.Proofs.YtbioelmofceaaaaDoor.fnExactPermutationText
