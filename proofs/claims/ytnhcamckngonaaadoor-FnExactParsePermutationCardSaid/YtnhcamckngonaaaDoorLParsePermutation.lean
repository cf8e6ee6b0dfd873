/- FnExactParsePermutation: the program's ParsePermutation and the reference's return the same for all arguments, the arguments stay as they were, and the results are memory of their own. No condition. -/
import Derived.Test.YtnhcamckngonaaaDoorRows
import Derived.Test.YtnhcamckngonaaaDoorTie
import Derived.Test.YtnhcamckngonaaaDoorCards
import Derived.ProofKit
import Derived.LaidMore
import Derived.OpenShut
import Derived.Stop.Joined
import Derived.Stop.LaidErr
import Derived.SevenTiedAt
import Derived.Lib.LaidTab
import Derived.MakeChecks
import Derived.Lay
import Derived.Test.YtnhcamckngonaaaDoorOpen
import Derived.Test.YtnhcamckngonaaaDoorLawI
import Derived.Test.YtnhcamckngonaaaDoorPsT
import Derived.Test.YtnhcamckngonaaaDoorCrd
import Derived.Test.YtnhcamckngonaaaDoorCrdE
namespace Go.Proofs.YtnhcamckngonaaaDoor.fnExactParsePermutation
open Go.ChangeShapes Go.WideShapes Go.ChangeAt Go.RowKit
open Go.ChangeMaps (open_string shut_string)
set_option linter.unusedVariables false
theorem own : ownKnob Tryd.prog.godebug = none := by kernel_rfl
theorem laidOut : laidOutB Tryd.prog = true := by kernel_rfl
/-- what the condition gives the walk: the table of the powers of ten -/
theorem t10 {W : World} (h : laidMetH Tryd.prog Rows.fnExactParsePermutationRow.laid W) : T10 W.heap.size W := by
  rw [MakeChecks.laidMetH_plain _ _ _ (by kernel_rfl)] at h
  exact Lib.tabBelow_of_tabIs (Lib.tabIs_of_head (g := 3) (t := 136) (e := 74) (n := 20) (by kernel_rfl) (by kernel_rfl) Tryd.underlying136 Tryd.underlying74 (by kernel_rfl) (by kernel_rfl) h.tail.tail)
theorem evs {W : World} (h : laidMetH Tryd.prog Rows.fnExactParsePermutationRow.laid W) : EV W.heap.size W := by
  rw [MakeChecks.laidMetH_plain _ _ _ (by kernel_rfl)] at h
  exact ev_of h.tail.tail.tail.tail h.tail.tail.tail.tail.tail
set_option maxRecDepth 100000 in
set_option maxHeartbeats 8000000 in
theorem walk (x0 : Int) (l1 : List UInt8) (w : World) (b0 : I64 x0) (hT : T10 w.heap.size w) (hM : MX w.heap.size w) (hE : EV w.heap.size w) :
    Calls Tryd.prog 5 #[.int .i64 x0, .string (strB l1)] w fun e w' => e = .returned (.bool true) ∧ Below w.heap.size w w' := by
  have q0 := b0; unfold I64 at q0
  by_cases s1 : l1.length ≤ 1048576
  · skip
    have t1 : ¬ ((1048576 : Int) < (l1.length : Int)) := by omega
    go_enter Tryd.func5, Tryd.ntmps5
    have B0 : Below w.heap.size w w := Below.refl _ _
    go_wp2_with fail
    ((with_reducible refine (s_ParsePermutation_any x0 q0 l1 (by omega) _).mono ?_); rintro e w1 ⟨p0A, p0n, p0c, p0, p1, rfl, Hp, op0, lp0, f1⟩)
    have y1 := f1.size
    have B1 : Below w.heap.size w w1 := below_then B0 f1 (by omega)
    clear B0
    go_wp2_with fail
    ((with_reducible refine (i_ParsePermutation_any x0 q0 l1 (by omega) _ (hT.on B1) (hE.on B1) (hM.on B1) (by omega)).mono ?_); rintro e w2 ⟨q0A, q0n, q0c, q0, q1, rfl, Hq, oq0, lq0, f2⟩)
    have y2 := f2.size
    have B2 : Below w.heap.size w w2 := below_then B1 f2 (by omega)
    have op0 := op0.below f2 (by omega)
    clear B1
    obtain ⟨rfl, rfl⟩ : p0 = q0 ∧ p1 = q1 := by have e := Hp.out.trans Hq.out.symm; simpa using e
    clear Hq
    go_wp2_with fail
    ((with_reducible refine (eqI_any _ _ _ _ _ _ _ _ _ _ _ _ _ oq0.ri op0.ri (by omega) (by omega)).mono ?_); rintro e w3 ⟨rfl, f3⟩)
    have y3 := f3.size
    have B3 : Below w.heap.size w w3 := below_then B2 f3 (by omega)
    have op0 := op0.below f3 (by omega)
    have oq0 := oq0.below f3 (by omega)
    clear B2
    go_wp2_with fail
    ((with_reducible refine (markI_any _ _ _ _ _ _ _ _ oq0 (by omega) (by omega) (by omega)).mono ?_); rintro e w4 ⟨rfl, oq0, f4⟩)
    have y4 := f4.size
    have B4 : Below w.heap.size w w4 := B3.trans (f4.below (by omega) (by omega))
    have op0 := op0.keep (Same.of_chg f4 (by omega) (by omega))
    clear B3
    go_wp2_with fail
    ((with_reducible refine (heldI_any _ _ _ _ _ _ _ oq0.ri (by omega) (by omega) (by omega)).mono ?_); rintro e w5 ⟨rfl, f5⟩)
    have y5 := f5.size
    have B5 : Below w.heap.size w w5 := below_then B4 f5 (by omega)
    have op0 := op0.below f5 (by omega)
    have oq0 := oq0.below f5 (by omega)
    clear B4
    go_wp2_with fail
    ((with_reducible refine (i_ParsePermutation_any x0 q0 l1 (by omega) _ (hT.on B5) (hE.on B5) (hM.on B5) (by omega)).mono ?_); rintro e w6 ⟨h0A, h0n, h0c, h0, h1, rfl, Hh, oh0, lh0, f6⟩)
    have y6 := f6.size
    have B6 : Below w.heap.size w w6 := below_then B5 f6 (by omega)
    have op0 := op0.below f6 (by omega)
    have oq0 := oq0.below f6 (by omega)
    clear B5
    obtain ⟨rfl, rfl⟩ : p0 = h0 ∧ p1 = h1 := by have e := Hp.out.trans Hh.out.symm; simpa using e
    clear Hh
    go_wp2_with fail
    ((with_reducible refine (eqI_any _ _ _ _ _ _ _ _ _ _ _ _ _ oh0.ri op0.ri (by omega) (by omega)).mono ?_); rintro e w7 ⟨rfl, f7⟩)
    have y7 := f7.size
    have B7 : Below w.heap.size w w7 := below_then B6 f7 (by omega)
    have op0 := op0.below f7 (by omega)
    have oq0 := oq0.below f7 (by omega)
    have oh0 := oh0.below f7 (by omega)
    clear B6
    go_wp2_with fail
    ((with_reducible refine (heldI_any _ _ _ _ _ _ _ oq0.ri (by omega) (by omega) (by omega)).mono ?_); rintro e w8 ⟨rfl, f8⟩)
    have y8 := f8.size
    have B8 : Below w.heap.size w w8 := below_then B7 f8 (by omega)
    have op0 := op0.below f8 (by omega)
    have oq0 := oq0.below f8 (by omega)
    have oh0 := oh0.below f8 (by omega)
    clear B7
    go_wp2_with fail
    go_ret
    exact ⟨rfl, B8⟩
  · have t1 : (1048576 : Int) < (l1.length : Int) := by omega
    go_enter Tryd.func5, Tryd.ntmps5
    go_wp2_with fail
    go_ret
    exact ⟨rfl, Below.refl _ _⟩
/-- a world in which the listed variables lie meets the condition -/
theorem door_met (os : Os) (args : Array Value) : laidMetH Tryd.prog Rows.fnExactParsePermutationRow.laid ((World.laidAll Tryd.prog os Rows.fnExactParsePermutationRow.laid).forCall (fun _ _ => 0) ⟨#[], args, []⟩).memory :=
  by rw [MakeChecks.laidMetH_plain _ _ _ (by kernel_rfl)]; exact laidMet_laidAll _ (by kernel_rfl) (by kernel_rfl)
set_option maxRecDepth 100000 in
theorem lifted (os : Os) (started : os.Started) (H : Type) (enc : TypeId × Value → H) :
    ReturnsInHanded {} Tryd.checked os 5 .any (fun w args => (Rows.fnExactParsePermutationSpec.pre enc Tryd.prog Tryd.f5 [] false w args ∧ laidMetH Tryd.prog Rows.fnExactParsePermutationRow.laid w) ∧ sizedMet enc Tryd.prog Tryd.f5 (OpenSpec.ofChange Rows.fnExactParsePermutationSpec) false w args)
      (Rows.fnExactParsePermutationSpec.post enc Tryd.prog Tryd.f5 false true false false) := by
  refine handed_and_shaped (C := Tryd.checked) (X := fun w _ => laidMetH Tryd.prog Rows.fnExactParsePermutationRow.laid w) (fun _ _ _ hh h => h.of_heap hh) own started (by kernel_rfl) Tryd.func5
    (ChangeSpec.witness_shaped (enc := enc) (C := Tryd.checked) (os := os) (X := fun w _ => laidMetH Tryd.prog Rows.fnExactParsePermutationRow.laid w) false (World.laidAll Tryd.prog os Rows.fnExactParsePermutationRow.laid) #[.int .i64 0, .string ⟨#[]⟩] 8 (World.laidAll_os _ _ _) (World.shaped_of_ZipB (by kernel_rfl) (by kernel_rfl)) (by kernel_rfl) (by kernel_rfl) (by kernel_rfl) (door_met os _)) ?_
  intro W base args ds gs before hval0 hW hL hsh
  have hval : ∀ (j : Nat) t v, Tryd.f5.params[j]? = some t → args[j]? = some v → Value.okWide Tryd.prog W .any base t v := hval0
  have hW' := hW
  obtain ⟨p, q, hA0, hV, rfl, hfz, hnd⟩ := hW
  have hA : DataW.TrodAll enc Tryd.prog W 0 (fun _ => true) true Tryd.f5.params.toList args.toList ds p := hA0
  rw [Tryd.params5] at hA hval
  obtain ⟨v0, vs0, d0, ds0, p0, q0, hargs, rfl, rfl, h0, r0⟩ := trodAll_cons hA
  obtain ⟨v1, vs1, d1, ds1, p1, q1, rfl, rfl, rfl, h1, r1⟩ := trodAll_cons r0
  obtain ⟨rfl, rfl, rfl⟩ := trodAll_nil r1
  obtain rfl : args = #[v0, v1] := by cases args; simp_all
  obtain ⟨rfl, rfl⟩ := trodVars_none hV
  obtain ⟨x0, rfl, rfl, rfl, w0⟩ := open_int Tryd.underlying2 (hval 0 2 v0 rfl rfl) h0
  obtain ⟨s1, rfl, rfl, rfl, w1⟩ := open_string Tryd.underlying9 (hval 1 9 v1 rfl rfl) h1
  clear hA0 hval0
  refine (walk x0 s1.data.toList W (bounds_i64 w0)  (t10 hL) (mx_of_shaped hsh) (evs hL)).mono fun e W' ⟨he, bel⟩ => ?_
  subst he
  exact ⟨_, rfl, _, _, _, [], _, [], hW', trodAll_mk1 (shut_bool Tryd.underlying4 _), (trodAll_cons_mk (shut_int Tryd.underlying2 w0) (trodAll_cons_mk (shut_string Tryd.underlying9 w1) trodAll_mk0)), rfl, bel.frame _, fun h => by cases h⟩
theorem over : Rows.fnExactParsePermutationRow.holds Tryd.pinned (OpenSpec.ofChange Rows.fnExactParsePermutationSpec) :=
  OpenClaim.holds_of_wide 5 Tryd.f5 rfl rfl rfl rfl rfl rfl rfl ⟨rfl, rfl, rfl, rfl, rfl⟩ rfl rfl rfl rfl rfl (by kernel_rfl) Tryd.func5 (by kernel_rfl)
    (of_decide_eq_true (by kernel_rfl)) (by unfold Func.isWrapper; first | (rw [if_pos (by decide +kernel)]; kernel_rfl) | (rw [if_neg (by decide +kernel)]; exact ⟨rfl, rfl⟩))
    (fun os started H enc _ => lifted os started H enc)
/-- THE STATEMENT -/
theorem proved : Rows.FnExactParsePermutationCardSaid :=
  Claim7.holds_tied_plain_at .later [] [.data, .data, .data, .data, .sentinel, .sentinel, .pinned] true _ true
    over (fun _ h => by cases h) (by kernel_rfl) (fun _ h => by cases h) fnExactParsePermutation_row_tie rfl ⟨rfl, rfl⟩ (by kernel_rfl) rfl
    (fun f fn hf hfn => by
      obtain rfl : f = 5 := Option.some.inj ((show Tryd.prog.funcNamed "loop.example/g01108/laws.FnExactParsePermutation" = some 5 by kernel_rfl).symm.trans hf) |>.symm
      obtain rfl : fn = Tryd.f5 := (Option.some.inj (Tryd.func5.symm.trans hfn)).symm
      exact ⟨by kernel_rfl, fun j t ht => by
        rw [Tryd.params5] at ht
        have hm : t ∈ [2, 9] := by simpa using Array.mem_of_getElem? ht
        have hall : ([2, 9].all fun u => !Tryd.prog.wantsStandIn u) = true := by kernel_rfl
        exact (show Tryd.prog.wantsStandIn t = false by simpa using List.all_eq_true.1 hall t hm)⟩)
    (by kernel_rfl)
end Go.Proofs.YtnhcamckngonaaaDoor.fnExactParsePermutation
