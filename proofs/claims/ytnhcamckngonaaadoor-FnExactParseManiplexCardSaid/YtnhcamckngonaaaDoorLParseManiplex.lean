/- FnExactParseManiplex: the program's ParseManiplex and the reference's return the same for all arguments, the arguments stay as they were, and the results are memory of their own. No condition. -/
import Derived.Test.YtnhcamckngonaaaDoorRows
import Derived.Test.YtnhcamckngonaaaDoorTie
import Derived.Test.YtnhcamckngonaaaDoorCards
import Derived.ProofKit
import Derived.LaidMore
import Derived.OpenShut
import Derived.Stop.Joined
import Derived.Stop.LaidErr
import Derived.SevenTiedAt
import Derived.Lib.LaidTab
import Derived.MakeChecks
import Derived.Lay
import Derived.Test.YtnhcamckngonaaaDoorOpen
import Derived.Test.YtnhcamckngonaaaDoorLawI
import Derived.Test.YtnhcamckngonaaaDoorOpenS
import Derived.Test.YtnhcamckngonaaaDoorLawS
import Derived.Test.YtnhcamckngonaaaDoorLawM
import Derived.Test.YtnhcamckngonaaaDoorPmX
import Derived.Test.YtnhcamckngonaaaDoorCrd
import Derived.Test.YtnhcamckngonaaaDoorCrdE
namespace Go.Proofs.YtnhcamckngonaaaDoor.fnExactParseManiplex
open Go.ChangeShapes Go.WideShapes Go.ChangeAt Go.RowKit
open Go.ChangeMaps (open_string shut_string)
set_option linter.unusedVariables false
theorem own : ownKnob Tryd.prog.godebug = none := by kernel_rfl
theorem laidOut : laidOutB Tryd.prog = true := by kernel_rfl
/-- what the condition gives the walk: the table of the powers of ten -/
theorem t10 {W : World} (h : laidMetH Tryd.prog Rows.fnExactParseManiplexRow.laid W) : T10 W.heap.size W := by
  rw [MakeChecks.laidMetH_plain _ _ _ (by kernel_rfl)] at h
  exact Lib.tabBelow_of_tabIs (Lib.tabIs_of_head (g := 3) (t := 136) (e := 74) (n := 20) (by kernel_rfl) (by kernel_rfl) Tryd.underlying136 Tryd.underlying74 (by kernel_rfl) (by kernel_rfl) h.tail.tail)
theorem evs {W : World} (h : laidMetH Tryd.prog Rows.fnExactParseManiplexRow.laid W) : EV W.heap.size W := by
  rw [MakeChecks.laidMetH_plain _ _ _ (by kernel_rfl)] at h
  exact ev_of h.tail.tail.tail.tail h.tail.tail.tail.tail.tail
set_option maxRecDepth 100000 in
set_option maxHeartbeats 8000000 in
theorem walk (l0 : List UInt8) (w : World)  (hTw : T10 w.heap.size w) (hMw : MX w.heap.size w) (hEw : EV w.heap.size w) :
    Calls Tryd.prog 4 #[.string (strB l0)] w fun e w' => e = .returned (.bool true) ∧ Below w.heap.size w w' := by
  by_cases s0 : l0.length ≤ 1048576
  · skip
    have t0 : ¬ ((1048576 : Int) < (l0.length : Int)) := by omega
    go_enter Tryd.func4, Tryd.ntmps4
    have B0 : Below w.heap.size w w := Below.refl _ _
    go_wp2_with fail
    ((with_reducible refine (s_ParseManiplex_any l0 (by omega) _).mono ?_); rintro e w1 ⟨p0A, p0n, p0c, p0, p1, rfl, Hp, op0, lp0, f1⟩)
    have y1 := f1.size
    have B1 : Below w.heap.size w w1 := below_then B0 f1 (by omega)
    clear B0
    have f2 : Below w1.heap.size w1 (w1.alloc (.cells #[.slice p0A p0n p0c] 35)) := (Below.refl _ _).alloc (Nat.le_refl _) _
    have Z2 : (w1.alloc (.cells #[.slice p0A p0n p0c] 35)).heap.size = w1.heap.size + 1 := by simp
    have D2_0 : (w1.alloc (.cells #[.slice p0A p0n p0c] 35)).cell? ⟨w1.heap.size, 0, none⟩ = some (.slice p0A p0n p0c) := by simp
    have op0 := op0.below f2 (by omega)
    go_wp2_with fail
    obtain ⟨w2, hq2⟩ : ∃ w2 : World, (w1.alloc (.cells #[.slice p0A p0n p0c] 35)) = w2 := ⟨_, rfl⟩
    rw [hq2] at f2 Z2 D2_0 op0  ⊢
    clear hq2
    have y2 := f2.size
    have B2 : Below w.heap.size w w2 := below_then B1 f2 (by omega)
    clear B1
    go_wp2_with fail
    ((with_reducible refine (i_ParseManiplex_any l0 (by omega) _ (hTw.on B2) (hEw.on B2) (hMw.on B2) (by omega)).mono ?_); rintro e w3 ⟨q0A, q0n, q0c, q0, q1, rfl, Hq, oq0, lq0, f3⟩)
    have y3 := f3.size
    have B3 : Below w.heap.size w w3 := below_then B2 f3 (by omega)
    have op0 := op0.below f3 (by omega)
    have D2_0 := (f3.cell (p := ⟨w1.heap.size, 0, none⟩) (by simp; omega)).trans D2_0
    clear B2
    have f4 : Below w3.heap.size w3 (w3.alloc (.cells #[.slice q0A q0n q0c] 35)) := (Below.refl _ _).alloc (Nat.le_refl _) _
    have Z4 : (w3.alloc (.cells #[.slice q0A q0n q0c] 35)).heap.size = w3.heap.size + 1 := by simp
    have D4_0 : (w3.alloc (.cells #[.slice q0A q0n q0c] 35)).cell? ⟨w3.heap.size, 0, none⟩ = some (.slice q0A q0n q0c) := by simp
    have op0 := op0.below f4 (by omega)
    have D2_0 := (f4.cell (p := ⟨w1.heap.size, 0, none⟩) (by simp; omega)).trans D2_0
    have oq0 := oq0.below f4 (by omega)
    go_wp2_with fail
    obtain ⟨w4, hq4⟩ : ∃ w4 : World, (w3.alloc (.cells #[.slice q0A q0n q0c] 35)) = w4 := ⟨_, rfl⟩
    rw [hq4] at f4 Z4 D4_0 op0 D2_0 oq0  ⊢
    clear hq4
    have y4 := f4.size
    have B4 : Below w.heap.size w w4 := below_then B3 f4 (by omega)
    clear B3
    obtain ⟨rfl, rfl⟩ : p0 = q0 ∧ p1 = q1 := by have e := Hp.out.trans Hq.out.symm; simpa [and_assoc] using e
    clear Hq
    go_wp2_with fail
    ((with_reducible refine (eqM_any _ _ _ _ _ _ _ _ _ oq0.rs op0.rs (by omega) (by omega)).mono ?_); rintro e w5 ⟨rfl, f5⟩)
    have y5 := f5.size
    have B5 : Below w.heap.size w w5 := below_then B4 f5 (by omega)
    have op0 := op0.below f5 (by omega)
    have D2_0 := (f5.cell (p := ⟨w1.heap.size, 0, none⟩) (by simp; omega)).trans D2_0
    have oq0 := oq0.below f5 (by omega)
    have D4_0 := (f5.cell (p := ⟨w3.heap.size, 0, none⟩) (by simp; omega)).trans D4_0
    clear B4
    go_wp2_with fail
    ((with_reducible refine (markM_any _ _ _ _ _ _ _ _ oq0 (by omega) (by omega) (by omega)).mono ?_); rintro e w6 ⟨rfl, oq0, f6⟩)
    have y6 := f6.size
    have B6 : Below w.heap.size w w6 := B5.trans (f6.below (by omega) (by omega))
    have op0 := op0.keep (Same.of_chg f6 (by omega) (by omega))
    have D2_0 := (World.cell?_of_block (w := w5) (a := ⟨w1.heap.size, 0, none⟩) (f6.block _ (by first | omega | (simp; done) | (simp; omega)) (by first | omega | (simp; done) | (simp; omega)))).trans D2_0
    have D4_0 := (World.cell?_of_block (w := w5) (a := ⟨w3.heap.size, 0, none⟩) (f6.block _ (by first | omega | (simp; done) | (simp; omega)) (by first | omega | (simp; done) | (simp; omega)))).trans D4_0
    clear B5
    go_wp2_with fail
    ((with_reducible refine (heldM_any _ _ _ _ _ _ _ _ oq0.rs (by omega) (by omega) (by omega)).mono ?_); rintro e w7 ⟨rfl, f7⟩)
    have y7 := f7.size
    have B7 : Below w.heap.size w w7 := below_then B6 f7 (by omega)
    have op0 := op0.below f7 (by omega)
    have D2_0 := (f7.cell (p := ⟨w1.heap.size, 0, none⟩) (by simp; omega)).trans D2_0
    have oq0 := oq0.below f7 (by omega)
    have D4_0 := (f7.cell (p := ⟨w3.heap.size, 0, none⟩) (by simp; omega)).trans D4_0
    clear B6
    go_wp2_with fail
    ((with_reducible refine (i_ParseManiplex_any l0 (by omega) _ (hTw.on B7) (hEw.on B7) (hMw.on B7) (by omega)).mono ?_); rintro e w8 ⟨h0A, h0n, h0c, h0, h1, rfl, Hh, oh0, lh0, f8⟩)
    have y8 := f8.size
    have B8 : Below w.heap.size w w8 := below_then B7 f8 (by omega)
    have op0 := op0.below f8 (by omega)
    have D2_0 := (f8.cell (p := ⟨w1.heap.size, 0, none⟩) (by simp; omega)).trans D2_0
    have oq0 := oq0.below f8 (by omega)
    have D4_0 := (f8.cell (p := ⟨w3.heap.size, 0, none⟩) (by simp; omega)).trans D4_0
    clear B7
    have f9 : Below w8.heap.size w8 (w8.alloc (.cells #[.slice h0A h0n h0c] 35)) := (Below.refl _ _).alloc (Nat.le_refl _) _
    have Z9 : (w8.alloc (.cells #[.slice h0A h0n h0c] 35)).heap.size = w8.heap.size + 1 := by simp
    have D9_0 : (w8.alloc (.cells #[.slice h0A h0n h0c] 35)).cell? ⟨w8.heap.size, 0, none⟩ = some (.slice h0A h0n h0c) := by simp
    have op0 := op0.below f9 (by omega)
    have D2_0 := (f9.cell (p := ⟨w1.heap.size, 0, none⟩) (by simp; omega)).trans D2_0
    have oq0 := oq0.below f9 (by omega)
    have D4_0 := (f9.cell (p := ⟨w3.heap.size, 0, none⟩) (by simp; omega)).trans D4_0
    have oh0 := oh0.below f9 (by omega)
    go_wp2_with fail
    obtain ⟨w9, hq9⟩ : ∃ w9 : World, (w8.alloc (.cells #[.slice h0A h0n h0c] 35)) = w9 := ⟨_, rfl⟩
    rw [hq9] at f9 Z9 D9_0 op0 D2_0 oq0 D4_0 oh0  ⊢
    clear hq9
    have y9 := f9.size
    have B9 : Below w.heap.size w w9 := below_then B8 f9 (by omega)
    clear B8
    obtain ⟨rfl, rfl⟩ : p0 = h0 ∧ p1 = h1 := by have e := Hp.out.trans Hh.out.symm; simpa [and_assoc] using e
    clear Hh
    go_wp2_with fail
    ((with_reducible refine (eqM_any _ _ _ _ _ _ _ _ _ oh0.rs op0.rs (by omega) (by omega)).mono ?_); rintro e w10 ⟨rfl, f10⟩)
    have y10 := f10.size
    have B10 : Below w.heap.size w w10 := below_then B9 f10 (by omega)
    have op0 := op0.below f10 (by omega)
    have D2_0 := (f10.cell (p := ⟨w1.heap.size, 0, none⟩) (by simp; omega)).trans D2_0
    have oq0 := oq0.below f10 (by omega)
    have D4_0 := (f10.cell (p := ⟨w3.heap.size, 0, none⟩) (by simp; omega)).trans D4_0
    have oh0 := oh0.below f10 (by omega)
    have D9_0 := (f10.cell (p := ⟨w8.heap.size, 0, none⟩) (by simp; omega)).trans D9_0
    clear B9
    go_wp2_with fail
    ((with_reducible refine (heldM_any _ _ _ _ _ _ _ _ oq0.rs (by omega) (by omega) (by omega)).mono ?_); rintro e w11 ⟨rfl, f11⟩)
    have y11 := f11.size
    have B11 : Below w.heap.size w w11 := below_then B10 f11 (by omega)
    have op0 := op0.below f11 (by omega)
    have D2_0 := (f11.cell (p := ⟨w1.heap.size, 0, none⟩) (by simp; omega)).trans D2_0
    have oq0 := oq0.below f11 (by omega)
    have D4_0 := (f11.cell (p := ⟨w3.heap.size, 0, none⟩) (by simp; omega)).trans D4_0
    have oh0 := oh0.below f11 (by omega)
    have D9_0 := (f11.cell (p := ⟨w8.heap.size, 0, none⟩) (by simp; omega)).trans D9_0
    clear B10
    go_wp2_with fail
    go_ret
    exact ⟨rfl, B11⟩
  · have t0 : (1048576 : Int) < (l0.length : Int) := by omega
    go_enter Tryd.func4, Tryd.ntmps4
    go_wp2_with fail
    go_ret
    exact ⟨rfl, Below.refl _ _⟩
/-- a world in which the listed variables lie meets the condition -/
theorem door_met (os : Os) (args : Array Value) : laidMetH Tryd.prog Rows.fnExactParseManiplexRow.laid ((World.laidAll Tryd.prog os Rows.fnExactParseManiplexRow.laid).forCall (fun _ _ => 0) ⟨#[], args, []⟩).memory :=
  by rw [MakeChecks.laidMetH_plain _ _ _ (by kernel_rfl)]; exact laidMet_laidAll _ (by kernel_rfl) (by kernel_rfl)
set_option maxRecDepth 100000 in
theorem lifted (os : Os) (started : os.Started) (H : Type) (enc : TypeId × Value → H) :
    ReturnsInHanded {} Tryd.checked os 4 .any (fun w args => (Rows.fnExactParseManiplexSpec.pre enc Tryd.prog Tryd.f4 [] false w args ∧ laidMetH Tryd.prog Rows.fnExactParseManiplexRow.laid w) ∧ sizedMet enc Tryd.prog Tryd.f4 (OpenSpec.ofChange Rows.fnExactParseManiplexSpec) false w args)
      (Rows.fnExactParseManiplexSpec.post enc Tryd.prog Tryd.f4 false true false false) := by
  refine handed_and_shaped (C := Tryd.checked) (X := fun w _ => laidMetH Tryd.prog Rows.fnExactParseManiplexRow.laid w) (fun _ _ _ hh h => h.of_heap hh) own started (by kernel_rfl) Tryd.func4
    (ChangeSpec.witness_shaped (enc := enc) (C := Tryd.checked) (os := os) (X := fun w _ => laidMetH Tryd.prog Rows.fnExactParseManiplexRow.laid w) false (World.laidAll Tryd.prog os Rows.fnExactParseManiplexRow.laid) #[.string ⟨#[]⟩] 8 (World.laidAll_os _ _ _) (World.shaped_of_ZipB (by kernel_rfl) (by kernel_rfl)) (by kernel_rfl) (by kernel_rfl) (by kernel_rfl) (door_met os _)) ?_
  intro W base args ds gs before hval0 hW hL hsh
  have hval : ∀ (j : Nat) t v, Tryd.f4.params[j]? = some t → args[j]? = some v → Value.okWide Tryd.prog W .any base t v := hval0
  have hW' := hW
  obtain ⟨p, q, hA0, hV, rfl, hfz, hnd⟩ := hW
  have hA : DataW.TrodAll enc Tryd.prog W 0 (fun _ => true) true Tryd.f4.params.toList args.toList ds p := hA0
  rw [Tryd.params4] at hA hval
  obtain ⟨v0, vs0, dd0, ds0, p0, q0, hargs, rfl, rfl, h0, rr0⟩ := trodAll_cons hA
  obtain ⟨rfl, rfl, rfl⟩ := trodAll_nil rr0
  obtain rfl : args = #[v0] := by cases args; simp_all
  obtain ⟨rfl, rfl⟩ := trodVars_none hV
  obtain ⟨s0, rfl, rfl, rfl, w0⟩ := open_string Tryd.underlying9 (hval 0 9 v0 rfl rfl) h0
  clear hA0 hval0
  refine (walk s0.data.toList W  (t10 hL) (mx_of_shaped hsh) (evs hL)).mono fun e W' ⟨he, bel⟩ => ?_
  subst he
  exact ⟨_, rfl, _, _, _, [], _, [], hW', trodAll_mk1 (shut_bool Tryd.underlying4 _), (trodAll_cons_mk (shut_string Tryd.underlying9 w0) trodAll_mk0), rfl, bel.frame _, fun h => by cases h⟩
theorem over : Rows.fnExactParseManiplexRow.holds Tryd.pinned (OpenSpec.ofChange Rows.fnExactParseManiplexSpec) :=
  OpenClaim.holds_of_wide 4 Tryd.f4 rfl rfl rfl rfl rfl rfl rfl ⟨rfl, rfl, rfl, rfl, rfl⟩ rfl rfl rfl rfl rfl (by kernel_rfl) Tryd.func4 (by kernel_rfl)
    (of_decide_eq_true (by kernel_rfl)) (by unfold Func.isWrapper; first | (rw [if_pos (by decide +kernel)]; kernel_rfl) | (rw [if_neg (by decide +kernel)]; exact ⟨rfl, rfl⟩))
    (fun os started H enc _ => lifted os started H enc)
/-- THE STATEMENT -/
theorem proved : Rows.FnExactParseManiplexCardSaid :=
  Claim7.holds_tied_plain_at .later [] [.data, .data, .data, .data, .sentinel, .sentinel, .pinned] true _ true
    over (fun _ h => by cases h) (by kernel_rfl) (fun _ h => by cases h) fnExactParseManiplex_row_tie rfl ⟨rfl, rfl⟩ (by kernel_rfl) rfl
    (fun f fn hf hfn => by
      obtain rfl : f = 4 := Option.some.inj ((show Tryd.prog.funcNamed "loop.example/g01108/laws.FnExactParseManiplex" = some 4 by kernel_rfl).symm.trans hf) |>.symm
      obtain rfl : fn = Tryd.f4 := (Option.some.inj (Tryd.func4.symm.trans hfn)).symm
      exact ⟨by kernel_rfl, fun j t ht => by
        rw [Tryd.params4] at ht
        have hm : t ∈ [9] := by simpa using Array.mem_of_getElem? ht
        have hall : ([9].all fun u => !Tryd.prog.wantsStandIn u) = true := by kernel_rfl
        exact (show Tryd.prog.wantsStandIn t = false by simpa using List.all_eq_true.1 hall t hm)⟩)
    (by kernel_rfl)
end Go.Proofs.YtnhcamckngonaaaDoor.fnExactParseManiplex
