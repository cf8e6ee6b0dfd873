/- FnExactManiplexText: the program's ManiplexText and the reference's return the same for all arguments, the arguments stay as they were, and the results are memory of their own. No condition. -/
import Derived.Test.YtbioelmofceaaaaDoorRows
import Derived.Test.YtbioelmofceaaaaDoorTie
import Derived.Test.YtbioelmofceaaaaDoorCards
import Derived.ProofKit
import Derived.LaidMore
import Derived.OpenShut
import Derived.Stop.Joined
import Derived.Stop.LaidErr
import Derived.SevenTiedAt
import Derived.Lib.LaidTab
import Derived.MakeChecks
import Derived.Lay
import Derived.Test.YtbioelmofceaaaaDoorOpen
import Derived.Test.YtbioelmofceaaaaDoorLawI
import Derived.Test.YtbioelmofceaaaaDoorOpenS
import Derived.Test.YtbioelmofceaaaaDoorLawS
import Derived.Test.YtbioelmofceaaaaDoorLawM
import Derived.Test.YtbioelmofceaaaaDoorMtxX
import Derived.Test.YtbioelmofceaaaaDoorCrd
namespace Go.Proofs.YtbioelmofceaaaaDoor.fnExactManiplexText
open Go.ChangeShapes Go.WideShapes Go.ChangeAt Go.RowKit
open Go.ChangeMaps (open_string shut_string)
set_option linter.unusedVariables false
theorem own : ownKnob Tryd.prog.godebug = none := by kernel_rfl
theorem laidOut : laidOutB Tryd.prog = true := by kernel_rfl
/-- what the condition gives the walk: the table of the powers of ten -/
theorem t10 {W : World} (h : laidMetH Tryd.prog Rows.fnExactManiplexTextRow.laid W) : T10 W.heap.size W := by
  rw [MakeChecks.laidMetH_plain _ _ _ (by kernel_rfl)] at h
  exact Lib.tabBelow_of_tabIs (Lib.tabIs_of_head (g := 3) (t := 188) (e := 60) (n := 20) (by kernel_rfl) (by kernel_rfl) Tryd.underlying188 Tryd.underlying60 (by kernel_rfl) (by kernel_rfl) h.tail.tail)
set_option maxRecDepth 100000 in
set_option maxHeartbeats 8000000 in
theorem walk (a0 : Option Addr) (n0 c0 : Nat) (xss0 : List (List Int)) (w : World) (h0 : RS w 0 w.heap.size a0 n0 xss0) (b0 : ∀ xs ∈ xss0, ∀ x ∈ xs, I64 x) (hTw : T10 w.heap.size w) (hMw : MX w.heap.size w) :
    Calls Tryd.prog 5 #[.agg #[.slice a0 n0 c0]] w fun e w' => e = .returned (.bool true) ∧ Below w.heap.size w w' := by
  have m0 := h0.max
  have hR := rs_alloc h0 (Nat.le_refl _) (.cells #[.slice a0 n0 c0] 41)
  have hC0 : (w.alloc (.cells #[.slice a0 n0 c0] 41)).cell? ⟨w.heap.size, 0, none⟩ = some (.slice a0 n0 c0) := by simp
  have hB : Below w.heap.size w (w.alloc (.cells #[.slice a0 n0 c0] 41)) := (Below.refl _ _).alloc (Nat.le_refl _) _
  have hTT := hTw.on hB
  have hMM := hMw.on hB
  by_cases s0 : n0 + numsIn xss0 ≤ 1048576
  · skip
    have z0 := leftOf_pos s0
    replace z0 := Lib.hid z0
    go_enter Tryd.func5, Tryd.ntmps5
    go_wp2_with fail
    obtain ⟨W1, hW⟩ : ∃ W1 : World, (w.alloc (.cells #[.slice a0 n0 c0] 41)) = W1 := ⟨_, rfl⟩
    have hz1 : W1.heap.size = w.heap.size + 1 := by rw [← hW]; simp
    rw [hW] at hTT hMM hR hC0 hB ⊢
    clear hW
    have B0 : Below W1.heap.size W1 W1 := Below.refl _ _
    ((with_reducible refine (szM0_any a0 n0 c0 xss0 _ hR (by omega)).mono ?_); rintro e w1 ⟨rfl, f1⟩)
    rw [z0.out]
    have y1 := f1.size
    have B1 : Below W1.heap.size W1 w1 := below_then B0 f1 (by omega)
    clear B0
    have C0 := (B1.cell (p := ⟨w.heap.size, 0, none⟩) (by simp; omega)).trans hC0
    go_wp2_with fail
    ((with_reducible refine (toM_any a0 n0 c0 xss0 _ (hR.below B1 (by omega)) (by omega) (by omega)).mono ?_); rintro e w2 ⟨T2, rfl, t2, f2⟩)
    have y2 := f2.size
    have B2 : Below W1.heap.size W1 w2 := below_then B1 f2 (by omega)
    clear B1
    clear C0
    go_wp2_with fail
    ((with_reducible refine (s_ManiplexText_any _ T2 n0 n0 xss0 t2.rs (by omega) (Nat.le_refl _)).mono ?_); rintro e w3 ⟨p0, p1, rfl, Hp, f3⟩)
    have y3 := f3.size
    have B3 : Below W1.heap.size W1 w3 := below_then B2 f3 (by omega)
    have t2 := t2.below f3 (by omega)
    clear B2
    clear t2
    have C0 := (B3.cell (p := ⟨w.heap.size, 0, none⟩) (by simp; omega)).trans hC0
    go_wp2_with fail
    ((with_reducible refine (toM_any a0 n0 c0 xss0 _ (hR.below B3 (by omega)) (by omega) (by omega)).mono ?_); rintro e w4 ⟨T4, rfl, t4, f4⟩)
    have y4 := f4.size
    have B4 : Below W1.heap.size W1 w4 := below_then B3 f4 (by omega)
    clear B3
    clear C0
    have f5 : Below w4.heap.size w4 (w4.alloc (.cells #[.slice T4 n0 n0] 44)) := (Below.refl _ _).alloc (Nat.le_refl _) _
    have Z5 : (w4.alloc (.cells #[.slice T4 n0 n0] 44)).heap.size = w4.heap.size + 1 := by simp
    have D5_0 : (w4.alloc (.cells #[.slice T4 n0 n0] 44)).cell? ⟨w4.heap.size, 0, none⟩ = some (.slice T4 n0 n0) := by simp
    have t4 := t4.below f5 (by omega)
    have X0 := (f5.cell (p := ⟨w.heap.size, 0, none⟩) (by simp; omega)).trans ((B4.cell (p := ⟨w.heap.size, 0, none⟩) (by simp; omega)).trans hC0)
    go_wp2_with fail
    obtain ⟨w5, hq5⟩ : ∃ w5 : World, (w4.alloc (.cells #[.slice T4 n0 n0] 44)) = w5 := ⟨_, rfl⟩
    rw [hq5] at f5 Z5 D5_0 t4 X0 ⊢
    clear hq5
    have y5 := f5.size
    have B5 : Below W1.heap.size W1 w5 := below_then B4 f5 (by omega)
    clear B4 X0
    go_wp2_with fail
    ((with_reducible refine (i_ManiplexText_any _ T4 n0 n0 xss0 t4.rs (by omega) (Nat.le_refl _) (hTT.on (B5.mono (by omega))) (hMM.on (B5.mono (by omega))) (by omega)).mono ?_); rintro e w6 ⟨q0, q1, rfl, Hq, f6⟩)
    have y6 := f6.size
    have B6 : Below W1.heap.size W1 w6 := below_then B5 f6 (by omega)
    have t4 := t4.below f6 (by omega)
    have D5_0 := (f6.cell (p := ⟨w4.heap.size, 0, none⟩) (by simp; omega)).trans D5_0
    clear B5
    obtain ⟨rfl, rfl⟩ : p0 = q0 ∧ p1 = q1 := by have e := Hp.out.trans Hq.out.symm; simpa [and_assoc] using e
    clear Hq
    have C0 := (B6.cell (p := ⟨w.heap.size, 0, none⟩) (by simp; omega)).trans hC0
    have Bd := below_drew B6
    have hT := toM_any a0 n0 c0 xss0 w6.drew (rs_drew (hR.below B6 (by omega))) (show _ ≤ w6.heap.size by omega) (by omega)
    have rd := rs_drew t4.rs
    go_wp2_with fail
    go_region_with (first
      | (go_at_call 22; refine hT.mono ?_; rintro e w7 ⟨T7, rfl, t7, f7⟩; have GD5_0 := (f7.cell (p := ⟨w4.heap.size, 0, none⟩) (by simp; omega)).trans D5_0; have y7 : w6.heap.size ≤ w7.heap.size := f7.size; have qe := eqM_any T4 n0 n0 xss0 T7 n0 n0 xss0 w7 (rd.below f7 (show _ ≤ w6.heap.size by omega)) t7.rs (by omega) (Nat.le_refl _))
      | (go_at_call 24; refine qe.mono ?_; rintro e w8 ⟨rfl, f8⟩))
    all_goals
      clear qe hT rd GD5_0
      have f7 : Below w6.heap.size w6 w7 := ⟨f7.os, f7.tape, f7.output, f7.size, f7.block⟩
      clear y7 Bd
      have y7 := f7.size
      have B7 : Below W1.heap.size W1 w7 := below_then B6 f7 (by omega)
      have t4 := t4.below f7 (by omega)
      have D5_0 := (f7.cell (p := ⟨w4.heap.size, 0, none⟩) (by simp; omega)).trans D5_0
      clear B6
      have y8 := f8.size
      have B8 : Below W1.heap.size W1 w8 := below_then B7 f8 (by omega)
      have t4 := t4.below f8 (by omega)
      have D5_0 := (f8.cell (p := ⟨w4.heap.size, 0, none⟩) (by simp; omega)).trans D5_0
      clear B7
      clear C0
      go_wp2_with fail
      go_ret
      exact ⟨rfl, hB.trans (B8.mono (by omega))⟩
  · have z0 := leftOf_neg s0
    replace z0 := Lib.hid z0
    go_enter Tryd.func5, Tryd.ntmps5
    go_wp2_with fail
    ((with_reducible refine (szM0_any a0 n0 c0 xss0 _ hR (by simp)).mono ?_); rintro e w2 ⟨rfl, f2⟩)
    rw [z0.out]
    go_wp2_with fail
    go_ret
    exact ⟨rfl, hB.trans (f2.mono (by simp))⟩
/-- a world in which the listed variables lie meets the condition -/
theorem door_met (os : Os) (args : Array Value) : laidMetH Tryd.prog Rows.fnExactManiplexTextRow.laid ((World.laidAll Tryd.prog os Rows.fnExactManiplexTextRow.laid).forCall (fun _ _ => 0) ⟨#[], args, []⟩).memory :=
  by rw [MakeChecks.laidMetH_plain _ _ _ (by kernel_rfl)]; exact laidMet_laidAll _ (by kernel_rfl) (by kernel_rfl)
set_option maxRecDepth 100000 in
theorem lifted (os : Os) (started : os.Started) (H : Type) (enc : TypeId × Value → H) :
    ReturnsInHanded {} Tryd.checked os 5 .any (fun w args => (Rows.fnExactManiplexTextSpec.pre enc Tryd.prog Tryd.f5 [] false w args ∧ laidMetH Tryd.prog Rows.fnExactManiplexTextRow.laid w) ∧ sizedMet enc Tryd.prog Tryd.f5 (OpenSpec.ofChange Rows.fnExactManiplexTextSpec) false w args)
      (Rows.fnExactManiplexTextSpec.post enc Tryd.prog Tryd.f5 false true false false) := by
  refine handed_and_shaped (C := Tryd.checked) (X := fun w _ => laidMetH Tryd.prog Rows.fnExactManiplexTextRow.laid w) (fun _ _ _ hh h => h.of_heap hh) own started (by kernel_rfl) Tryd.func5
    (ChangeSpec.witness_shaped (enc := enc) (C := Tryd.checked) (os := os) (X := fun w _ => laidMetH Tryd.prog Rows.fnExactManiplexTextRow.laid w) false (World.laidAll Tryd.prog os Rows.fnExactManiplexTextRow.laid) #[.agg #[.slice none 0 0]] 8 (World.laidAll_os _ _ _) (World.shaped_of_ZipB (by kernel_rfl) (by kernel_rfl)) (by kernel_rfl) (by kernel_rfl) (by kernel_rfl) (door_met os _)) ?_
  intro W base args ds gs before hval0 hW hL hsh
  have hval : ∀ (j : Nat) t v, Tryd.f5.params[j]? = some t → args[j]? = some v → Value.okWide Tryd.prog W .any base t v := hval0
  have hW' := hW
  obtain ⟨p, q, hA0, hV, rfl, hfz, hnd⟩ := hW
  have hA : DataW.TrodAll enc Tryd.prog W 0 (fun _ => true) true Tryd.f5.params.toList args.toList ds p := hA0
  rw [Tryd.params5] at hA hval
  obtain ⟨v0, vs0, dd0, ds0, p0, q0, hargs, rfl, rfl, h0, rr0⟩ := trodAll_cons hA
  obtain ⟨rfl, rfl, rfl⟩ := trodAll_nil rr0
  obtain rfl : args = #[v0] := by cases args; simp_all
  obtain ⟨rfl, rfl⟩ := trodVars_none hV
  have kk0 := h0
  have lt0 : ∀ x ∈ p0, x.block < W.heap.size := by obtain ⟨m, hm⟩ := kk0; exact DataW.trod_lt m _ _ _ hm
  obtain ⟨a0, n0, c0, xss0, rfl, w0, b0⟩ := open_RM Tryd.underlying41 (by kernel_rfl) (by kernel_rfl) rfl Tryd.underlying28 Tryd.underlying22 Tryd.underlying2 (by kernel_rfl) (by kernel_rfl) (hval 0 41 v0 rfl rfl) h0
  clear hA0 hval0
  refine (walk a0 n0 c0 xss0 W w0 b0 (t10 hL) (mx_of_shaped hsh)).mono fun e W' ⟨he, bel⟩ => ?_
  subst he
  exact ⟨_, rfl, _, _, _, [], _, [], hW', trodAll_mk1 (shut_bool Tryd.underlying4 _), (trodAll_cons_mk (Below.trod laidOut (by kernel_rfl) (of_decide_eq_true (by kernel_rfl)) kk0 bel lt0) trodAll_mk0), rfl, bel.frame _, fun h => by cases h⟩
theorem over : Rows.fnExactManiplexTextRow.holds Tryd.pinned (OpenSpec.ofChange Rows.fnExactManiplexTextSpec) :=
  OpenClaim.holds_of_wide 5 Tryd.f5 rfl rfl rfl rfl rfl rfl rfl ⟨rfl, rfl, rfl, rfl, rfl⟩ rfl rfl rfl rfl rfl (by kernel_rfl) Tryd.func5 (by kernel_rfl)
    (of_decide_eq_true (by kernel_rfl)) (by unfold Func.isWrapper; first | (rw [if_pos (by decide +kernel)]; kernel_rfl) | (rw [if_neg (by decide +kernel)]; exact ⟨rfl, rfl⟩))
    (fun os started H enc _ => lifted os started H enc)
/-- THE STATEMENT -/
theorem proved : Rows.FnExactManiplexTextCardSaid :=
  Claim7.holds_tied_plain_at .later [] [.data, .data, .data, .data, .pinned] true _ false
    over (fun _ h => by cases h) (by kernel_rfl) (fun _ h => by cases h) fnExactManiplexText_row_tie rfl ⟨rfl, rfl⟩ (by kernel_rfl) rfl
    (fun f fn hf hfn => by
      obtain rfl : f = 5 := Option.some.inj ((show Tryd.prog.funcNamed "loop.example/g01108/laws.FnExactManiplexText" = some 5 by kernel_rfl).symm.trans hf) |>.symm
      obtain rfl : fn = Tryd.f5 := (Option.some.inj (Tryd.func5.symm.trans hfn)).symm
      exact ⟨by kernel_rfl, fun j t ht => by
        rw [Tryd.params5] at ht
        have hm : t ∈ [41] := by simpa using Array.mem_of_getElem? ht
        have hall : ([41].all fun u => !Tryd.prog.wantsStandIn u) = true := by kernel_rfl
        exact (show Tryd.prog.wantsStandIn t = false by simpa using List.all_eq_true.1 hall t hm)⟩)
    (by kernel_rfl)
end Go.Proofs.YtbioelmofceaaaaDoor.fnExactManiplexText
