/- FnPermutationOrders: powers of a permutation: exponents add, the inverse undoes, the lengths of cycles sum up to the number of points, the order is the least exponent that gives the identity: the law returns true for every code. No condition. -/
import Derived.Test.YtdaljeghdiknpaaRows
import Derived.Test.YtdaljeghdiknpaaOpen
import Derived.Test.YtdaljeghdiknpaaOpenB
import Derived.Test.YtdaljeghdiknpaaDrwP
import Derived.Test.YtdaljeghdiknpaaDrwO
import Derived.Test.YtdaljeghdiknpaaPermX
import Derived.Test.YtdaljeghdiknpaaLen
import Derived.Test.YtdaljeghdiknpaaLike
import Derived.Test.YtdaljeghdiknpaaPow
import Derived.Test.YtdaljeghdiknpaaOrd
import Derived.Test.YtdaljeghdiknpaaPorQ
namespace Go.Proofs.Ytdaljeghdiknpaa.fnPermutationOrders
open Go.ChangeShapes Go.WideShapes Go.ChangeAt Go.RowKit
open Go.ChangeMaps (open_string shut_string)
set_option linter.unusedVariables false
theorem own : ownKnob Try.prog.godebug = none := by kernel_rfl
theorem laidOut : laidOutB Try.prog = true := by kernel_rfl
theorem big_any (a : Option Addr) (n c : Nat) (w : World) (hn : n ≤ 9223372036854775807) : Calls Try.prog 11 #[.slice a n c] w fun e w' => e = .returned (.bool (decide (4096 < n))) ∧ w = w' := by
  have hd : decide ((4096 : Int) < (n : Int)) = decide (4096 < n) := decide_eq_decide.2 (by omega)
  replace hd := Lib.hid hd
  go_enter Try.func11, Try.ntmps11
  go_wp2_with fail
  go_ret
  exact ⟨ret_bool hd.out, rfl⟩
set_option maxRecDepth 100000 in
set_option maxHeartbeats 8000000 in
theorem walk (a : Option Addr) (n c : Nat) (bs : List Int) (w : World) (h : Rd w 0 w.heap.size a n (bs.map (Value.int .u8))) (hb : ∀ x ∈ bs, 0 ≤ x ∧ x < 256) :
    Calls Try.prog 9 #[.slice a n c] w fun e w' => e = .returned (.bool true) ∧ Below w.heap.size w w' := by
  have hm := h.2.1
  have hbig := big_any a n c w hm
  by_cases h4 : 4096 < n
  · rw [decide_eq_true h4] at hbig
    replace hb := Lib.hid hb
    go_enter Try.func9, Try.ntmps9
    go_wp2_with fail
    ((with_reducible refine hbig.mono ?_); rintro e w' ⟨rfl, rfl⟩)
    go_wp2_with fail
    go_ret
    exact ⟨rfl, Below.refl _ _⟩
  · rw [decide_eq_false h4] at hbig
    have hdr := drawPermutationOrder_any w a n c bs h hb (by omega)
    replace hb := Lib.hid hb
    go_enter Try.func9, Try.ntmps9
    go_wp2_with fail
    ((with_reducible refine hbig.mono ?_); rintro e w' ⟨rfl, rfl⟩)
    go_wp2_with fail
    ((with_reducible refine hdr.mono ?_); rintro e w1 ⟨A1, n1, c1, rfl, xs, o1, hn1, f1⟩)
    clear hbig hdr
    have y1 := f1.size
    have B1 : Below w.heap.size w w1 := f1
    have hl1 := Lib.hid o1.lenI
    go_wp2_with fail
    ((with_reducible refine (i_PermutationOrder_any w1 A1 n1 c1 xs o1.ri (by omega)).mono ?_); rintro e w2 ⟨x, code, rfl, H2, f2⟩)
    have y2 := f2.size
    have B2 := below_then B1 f2 (by omega)
    have o1 := o1.below f2 (by omega)
    go_wp2_with fail
    ((with_reducible refine (s_PermutationOrder_any w2 A1 n1 c1 xs o1.ri (by omega)).mono ?_); rintro e w3 ⟨x2, code2, rfl, H3, f3⟩)
    obtain ⟨rfl, rfl⟩ := Prod.mk.inj (H2.out.trans H3.out.symm)
    clear H3
    have y3 := f3.size
    have B3 := below_then B2 f3 (by omega)
    have o1 := o1.below f3 (by omega)
    go_wp2_with fail
    ((with_reducible refine (i_IsPermutation_any w3 A1 n1 c1 xs o1.ri (by omega)).mono ?_); rintro e w4 ⟨b4, rfl, G4, f4⟩)
    have y4 := f4.size
    have B4 := below_then B3 f4 (by omega)
    have o1 := o1.below f4 (by omega)
    go_wp2_with fail
    ((with_reducible refine (s_IsPermutation_any w4 A1 n1 c1 xs o1.ri (by omega)).mono ?_); rintro e w5 ⟨b5, rfl, G5, f5⟩)
    have y5 := f5.size
    have B5 := below_then B4 f5 (by omega)
    have o1 := o1.below f5 (by omega)
    obtain rfl : b4 = b5 := G4.out.trans G5.out.symm
    clear G5
    cases hok : isPermB xs with
    | false =>
      obtain rfl : b4 = false := by rw [G4.out, hok]
      have hcode : code = 1 := by have e := H2.out; unfold orderF at e; rw [hok] at e; exact (Prod.mk.inj e).2
      subst hcode
      replace hok := Lib.hid hok
      go_wp2_with fail
      go_ret
      exact ⟨rfl, B5⟩
    | true =>
      obtain rfl : b4 = true := by rw [G4.out, hok]
      clear G4
      replace hok := Lib.hid (isPermB_iff.1 hok)
      have hoc := orderF_cases hok.out H2.out
      clear H2
      have hc1 : (code == 1) = false := by rcases hoc with ⟨g, _⟩ | ⟨g, _⟩ <;> simp [g]
      replace hoc := Lib.hid hoc
      have hrb := roll_any w5 a n c bs ((h.keep (Same.of_below B5 (Nat.le_refl _))).more (Nat.le_refl _) (by omega)) hb.out (by omega) 701 (by omega)
      rw [show ((701 : Nat) : Int) = 701 from rfl] at hrb
      clear f1 f2 f3 f4 f5 B1 B2 B3 B4
      go_wp2_with fail
      ((with_reducible refine hrb.mono ?_); rintro e w6 ⟨Hs, rfl, s6, f6⟩)
      clear hrb
      have y6 := f6.size
      have B6 := below_then B5 f6 (by omega)
      have hsl := s6.lt
      have o1 := o1.below f6 (by omega)
      have hbn := below_nat w6 _ _ _ _ _ _ _ _ s6 200 (by omega) (by omega)
      go_wp2_with fail
      ((with_reducible refine hbn.mono ?_); rintro e w7 ⟨v1, rfl, hv1, i7, h7, s7, C7⟩)
      clear hbn s6
      have y7 := C7.size
      have B7 : Below w.heap.size w w7 := B6.trans (C7.below (by omega) (by omega))
      have o1 := o1.keep (Same.of_chg C7 (by omega) (.inl (by omega)))
      have hbn := below_nat w7 _ _ _ _ _ _ _ _ s7 200 (by omega) (by omega)
      go_wp2_with fail
      ((with_reducible refine hbn.mono ?_); rintro e w8 ⟨v2, rfl, hv2, i8, h8, s8, C8⟩)
      clear hbn s7
      have y8 := C8.size
      have B8 : Below w.heap.size w w8 := B7.trans (C8.below (by omega) (by omega))
      have o1 := o1.keep (Same.of_chg C8 (by omega) (.inl (by omega)))
      clear s8 C8 C7 f6 B7 B6 B5
      go_wp2_with fail
      ((with_reducible refine (i_PowerPermutation_any w8 A1 n1 c1 xs o1.ri (by omega) ((v1 : Int) - 100) ⟨by omega, by omega⟩).mono ?_); rintro e w9 ⟨A9, n9, c9, l9, k9, rfl, H9, o9, hn9, f9⟩)
      obtain ⟨rfl, rfl⟩ := Prod.mk.inj (H9.out.trans (powF_ok hok.out (by omega)))
      clear H9
      have y9 := f9.size
      have B9 := below_then B8 f9 (by omega)
      have o1 := o1.below f9 (by omega)
      go_wp2_with fail
      ((with_reducible refine (i_PowerPermutation_any w9 A1 n1 c1 xs o1.ri (by omega) ((v2 : Int) - 100) ⟨by omega, by omega⟩).mono ?_); rintro e w10 ⟨A10, n10, c10, l10, k10, rfl, H10, o10, hn10, f10⟩)
      obtain ⟨rfl, rfl⟩ := Prod.mk.inj (H10.out.trans (powF_ok hok.out (by omega)))
      clear H10
      have y10 := f10.size
      have B10 := below_then B9 f10 (by omega)
      have o1 := o1.below f10 (by omega)
      have o9 := o9.below f10 (by omega)
      go_wp2_with fail
      ((with_reducible refine (i_PowerPermutation_any w10 A1 n1 c1 xs o1.ri (by omega) ((v1 : Int) - 100 + ((v2 : Int) - 100)) ⟨by omega, by omega⟩).mono ?_); rintro e w11 ⟨A11, n11, c11, l11, k11, rfl, H11, o11, hn11, f11⟩)
      obtain ⟨rfl, rfl⟩ := Prod.mk.inj (H11.out.trans (powF_ok hok.out (by omega)))
      clear H11
      have y11 := f11.size
      have B11 := below_then B10 f11 (by omega)
      have o1 := o1.below f11 (by omega)
      have o9 := o9.below f11 (by omega)
      have o10 := o10.below f11 (by omega)
      go_wp2_with fail
      ((with_reducible refine (i_ThenPermutation_any w11 A9 n9 c9 _ o9.ri (by omega) A10 n10 c10 _ o10.ri (by omega)).mono ?_); rintro e w12 ⟨A12, n12, c12, l12, k12, rfl, H12, o12, hn12, f12⟩)
      obtain ⟨rfl, rfl⟩ := Prod.mk.inj (H12.out.trans (thenF_pow hok.out (by omega) (by omega)))
      clear H12
      have y12 := f12.size
      have B12 := below_then B11 f12 (by omega)
      have o1 := o1.below f12 (by omega)
      have o11 := o11.below f12 (by omega)
      clear o9 o10
      go_wp2_with fail
      ((with_reducible refine (i_InversePermutation_any w12 A1 n1 c1 xs o1.ri (by omega)).mono ?_); rintro e w13 ⟨A13, n13, c13, l13, k13, rfl, H13, o13, hn13, f13⟩)
      obtain ⟨rfl, rfl⟩ : l13 = invL xs ∧ k13 = 0 := by have e := H13.out; unfold invF at e; rw [if_pos (isPermB_iff.2 hok.out)] at e; exact Prod.mk.inj e
      clear H13
      have y13 := f13.size
      have B13 := below_then B12 f13 (by omega)
      have o1 := o1.below f13 (by omega)
      have o11 := o11.below f13 (by omega)
      have o12 := o12.below f13 (by omega)
      go_wp2_with fail
      ((with_reducible refine (i_ThenPermutation_any w13 A1 n1 c1 xs o1.ri (by omega) A13 n13 c13 _ o13.ri (by omega)).mono ?_); rintro e w14 ⟨A14, n14, c14, l14, k14, rfl, H14, o14, hn14, f14⟩)
      obtain ⟨rfl, rfl⟩ := Prod.mk.inj (H14.out.trans (thenF_inv hok.out))
      clear H14
      have y14 := f14.size
      have B14 := below_then B13 f14 (by omega)
      have o1 := o1.below f14 (by omega)
      have o11 := o11.below f14 (by omega)
      have o12 := o12.below f14 (by omega)
      clear o13
      rw [hl1.out] at o14
      have hl14 := o14.lenI
      rw [idL_length] at hl14
      obtain rfl : n1 = n14 := hl14
      go_wp2_with fail
      ((with_reducible refine (i_CycleLengths_any w14 A1 n1 c1 xs o1.ri (by omega)).mono ?_); rintro e w15 ⟨A15, n15, c15, l15, k15, rfl, H15, o15, hn15, f15⟩)
      obtain ⟨rfl, rfl⟩ : l15 = lensL xs ∧ k15 = 0 := by have e := H15.out; unfold lengthsF at e; rw [if_pos (isPermB_iff.2 hok.out)] at e; exact Prod.mk.inj e
      clear H15
      have y15 := f15.size
      have B15 := below_then B14 f15 (by omega)
      have o1 := o1.below f15 (by omega)
      have o11 := o11.below f15 (by omega)
      have o12 := o12.below f15 (by omega)
      have o14 := o14.below f15 (by omega)
      go_wp2_with fail
      ((with_reducible refine (like_any A12 n12 c12 _ A11 n11 c11 _ w15 _ _ _ _ o12.ri o11.ri (by omega) (by omega)).mono ?_); rintro e w16 ⟨rfl, f16⟩)
      rw [decide_eq_true rfl]
      have y16 := f16.size
      have B16 := below_then B15 f16 (by omega)
      have o1 := o1.below f16 (by omega)
      have o14 := o14.below f16 (by omega)
      have o15 := o15.below f16 (by omega)
      have hl15 := o15.lenI
      have hle15 := lensL_length xs
      have hl4 := hok.out.le
      have hSum := sum_any A15 n15 c15 (lensL xs) w16 o15.ri (fun x hx => by have := lensL_mem hx; omega) (by omega)
      rw [lensL_sum hok.out, hl1.out] at hSum
      have hn4 : n1 ≤ 400 := by have := hl1.out; omega
      clear hl15 hle15 hl4 o12 o11 o15
      go_wp2_with fail
      ((with_reducible refine hSum.mono ?_); rintro e w17 ⟨rfl, rfl⟩)
      clear hSum
      go_wp2_with fail
      go_loopw [25] (fun iv wr => ∃ i : Nat, i ≤ n1 ∧ iv = .int .i64 i ∧ w16 = wr) (fun iv _ => n1 - (intOf iv).toNat)
      case atStart => exact ⟨0, by omega, rfl, by first | rfl | trivial⟩
      case round =>
        obtain ⟨i, hi, rfl, rfl⟩ := hrel
        by_cases hin : i < n1
        · have hid := idL_get hin
          obtain ⟨b2, u2, xv, rfl, _, _, hxp, hcp⟩ := o14.ri.at_ hin
          obtain rfl : (i : Int) = xv := by rw [hid] at hxp; exact Option.some.inj hxp
          clear hxp hid
          have dd : ((i : Int) != (i : Int)) = false := by simp
          go_wp2_with fail
          go_roundw
          case rel => exact ⟨i + 1, by omega, by go_num, by first | rfl | trivial⟩
          case measure => simp [intOf]; omega
        · obtain ⟨D, hD⟩ : ∃ D, lcmL (cycLens xs) = D := ⟨_, rfl⟩
          have hDp : 0 < D := by rw [← hD]; exact ord_pos
          by_cases hco : code = 0 ∧ D ≤ 1000000000
          · obtain ⟨rfl, hD9⟩ := hco
            obtain rfl : x = (D : Int) := by rcases hoc.out with ⟨_, g⟩ | ⟨g, _⟩; rw [g, hD]; cases g
            have d9 : decide ((1000000000 : Int) < (D : Int)) = false := by simp; omega
            have hpo := pow_ord hok.out (by rw [hD]; exact hD9)
            rw [hD, hl1.out] at hpo
            have hpl : ∀ m : Nat, 0 < m → m < D → powL xs (m : Int) ≠ idL n1 := fun m h0 h1 => by rw [← hl1.out]; exact pow_less hok.out (by rw [hD]; exact hD9) h0 (by rw [hD]; exact h1)
            replace hpo := Lib.hid hpo
            replace hpl := Lib.hid hpl
            clear hD hoc hc1
            have hC := i_PowerPermutation_any w16 A1 n1 c1 xs o1.ri (by omega) (D : Int) ⟨by omega, by omega⟩
            go_wp2_with fail
            ((with_reducible refine hC.mono ?_); rintro e w18 ⟨A18, n18, c18, l18, k18, rfl, H18, o18, hn18, f18⟩)
            obtain ⟨rfl, rfl⟩ := Prod.mk.inj (H18.out.trans (powF_ok hok.out (by omega)))
            clear H18 hC
            rw [hpo.out] at o18
            have y18 := f18.size
            have B18 := below_then B16 f18 (by omega)
            have o1 := o1.below f18 (by omega)
            have o14 := o14.below f18 (by omega)
            go_wp2_with fail
            ((with_reducible refine (like_any A18 n18 c18 _ A14 n1 c14 _ w18 _ _ _ _ o18.ri o14.ri (by omega) (by omega)).mono ?_); rintro e w19 ⟨rfl, f19⟩)
            rw [decide_eq_true rfl]
            have y19 := f19.size
            have B19 := below_then B18 f19 (by omega)
            have o1 := o1.below f19 (by omega)
            have o14 := o14.below f19 (by omega)
            clear o18
            go_wp2_with fail
            go_loopw [28] (fun qv wr => ∃ q : Nat, 2 ≤ q ∧ q ≤ 400 ∧ qv = .int .i64 q ∧ Below w19.heap.size w19 wr) (fun qv _ => 400 - (intOf qv).toNat)
            case atStart => exact ⟨2, by omega, by omega, rfl, Below.refl _ _⟩
            case round =>
              obtain ⟨q, hq2, hq4, rfl, hB⟩ := hrel
              have hBw := below_then B19 hB (by omega)
              have yr := hB.size
              by_cases hqo : q ≤ D ∧ q < 400
              · obtain ⟨hqD, hq400⟩ := hqo
                have e1 : decide ((q : Int) ≤ (D : Int)) = true := by simp; omega
                have e2 : decide ((q : Int) < 400) = true := by simp; omega
                have hpos : (0 : Int) < (q : Int) := by omega
                have hq0 : ¬ q = 0 := by omega
                obtain ⟨r, htm, hre⟩ : ∃ r : Nat, Int.tmod (D : Int) (q : Int) = (r : Int) ∧ r = D % q := ⟨D % q, rfl, rfl⟩
                by_cases hr0 : r = 0
                · subst hr0
                  obtain ⟨hm0, hmD⟩ := quo_lt hq2 hre.symm hDp
                  obtain ⟨m, htd, hme⟩ : ∃ m : Nat, Int.tdiv (D : Int) (q : Int) = (m : Int) ∧ m = D / q := ⟨D / q, rfl, rfl⟩
                  rw [← hme] at hm0 hmD
                  have hne := hpl.out m hm0 hmD
                  replace hre := Lib.hid hre
                  replace hme := Lib.hid hme
                  replace hne := Lib.hid hne
                  have o1 := o1.below hB (by omega)
                  have o14 := o14.below hB (by omega)
                  have hC := i_PowerPermutation_any wr A1 n1 c1 xs o1.ri (by omega) (m : Int) ⟨by omega, by omega⟩
                  go_wp2_with fail
                  ((with_reducible refine hC.mono ?_); rintro e w20 ⟨A20, n20, c20, l20, k20, rfl, H20, o20, hn20, f20⟩)
                  obtain ⟨rfl, rfl⟩ := Prod.mk.inj (H20.out.trans (powF_ok hok.out (by omega)))
                  clear H20 hC
                  have y20 := f20.size
                  have o14 := o14.below f20 (by omega)
                  go_wp2_with fail
                  ((with_reducible refine (like_any A20 n20 c20 _ A14 n1 c14 _ w20 _ _ _ _ o20.ri o14.ri (by omega) (by omega)).mono ?_); rintro e w21 ⟨rfl, f21⟩)
                  rw [decide_eq_false hne.out]
                  have B21 := below_then (below_then hB f20 (by omega)) f21 (by omega)
                  go_wp2_with fail
                  go_roundw
                  case rel => exact ⟨q + 1, by omega, by omega, by go_num, B21⟩
                  case measure => simp [intOf]; omega
                · have e3 : ((r : Int) != 0) = true := by simp; omega
                  replace hre := Lib.hid hre
                  go_wp2_with fail
                  go_roundw
                  case rel => exact ⟨q + 1, by omega, by omega, by go_num, hB⟩
                  case measure => simp [intOf]; omega
              · by_cases hqD : q ≤ D
                · have e1 : decide ((q : Int) ≤ (D : Int)) = true := by simp; omega
                  have e2 : decide ((q : Int) < 400) = false := by simp; omega
                  go_wp2_with fail
                  go_ret
                  exact ⟨rfl, hBw⟩
                · have e1 : decide ((q : Int) ≤ (D : Int)) = false := by simp; omega
                  go_wp2_with fail
                  go_ret
                  exact ⟨rfl, hBw⟩
          · by_cases hc0 : code = 0
            · subst hc0
              obtain rfl : x = (D : Int) := by rcases hoc.out with ⟨_, g⟩ | ⟨g, _⟩; rw [g, hD]; cases g
              have d9 : decide ((1000000000 : Int) < (D : Int)) = true := by simp; omega
              clear hoc hc1
              go_wp2_with fail
              go_ret
              exact ⟨rfl, B16⟩
            · have d8 : (code != 0) = true := by simpa using hc0
              clear hoc
              go_wp2_with fail
              go_ret
              exact ⟨rfl, B16⟩
set_option maxRecDepth 100000 in
theorem lifted (os : Os) (started : os.Started) (H : Type) (enc : TypeId × Value → H) :
    ReturnsInHanded {} Try.checked os 9 .any (Rows.fnPermutationOrdersSpec.pre6 enc Try.prog Try.f9 Rows.fnPermutationOrdersRow.domain false) (Rows.fnPermutationOrdersSpec.post enc Try.prog Try.f9 false true false false) := by
  refine returnsInHanded_of_change (C := Try.checked) own started (by kernel_rfl) Try.func9
    (ChangeSpec.witness6 (enc := enc) (C := Try.checked) false ⟨#[], #[.slice none 0 0], []⟩ 8 (by kernel_rfl) (by kernel_rfl) (by kernel_rfl) (by kernel_rfl)) ?_
  intro W base args ds gs before hval0 hW hcnd _
  have hval : ∀ (j : Nat) t v, Try.f9.params[j]? = some t → args[j]? = some v → Value.okWide Try.prog W .any base t v := hval0
  have hW' := hW
  obtain ⟨p, q, hA0, hV, rfl, hfz, hnd⟩ := hW
  have hA : DataW.TrodAll enc Try.prog W 0 (fun _ => true) true Try.f9.params.toList args.toList ds p := hA0
  rw [Try.params9] at hA hval
  obtain ⟨v0, vs0, d0, ds0, p0, q0, hargs, rfl, rfl, h0, r0⟩ := trodAll_cons hA
  obtain ⟨rfl, rfl, rfl⟩ := trodAll_nil r0
  obtain rfl : args = #[v0] := by cases args; simp_all
  obtain ⟨rfl, rfl⟩ := trodVars_none hV
  obtain ⟨a0, n0, c0, rfl⟩ := okWide_slice Try.underlying22 (hval 0 22 v0 rfl rfl)
  have k0 := h0
  have lt0 : ∀ x ∈ p0, x.block < W.heap.size := by obtain ⟨m, hm⟩ := k0; exact DataW.trod_lt m _ _ _ hm
  obtain ⟨xs0, w0, b0⟩ := open_RB Try.underlying22 Try.underlying5 (by kernel_rfl) h0
  clear hA0 hval0
  refine (walk a0 n0 c0 xs0 W w0 b0).mono fun e W' ⟨he, bel⟩ => ?_
  subst he
  exact ⟨_, rfl, _, _, _, [], _, [], hW', trodAll_mk1 (shut_bool Try.underlying4 _), (trodAll_cons_mk (Below.trod laidOut (by kernel_rfl) (of_decide_eq_true (by kernel_rfl)) k0 bel lt0) trodAll_mk0), rfl, bel.frame _, fun h => by cases h⟩
theorem over : Rows.fnPermutationOrdersRow.holds Try.pinned (OpenSpec.ofChange Rows.fnPermutationOrdersSpec) :=
  OpenClaim.holds_of_wide 9 Try.f9 rfl rfl rfl rfl rfl rfl rfl ⟨rfl, rfl, rfl, rfl, rfl⟩ rfl rfl rfl rfl rfl (by kernel_rfl) Try.func9 (by kernel_rfl)
    (of_decide_eq_true (by kernel_rfl)) (by unfold Func.isWrapper; first | (rw [if_pos (by decide +kernel)]; kernel_rfl) | (rw [if_neg (by decide +kernel)]; exact ⟨rfl, rfl⟩))
    (fun os started H enc _ => lifted os started H enc)
/-- THE STATEMENT -/
theorem proved : Rows.FnPermutationOrdersSaid := over
end Go.Proofs.Ytdaljeghdiknpaa.fnPermutationOrders
