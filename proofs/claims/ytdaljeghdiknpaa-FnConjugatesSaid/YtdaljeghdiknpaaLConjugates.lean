/- FnConjugates: conjugate permutations have the same numbers of points of cycles, and conjugating by one permutation and then by another one is conjugating by doing both: the law returns true for every code. No condition. -/
import Derived.Test.YtdaljeghdiknpaaRows
import Derived.Test.YtdaljeghdiknpaaOpen
import Derived.Test.YtdaljeghdiknpaaOpenB
import Derived.Test.YtdaljeghdiknpaaDrwC
import Derived.Test.YtdaljeghdiknpaaPermX
import Derived.Test.YtdaljeghdiknpaaLen
import Derived.Test.YtdaljeghdiknpaaLike
import Derived.Test.YtdaljeghdiknpaaPrm
import Derived.Test.YtdaljeghdiknpaaCjP
namespace Go.Proofs.Ytdaljeghdiknpaa.fnConjugates
open Go.ChangeShapes Go.WideShapes Go.ChangeAt Go.RowKit
open Go.ChangeMaps (open_string shut_string)
set_option linter.unusedVariables false
theorem own : ownKnob Try.prog.godebug = none := by kernel_rfl
theorem laidOut : laidOutB Try.prog = true := by kernel_rfl
theorem big_any (a : Option Addr) (n c : Nat) (w : World) (hn : n ≤ 9223372036854775807) : Calls Try.prog 11 #[.slice a n c] w fun e w' => e = .returned (.bool (decide (4096 < n))) ∧ w = w' := by
  have hd : decide ((4096 : Int) < (n : Int)) = decide (4096 < n) := decide_eq_decide.2 (by omega)
  replace hd := Lib.hid hd
  go_enter Try.func11, Try.ntmps11
  go_wp2_with fail
  go_ret
  exact ⟨ret_bool hd.out, rfl⟩
set_option maxRecDepth 100000 in
set_option maxHeartbeats 8000000 in
theorem walk (a : Option Addr) (n c : Nat) (bs : List Int) (w : World) (h : Rd w 0 w.heap.size a n (bs.map (Value.int .u8))) (hb : ∀ x ∈ bs, 0 ≤ x ∧ x < 256) :
    Calls Try.prog 7 #[.slice a n c] w fun e w' => e = .returned (.bool true) ∧ Below w.heap.size w w' := by
  have hm := h.2.1
  have hbig := big_any a n c w hm
  by_cases h4 : 4096 < n
  · rw [decide_eq_true h4] at hbig
    replace hb := Lib.hid hb
    go_enter Try.func7, Try.ntmps7
    go_wp2_with fail
    ((with_reducible refine hbig.mono ?_); rintro e w' ⟨rfl, rfl⟩)
    go_wp2_with fail
    go_ret
    exact ⟨rfl, Below.refl _ _⟩
  · rw [decide_eq_false h4] at hbig
    have hdr := drawConjugate_any w a n c bs h hb (by omega)
    replace hb := Lib.hid hb
    go_enter Try.func7, Try.ntmps7
    go_wp2_with fail
    ((with_reducible refine hbig.mono ?_); rintro e w' ⟨rfl, rfl⟩)
    go_wp2_with fail
    ((with_reducible refine hdr.mono ?_); rintro e w1 ⟨A1, n1, c1, A2, n2, c2, rfl, xs, ys, o1, o2, hn1, hn2, f1⟩)
    clear hbig hdr
    have y1 := f1.size
    have B1 : Below w.heap.size w w1 := f1
    have hl1 := o1.lenI
    have hl2 := o2.lenI
    replace hl1 := Lib.hid hl1
    replace hl2 := Lib.hid hl2
    go_wp2_with fail
    ((with_reducible refine (i_ConjugatePermutation_any w1 A1 n1 c1 xs o1.ri (by omega) A2 n2 c2 ys o2.ri (by omega)).mono ?_); rintro e w2 ⟨A3, n3, c3, zs, code, rfl, H3, o3, hn3, f2⟩)
    have y2 := f2.size
    have B2 := below_then B1 f2 (by omega)
    have o1 := o1.below f2 (by omega)
    have o2 := o2.below f2 (by omega)
    go_wp2_with fail
    ((with_reducible refine (s_ConjugatePermutation_any w2 A1 n1 c1 xs o1.ri (by omega) A2 n2 c2 ys o2.ri (by omega)).mono ?_); rintro e w3 ⟨A4, n4, c4, zs2, code2, rfl, H4, o4, hn4, f3⟩)
    obtain ⟨rfl, rfl⟩ : zs = zs2 ∧ code = code2 := by have e := H3.out.trans H4.out.symm; simpa using e
    clear H4
    have y3 := f3.size
    have B3 := below_then B2 f3 (by omega)
    have o1 := o1.below f3 (by omega)
    have o2 := o2.below f3 (by omega)
    have o3 := o3.below f3 (by omega)
    go_wp2_with fail
    ((with_reducible refine (like_any A3 n3 c3 zs A4 n4 c4 zs w3 _ _ _ _ o3.ri o4.ri (by omega) (by omega)).mono ?_); rintro e w4 ⟨rfl, f4⟩)
    rw [decide_eq_true (rfl : zs = zs)]
    have y4 := f4.size
    have B4 := below_then B3 f4 (by omega)
    have o1 := o1.below f4 (by omega)
    have o2 := o2.below f4 (by omega)
    have o3 := o3.below f4 (by omega)
    clear o4
    cases hok : okTwo xs ys with
    | false =>
      have hcode : code = 1 := by have e := H3.out; unfold conjF at e; rw [hok] at e; simpa using (Prod.mk.inj e).2
      subst hcode
      replace hok := Lib.hid hok
      go_wp2_with fail
      go_ret
      exact ⟨rfl, B4⟩
    | true =>
      have hz : zs = conjL xs ys ∧ code = 0 := by
        have e := H3.out
        unfold conjF at e
        rw [if_pos hok] at e
        exact Prod.mk.inj e
      obtain ⟨rfl, rfl⟩ := hz
      have hP : isPermP xs ∧ isPermP ys ∧ xs.length = ys.length := by unfold okTwo at hok; simp [isPermB_iff] at hok; exact ⟨hok.1.1, hok.1.2, hok.2⟩
      obtain ⟨hpx, hpy, hxy⟩ := hP
      have hzl := o3.lenI
      rw [conjL_length] at hzl
      have hpz := conjL_perm hpx hpy hxy
      have hrb := roll_any w4 a n c bs ((h.keep (Same.of_below B4 (Nat.le_refl _))).more (Nat.le_refl _) (by omega)) hb.out (by omega) 702 (by omega)
      rw [show ((702 : Nat) : Int) = 702 from rfl] at hrb
      replace hok := Lib.hid hok
      clear H3
      go_wp2_with fail
      ((with_reducible refine hrb.mono ?_); rintro e w5 ⟨Hs, rfl, hsrc, f5⟩)
      clear hrb
      have y5 := f5.size
      have B5 := below_then B4 f5 (by omega)
      have hsl := hsrc.lt
      have o1 := o1.below f5 (by omega)
      have o2 := o2.below f5 (by omega)
      have o3 := o3.below f5 (by omega)
      have hpm := perm5_any w5 _ _ _ _ _ _ _ _ hsrc n1 (by omega)
      clear hsrc
      go_wp2_with fail
      ((with_reducible refine hpm.mono ?_); rintro e w6 ⟨A6, c6, rfl, i6, h6, rs, o6, hrs, hsrc6, hch⟩)
      clear hpm hsrc6
      have y6 := hch.size
      have B6 : Below w.heap.size w w6 := B5.trans (hch.below (by omega) (by omega))
      have o1 := o1.keep (Same.of_chg hch (by omega) (.inl (by omega)))
      have o2 := o2.keep (Same.of_chg hch (by omega) (.inl (by omega)))
      have o3 := o3.keep (Same.of_chg hch (by omega) (.inl (by omega)))
      have hrl := o6.lenI
      have hpr : isPermP rs := by
        have hid := idL_perm (n := n1) (by have := hpx.le; have := hl1.out; omega)
        refine ⟨by have := hpx.le; have := hl1.out; omega, fun x hx => ?_, hrs.nodup_iff.2 hid.nd⟩
        have := hid.rng x (hrs.mem_iff.1 hx)
        rw [idL_length] at this
        omega
      have hF1 : lengthsF xs = (lensL xs, 0) := by unfold lengthsF; rw [if_pos (isPermB_iff.2 hpx)]
      have hF2 : lengthsF (conjL xs ys) = (lensL xs, 0) := by unfold lengthsF; rw [if_pos (isPermB_iff.2 hpz), lensL_conj hpx hpy hxy]
      have hyr : ys.length = rs.length := by have := hl1.out; omega
      have hF3 : conjF (conjL xs ys) rs = (conjL (conjL xs ys) rs, 0) := by
        unfold conjF
        rw [if_pos (by unfold okTwo; simp [isPermB_iff.2 hpz, isPermB_iff.2 hpr, conjL_length, hyr])]
        rfl
      have hF4 : thenF ys rs = (thenL ys rs, 0) := by
        unfold thenF
        rw [if_pos (by unfold okTwo; simp [isPermB_iff.2 hpy, isPermB_iff.2 hpr, hyr])]
      have hpt := thenL_perm hpy hpr hyr
      have hF5 : conjF xs (thenL ys rs) = (conjL (conjL xs ys) rs, 0) := by
        unfold conjF
        rw [if_pos (by unfold okTwo; simp [isPermB_iff.2 hpx, isPermB_iff.2 hpt, thenL_length, hxy]), conj_conj hpx hpy hpr hxy hyr]
        rfl
      replace hF1 := Lib.hid hF1
      replace hF2 := Lib.hid hF2
      replace hF3 := Lib.hid hF3
      replace hF4 := Lib.hid hF4
      replace hF5 := Lib.hid hF5
      replace hzl := Lib.hid hzl
      replace hrl := Lib.hid hrl
      replace hyr := Lib.hid hyr
      replace hxy := Lib.hid hxy
      replace hpx := Lib.hid hpx
      replace hpy := Lib.hid hpy
      replace hpz := Lib.hid hpz
      replace hpr := Lib.hid hpr
      replace hpt := Lib.hid hpt
      replace hrs := Lib.hid hrs
      go_wp2_with fail
      ((with_reducible refine (i_CycleLengths_any w6 A1 n1 c1 xs o1.ri (by omega)).mono ?_); rintro e w7 ⟨A7, n7, c7, l7, k7, rfl, H7, o7, hn7, f7⟩)
      obtain ⟨rfl, rfl⟩ : l7 = lensL xs ∧ k7 = 0 := Prod.mk.inj (H7.out.trans hF1.out)
      clear H7
      have y7 := f7.size
      have B7 := below_then B6 f7 (by omega)
      have o1 := o1.below f7 (by omega)
      have o2 := o2.below f7 (by omega)
      have o3 := o3.below f7 (by omega)
      have o6 := o6.below f7 (by omega)
      go_wp2_with fail
      ((with_reducible refine (i_CycleLengths_any w7 A3 n3 c3 (conjL xs ys) o3.ri (by omega)).mono ?_); rintro e w8 ⟨A8, n8, c8, l8, k8, rfl, H8, o8, hn8, f8⟩)
      obtain ⟨rfl, rfl⟩ : l8 = lensL xs ∧ k8 = 0 := Prod.mk.inj (H8.out.trans hF2.out)
      clear H8
      have y8 := f8.size
      have B8 := below_then B7 f8 (by omega)
      have o1 := o1.below f8 (by omega)
      have o2 := o2.below f8 (by omega)
      have o3 := o3.below f8 (by omega)
      have o6 := o6.below f8 (by omega)
      have o7 := o7.below f8 (by omega)
      go_wp2_with fail
      ((with_reducible refine (i_ConjugatePermutation_any w8 A3 n3 c3 (conjL xs ys) o3.ri (by omega) A6 n1 c6 rs o6.ri (by omega)).mono ?_); rintro e w9 ⟨A9, n9, c9, l9, k9, rfl, H9, o9, hn9, f9⟩)
      obtain ⟨rfl, rfl⟩ : l9 = conjL (conjL xs ys) rs ∧ k9 = 0 := Prod.mk.inj (H9.out.trans hF3.out)
      clear H9
      have y9 := f9.size
      have B9 := below_then B8 f9 (by omega)
      have o1 := o1.below f9 (by omega)
      have o2 := o2.below f9 (by omega)
      have o6 := o6.below f9 (by omega)
      have o7 := o7.below f9 (by omega)
      have o8 := o8.below f9 (by omega)
      go_wp2_with fail
      ((with_reducible refine (i_ThenPermutation_any w9 A2 n2 c2 ys o2.ri (by omega) A6 n1 c6 rs o6.ri (by omega)).mono ?_); rintro e w10 ⟨A10, n10, c10, l10, k10, rfl, H10, o10, hn10, f10⟩)
      obtain ⟨rfl, rfl⟩ : l10 = thenL ys rs ∧ k10 = 0 := Prod.mk.inj (H10.out.trans hF4.out)
      clear H10
      have y10 := f10.size
      have B10 := below_then B9 f10 (by omega)
      have o1 := o1.below f10 (by omega)
      have o7 := o7.below f10 (by omega)
      have o8 := o8.below f10 (by omega)
      have o9 := o9.below f10 (by omega)
      go_wp2_with fail
      ((with_reducible refine (i_ConjugatePermutation_any w10 A1 n1 c1 xs o1.ri (by omega) A10 n10 c10 (thenL ys rs) o10.ri (by omega)).mono ?_); rintro e w11 ⟨A11, n11, c11, l11, k11, rfl, H11, o11, hn11, f11⟩)
      obtain ⟨rfl, rfl⟩ : l11 = conjL (conjL xs ys) rs ∧ k11 = 0 := Prod.mk.inj (H11.out.trans hF5.out)
      clear H11
      have y11 := f11.size
      have B11 := below_then B10 f11 (by omega)
      have o7 := o7.below f11 (by omega)
      have o8 := o8.below f11 (by omega)
      have o9 := o9.below f11 (by omega)
      go_wp2_with fail
      ((with_reducible refine (like_any A7 n7 c7 (lensL xs) A8 n8 c8 (lensL xs) w11 _ _ _ _ o7.ri o8.ri (by omega) (by omega)).mono ?_); rintro e w12 ⟨rfl, f12⟩)
      rw [decide_eq_true (rfl : lensL xs = lensL xs)]
      have y12 := f12.size
      have B12 := below_then B11 f12 (by omega)
      have o9 := o9.below f12 (by omega)
      have o11 := o11.below f12 (by omega)
      go_wp2_with fail
      ((with_reducible refine (like_any A9 n9 c9 (conjL (conjL xs ys) rs) A11 n11 c11 (conjL (conjL xs ys) rs) w12 _ _ _ _ o9.ri o11.ri (by omega) (by omega)).mono ?_); rintro e w13 ⟨rfl, f13⟩)
      rw [decide_eq_true (rfl : conjL (conjL xs ys) rs = conjL (conjL xs ys) rs)]
      have y13 := f13.size
      have B13 := below_then B12 f13 (by omega)
      go_wp2_with fail
      go_ret
      exact ⟨rfl, B13⟩
set_option maxRecDepth 100000 in
theorem lifted (os : Os) (started : os.Started) (H : Type) (enc : TypeId × Value → H) :
    ReturnsInHanded {} Try.checked os 7 .any (Rows.fnConjugatesSpec.pre6 enc Try.prog Try.f7 Rows.fnConjugatesRow.domain false) (Rows.fnConjugatesSpec.post enc Try.prog Try.f7 false true false false) := by
  refine returnsInHanded_of_change (C := Try.checked) own started (by kernel_rfl) Try.func7
    (ChangeSpec.witness6 (enc := enc) (C := Try.checked) false ⟨#[], #[.slice none 0 0], []⟩ 8 (by kernel_rfl) (by kernel_rfl) (by kernel_rfl) (by kernel_rfl)) ?_
  intro W base args ds gs before hval0 hW hcnd _
  have hval : ∀ (j : Nat) t v, Try.f7.params[j]? = some t → args[j]? = some v → Value.okWide Try.prog W .any base t v := hval0
  have hW' := hW
  obtain ⟨p, q, hA0, hV, rfl, hfz, hnd⟩ := hW
  have hA : DataW.TrodAll enc Try.prog W 0 (fun _ => true) true Try.f7.params.toList args.toList ds p := hA0
  rw [Try.params7] at hA hval
  obtain ⟨v0, vs0, d0, ds0, p0, q0, hargs, rfl, rfl, h0, r0⟩ := trodAll_cons hA
  obtain ⟨rfl, rfl, rfl⟩ := trodAll_nil r0
  obtain rfl : args = #[v0] := by cases args; simp_all
  obtain ⟨rfl, rfl⟩ := trodVars_none hV
  obtain ⟨a0, n0, c0, rfl⟩ := okWide_slice Try.underlying22 (hval 0 22 v0 rfl rfl)
  have k0 := h0
  have lt0 : ∀ x ∈ p0, x.block < W.heap.size := by obtain ⟨m, hm⟩ := k0; exact DataW.trod_lt m _ _ _ hm
  obtain ⟨xs0, w0, b0⟩ := open_RB Try.underlying22 Try.underlying5 (by kernel_rfl) h0
  clear hA0 hval0
  refine (walk a0 n0 c0 xs0 W w0 b0).mono fun e W' ⟨he, bel⟩ => ?_
  subst he
  exact ⟨_, rfl, _, _, _, [], _, [], hW', trodAll_mk1 (shut_bool Try.underlying4 _), (trodAll_cons_mk (Below.trod laidOut (by kernel_rfl) (of_decide_eq_true (by kernel_rfl)) k0 bel lt0) trodAll_mk0), rfl, bel.frame _, fun h => by cases h⟩
theorem over : Rows.fnConjugatesRow.holds Try.pinned (OpenSpec.ofChange Rows.fnConjugatesSpec) :=
  OpenClaim.holds_of_wide 7 Try.f7 rfl rfl rfl rfl rfl rfl rfl ⟨rfl, rfl, rfl, rfl, rfl⟩ rfl rfl rfl rfl rfl (by kernel_rfl) Try.func7 (by kernel_rfl)
    (of_decide_eq_true (by kernel_rfl)) (by unfold Func.isWrapper; first | (rw [if_pos (by decide +kernel)]; kernel_rfl) | (rw [if_neg (by decide +kernel)]; exact ⟨rfl, rfl⟩))
    (fun os started H enc _ => lifted os started H enc)
/-- THE STATEMENT -/
theorem proved : Rows.FnConjugatesSaid := over
end Go.Proofs.Ytdaljeghdiknpaa.fnConjugates
