/- FnFaceSections: the numbers of flags of a face as a maniplex and of its coface divide the number of flags that have the face: the law returns true for every code. No condition. -/
import Derived.Test.YtdaljeghdiknpaaRows
import Derived.Test.YtdaljeghdiknpaaHFaceSections
namespace Go.Proofs.Ytdaljeghdiknpaa.fnFaceSections
open Go.ChangeShapes Go.WideShapes Go.ChangeAt Go.RowKit
open Go.ChangeMaps (open_string shut_string)
set_option linter.unusedVariables false
theorem own : ownKnob Try.prog.godebug = none := by kernel_rfl
theorem laidOut : laidOutB Try.prog = true := by kernel_rfl
set_option maxRecDepth 100000 in
set_option maxHeartbeats 8000000 in
theorem walk (a : Option Addr) (n c : Nat) (bs : List Int) (w : World) (h : Rd w 0 w.heap.size a n (bs.map (Value.int .u8))) (hb : ∀ x ∈ bs, 0 ≤ x ∧ x < 256) :
    Calls Try.prog 8 #[.slice a n c] w fun e w' => e = .returned (.bool true) ∧ Below w.heap.size w w' := by
  have hm := h.2.1
  have hbig := bigl_any a n c w hm
  by_cases h4 : 4096 < n
  · rw [decide_eq_true h4] at hbig
    replace hb := Lib.hid hb
    go_enter Try.func8, Try.ntmps8
    go_wp2_with fail
    ((with_reducible refine hbig.mono ?_); rintro e w' ⟨rfl, rfl⟩)
    go_wp2_with fail
    go_ret
    exact ⟨rfl, Below.refl _ _⟩
  · rw [decide_eq_false h4] at hbig
    have hdr := drawFace_any w a n c bs h hb (by omega)
    replace hb := Lib.hid hb
    go_enter Try.func8, Try.ntmps8
    go_wp2_with fail
    ((with_reducible refine hbig.mono ?_); rintro e w' ⟨rfl, rfl⟩)
    go_wp2_with fail
    ((with_reducible refine hdr.mono ?_); rintro e w1 ⟨A1, m, c1, x, y, rfl, hx, hy, xss, R1, hmc, f1⟩)
    clear hbig hdr
    have y1 := f1.size
    have hmx := R1.max
    unfold IR64 at hx hy
    go_wp2_with fail
    obtain ⟨w2, hw2⟩ : ∃ w2, w1.alloc (.cells #[.slice A1 m c1] 40) = w2 := ⟨_, rfl⟩
    have Ba : Below w1.heap.size w1 w2 := by rw [← hw2]; exact (Below.refl _ _).alloc (Nat.le_refl _) _
    have C2 : w2.cell? ⟨w1.heap.size, 0, none⟩ = some (.slice A1 m c1) := by rw [← hw2]; exact al_new _ _ _ _ rfl
    have y2 : w1.heap.size < w2.heap.size := by rw [← hw2]; simp
    rw [hw2]
    have R2 := R1.below Ba (Nat.le_refl _)
    have B2 : Below w.heap.size w w2 := f1.trans (Ba.mono y1)
    obtain ⟨b, hbq⟩ : ∃ b, w1.heap.size = b := ⟨_, rfl⟩
    rw [hbq] at C2 y1 y2 R2 ⊢
    clear hw2 Ba f1 R1 hbq
    go_wp2_with fail
    ((with_reducible refine (i_FaceAsManiplex_any w2 A1 m c1 xss R2 (by omega) hmc x hx y hy).mono ?_); rintro e w3 ⟨A3, n3, c3, zss, code, rfl, H3, o3, hn3, f3⟩)
    have y3 := f3.size
    have B3 := below_then B2 f3 (by omega)
    have R3 := R2.below f3 (by omega)
    have C3 := (f3.cell (p := ⟨b, 0, none⟩) (by simp; omega)).trans C2
    clear C2 R2
    have f4 : Below w3.heap.size w3 (w3.alloc (.cells #[.slice A3 n3 c3] 40)) := (Below.refl _ _).alloc (Nat.le_refl _) _
    have D3 : (w3.alloc (.cells #[.slice A3 n3 c3] 40)).cell? ⟨w3.heap.size, 0, none⟩ = some (.slice A3 n3 c3) := al_new _ _ _ _ rfl
    have C4 := (f4.cell (p := ⟨b, 0, none⟩) (by simp; omega)).trans C3
    go_wp2_with fail
    obtain ⟨w4, hw4⟩ : ∃ w4, (w3.alloc (.cells #[.slice A3 n3 c3] 40)) = w4 := ⟨_, rfl⟩
    have z4 : w3.heap.size < w4.heap.size := by rw [← hw4]; simp
    rw [hw4] at f4 D3 C4  ⊢
    clear hw4
    have y4 := f4.size
    have B4 := below_then B3 f4 (by omega)
    have R4 := R3.below f4 (by omega)
    have o3 := o3.below f4 (by omega)
    clear C3 R3
    obtain ⟨bD3, hbD3⟩ : ∃ bD3, w3.heap.size = bD3 := ⟨_, rfl⟩
    rw [hbD3] at D3 z4 ⊢
    go_wp2_with fail
    ((with_reducible refine (s_FaceAsManiplex_any w4 A1 m c1 xss R4 (by omega) hmc x hx y hy).mono ?_); rintro e w5 ⟨A4, n4, c4, zss2, code2, rfl, H4, o4, hn4, f5⟩)
    have y5 := f5.size
    have B5 := below_then B4 f5 (by omega)
    have R5 := R4.below f5 (by omega)
    have C5 := (f5.cell (p := ⟨b, 0, none⟩) (by simp; omega)).trans C4
    have D3 := (f5.cell (p := ⟨bD3, 0, none⟩) (by simp; omega)).trans D3
    have o3 := o3.below f5 (by omega)
    clear C4 R4
    obtain ⟨rfl, rfl⟩ : zss = zss2 ∧ code = code2 := by have e := H3.out.trans H4.out.symm; exact Prod.mk.inj e
    clear H4
    have dne : (code != code) = false := by simp
    have f6 : Below w5.heap.size w5 (w5.alloc (.cells #[.slice A4 n4 c4] 40)) := (Below.refl _ _).alloc (Nat.le_refl _) _
    have D4 : (w5.alloc (.cells #[.slice A4 n4 c4] 40)).cell? ⟨w5.heap.size, 0, none⟩ = some (.slice A4 n4 c4) := al_new _ _ _ _ rfl
    have C6 := (f6.cell (p := ⟨b, 0, none⟩) (by simp; omega)).trans C5
    have D3 := (f6.cell (p := ⟨bD3, 0, none⟩) (by simp; omega)).trans D3
    go_wp2_with fail
    obtain ⟨w6, hw6⟩ : ∃ w6, (w5.alloc (.cells #[.slice A4 n4 c4] 40)) = w6 := ⟨_, rfl⟩
    have z6 : w5.heap.size < w6.heap.size := by rw [← hw6]; simp
    rw [hw6] at f6 D4 C6 D3 ⊢
    clear hw6
    have y6 := f6.size
    have B6 := below_then B5 f6 (by omega)
    have R6 := R5.below f6 (by omega)
    have o3 := o3.below f6 (by omega)
    have o4 := o4.below f6 (by omega)
    clear C5 R5
    obtain ⟨bD4, hbD4⟩ : ∃ bD4, w5.heap.size = bD4 := ⟨_, rfl⟩
    rw [hbD4] at D4 z6 ⊢
    go_wp2_with fail
    ((with_reducible refine (like5_any A3 n3 c3 zss A4 n4 c4 w6 o3.rs o4.rs (by omega) (by omega)).mono ?_); rintro e w7 ⟨rfl, f7⟩)
    have y7 := f7.size
    have B7 := below_then B6 f7 (by omega)
    have R7 := R6.below f7 (by omega)
    have C7 := (f7.cell (p := ⟨b, 0, none⟩) (by simp; omega)).trans C6
    have D3 := (f7.cell (p := ⟨bD3, 0, none⟩) (by simp; omega)).trans D3
    have D4 := (f7.cell (p := ⟨bD4, 0, none⟩) (by simp; omega)).trans D4
    have o3 := o3.below f7 (by omega)
    have o4 := o4.below f7 (by omega)
    clear C6 R6
    clear o4 D4
    go_wp2_with fail
    ((with_reducible refine (i_CofaceAsManiplex_any w7 A1 m c1 xss R7 (by omega) hmc x hx y hy).mono ?_); rintro e w8 ⟨A5, n5, c5, tss, kode, rfl, H5, o5, hn5, f8⟩)
    have y8 := f8.size
    have B8 := below_then B7 f8 (by omega)
    have R8 := R7.below f8 (by omega)
    have C8 := (f8.cell (p := ⟨b, 0, none⟩) (by simp; omega)).trans C7
    have D3 := (f8.cell (p := ⟨bD3, 0, none⟩) (by simp; omega)).trans D3
    have o3 := o3.below f8 (by omega)
    clear C7 R7
    have f9 : Below w8.heap.size w8 (w8.alloc (.cells #[.slice A5 n5 c5] 40)) := (Below.refl _ _).alloc (Nat.le_refl _) _
    have D5 : (w8.alloc (.cells #[.slice A5 n5 c5] 40)).cell? ⟨w8.heap.size, 0, none⟩ = some (.slice A5 n5 c5) := al_new _ _ _ _ rfl
    have C9 := (f9.cell (p := ⟨b, 0, none⟩) (by simp; omega)).trans C8
    have D3 := (f9.cell (p := ⟨bD3, 0, none⟩) (by simp; omega)).trans D3
    go_wp2_with fail
    obtain ⟨w9, hw9⟩ : ∃ w9, (w8.alloc (.cells #[.slice A5 n5 c5] 40)) = w9 := ⟨_, rfl⟩
    have z9 : w8.heap.size < w9.heap.size := by rw [← hw9]; simp
    rw [hw9] at f9 D5 C9 D3 ⊢
    clear hw9
    have y9 := f9.size
    have B9 := below_then B8 f9 (by omega)
    have R9 := R8.below f9 (by omega)
    have o3 := o3.below f9 (by omega)
    have o5 := o5.below f9 (by omega)
    clear C8 R8
    obtain ⟨bD5, hbD5⟩ : ∃ bD5, w8.heap.size = bD5 := ⟨_, rfl⟩
    rw [hbD5] at D5 z9 ⊢
    go_wp2_with fail
    ((with_reducible refine (s_CofaceAsManiplex_any w9 A1 m c1 xss R9 (by omega) hmc x hx y hy).mono ?_); rintro e w10 ⟨A6, n6, c6, tss2, kode2, rfl, H6, o6, hn6, f10⟩)
    have y10 := f10.size
    have B10 := below_then B9 f10 (by omega)
    have R10 := R9.below f10 (by omega)
    have C10 := (f10.cell (p := ⟨b, 0, none⟩) (by simp; omega)).trans C9
    have D3 := (f10.cell (p := ⟨bD3, 0, none⟩) (by simp; omega)).trans D3
    have D5 := (f10.cell (p := ⟨bD5, 0, none⟩) (by simp; omega)).trans D5
    have o3 := o3.below f10 (by omega)
    have o5 := o5.below f10 (by omega)
    clear C9 R9
    obtain ⟨rfl, rfl⟩ : tss = tss2 ∧ kode = kode2 := by have e := H5.out.trans H6.out.symm; exact Prod.mk.inj e
    clear H6
    have dne2 : (kode != kode) = false := by simp
    have f11 : Below w10.heap.size w10 (w10.alloc (.cells #[.slice A6 n6 c6] 40)) := (Below.refl _ _).alloc (Nat.le_refl _) _
    have D6 : (w10.alloc (.cells #[.slice A6 n6 c6] 40)).cell? ⟨w10.heap.size, 0, none⟩ = some (.slice A6 n6 c6) := al_new _ _ _ _ rfl
    have C11 := (f11.cell (p := ⟨b, 0, none⟩) (by simp; omega)).trans C10
    have D3 := (f11.cell (p := ⟨bD3, 0, none⟩) (by simp; omega)).trans D3
    have D5 := (f11.cell (p := ⟨bD5, 0, none⟩) (by simp; omega)).trans D5
    go_wp2_with fail
    obtain ⟨w11, hw11⟩ : ∃ w11, (w10.alloc (.cells #[.slice A6 n6 c6] 40)) = w11 := ⟨_, rfl⟩
    have z11 : w10.heap.size < w11.heap.size := by rw [← hw11]; simp
    rw [hw11] at f11 D6 C11 D3 D5 ⊢
    clear hw11
    have y11 := f11.size
    have B11 := below_then B10 f11 (by omega)
    have R11 := R10.below f11 (by omega)
    have o3 := o3.below f11 (by omega)
    have o5 := o5.below f11 (by omega)
    have o6 := o6.below f11 (by omega)
    clear C10 R10
    obtain ⟨bD6, hbD6⟩ : ∃ bD6, w10.heap.size = bD6 := ⟨_, rfl⟩
    rw [hbD6] at D6 z11 ⊢
    go_wp2_with fail
    ((with_reducible refine (like5_any A5 n5 c5 tss A6 n6 c6 w11 o5.rs o6.rs (by omega) (by omega)).mono ?_); rintro e w12 ⟨rfl, f12⟩)
    have y12 := f12.size
    have B12 := below_then B11 f12 (by omega)
    have R12 := R11.below f12 (by omega)
    have C12 := (f12.cell (p := ⟨b, 0, none⟩) (by simp; omega)).trans C11
    have D3 := (f12.cell (p := ⟨bD3, 0, none⟩) (by simp; omega)).trans D3
    have D5 := (f12.cell (p := ⟨bD5, 0, none⟩) (by simp; omega)).trans D5
    have D6 := (f12.cell (p := ⟨bD6, 0, none⟩) (by simp; omega)).trans D6
    have o3 := o3.below f12 (by omega)
    have o5 := o5.below f12 (by omega)
    have o6 := o6.below f12 (by omega)
    clear C11 R11
    clear o6 D6
    by_cases hc0 : code = 0
    · subst hc0
      obtain ⟨I, fl, hM, rfl, hI1, hIm, hfl, hlab, hz, hco⟩ := fac_zero H3.out
      have hP := isManB_iff.1 hM
      obtain ⟨N, hN⟩ : ∃ N, flg xss = N := ⟨_, rfl⟩
      have hN2 : 2 ≤ N := by rw [← hN]; exact hP.f2
      have hN4 : N ≤ 400 := by rw [← hN]; exact hP.f4
      have hml : xss.length = m := R12.len
      have hm5 : m ≤ 5 := by rw [← hml]; exact hP.r5
      have hm1 : 1 ≤ m := by omega
      have hS : SysOf xss N := by rw [← hN]; exact hP.sys
      rw [hN] at hfl hz hco
      obtain ⟨q1, q2, q3, q4, q5, q6⟩ := fs_facts hP hN hIm hfl hlab
      have hfc : fclF xss (I : Int) = (labL (xss.eraseIdx I) N, 0) := by
        unfold fclF
        rw [if_pos hM, hN, if_pos (by simp; omega), Int.toNat_natCast]
      obtain ⟨I1, hI1e⟩ : ∃ I1, I = I1 + 1 := ⟨I - 1, by omega⟩
      have hH1 : 1 ≤ (subL xss 0 I).length := by rw [subL_length (by omega) (by omega)]; omega
      have hsec : ∀ v : Int, 0 ≤ v → v < N → secF xss v 0 (I1 : Int) = (formL (subL xss 0 I) N v, 0) := by
        intro v v0 v1
        unfold secF
        rw [if_pos hM, hN, if_pos (inR_iff.2 (by omega)), if_pos (okR_iff.2 (by omega)), Int.toNat_natCast, ← hI1e]
        rfl
      have hI1b : I1 + 1 ≤ I ∧ I ≤ I1 + 1 := by omega
      clear hI1e
      have hf3 : flg zss = (bfs (subL xss 0 I) N (fl : Int)).length := by rw [hz, flg_form hH1]
      have hlast : ∀ v ∈ plc (labL (xss.eraseIdx I) N) y N, flg (formL (subL xss 0 I) N v) = (bfs (subL xss 0 I) N (fl : Int)).length := fun v hv => by rw [flg_form hH1]; exact q2 v hv
      have hn31 : 0 < n3 := by have := o3.len; rw [hz, formL_length] at this; omega
      have hHp : 1 ≤ (bfs (subL xss 0 I) N (fl : Int)).length := List.length_pos_of_mem (bfs_met (sysOf_sub hS 0 I) (by omega) (by omega)).start
      have hHN := (bfs_met (sysOf_sub hS 0 I) (x := (fl : Int)) (by omega) (by omega)).len
      have hKp : 1 ≤ (bfs (subL xss (I + 1) xss.length) N (fl : Int)).length := List.length_pos_of_mem (bfs_met (sysOf_sub hS (I + 1) xss.length) (by omega) (by omega)).start
      have hKN := (bfs_met (sysOf_sub hS (I + 1) xss.length) (x := (fl : Int)) (by omega) (by omega)).len
      have hkod : (I + 1 = xss.length ∧ kode = 5) ∨ (I + 1 ≠ xss.length ∧ kode = 0 ∧ flg tss = (bfs (subL xss (I + 1) xss.length) N (fl : Int)).length ∧ 0 < n5) := by
        have e := H5.out.trans hco
        by_cases g : I + 1 = xss.length
        · rw [if_pos g] at e
          exact .inl ⟨g, (Prod.mk.inj e).2⟩
        · rw [if_neg g] at e
          have hK1 : 1 ≤ (subL xss (I + 1) xss.length).length := by rw [subL_length (Nat.le_refl _) (by omega)]; omega
          have e1 := (Prod.mk.inj e).1
          refine .inr ⟨g, (Prod.mk.inj e).2, by rw [e1, flg_form hK1], ?_⟩
          have := o5.len
          rw [e1, formL_length] at this
          omega
      obtain ⟨lab, hle⟩ : ∃ lab, labL (xss.eraseIdx I) N = lab := ⟨_, rfl⟩
      have hll : lab.length = N := by rw [← hle, labL_length]
      have hfm : (fl : Int) ∈ plc lab y N := by
        rw [← hle, plc_mem]
        refine ⟨by omega, by omega, ?_⟩
        rw [Int.toNat_natCast, getD_some (labL_get hfl), hlab]
      obtain ⟨S0, hS0⟩ : ∃ S0, (bfs (xss.eraseIdx I) N (fl : Int)).length = S0 := ⟨_, rfl⟩
      obtain ⟨hh, hhh⟩ : ∃ hh, (bfs (subL xss 0 I) N (fl : Int)).length = hh := ⟨_, rfl⟩
      obtain ⟨kk, hkk⟩ : ∃ kk, (bfs (subL xss (I + 1) xss.length) N (fl : Int)).length = kk := ⟨_, rfl⟩
      rw [hle] at q1 hlast hfc
      rw [hS0] at q1 q3 q4 q5 q6
      rw [hhh] at q3 q5 q6 hf3 hlast hHp hHN
      rw [hkk] at q4 q5 hkod hKp hKN
      have hS0N : S0 ≤ N := by rw [← q1]; exact plc_le _ _ _
      clear H3 H5 hM hP hz hco hS q2 hS0 hhh hkk hle hlab
      replace hml := Lib.hid hml
      replace hN := Lib.hid hN
      replace hfc := Lib.hid hfc
      replace hsec := Lib.hid hsec
      replace hf3 := Lib.hid hf3
      replace hlast := Lib.hid hlast
      replace hkod := Lib.hid hkod
      replace hll := Lib.hid hll
      replace hfm := Lib.hid hfm
      replace q1 := Lib.hid q1
      replace q3 := Lib.hid q3
      replace q4 := Lib.hid q4
      replace q5 := Lib.hid q5
      replace q6 := Lib.hid q6
      replace hH1 := Lib.hid hH1
      go_wp2_with fail
      ((with_reducible refine (i_FaceLabels_any w12 A1 m c1 xss R12 (by omega) hmc (I : Int) ⟨by omega, by omega⟩).mono ?_); rintro e w13 ⟨A7, n7, c7, ls, k7, rfl, H7, o7, hn7, f13⟩)
      have y13 := f13.size
      have B13 := below_then B12 f13 (by omega)
      have R13 := R12.below f13 (by omega)
      have C13 := (f13.cell (p := ⟨b, 0, none⟩) (by simp; omega)).trans C12
      have D3 := (f13.cell (p := ⟨bD3, 0, none⟩) (by simp; omega)).trans D3
      have D5 := (f13.cell (p := ⟨bD5, 0, none⟩) (by simp; omega)).trans D5
      have o3 := o3.below f13 (by omega)
      have o5 := o5.below f13 (by omega)
      clear C12 R12
      obtain ⟨rfl, rfl⟩ := Prod.mk.inj (H7.out.trans hfc.out).symm
      clear H7 hfc
      obtain rfl : N = n7 := by have := o7.lenI; rw [hll.out] at this; exact this
      have dN : ((N : Int) != (N : Int)) = false := by simp
      have h5 := flags5_any A1 m c1 xss w13 R13 (by omega) (by omega)
      rw [hN.out] at h5
      go_wp2_with fail
      ((with_reducible refine (h5).mono ?_); rintro e w14 ⟨rfl, f14⟩)
      have y14 := f14.size
      have B14 := below_then B13 f14 (by omega)
      have R14 := R13.below f14 (by omega)
      have C14 := (f14.cell (p := ⟨b, 0, none⟩) (by simp; omega)).trans C13
      have D3 := (f14.cell (p := ⟨bD3, 0, none⟩) (by simp; omega)).trans D3
      have D5 := (f14.cell (p := ⟨bD5, 0, none⟩) (by simp; omega)).trans D5
      have o3 := o3.below f14 (by omega)
      have o5 := o5.below f14 (by omega)
      have o7 := o7.below f14 (by omega)
      clear C13 R13
      clear h5
      go_wp2_with fail
      go_loopw [16, 17, 18] (fun sv lv fv wq => ∃ f : Nat, f ≤ N ∧ sv = .int .i64 ((plc lab y f).length : Nat) ∧ lv = .int .i64 (lastOf (plc lab y f)) ∧ fv = .int .i64 f ∧ Below w14.heap.size w14 wq) (fun _ _ fv _ => N - (intOf fv).toNat)
      case atStart => exact ⟨0, by omega, rfl, rfl, rfl, Below.refl _ _⟩
      case round =>
        obtain ⟨f, hf, rfl, rfl, rfl, hB⟩ := hrel
        obtain ⟨wf, rfl⟩ : ∃ wf : World, wf = wr := ⟨_, rfl⟩
        have yf := hB.size
        have Rf := R14.below hB (by omega)
        have Cf := (hB.cell (p := ⟨b, 0, none⟩) (by simp; omega)).trans C14
        have h5 := flags5_any A1 m c1 xss wf Rf (by omega) (by omega)
        rw [hN.out] at h5
        by_cases hlt : f < N
        · have hps := plc_succ lab y f
          obtain ⟨v, hv⟩ : ∃ v, lab[f]? = some v := ⟨_, List.getElem?_eq_getElem (by have := hll.out; omega)⟩
          rw [getD_some hv] at hps
          have hple := plc_le lab y f
          obtain ⟨sz, hsz⟩ : ∃ sz, (plc lab y f).length = sz := ⟨_, rfl⟩
          rw [hsz] at hple
          have hsz2 := hsz
          rw [hsz]
          replace hsz := Lib.hid hsz
          replace hsz2 := Lib.hid hsz2
          go_wp2_with fail
          ((with_reducible refine h5.mono ?_); rintro e w9 ⟨rfl, f9⟩)
          have B9 : Below w14.heap.size w14 w9 := below_then hB f9 (by omega)
          obtain ⟨b2, u2, v', rfl, _, _, hv', hcv⟩ := (o7.ri.below B9 (by omega)).at_ hlt
          obtain rfl : v = v' := by rw [hv] at hv'; exact Option.some.inj hv'
          replace hv' := Lib.hid hv'
          replace hv := Lib.hid hv
          clear h5 Cf Rf f9 hB
          by_cases e : y = v
          · subst e
            have e' : (y == y) = true := by simp
            rw [if_pos rfl] at hps
            have hl2 : (plc lab y (f + 1)).length = sz + 1 := by rw [hps, List.length_append, hsz.out]; rfl
            have hl3 : lastOf (plc lab y (f + 1)) = (f : Int) := by rw [hps, lastOf_snoc]
            replace hl2 := Lib.hid hl2
            replace hl3 := Lib.hid hl3
            replace hps := Lib.hid hps
            go_wp2_with fail
            go_roundw
            case measure => simp [intOf]; omega
            case rel => exact ⟨f + 1, by omega, by rw [hl2.out]; go_num, by rw [hl3.out], by go_num, B9⟩
          · have e' : (v == y) = false := by simpa using fun g => e g.symm
            rw [if_neg e, List.append_nil] at hps
            replace hps := Lib.hid hps
            clear e
            go_wp2_with fail
            go_roundw
            case measure => simp [intOf]; omega
            case rel => exact ⟨f + 1, by omega, by rw [hps.out, hsz2.out], by rw [hps.out], by go_num, B9⟩
        · obtain rfl : f = N := by omega
          have q1' := q1.out
          rw [q1']
          obtain ⟨la, hla⟩ : ∃ la, lastOf (plc lab y f) = la := ⟨_, rfl⟩
          have hlm : la ∈ plc lab y f := by
            rw [← hla]
            exact lastOf_mem (fun e => by have := hfm.out; rw [e] at this; simp at this)
          obtain ⟨l0, l1, -⟩ := plc_mem.1 hlm
          obtain ⟨La, rfl⟩ := Int.eq_ofNat_of_zero_le l0
          rw [hla]
          have hlF := hlast.out _ hlm
          have hsE := hsec.out (La : Int) (by omega) (by omega)
          replace hla := Lib.hid hla
          replace hlm := Lib.hid hlm
          replace hlF := Lib.hid hlF
          replace hsE := Lib.hid hsE
          replace q1' := Lib.hid q1'
          have dlt : decide ((f : Int) < (f : Int)) = false := by simp
          have hI2 : (I : Int) - 1 = (I1 : Int) := by omega
          go_wp2_with fail
          ((with_reducible refine h5.mono ?_); rintro e wz ⟨rfl, fz⟩)
          have Bz : Below w14.heap.size w14 wz := below_then hB fz (by omega)
          have yz := Bz.size
          have Rz := R14.below Bz (by omega)
          have Cz := (Bz.cell (p := ⟨b, 0, none⟩) (by simp; omega)).trans C14
          have D3 := (Bz.cell (p := ⟨bD3, 0, none⟩) (by simp; omega)).trans D3
          have D5 := (Bz.cell (p := ⟨bD5, 0, none⟩) (by simp; omega)).trans D5
          have o3 := o3.below Bz (by omega)
          have o5 := o5.below Bz (by omega)
          have BZ := below_then B14 Bz (by omega)
          clear h5 Cf Rf fz hB
          go_wp2_with fail
          ((with_reducible refine (i_SectionAt_any wz A1 m c1 xss Rz (by omega) hmc (La : Int) ⟨by omega, by omega⟩ 0 ⟨by omega, by omega⟩ (I1 : Int) ⟨by omega, by omega⟩).mono ?_); rintro e ws ⟨A8, n8, c8, uss, k8, rfl, H8, o8, hn8, f8⟩)
          obtain ⟨rfl, rfl⟩ := Prod.mk.inj (H8.out.trans hsE.out)
          clear H8 hsE
          have ys := f8.size
          have hn81 : 0 < n8 := by have := o8.len; rw [formL_length] at this; have := hH1.out; omega
          have D3 := (f8.cell (p := ⟨bD3, 0, none⟩) (by simp; omega)).trans D3
          have D5 := (f8.cell (p := ⟨bD5, 0, none⟩) (by simp; omega)).trans D5
          have o3 := o3.below f8 (by omega)
          have o5 := o5.below f8 (by omega)
          have BS := below_then BZ f8 (by omega)
          have ft : Below ws.heap.size ws (ws.alloc (.cells #[.slice A8 n8 c8] 40)) := (Below.refl _ _).alloc (Nat.le_refl _) _
          have D8 : (ws.alloc (.cells #[.slice A8 n8 c8] 40)).cell? ⟨ws.heap.size, 0, none⟩ = some (.slice A8 n8 c8) := al_new _ _ _ _ rfl
          have D3 := (ft.cell (p := ⟨bD3, 0, none⟩) (by simp; omega)).trans D3
          have D5 := (ft.cell (p := ⟨bD5, 0, none⟩) (by simp; omega)).trans D5
          go_wp2_with fail
          obtain ⟨wt, hwt⟩ : ∃ wt, ws.alloc (.cells #[.slice A8 n8 c8] 40) = wt := ⟨_, rfl⟩
          have zt : ws.heap.size < wt.heap.size := by rw [← hwt]; simp
          rw [hwt] at ft D8 D3 D5 ⊢
          clear hwt
          obtain ⟨b8, hb8⟩ : ∃ b8, ws.heap.size = b8 := ⟨_, rfl⟩
          have yt := ft.size
          have o8r := (o8.below ft (Nat.le_refl _)).rs
          have o3r := (o3.below ft (by omega)).rs
          have o5r := (o5.below ft (by omega)).rs
          have BT := below_then BS ft (by omega)
          rw [hb8] at D8 zt o8r ⊢
          clear hb8 o8 o3 o5 f8 ft
          have dh : ((hh : Int) != (hh : Int)) = false := by simp
          have d00 : ((0 : Int) != 0) = false := by simp
          have hU : ∀ wq, Below wt.heap.size wt wq → wq.cell? ⟨bD3, 0, none⟩ = some (.slice A3 n3 c3) ∧ wq.cell? ⟨b8, 0, none⟩ = some (.slice A8 n8 c8) := fun wq hq => ⟨(hq.cell (p := ⟨bD3, 0, none⟩) (by simp; omega)).trans D3, (hq.cell (p := ⟨b8, 0, none⟩) (by simp; omega)).trans D8⟩
          have hF8 : ∀ wq, Below wt.heap.size wt wq → Calls Try.prog 26 #[.agg #[.slice A8 n8 c8]] wq fun e w' => e = .returned (.int .i64 (hh : Int)) ∧ Below wt.heap.size wt w' ∧ w'.cell? ⟨bD3, 0, none⟩ = some (.slice A3 n3 c3) ∧ w'.cell? ⟨b8, 0, none⟩ = some (.slice A8 n8 c8) := fun wq hq => by
            have hz := hq.size
            have := flags5_any A8 n8 c8 _ wq (o8r.below hq (by omega)) (by omega) hn81
            rw [hlF.out] at this
            exact this.mono fun e w' ⟨he, hb⟩ => ⟨he, below_then hq hb hz, hU w' (below_then hq hb hz)⟩
          have hF3 : ∀ wq, Below wt.heap.size wt wq → Calls Try.prog 26 #[.agg #[.slice A3 n3 c3]] wq fun e w' => e = .returned (.int .i64 (hh : Int)) ∧ Below wt.heap.size wt w' ∧ w'.cell? ⟨bD3, 0, none⟩ = some (.slice A3 n3 c3) ∧ w'.cell? ⟨b8, 0, none⟩ = some (.slice A8 n8 c8) := fun wq hq => by
            have hz := hq.size
            have := flags5_any A3 n3 c3 zss wq (o3r.below hq (by omega)) (by omega) hn31
            rw [hf3.out] at this
            exact this.mono fun e w' ⟨he, hb⟩ => ⟨he, below_then hq hb hz, hU w' (below_then hq hb hz)⟩
          replace o8r := Lib.hid o8r
          replace o3r := Lib.hid o3r
          replace o5r := Lib.hid o5r
          replace hF8 := Lib.hid hF8
          replace hF3 := Lib.hid hF3
          clear hU hsec hlast hll hfm hlF hlm hla q1' q1 o7 hI1b hI2
          go_upto_region 25 with fail
          go_cut [123] from 115 to 123 (fun v wx => v = .bool false ∧ Below wt.heap.size wt wx)
          case first =>
           go_region_law? (first
            | (go_simp; go_at_call 26; with_reducible refine (hF8.out _ (by first | exact below_drw (Below.refl _ _) | assumption)).mono ?_; rintro e wu ⟨rfl, fu, cu3, cu8⟩)
            | (go_simp; go_at_call 26; with_reducible refine (hF3.out _ (by first | exact below_drw (Below.refl _ _) | assumption)).mono ?_; rintro e wu ⟨rfl, fu, cu3, cu8⟩))
           all_goals
            clear hF8 hF3
            go_wp2_with fail
            go_meet
            exact ⟨rfl, fu⟩
          case rest =>
           obtain ⟨rfl, fu⟩ := hcut
           obtain ⟨wu, rfl⟩ : ∃ wu : World, wu = wc := ⟨_, rfl⟩
           clear hF8 hF3
           have yu := fu.size
           have BU := below_then BT fu (by omega)
           have D3 := (fu.cell (p := ⟨bD3, 0, none⟩) (by simp; omega)).trans D3
           have D5 := (fu.cell (p := ⟨bD5, 0, none⟩) (by simp; omega)).trans D5
           have o3u := o3r.out.below fu (by omega)
           have o5u := o5r.out.below fu (by omega)
           clear fu o3r o5r o8r D8
           rcases hkod.out with ⟨g1, g2⟩ | ⟨g1, g2, g3, g4⟩
           · subst g2
             have hSh := q6.out g1
             subst hSh
             have h5 := hf3.out ▸ flags5_any A3 n3 c3 zss wu o3u (by omega) hn31
             have dS : ((S0 : Int) == (S0 : Int)) = true := by simp
             go_wp2_with fail
             ((with_reducible refine h5.mono ?_); rintro e wv ⟨rfl, fv⟩)
             have BV := below_then BU fv (by omega)
             go_wp2_with fail
             go_ret
             exact ⟨rfl, BV⟩
           · subst g2
             obtain ⟨pp, hpp⟩ : ∃ pp : Nat, hh * kk = pp := ⟨_, rfl⟩
             have hpi : (hh : Int) * (kk : Int) = (pp : Int) := by rw [← hpp, Int.natCast_mul]
             have hpb : pp ≤ 160000 := by rw [← hpp]; exact Nat.le_trans (Nat.mul_le_mul (by omega : hh ≤ 400) (by omega : kk ≤ 400)) (by omega)
             have hSp : S0 ≤ pp := by rw [← hpp, Nat.mul_comm]; exact q5.out
             have dle : decide ((S0 : Int) ≤ (pp : Int)) = true := by simp; omega
             have hwp : IntKind.i64.wrap (pp : Int) = (pp : Int) := by rw [IntKind.wrap_i64]; omega
             have r1 : Int.tmod (S0 : Int) (hh : Int) = 0 := by
               rw [show Int.tmod (S0 : Int) (hh : Int) = ((S0 % hh : Nat) : Int) from rfl, Nat.mod_eq_zero_of_dvd q3.out]; rfl
             have r2 : Int.tmod (S0 : Int) (kk : Int) = 0 := by
               rw [show Int.tmod (S0 : Int) (kk : Int) = ((S0 % kk : Nat) : Int) from rfl, Nat.mod_eq_zero_of_dvd q4.out]; rfl
             have r3 : (S0 : Int) % (hh : Int) = 0 := by
               rw [show (S0 : Int) % (hh : Int) = ((S0 % hh : Nat) : Int) from rfl, Nat.mod_eq_zero_of_dvd q3.out]; rfl
             have r4 : (S0 : Int) % (kk : Int) = 0 := by
               rw [show (S0 : Int) % (kk : Int) = ((S0 % kk : Nat) : Int) from rfl, Nat.mod_eq_zero_of_dvd q4.out]; rfl
             have p1 : (0 : Int) < (hh : Int) := by omega
             have p2 : (0 : Int) < (kk : Int) := by omega
             have p3 : ¬ hh = 0 := by omega
             have p4 : ¬ kk = 0 := by omega
             have wh : IntKind.i64.wrap (hh : Int) = (hh : Int) := by rw [IntKind.wrap_i64]; omega
             have wk : IntKind.i64.wrap (kk : Int) = (kk : Int) := by rw [IntKind.wrap_i64]; omega
             have hU : ∀ wq, Below wu.heap.size wu wq → wq.cell? ⟨bD3, 0, none⟩ = some (.slice A3 n3 c3) ∧ wq.cell? ⟨bD5, 0, none⟩ = some (.slice A5 n5 c5) := fun wq hq => ⟨(hq.cell (p := ⟨bD3, 0, none⟩) (by simp; omega)).trans D3, (hq.cell (p := ⟨bD5, 0, none⟩) (by simp; omega)).trans D5⟩
             have hF3 : ∀ wq, Below wu.heap.size wu wq → Calls Try.prog 26 #[.agg #[.slice A3 n3 c3]] wq fun e w' => e = .returned (.int .i64 (hh : Int)) ∧ Below wu.heap.size wu w' ∧ w'.cell? ⟨bD3, 0, none⟩ = some (.slice A3 n3 c3) ∧ w'.cell? ⟨bD5, 0, none⟩ = some (.slice A5 n5 c5) := fun wq hq => by
               have hz := hq.size
               have := flags5_any A3 n3 c3 zss wq (o3u.below hq (by omega)) (by omega) hn31
               rw [hf3.out] at this
               exact this.mono fun e w' ⟨he, hb⟩ => ⟨he, below_then hq hb hz, hU w' (below_then hq hb hz)⟩
             have hF5 : ∀ wq, Below wu.heap.size wu wq → Calls Try.prog 26 #[.agg #[.slice A5 n5 c5]] wq fun e w' => e = .returned (.int .i64 (kk : Int)) ∧ Below wu.heap.size wu w' ∧ w'.cell? ⟨bD3, 0, none⟩ = some (.slice A3 n3 c3) ∧ w'.cell? ⟨bD5, 0, none⟩ = some (.slice A5 n5 c5) := fun wq hq => by
               have hz := hq.size
               have := flags5_any A5 n5 c5 tss wq (o5u.below hq (by omega)) (by omega) g4
               rw [g3] at this
               exact this.mono fun e w' ⟨he, hb⟩ => ⟨he, below_then hq hb hz, hU w' (below_then hq hb hz)⟩
             clear hU
             replace hF3 := Lib.hid hF3
             replace hF5 := Lib.hid hF5
             replace hpp := Lib.hid hpp
             replace o3u := Lib.hid o3u
             replace o5u := Lib.hid o5u
             replace g3 := Lib.hid g3
             clear hkod
             go_wp2_with fail
             go_region_law? (first
               | (go_simp; go_at_call 26; with_reducible refine (hF3.out _ (by first | exact below_drw (Below.refl _ _) | assumption)).mono ?_; rintro e wv ⟨rfl, fv, cv3, cv5⟩)
               | (go_simp; go_at_call 26; with_reducible refine (hF5.out _ (by first | exact below_drw (Below.refl _ _) | assumption)).mono ?_; rintro e wv ⟨rfl, fv, cv3, cv5⟩))
             all_goals
              have BV : Below w.heap.size w wv := below_then BU fv (by omega)
              go_wp2_with fail
              go_ret
              exact ⟨rfl, BV⟩
    · have dc : (code != 0) = true := by simpa using hc0
      replace H3 := Lib.hid H3
      replace H5 := Lib.hid H5
      go_wp2_with fail
      go_ret
      exact ⟨rfl, B12⟩
set_option maxRecDepth 100000 in
theorem lifted (os : Os) (started : os.Started) (H : Type) (enc : TypeId × Value → H) :
    ReturnsInHanded {} Try.checked os 8 .any (Rows.fnFaceSectionsSpec.pre6 enc Try.prog Try.f8 Rows.fnFaceSectionsRow.domain false) (Rows.fnFaceSectionsSpec.post enc Try.prog Try.f8 false true false false) := by
  refine returnsInHanded_of_change (C := Try.checked) own started (by kernel_rfl) Try.func8
    (ChangeSpec.witness6 (enc := enc) (C := Try.checked) false ⟨#[], #[.slice none 0 0], []⟩ 8 (by kernel_rfl) (by kernel_rfl) (by kernel_rfl) (by kernel_rfl)) ?_
  intro W base args ds gs before hval0 hW hcnd _
  have hval : ∀ (j : Nat) t v, Try.f8.params[j]? = some t → args[j]? = some v → Value.okWide Try.prog W .any base t v := hval0
  have hW' := hW
  obtain ⟨p, q, hA0, hV, rfl, hfz, hnd⟩ := hW
  have hA : DataW.TrodAll enc Try.prog W 0 (fun _ => true) true Try.f8.params.toList args.toList ds p := hA0
  rw [Try.params8] at hA hval
  obtain ⟨v0, vs0, d0, ds0, p0, q0, hargs, rfl, rfl, h0, r0⟩ := trodAll_cons hA
  obtain ⟨rfl, rfl, rfl⟩ := trodAll_nil r0
  obtain rfl : args = #[v0] := by cases args; simp_all
  obtain ⟨rfl, rfl⟩ := trodVars_none hV
  obtain ⟨a0, n0, c0, rfl⟩ := okWide_slice Try.underlying22 (hval 0 22 v0 rfl rfl)
  have k0 := h0
  have lt0 : ∀ x ∈ p0, x.block < W.heap.size := by obtain ⟨m, hm⟩ := k0; exact DataW.trod_lt m _ _ _ hm
  obtain ⟨xs0, w0, b0⟩ := open_RB Try.underlying22 Try.underlying5 (by kernel_rfl) h0
  clear hA0 hval0
  refine (walk a0 n0 c0 xs0 W w0 b0).mono fun e W' ⟨he, bel⟩ => ?_
  subst he
  exact ⟨_, rfl, _, _, _, [], _, [], hW', trodAll_mk1 (shut_bool Try.underlying4 _), (trodAll_cons_mk (Below.trod laidOut (by kernel_rfl) (of_decide_eq_true (by kernel_rfl)) k0 bel lt0) trodAll_mk0), rfl, bel.frame _, fun h => by cases h⟩
theorem over : Rows.fnFaceSectionsRow.holds Try.pinned (OpenSpec.ofChange Rows.fnFaceSectionsSpec) :=
  OpenClaim.holds_of_wide 8 Try.f8 rfl rfl rfl rfl rfl rfl rfl ⟨rfl, rfl, rfl, rfl, rfl⟩ rfl rfl rfl rfl rfl (by kernel_rfl) Try.func8 (by kernel_rfl)
    (of_decide_eq_true (by kernel_rfl)) (by unfold Func.isWrapper; first | (rw [if_pos (by decide +kernel)]; kernel_rfl) | (rw [if_neg (by decide +kernel)]; exact ⟨rfl, rfl⟩))
    (fun os started H enc _ => lifted os started H enc)
/-- THE STATEMENT -/
theorem proved : Rows.FnFaceSectionsSaid := over
end Go.Proofs.Ytdaljeghdiknpaa.fnFaceSections
