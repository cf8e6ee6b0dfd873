/- FnSections: a section of a section of a drawn maniplex is a section, its numbers of polygons are polygons of the maniplex, and it is the form from its flag 0: the law returns true for every code. No condition. -/
import Derived.Test.YtdaljeghdiknpaaRows
import Derived.Test.YtdaljeghdiknpaaHSections
namespace Go.Proofs.Ytdaljeghdiknpaa.fnSections
open Go.ChangeShapes Go.WideShapes Go.ChangeAt Go.RowKit
open Go.ChangeMaps (open_string shut_string)
set_option linter.unusedVariables false
theorem own : ownKnob Try.prog.godebug = none := by kernel_rfl
theorem laidOut : laidOutB Try.prog = true := by kernel_rfl
theorem numsIn_get {xss : List (List Int)} {k : Nat} {p : List Int} (h : xss[k]? = some p) : p.length ≤ numsIn xss := by
  induction xss generalizing k with
  | nil => simp at h
  | cons a t ih =>
    have e : numsIn (a :: t) = a.length + numsIn t := by simp [numsIn]
    rw [e]
    cases k with
    | zero => simp at h; subst h; omega
    | succ k => have := ih (k := k) (by simpa using h); omega
set_option maxRecDepth 100000 in
set_option maxHeartbeats 8000000 in
theorem walk (a : Option Addr) (n c : Nat) (bs : List Int) (w : World) (h : Rd w 0 w.heap.size a n (bs.map (Value.int .u8))) (hb : ∀ x ∈ bs, 0 ≤ x ∧ x < 256) :
    Calls Try.prog 10 #[.slice a n c] w fun e w' => e = .returned (.bool true) ∧ Below w.heap.size w w' := by
  have hm := h.2.1
  have hbig := bigl_any a n c w hm
  by_cases h4 : 4096 < n
  · rw [decide_eq_true h4] at hbig
    replace hb := Lib.hid hb
    go_enter Try.func10, Try.ntmps10
    go_wp2_with fail
    ((with_reducible refine hbig.mono ?_); rintro e w' ⟨rfl, rfl⟩)
    go_wp2_with fail
    go_ret
    exact ⟨rfl, Below.refl _ _⟩
  · rw [decide_eq_false h4] at hbig
    have hdr := drawSection_any w a n c bs h hb (by omega)
    replace hb := Lib.hid hb
    go_enter Try.func10, Try.ntmps10
    go_wp2_with fail
    ((with_reducible refine hbig.mono ?_); rintro e w' ⟨rfl, rfl⟩)
    go_wp2_with fail
    ((with_reducible refine hdr.mono ?_); rintro e w1 ⟨A1, m, c1, f, x, y, rfl, hf, hx, hy, xss, R1, hmc, f1⟩)
    clear hbig hdr
    have y1 := f1.size
    have hmx := R1.max
    unfold IR64 at hf hx hy
    go_wp2_with fail
    obtain ⟨w2, hw2⟩ : ∃ w2, w1.alloc (.cells #[.slice A1 m c1] 40) = w2 := ⟨_, rfl⟩
    have Ba : Below w1.heap.size w1 w2 := by rw [← hw2]; exact (Below.refl _ _).alloc (Nat.le_refl _) _
    have C2 : w2.cell? ⟨w1.heap.size, 0, none⟩ = some (.slice A1 m c1) := by rw [← hw2]; exact al_new _ _ _ _ rfl
    have y2 : w1.heap.size < w2.heap.size := by rw [← hw2]; simp
    rw [hw2]
    have R2 := R1.below Ba (Nat.le_refl _)
    have B2 : Below w.heap.size w w2 := f1.trans (Ba.mono y1)
    obtain ⟨b, hbq⟩ : ∃ b, w1.heap.size = b := ⟨_, rfl⟩
    rw [hbq] at C2 y1 y2 R2 ⊢
    clear hw2 Ba f1 R1 hbq
    go_wp2_with fail
    ((with_reducible refine (i_SectionAt_any w2 A1 m c1 xss R2 (by omega) hmc f hf x hx y hy).mono ?_); rintro e w3 ⟨A3, n3, c3, zss, code, rfl, H3, o3, hn3, f3⟩)
    have y3 := f3.size
    have B3 := below_then B2 f3 (by omega)
    have R3 := R2.below f3 (by omega)
    have C3 := (f3.cell (p := ⟨b, 0, none⟩) (by simp; omega)).trans C2
    clear C2 R2
    have f4 : Below w3.heap.size w3 (w3.alloc (.cells #[.slice A3 n3 c3] 40)) := (Below.refl _ _).alloc (Nat.le_refl _) _
    have D3 : (w3.alloc (.cells #[.slice A3 n3 c3] 40)).cell? ⟨w3.heap.size, 0, none⟩ = some (.slice A3 n3 c3) := al_new _ _ _ _ rfl
    have C4 := (f4.cell (p := ⟨b, 0, none⟩) (by simp; omega)).trans C3
    go_wp2_with fail
    obtain ⟨w4, hw4⟩ : ∃ w4, (w3.alloc (.cells #[.slice A3 n3 c3] 40)) = w4 := ⟨_, rfl⟩
    have z4 : w3.heap.size < w4.heap.size := by rw [← hw4]; simp
    rw [hw4] at f4 D3 C4  ⊢
    clear hw4
    have y4 := f4.size
    have B4 := below_then B3 f4 (by omega)
    have R4 := R3.below f4 (by omega)
    have o3 := o3.below f4 (by omega)
    clear C3 R3
    obtain ⟨bD3, hbD3⟩ : ∃ bD3, w3.heap.size = bD3 := ⟨_, rfl⟩
    rw [hbD3] at D3 z4 ⊢
    go_wp2_with fail
    ((with_reducible refine (s_SectionAt_any w4 A1 m c1 xss R4 (by omega) hmc f hf x hx y hy).mono ?_); rintro e w5 ⟨A4, n4, c4, zss2, code2, rfl, H4, o4, hn4, f5⟩)
    have y5 := f5.size
    have B5 := below_then B4 f5 (by omega)
    have R5 := R4.below f5 (by omega)
    have C5 := (f5.cell (p := ⟨b, 0, none⟩) (by simp; omega)).trans C4
    have D3 := (f5.cell (p := ⟨bD3, 0, none⟩) (by simp; omega)).trans D3
    have o3 := o3.below f5 (by omega)
    clear C4 R4
    obtain ⟨rfl, rfl⟩ : zss = zss2 ∧ code = code2 := by have e := H3.out.trans H4.out.symm; exact Prod.mk.inj e
    clear H4
    have dne : (code != code) = false := by simp
    have f6 : Below w5.heap.size w5 (w5.alloc (.cells #[.slice A4 n4 c4] 40)) := (Below.refl _ _).alloc (Nat.le_refl _) _
    have D4 : (w5.alloc (.cells #[.slice A4 n4 c4] 40)).cell? ⟨w5.heap.size, 0, none⟩ = some (.slice A4 n4 c4) := al_new _ _ _ _ rfl
    have C6 := (f6.cell (p := ⟨b, 0, none⟩) (by simp; omega)).trans C5
    have D3 := (f6.cell (p := ⟨bD3, 0, none⟩) (by simp; omega)).trans D3
    go_wp2_with fail
    obtain ⟨w6, hw6⟩ : ∃ w6, (w5.alloc (.cells #[.slice A4 n4 c4] 40)) = w6 := ⟨_, rfl⟩
    have z6 : w5.heap.size < w6.heap.size := by rw [← hw6]; simp
    rw [hw6] at f6 D4 C6 D3 ⊢
    clear hw6
    have y6 := f6.size
    have B6 := below_then B5 f6 (by omega)
    have R6 := R5.below f6 (by omega)
    have o3 := o3.below f6 (by omega)
    have o4 := o4.below f6 (by omega)
    clear C5 R5
    obtain ⟨bD4, hbD4⟩ : ∃ bD4, w5.heap.size = bD4 := ⟨_, rfl⟩
    rw [hbD4] at D4 z6 ⊢
    go_wp2_with fail
    ((with_reducible refine (like5_any A3 n3 c3 zss A4 n4 c4 w6 o3.rs o4.rs (by omega) (by omega)).mono ?_); rintro e w7 ⟨rfl, f7⟩)
    have y7 := f7.size
    have B7 := below_then B6 f7 (by omega)
    have R7 := R6.below f7 (by omega)
    have C7 := (f7.cell (p := ⟨b, 0, none⟩) (by simp; omega)).trans C6
    have D3 := (f7.cell (p := ⟨bD3, 0, none⟩) (by simp; omega)).trans D3
    have D4 := (f7.cell (p := ⟨bD4, 0, none⟩) (by simp; omega)).trans D4
    have o3 := o3.below f7 (by omega)
    have o4 := o4.below f7 (by omega)
    clear C6 R6
    clear o4 D4
    by_cases hc0 : code = 0
    · subst hc0
      obtain ⟨F, I, K, hM, rfl, rfl, rfl, hFN, hIK, hKm, hz⟩ := sec_zero H3.out
      have hP := isManB_iff.1 hM
      obtain ⟨N, hN⟩ : ∃ N, flg xss = N := ⟨_, rfl⟩
      have hN4 : N ≤ 400 := by rw [← hN]; exact hP.f4
      have hml : xss.length = m := R7.len
      have hm5 : m ≤ 5 := by rw [← hml]; exact hP.r5
      have hS : SysOf xss N := by rw [← hN]; exact hP.sys
      rw [hN] at hFN hz
      rw [hml] at hKm
      obtain ⟨hsm, hsf⟩ := sec_man hP (I := I) (J := K + 1) (f := (F : Int)) hN (by omega) (by omega) (by omega) (by omega)
      rw [← hz] at hsm hsf
      have hsB := isManB_iff.2 hsm
      have hT := sysOf_sub hS I (K + 1)
      have hMp : 1 ≤ (bfs (subL xss I (K + 1)) N (F : Int)).length := List.length_pos_of_mem (bfs_met hT (by omega) (by omega)).start
      have hzl : zss.length = K + 1 - I := by rw [hz, formL_length, subL_length (by omega) (by omega)]
      have hsec1 : ∀ a b : Nat, a ≤ b → I + b ≤ K → secF zss 0 (a : Int) (b : Int) = (formL (subL xss (I + a) (I + b + 1)) N (F : Int), 0) := by
        intro a b hab hb
        have := sec_val (F := 0) (I := a) (K := b) hsB (by omega) hab (by omega)
        rw [hsf] at this
        have e := sec_sec (I := I) (J := K + 1) (a := a) (b := b + 1) hS (by omega) (show (0 : Int) ≤ (F : Int) by omega) (by omega)
        rw [← hz] at e
        exact this.trans (by rw [show (((0 : Nat) : Int)) = 0 from rfl, e]; rfl)
      have hsec2 : ∀ a b : Nat, a ≤ b → I + b ≤ K → secF xss (F : Int) ((I + a : Nat) : Int) ((I + b : Nat) : Int) = (formL (subL xss (I + a) (I + b + 1)) N (F : Int), 0) := by
        intro a b hab hb
        have := sec_val (F := F) (I := I + a) (K := I + b) hM (by omega) (by omega) (by omega)
        rw [hN] at this
        exact this
      have hfrm : formF zss 0 = (zss, 0) := by
        unfold formF
        rw [if_pos hsB, if_pos (inR_iff.2 (by omega)), hsf]
        have := form_form hT (show (0 : Int) ≤ (F : Int) by omega) (by omega)
        rw [← hz] at this
        rw [this]
      have htz : typF zss = (typL zss (bfs (subL xss I (K + 1)) N (F : Int)).length, 0) := by unfold typF; rw [if_pos hsB, hsf]
      have htx : typF xss = (typL xss N, 0) := by unfold typF; rw [if_pos hM, hN]
      have hsub : ∀ j : Nat, j < K - I → ∀ p, (typL zss (bfs (subL xss I (K + 1)) N (F : Int)).length)[j]? = some p → ∃ q, (typL xss N)[I + j]? = some q ∧ ∀ v ∈ p, v ∈ q := by
        intro j hj p hp
        rw [typL_get (by omega)] at hp
        have hp := Option.some.inj hp
        refine ⟨_, typL_get (by omega), fun v hv => ?_⟩
        rw [← hp, hz] at hv
        have := typ_sub hS (I := I) (J := K + 1) (j := j) (f := (F : Int)) (by omega) (by omega) (by omega) v hv
        exact this
      obtain ⟨tz, htze⟩ : ∃ tz, typL zss (bfs (subL xss I (K + 1)) N (F : Int)).length = tz := ⟨_, rfl⟩
      obtain ⟨tx, htxe⟩ : ∃ tx, typL xss N = tx := ⟨_, rfl⟩
      have htzl : tz.length = K - I := by rw [← htze, typL_length]; omega
      have htxl : tx.length = m - 1 := by rw [← htxe, typL_length]; omega
      rw [htze] at htz hsub
      rw [htxe] at htx hsub
      obtain ⟨D, hD⟩ : ∃ D : Nat, (K : Int) - (I : Int) = (D : Int) := ⟨K - I, by omega⟩
      obtain ⟨D1, hD1⟩ : ∃ D1 : Nat, (D : Int) + 1 = (D1 : Int) := ⟨D + 1, by omega⟩
      have hcap3 := o3.cap
      clear H3 hM hP hS hsm hsB hT hMp hz hsf htze htxe
      replace hml := Lib.hid hml
      replace hN := Lib.hid hN
      replace hzl := Lib.hid hzl
      replace hsec1 := Lib.hid hsec1
      replace hsec2 := Lib.hid hsec2
      replace hfrm := Lib.hid hfrm
      replace htz := Lib.hid htz
      replace htx := Lib.hid htx
      replace hsub := Lib.hid hsub
      replace htzl := Lib.hid htzl
      replace htxl := Lib.hid htxl
      have hrb := roll_any w7 a n c bs ((h.keep (Same.of_below B7 (Nat.le_refl _))).more (Nat.le_refl _) (by omega)) hb.out (by omega) 707 (by omega)
      rw [show ((707 : Nat) : Int) = 707 from rfl] at hrb
      go_wp2_with fail
      ((with_reducible refine hrb.mono ?_); rintro e w8 ⟨Hs, rfl, s8, f8⟩)
      have gd := s8.lt
      have y8 := f8.size
      have B8 := below_then B7 f8 (by omega)
      have R8 := R7.below f8 (by omega)
      have C8 := (f8.cell (p := ⟨b, 0, none⟩) (by simp; omega)).trans C7
      have D3 := (f8.cell (p := ⟨bD3, 0, none⟩) (by simp; omega)).trans D3
      have o3 := o3.below f8 (by omega)
      clear C7 R7
      clear hrb
      have hbn := below_nat w8 _ _ _ _ _ _ _ _ s8 (D1 : Int) (by omega) (by omega)
      go_wp2_with fail
      ((with_reducible refine hbn.mono ?_); rintro e w9 ⟨va, rfl, hva, i9, h9, s9, C9c⟩)
      clear hbn s8
      have hvaD : va ≤ D := by omega
      have y9 := C9c.size
      have B9 : Below w.heap.size w w9 := B8.trans (C9c.below (by omega) (by omega))
      have R9 := R8.same (Same.of_chg C9c (by omega) (.inl (by omega)))
      have C9 := (World.cell?_of_block (a := ⟨b, 0, none⟩) (C9c.block b (by omega) (by omega))).trans C8
      have D3 := (World.cell?_of_block (a := ⟨bD3, 0, none⟩) (C9c.block bD3 (by omega) (by omega))).trans D3
      have o3 := o3.keep (Same.of_chg C9c (by omega) (.inl (by omega)))
      clear C8 R8 C9c
      obtain ⟨E, hE⟩ : ∃ E : Nat, (D : Int) - (va : Int) = (E : Int) := ⟨D - va, by omega⟩
      obtain ⟨E1, hE1⟩ : ∃ E1 : Nat, (E : Int) + 1 = (E1 : Int) := ⟨E + 1, by omega⟩
      have hbn := below_nat w9 _ _ _ _ _ _ _ _ s9 (E1 : Int) (by omega) (by omega)
      go_wp2_with fail
      ((with_reducible refine hbn.mono ?_); rintro e w10 ⟨ve, rfl, hve, i10, h10, s10, C10c⟩)
      clear hbn s9
      obtain ⟨vb, hvb⟩ : ∃ vb : Nat, (va : Int) + (ve : Int) = (vb : Int) := ⟨va + ve, by omega⟩
      have hvbD : va ≤ vb ∧ vb ≤ D := by omega
      have y10 := C10c.size
      have B10 : Below w.heap.size w w10 := B9.trans (C10c.below (by omega) (by omega))
      have R10 := R9.same (Same.of_chg C10c (by omega) (.inl (by omega)))
      have C10 := (World.cell?_of_block (a := ⟨b, 0, none⟩) (C10c.block b (by omega) (by omega))).trans C9
      have D3 := (World.cell?_of_block (a := ⟨bD3, 0, none⟩) (C10c.block bD3 (by omega) (by omega))).trans D3
      have o3 := o3.keep (Same.of_chg C10c (by omega) (.inl (by omega)))
      clear C9 R9 C10c
      clear s10 hve hva
      have hs1 := hsec1.out va vb (by omega) (by omega)
      have hs2 := hsec2.out va vb (by omega) (by omega)
      obtain ⟨P, hPe⟩ : ∃ P, I + va = P := ⟨_, rfl⟩
      obtain ⟨Q, hQe⟩ : ∃ Q, I + vb = Q := ⟨_, rfl⟩
      rw [hPe, hQe] at hs1 hs2
      have hPi : (I : Int) + (va : Int) = (P : Int) := by omega
      have hQi : (I : Int) + (vb : Int) = (Q : Int) := by omega
      obtain ⟨X, hX⟩ : ∃ X, formL (subL xss P (Q + 1)) N (F : Int) = X := ⟨_, rfl⟩
      rw [hX] at hs1 hs2
      have hPQ : P ≤ Q ∧ Q ≤ K := by omega
      clear hX hPe hQe hE hE1 hsec1 hsec2
      replace hs1 := Lib.hid hs1
      replace hs2 := Lib.hid hs2
      go_wp2_with fail
      ((with_reducible refine (i_SectionAt_any w10 A3 n3 c3 zss o3.rs (by omega) hcap3 0 ⟨by omega, by omega⟩ (va : Int) ⟨by omega, by omega⟩ (vb : Int) ⟨by omega, by omega⟩).mono ?_); rintro e w11 ⟨A5, n5, c5, iss, k5, rfl, H5, o5, hn5, f11⟩)
      have y11 := f11.size
      have B11 := below_then B10 f11 (by omega)
      have R11 := R10.below f11 (by omega)
      have C11 := (f11.cell (p := ⟨b, 0, none⟩) (by simp; omega)).trans C10
      have D3 := (f11.cell (p := ⟨bD3, 0, none⟩) (by simp; omega)).trans D3
      have o3 := o3.below f11 (by omega)
      clear C10 R10
      obtain ⟨rfl, rfl⟩ := Prod.mk.inj (H5.out.trans hs1.out).symm
      clear H5 hs1
      have f12 : Below w11.heap.size w11 (w11.alloc (.cells #[.slice A5 n5 c5] 40)) := (Below.refl _ _).alloc (Nat.le_refl _) _
      have D5 : (w11.alloc (.cells #[.slice A5 n5 c5] 40)).cell? ⟨w11.heap.size, 0, none⟩ = some (.slice A5 n5 c5) := al_new _ _ _ _ rfl
      have C12 := (f12.cell (p := ⟨b, 0, none⟩) (by simp; omega)).trans C11
      have D3 := (f12.cell (p := ⟨bD3, 0, none⟩) (by simp; omega)).trans D3
      go_wp2_with fail
      obtain ⟨w12, hw12⟩ : ∃ w12, (w11.alloc (.cells #[.slice A5 n5 c5] 40)) = w12 := ⟨_, rfl⟩
      have z12 : w11.heap.size < w12.heap.size := by rw [← hw12]; simp
      rw [hw12] at f12 D5 C12 D3 ⊢
      clear hw12
      have y12 := f12.size
      have B12 := below_then B11 f12 (by omega)
      have R12 := R11.below f12 (by omega)
      have o3 := o3.below f12 (by omega)
      have o5 := o5.below f12 (by omega)
      clear C11 R11
      obtain ⟨bD5, hbD5⟩ : ∃ bD5, w11.heap.size = bD5 := ⟨_, rfl⟩
      rw [hbD5] at D5 z12 ⊢
      go_wp2_with fail
      ((with_reducible refine (i_SectionAt_any w12 A1 m c1 xss R12 (by omega) hmc (F : Int) ⟨by omega, by omega⟩ (P : Int) ⟨by omega, by omega⟩ (Q : Int) ⟨by omega, by omega⟩).mono ?_); rintro e w13 ⟨A6, n6, c6, dss, k6, rfl, H6, o6, hn6, f13⟩)
      have y13 := f13.size
      have B13 := below_then B12 f13 (by omega)
      have R13 := R12.below f13 (by omega)
      have C13 := (f13.cell (p := ⟨b, 0, none⟩) (by simp; omega)).trans C12
      have D3 := (f13.cell (p := ⟨bD3, 0, none⟩) (by simp; omega)).trans D3
      have D5 := (f13.cell (p := ⟨bD5, 0, none⟩) (by simp; omega)).trans D5
      have o3 := o3.below f13 (by omega)
      have o5 := o5.below f13 (by omega)
      clear C12 R12
      obtain ⟨rfl, rfl⟩ := Prod.mk.inj (H6.out.trans hs2.out).symm
      clear H6 hs2
      have f14 : Below w13.heap.size w13 (w13.alloc (.cells #[.slice A6 n6 c6] 40)) := (Below.refl _ _).alloc (Nat.le_refl _) _
      have D6 : (w13.alloc (.cells #[.slice A6 n6 c6] 40)).cell? ⟨w13.heap.size, 0, none⟩ = some (.slice A6 n6 c6) := al_new _ _ _ _ rfl
      have C14 := (f14.cell (p := ⟨b, 0, none⟩) (by simp; omega)).trans C13
      have D3 := (f14.cell (p := ⟨bD3, 0, none⟩) (by simp; omega)).trans D3
      have D5 := (f14.cell (p := ⟨bD5, 0, none⟩) (by simp; omega)).trans D5
      go_wp2_with fail
      obtain ⟨w14, hw14⟩ : ∃ w14, (w13.alloc (.cells #[.slice A6 n6 c6] 40)) = w14 := ⟨_, rfl⟩
      have z14 : w13.heap.size < w14.heap.size := by rw [← hw14]; simp
      rw [hw14] at f14 D6 C14 D3 D5 ⊢
      clear hw14
      have y14 := f14.size
      have B14 := below_then B13 f14 (by omega)
      have R14 := R13.below f14 (by omega)
      have o3 := o3.below f14 (by omega)
      have o5 := o5.below f14 (by omega)
      have o6 := o6.below f14 (by omega)
      clear C13 R13
      obtain ⟨bD6, hbD6⟩ : ∃ bD6, w13.heap.size = bD6 := ⟨_, rfl⟩
      rw [hbD6] at D6 z14 ⊢
      go_wp2_with fail
      ((with_reducible refine (i_FormFrom_any w14 A3 n3 c3 zss o3.rs (by omega) hcap3 0 ⟨by omega, by omega⟩).mono ?_); rintro e w15 ⟨A7, n7, c7, fss, k7, rfl, H7, o7, hn7, f15⟩)
      have y15 := f15.size
      have B15 := below_then B14 f15 (by omega)
      have R15 := R14.below f15 (by omega)
      have C15 := (f15.cell (p := ⟨b, 0, none⟩) (by simp; omega)).trans C14
      have D3 := (f15.cell (p := ⟨bD3, 0, none⟩) (by simp; omega)).trans D3
      have D5 := (f15.cell (p := ⟨bD5, 0, none⟩) (by simp; omega)).trans D5
      have D6 := (f15.cell (p := ⟨bD6, 0, none⟩) (by simp; omega)).trans D6
      have o3 := o3.below f15 (by omega)
      have o5 := o5.below f15 (by omega)
      have o6 := o6.below f15 (by omega)
      clear C14 R14
      obtain ⟨rfl, rfl⟩ := Prod.mk.inj (H7.out.trans hfrm.out).symm
      clear H7 hfrm
      have f16 : Below w15.heap.size w15 (w15.alloc (.cells #[.slice A7 n7 c7] 40)) := (Below.refl _ _).alloc (Nat.le_refl _) _
      have D7 : (w15.alloc (.cells #[.slice A7 n7 c7] 40)).cell? ⟨w15.heap.size, 0, none⟩ = some (.slice A7 n7 c7) := al_new _ _ _ _ rfl
      have C16 := (f16.cell (p := ⟨b, 0, none⟩) (by simp; omega)).trans C15
      have D3 := (f16.cell (p := ⟨bD3, 0, none⟩) (by simp; omega)).trans D3
      have D5 := (f16.cell (p := ⟨bD5, 0, none⟩) (by simp; omega)).trans D5
      have D6 := (f16.cell (p := ⟨bD6, 0, none⟩) (by simp; omega)).trans D6
      go_wp2_with fail
      obtain ⟨w16, hw16⟩ : ∃ w16, (w15.alloc (.cells #[.slice A7 n7 c7] 40)) = w16 := ⟨_, rfl⟩
      have z16 : w15.heap.size < w16.heap.size := by rw [← hw16]; simp
      rw [hw16] at f16 D7 C16 D3 D5 D6 ⊢
      clear hw16
      have y16 := f16.size
      have B16 := below_then B15 f16 (by omega)
      have R16 := R15.below f16 (by omega)
      have o3 := o3.below f16 (by omega)
      have o5 := o5.below f16 (by omega)
      have o6 := o6.below f16 (by omega)
      have o7 := o7.below f16 (by omega)
      clear C15 R15
      obtain ⟨bD7, hbD7⟩ : ∃ bD7, w15.heap.size = bD7 := ⟨_, rfl⟩
      rw [hbD7] at D7 z16 ⊢
      go_wp2_with fail
      ((with_reducible refine (i_TypeOf_any w16 A3 n3 c3 zss o3.rs (by omega) hcap3).mono ?_); rintro e w17 ⟨A8, n8, c8, t8, k8, rfl, H8, o8, hn8, f17⟩)
      have y17 := f17.size
      have B17 := below_then B16 f17 (by omega)
      have R17 := R16.below f17 (by omega)
      have C17 := (f17.cell (p := ⟨b, 0, none⟩) (by simp; omega)).trans C16
      have D3 := (f17.cell (p := ⟨bD3, 0, none⟩) (by simp; omega)).trans D3
      have D5 := (f17.cell (p := ⟨bD5, 0, none⟩) (by simp; omega)).trans D5
      have D6 := (f17.cell (p := ⟨bD6, 0, none⟩) (by simp; omega)).trans D6
      have D7 := (f17.cell (p := ⟨bD7, 0, none⟩) (by simp; omega)).trans D7
      have o3 := o3.below f17 (by omega)
      have o5 := o5.below f17 (by omega)
      have o6 := o6.below f17 (by omega)
      have o7 := o7.below f17 (by omega)
      clear C16 R16
      obtain ⟨rfl, rfl⟩ := Prod.mk.inj (H8.out.trans htz.out).symm
      clear H8 htz
      go_wp2_with fail
      ((with_reducible refine (i_TypeOf_any w17 A1 m c1 xss R17 (by omega) hmc).mono ?_); rintro e w18 ⟨A9, n9, c9, t9, k9, rfl, H9, o9, hn9, f18⟩)
      have y18 := f18.size
      have B18 := below_then B17 f18 (by omega)
      have R18 := R17.below f18 (by omega)
      have C18 := (f18.cell (p := ⟨b, 0, none⟩) (by simp; omega)).trans C17
      have D3 := (f18.cell (p := ⟨bD3, 0, none⟩) (by simp; omega)).trans D3
      have D5 := (f18.cell (p := ⟨bD5, 0, none⟩) (by simp; omega)).trans D5
      have D6 := (f18.cell (p := ⟨bD6, 0, none⟩) (by simp; omega)).trans D6
      have D7 := (f18.cell (p := ⟨bD7, 0, none⟩) (by simp; omega)).trans D7
      have o3 := o3.below f18 (by omega)
      have o5 := o5.below f18 (by omega)
      have o6 := o6.below f18 (by omega)
      have o7 := o7.below f18 (by omega)
      have o8 := o8.below f18 (by omega)
      clear C17 R17
      obtain ⟨rfl, rfl⟩ := Prod.mk.inj (H9.out.trans htx.out).symm
      clear H9 htx
      have d00 : ((0 : Int) != 0) = false := by simp
      go_wp2_with fail
      ((with_reducible refine (like5_any A5 n5 c5 X A6 n6 c6 w18 o5.rs o6.rs (by omega) (by omega)).mono ?_); rintro e w19 ⟨rfl, f19⟩)
      have y19 := f19.size
      have B19 := below_then B18 f19 (by omega)
      have R19 := R18.below f19 (by omega)
      have C19 := (f19.cell (p := ⟨b, 0, none⟩) (by simp; omega)).trans C18
      have D3 := (f19.cell (p := ⟨bD3, 0, none⟩) (by simp; omega)).trans D3
      have D5 := (f19.cell (p := ⟨bD5, 0, none⟩) (by simp; omega)).trans D5
      have D6 := (f19.cell (p := ⟨bD6, 0, none⟩) (by simp; omega)).trans D6
      have D7 := (f19.cell (p := ⟨bD7, 0, none⟩) (by simp; omega)).trans D7
      have o3 := o3.below f19 (by omega)
      have o5 := o5.below f19 (by omega)
      have o6 := o6.below f19 (by omega)
      have o7 := o7.below f19 (by omega)
      have o8 := o8.below f19 (by omega)
      have o9 := o9.below f19 (by omega)
      clear C18 R18
      clear o5 o6 D5 D6
      have hn8e : D = n8 := by have := o8.len; rw [htzl.out] at this; omega
      have hn9e : n9 + 1 ≤ m ∧ m ≤ n9 + 1 := by have := o9.len; rw [htxl.out] at this; omega
      have dl8 : ((n8 : Int) != (n8 : Int)) = false := by simp
      have dl9 : decide ((n9 : Int) < (K : Int)) = false := by simp; omega
      subst hn8e
      go_wp2_with fail
      ((with_reducible refine (like5_any A7 n7 c7 zss A3 n3 c3 w19 o7.rs o3.rs (by omega) (by omega)).mono ?_); rintro e w20 ⟨rfl, f20⟩)
      have y20 := f20.size
      have B20 := below_then B19 f20 (by omega)
      have R20 := R19.below f20 (by omega)
      have C20 := (f20.cell (p := ⟨b, 0, none⟩) (by simp; omega)).trans C19
      have D3 := (f20.cell (p := ⟨bD3, 0, none⟩) (by simp; omega)).trans D3
      have D7 := (f20.cell (p := ⟨bD7, 0, none⟩) (by simp; omega)).trans D7
      have o3 := o3.below f20 (by omega)
      have o7 := o7.below f20 (by omega)
      have o8 := o8.below f20 (by omega)
      have o9 := o9.below f20 (by omega)
      clear C19 R19
      clear o3 o7 D3 D7 R20 C20
      have o8r := o8.rs
      have o9r := o9.rs
      have hDm : ∀ j : Nat, j < D → I + j < n9 := by omega
      clear o8 o9
      replace o8r := Lib.hid o8r
      replace o9r := Lib.hid o9r
      replace hDm := Lib.hid hDm
      go_wp2_with fail
      go_loopw [24] (fun jv wq => ∃ j : Nat, j ≤ D ∧ jv = .int .i64 j ∧ Below w20.heap.size w20 wq) (fun jv _ => D - (intOf jv).toNat)
      case atStart => exact ⟨0, by omega, rfl, Below.refl _ _⟩
      case round =>
        obtain ⟨j, hj, rfl, hB⟩ := hrel
        obtain ⟨wj, rfl⟩ : ∃ wj : World, wj = wr := ⟨_, rfl⟩
        by_cases hjD : j < D
        · have hjm := hDm.out j hjD
          obtain ⟨J, hJ⟩ : ∃ J, I + j = J := ⟨_, rfl⟩
          rw [hJ] at hjm
          have hJi : (I : Int) + (j : Int) = (J : Int) := by omega
          have hwJ : IntKind.i64.wrap (J : Int) = (J : Int) := by rw [IntKind.wrap_i64]; omega
          have hJ0 : (0 : Int) ≤ (J : Int) := by omega
          have hJ9 : (J : Int) < (n9 : Int) := by omega
          have yj := hB.size
          have hxs := (o8r.out.below hB (by omega)).max
          go_wp2_with fail
          go_loopw [25] (fun kv wq => ∃ q : Nat, kv = .int .i64 q ∧ q ≤ 1048576 ∧ Below w20.heap.size w20 wq) (fun kv _ => 1048576 + 1 - (intOf kv).toNat)
          case atStart => exact ⟨0, rfl, by omega, hB⟩
          case round =>
            clear hB
            obtain ⟨q, rfl, hq6, hB⟩ := hrel
            have yq := hB.size
            obtain ⟨b1, u1, Ak, nk, ck, p, rfl, _, _, hp, hcp, hRp⟩ := (o8r.out.below hB (by omega)).at_ hjD
            obtain ⟨b2, u2, Al, nl, cl, r, rfl, _, _, hr, hcr, hRr⟩ := (o9r.out.below hB (by omega)).at_ hjm
            obtain ⟨r', hr', hsubv⟩ := hsub.out j (by omega) p hp
            obtain rfl : r = r' := by rw [hJ, hr] at hr'; exact Option.some.inj hr'
            have hlp := hRp.len
            have hmp := hRp.max
            have hnk : nk ≤ 1048576 := by
              have h1 := numsIn_get hp
              omega
            by_cases hqk : q < nk
            · obtain ⟨b3, u3, v, rfl, _, _, hv, hcv⟩ := hRp.at_ hqk
              have hvr := hsubv v (List.mem_of_getElem? hv)
              have hh : ∀ q, Calls Try.prog 20 #[.slice Al nl cl, .int .i64 v] (wr.drewN q) fun e w' => e = .returned (.bool true) ∧ wr.drewN q = w' := fun q => by
                have := hasInt_any Al nl cl r v (wr.drewN q) hRr
                rw [decide_eq_true hvr] at this
                exact this
              replace hh := Lib.hid hh
              replace hp := Lib.hid hp
              replace hr := Lib.hid hr
              replace hr' := Lib.hid hr'
              replace hv := Lib.hid hv
              replace hsubv := Lib.hid hsubv
              replace hvr := Lib.hid hvr
              replace hJ := Lib.hid hJ
              go_wp2_with fail
              go_quiet ((go_at_call 20; exact quiet_left (hh.out _)))
              go_wp2_with fail
              go_roundw
              case measure => simp [intOf]; omega
              case rel => exact ⟨q + 1, by go_num, by omega, below_dn hB _⟩
            · have dq : decide ((q : Int) < (nk : Int)) = false := by simp; omega
              replace hp := Lib.hid hp
              replace hr := Lib.hid hr
              replace hr' := Lib.hid hr'
              replace hsubv := Lib.hid hsubv
              replace hJ := Lib.hid hJ
              go_wp2_with fail
              go_roundw
              case measure => simp [intOf]; omega
              case rel => exact ⟨j + 1, by omega, by go_num, hB⟩
        · obtain rfl : j = D := by omega
          go_wp2_with fail
          go_ret
          exact ⟨rfl, B20.trans (hB.mono (by omega))⟩
    · have dc : (code != 0) = true := by simpa using hc0
      replace H3 := Lib.hid H3
      go_wp2_with fail
      go_ret
      exact ⟨rfl, B7⟩
set_option maxRecDepth 100000 in
theorem lifted (os : Os) (started : os.Started) (H : Type) (enc : TypeId × Value → H) :
    ReturnsInHanded {} Try.checked os 10 .any (Rows.fnSectionsSpec.pre6 enc Try.prog Try.f10 Rows.fnSectionsRow.domain false) (Rows.fnSectionsSpec.post enc Try.prog Try.f10 false true false false) := by
  refine returnsInHanded_of_change (C := Try.checked) own started (by kernel_rfl) Try.func10
    (ChangeSpec.witness6 (enc := enc) (C := Try.checked) false ⟨#[], #[.slice none 0 0], []⟩ 8 (by kernel_rfl) (by kernel_rfl) (by kernel_rfl) (by kernel_rfl)) ?_
  intro W base args ds gs before hval0 hW hcnd _
  have hval : ∀ (j : Nat) t v, Try.f10.params[j]? = some t → args[j]? = some v → Value.okWide Try.prog W .any base t v := hval0
  have hW' := hW
  obtain ⟨p, q, hA0, hV, rfl, hfz, hnd⟩ := hW
  have hA : DataW.TrodAll enc Try.prog W 0 (fun _ => true) true Try.f10.params.toList args.toList ds p := hA0
  rw [Try.params10] at hA hval
  obtain ⟨v0, vs0, d0, ds0, p0, q0, hargs, rfl, rfl, h0, r0⟩ := trodAll_cons hA
  obtain ⟨rfl, rfl, rfl⟩ := trodAll_nil r0
  obtain rfl : args = #[v0] := by cases args; simp_all
  obtain ⟨rfl, rfl⟩ := trodVars_none hV
  obtain ⟨a0, n0, c0, rfl⟩ := okWide_slice Try.underlying22 (hval 0 22 v0 rfl rfl)
  have k0 := h0
  have lt0 : ∀ x ∈ p0, x.block < W.heap.size := by obtain ⟨m, hm⟩ := k0; exact DataW.trod_lt m _ _ _ hm
  obtain ⟨xs0, w0, b0⟩ := open_RB Try.underlying22 Try.underlying5 (by kernel_rfl) h0
  clear hA0 hval0
  refine (walk a0 n0 c0 xs0 W w0 b0).mono fun e W' ⟨he, bel⟩ => ?_
  subst he
  exact ⟨_, rfl, _, _, _, [], _, [], hW', trodAll_mk1 (shut_bool Try.underlying4 _), (trodAll_cons_mk (Below.trod laidOut (by kernel_rfl) (of_decide_eq_true (by kernel_rfl)) k0 bel lt0) trodAll_mk0), rfl, bel.frame _, fun h => by cases h⟩
theorem over : Rows.fnSectionsRow.holds Try.pinned (OpenSpec.ofChange Rows.fnSectionsSpec) :=
  OpenClaim.holds_of_wide 10 Try.f10 rfl rfl rfl rfl rfl rfl rfl ⟨rfl, rfl, rfl, rfl, rfl⟩ rfl rfl rfl rfl rfl (by kernel_rfl) Try.func10 (by kernel_rfl)
    (of_decide_eq_true (by kernel_rfl)) (by unfold Func.isWrapper; first | (rw [if_pos (by decide +kernel)]; kernel_rfl) | (rw [if_neg (by decide +kernel)]; exact ⟨rfl, rfl⟩))
    (fun os started H enc _ => lifted os started H enc)
/-- THE STATEMENT -/
theorem proved : Rows.FnSectionsSaid := over
end Go.Proofs.Ytdaljeghdiknpaa.fnSections
