/- Walks: the least form, the program's and the reference's. Up to 400 flags. -/
import Derived.Test.YtpbkdjkgaalegaaLex
import Derived.Test.YtpbkdjkgaalegaaLexS
import Derived.Test.YtpbkdjkgaalegaaFormS
import Derived.Test.YtpbkdjkgaalegaaForm
import Derived.Test.YtpbkdjkgaalegaaRun
namespace Go.Proofs.Ytpbkdjkgaalegaa
open Go.RowKit
set_option linter.unusedVariables false
set_option maxRecDepth 100000
set_option maxHeartbeats 4000000 in
theorem leastForm_any (N : Nat) (A : Option Addr) (n c : Nat) (xss : List (List Int)) (w : World) {lo hi : Nat} (h : RS w lo hi A n xss) (hhi : hi ≤ w.heap.size) (hn : 0 < n) (hn5 : n ≤ 20) (hN : flg xss = N) (hN0 : 0 < N) (h4 : N ≤ 400) (hs : SysOf xss N) :
    Calls Try.prog 69 #[.agg #[.slice A n c]] w fun e w' => ∃ (A1 : Option Addr) (c1 : Nat), e = .returned (.agg #[.slice A1 n c1]) ∧ OwnS w' w.heap.size w'.heap.size 26 2 A1 n c1 (leastGo xss N N) ∧ Below w.heap.size w w' := by
  have hm := h.max
  have hR := rs_alloc (rs_alloc h hhi (.cells #[.slice A n c] 29)) (by simp; omega) (.cells #[.slice none 0 0] 29)
  have hC : ((w.alloc (.cells #[.slice A n c] 29)).alloc (.cells #[.slice none 0 0] 29)).cell? ⟨w.heap.size, 0, none⟩ = some (.slice A n c) := (al_old _ _ _ _ (by simp)).trans (al_new _ _ _ _ rfl)
  have hQ : ((w.alloc (.cells #[.slice A n c] 29)).alloc (.cells #[.slice none 0 0] 29)).heap[w.heap.size + 1]? = some (.cells #[.slice none 0 0] 29 (0, 0)) := heap_new _ _ _ (by simp)
  have hB : Below w.heap.size w ((w.alloc (.cells #[.slice A n c] 29)).alloc (.cells #[.slice none 0 0] 29)) := ((Below.refl _ _).alloc (Nat.le_refl _) _).alloc (by simp) _
  replace hs := Lib.hid hs
  replace hN := Lib.hid hN
  go_enter Try.func69, Try.ntmps69
  go_wp2_with fail
  obtain ⟨W1, hW⟩ : ∃ W1 : World, (w.alloc (.cells #[.slice A n c] 29)).alloc (.cells #[.slice none 0 0] 29) = W1 := ⟨_, rfl⟩
  have hz1 : W1.heap.size = w.heap.size + 2 := by rw [← hW]; simp
  rw [hW] at hR hC hB hQ ⊢
  replace hQ := Lib.hid hQ
  clear hW h
  ((with_reducible refine (formFrom_any N A n c xss 0 _ hR (by omega) hn hn5 h4 hs.out (by omega) (by omega)).mono ?_); rintro e w2 ⟨A2, c2, rfl, o2, f2⟩)
  have z2 := f2.size
  go_wp2_with fail
  obtain ⟨W3, hW3⟩ : ∃ W3 : World, w2.alloc (.cells #[.slice A2 n c2] 29) = W3 := ⟨_, rfl⟩
  have B3 : Below W1.heap.size W1 (w2.alloc (.cells #[.slice A2 n c2] 29)) := f2.alloc (by omega) _
  have L3 : (w2.alloc (.cells #[.slice A2 n c2] 29)).heap[w2.heap.size]? = some (.cells #[.slice A2 n c2] 29 (0, 0)) := heap_new _ _ _ rfl
  have o3 : OwnS (w2.alloc (.cells #[.slice A2 n c2] 29)) W1.heap.size w2.heap.size 26 2 A2 n c2 (formL xss N 0) := o2.keep (same_alloc _ _ _ _ (Nat.le_refl _))
  have z3 : (w2.alloc (.cells #[.slice A2 n c2] 29)).heap.size = w2.heap.size + 1 := by simp
  rw [hW3] at B3 L3 o3 z3 ⊢
  clear hW3
  replace L3 := Lib.hid L3
  have C3 := (B3.cell (p := ⟨w.heap.size, 0, none⟩) (by simp; omega)).trans hC
  ((with_reducible refine (flags_any _ A n c xss _ C3 (hR.below B3 (by omega)) hn).mono ?_); rintro e w' ⟨rfl, rfl⟩)
  rw [hN.out]
  go_wp2_with fail
  go_loopw [10] (fun kv wq => ∃ (k : Nat) (A3 : Option Addr) (c3 lo3 hi3 : Nat), 0 ≤ k ∧ k ≤ N ∧ kv = .int .i64 k ∧ Below W1.heap.size W1 wq ∧ w2.heap.size + 1 ≤ wq.heap.size ∧ Hid (wq.heap[w2.heap.size]? = some (.cells #[.slice A3 n c3] 29 (0, 0))) ∧ OwnS wq lo3 hi3 26 2 A3 n c3 (leastGo xss N k) ∧ W1.heap.size ≤ lo3 ∧ hi3 ≤ wq.heap.size ∧ (hi3 ≤ w2.heap.size ∨ w2.heap.size < lo3)) (fun kv _ => N - (intOf kv).toNat)
  case atStart => exact ⟨0, A2, c2, W1.heap.size, w2.heap.size, by omega, by omega, by go_num, B3, by omega, L3, o3, by omega, by omega, .inl (Nat.le_refl _)⟩
  case round =>
    obtain ⟨k, A3, c3, lo3, hi3, hk0, hk, rfl, hb, hzw, hL, ho, hl1, hl2, hl3⟩ := hrel
    have y1 := hb.size
    have Ck := (hb.cell (p := ⟨w.heap.size, 0, none⟩) (by simp; omega)).trans hC
    have Rk := hR.below hb (by omega)
    by_cases hlt : k < N
    · have hst := leastGo_succ xss N k
      unfold minF at hst
      replace hst := Lib.hid hst
      go_wp2_with fail
      ((with_reducible refine (formFrom_any N A n c xss (k : Int) _ Rk (by omega) hn hn5 h4 hs.out (by omega) (by omega)).mono ?_); rintro e w4 ⟨A4, c4, rfl, o4, f4⟩)
      have y4 := f4.size
      have B5 : Below W1.heap.size W1 (w4.alloc (.cells #[.slice A4 n c4] 29)) := (below_then hb f4 (by omega)).alloc (by omega) _
      have b5 : Below wr.heap.size wr (w4.alloc (.cells #[.slice A4 n c4] 29)) := f4.alloc (by omega) _
      have M5 : (w4.alloc (.cells #[.slice A4 n c4] 29)).heap[w4.heap.size]? = some (.cells #[.slice A4 n c4] 29 (0, 0)) := heap_new _ _ _ rfl
      have o5 : OwnS (w4.alloc (.cells #[.slice A4 n c4] 29)) wr.heap.size w4.heap.size 26 2 A4 n c4 (formL xss N (k : Int)) := o4.keep (same_alloc _ _ _ _ (Nat.le_refl _))
      have z5 : (w4.alloc (.cells #[.slice A4 n c4] 29)).heap.size = w4.heap.size + 1 := by simp
      have L5 := (b5.block w2.heap.size (by omega)).trans hL.out
      have p5 := ho.below b5 (by omega)
      have l5C : (w4.alloc (.cells #[.slice A4 n c4] 29)).cell? ⟨w2.heap.size, 0, none⟩ = some (.slice A3 n c3) := (cell_of_row _ _ _ _ _ _ L5).trans rfl
      have l5F : (w4.alloc (.cells #[.slice A4 n c4] 29)).frozen? ⟨w2.heap.size, 0, none⟩ = false := frozen_of_row _ _ _ _ _ L5
      replace L5 := Lib.hid L5
      replace M5 := Lib.hid M5
      go_wp2_with fail
      obtain ⟨W5, hW5⟩ : ∃ W5 : World, w4.alloc (.cells #[.slice A4 n c4] 29) = W5 := ⟨_, rfl⟩
      rw [hW5] at B5 b5 M5 o5 z5 L5 p5 ⊢
      clear hW5 l5C l5F
      ((with_reducible refine (compareM_any A4 n c4 _ A3 n c3 _ _ o5.rs (by omega) p5.rs (by omega)).mono ?_); rintro e w6 ⟨rfl, f6⟩)
      have y6 := f6.size
      have L6 := (f6.block w2.heap.size (by omega)).trans L5.out
      have M6 := (f6.block w4.heap.size (by omega)).trans M5.out
      have l6C : w6.cell? ⟨w2.heap.size, 0, none⟩ = some (.slice A3 n c3) := (cell_of_row _ _ _ _ _ _ L6).trans rfl
      have l6F : w6.frozen? ⟨w2.heap.size, 0, none⟩ = false := frozen_of_row _ _ _ _ _ L6
      have m6C : w6.cell? ⟨w4.heap.size, 0, none⟩ = some (.slice A4 n c4) := (cell_of_row _ _ _ _ _ _ M6).trans rfl
      have m6F : w6.frozen? ⟨w4.heap.size, 0, none⟩ = false := frozen_of_row _ _ _ _ _ M6
      replace L6 := Lib.hid L6
      replace M6 := Lib.hid M6
      have B6 : Below W1.heap.size W1 w6 := below_then B5 f6 (by omega)
      by_cases hc : cmp2 (formL xss N (k : Int)) (leastGo xss N k) < 0
      · have hd : decide (cmp2 (formL xss N (k : Int)) (leastGo xss N k) < 0) = true := decide_eq_true hc
        replace hst := hst.out
        rw [if_pos hc] at hst
        replace hst := Lib.hid hst
        replace hc := Lib.hid hc
        have o6 := (o5.below f6 (by omega)).keep (same_set w6 ⟨w2.heap.size, 0, none⟩ (Value.slice A4 n c4) _ _ (.inl (by simp; omega)))
        rw [← hst.out] at o6
        have S6 := heap_setCell_same _ _ 0 _ _ (Value.slice A4 n c4) L6.out
        replace S6 := Lib.hid S6
        have B7 := B6.setCell (p := ⟨w2.heap.size, 0, none⟩) (by simp; omega) (Value.slice A4 n c4)
        generalize cmp2 (formL xss N (k : Int)) (leastGo xss N k) = cv at hd ⊢
        go_wp2_with fail
        go_roundw
        case measure => simp [intOf]; omega
        case rel => exact ⟨k + 1, A4, c4, wr.heap.size, w4.heap.size, by omega, by omega, by go_num, B7, by simp; omega, Lib.hid (by simpa using S6.out), o6, by omega, by simp; omega, .inr (by omega)⟩
      · have hd : decide (cmp2 (formL xss N (k : Int)) (leastGo xss N k) < 0) = false := decide_eq_false hc
        replace hst := hst.out
        rw [if_neg hc] at hst
        replace hst := Lib.hid hst
        replace hc := Lib.hid hc
        have p6 := p5.below f6 (by omega)
        rw [← hst.out] at p6
        generalize cmp2 (formL xss N (k : Int)) (leastGo xss N k) = cv at hd ⊢
        go_wp2_with fail
        go_roundw
        case measure => simp [intOf]; omega
        case rel => exact ⟨k + 1, A3, c3, lo3, hi3, by omega, by omega, by go_num, B6, by omega, L6, p6, by omega, by omega, hl3⟩
    · have hkn : k = N := by omega
      subst hkn
      have Qk := (hb.block (w.heap.size + 1) (by omega)).trans hQ.out
      have qC : wr.cell? ⟨w.heap.size + 1, 0, none⟩ = some (.slice none 0 0) := (cell_of_row _ _ _ _ _ _ Qk).trans rfl
      have qF : wr.frozen? ⟨w.heap.size + 1, 0, none⟩ = false := frozen_of_row _ _ _ _ _ Qk
      have lC : wr.cell? ⟨w2.heap.size, 0, none⟩ = some (.slice A3 n c3) := (cell_of_row _ _ _ _ _ _ hL.out).trans rfl
      have lF : wr.frozen? ⟨w2.heap.size, 0, none⟩ = false := frozen_of_row _ _ _ _ _ hL.out
      replace Qk := Lib.hid Qk
      go_wp2_with fail
      have g2 := heap_setCell_same _ _ 0 _ _ (Value.slice A3 n c3) Qk.out
      (try simp only [Exit.inBlock, Exit.then])
      refine bodyPost_ret (v := .agg #[.slice A3 n c3]) ?_ rfl ?_
      · exact results_cell_row rfl _ _ (w.heap.size + 1) 29 #[.slice A3 n c3] (0, 0) _ rfl (by simpa using g2) Try.underlying29 rfl (by kernel_rfl)
      · exact ⟨A3, c3, rfl, (ho.keep (same_set _ _ _ _ _ (.inl (by simp; omega)))).more (by omega) (by simp; omega), (hB.trans (hb.mono (by omega))).setCell (by simp) _⟩
set_option maxHeartbeats 4000000 in
theorem l02Least_any (N : Nat) (A : Option Addr) (n c : Nat) (xss : List (List Int)) (w : World) {lo hi : Nat} (h : RS w lo hi A n xss) (hhi : hi ≤ w.heap.size) (hn : 0 < n) (hn5 : n ≤ 20) (hN : flg xss = N) (hN0 : 0 < N) (h4 : N ≤ 400) (hs : SysOf xss N) (hcon : Conn xss N) :
    Calls Try.prog 68 #[.agg #[.slice A n c]] w fun e w' => ∃ (A1 : Option Addr) (c1 : Nat), e = .returned (.agg #[.slice A1 n c1]) ∧ OwnS w' w.heap.size w'.heap.size 26 2 A1 n c1 (leastGo xss N N) ∧ Below w.heap.size w w' := by
  have hm := h.max
  have hR := rs_alloc (rs_alloc h hhi (.cells #[.slice A n c] 29)) (by simp; omega) (.cells #[.slice none 0 0] 29)
  have hC : ((w.alloc (.cells #[.slice A n c] 29)).alloc (.cells #[.slice none 0 0] 29)).cell? ⟨w.heap.size, 0, none⟩ = some (.slice A n c) := (al_old _ _ _ _ (by simp)).trans (al_new _ _ _ _ rfl)
  have hQ : ((w.alloc (.cells #[.slice A n c] 29)).alloc (.cells #[.slice none 0 0] 29)).heap[w.heap.size + 1]? = some (.cells #[.slice none 0 0] 29 (0, 0)) := heap_new _ _ _ (by simp)
  have hB : Below w.heap.size w ((w.alloc (.cells #[.slice A n c] 29)).alloc (.cells #[.slice none 0 0] 29)) := ((Below.refl _ _).alloc (Nat.le_refl _) _).alloc (by simp) _
  replace hs := Lib.hid hs
  replace hN := Lib.hid hN
  replace hcon := Lib.hid hcon
  go_enter Try.func68, Try.ntmps68
  go_wp2_with fail
  obtain ⟨W1, hW⟩ : ∃ W1 : World, (w.alloc (.cells #[.slice A n c] 29)).alloc (.cells #[.slice none 0 0] 29) = W1 := ⟨_, rfl⟩
  have hz1 : W1.heap.size = w.heap.size + 2 := by rw [← hW]; simp
  rw [hW] at hR hC hB hQ ⊢
  replace hQ := Lib.hid hQ
  clear hW h
  ((with_reducible refine (l02Form_any A n c xss 0 _ hR (by omega) hn hn5 N hN.out h4 hs.out hcon.out (by omega) (by omega)).mono ?_); rintro e w2 ⟨A2, c2, rfl, o2, f2⟩)
  have z2 := f2.size
  skip
  have B3 : Below W1.heap.size W1 (w2.alloc (.cells #[.slice A2 n c2] 29)) := f2.alloc (by omega) _
  have L3 : (w2.alloc (.cells #[.slice A2 n c2] 29)).heap[w2.heap.size]? = some (.cells #[.slice A2 n c2] 29 (0, 0)) := heap_new _ _ _ rfl
  have o3 : OwnS (w2.alloc (.cells #[.slice A2 n c2] 29)) W1.heap.size w2.heap.size 26 2 A2 n c2 (formL xss N 0) := o2.keep (same_alloc _ _ _ _ (Nat.le_refl _))
  have z3 : (w2.alloc (.cells #[.slice A2 n c2] 29)).heap.size = w2.heap.size + 1 := by simp
  replace L3 := Lib.hid L3
  go_wp2_with fail
  go_loopw [4] (fun kv wq => ∃ (k : Nat) (A3 : Option Addr) (c3 lo3 hi3 : Nat), 1 ≤ k ∧ k ≤ N ∧ kv = .int .i64 k ∧ Below W1.heap.size W1 wq ∧ w2.heap.size + 1 ≤ wq.heap.size ∧ Hid (wq.heap[w2.heap.size]? = some (.cells #[.slice A3 n c3] 29 (0, 0))) ∧ OwnS wq lo3 hi3 26 2 A3 n c3 (leastGo xss N k) ∧ W1.heap.size ≤ lo3 ∧ hi3 ≤ wq.heap.size ∧ (hi3 ≤ w2.heap.size ∨ w2.heap.size < lo3)) (fun kv _ => N - (intOf kv).toNat)
  case atStart => exact ⟨1, A2, c2, W1.heap.size, w2.heap.size, by omega, by omega, by go_num, B3, by omega, L3, (leastGo_one xss N).symm ▸ o3, by omega, by omega, .inl (Nat.le_refl _)⟩
  case round =>
    obtain ⟨k, A3, c3, lo3, hi3, hk0, hk, rfl, hb, hzw, hL, ho, hl1, hl2, hl3⟩ := hrel
    have y1 := hb.size
    have Ck := (hb.cell (p := ⟨w.heap.size, 0, none⟩) (by simp; omega)).trans hC
    have Rk := hR.below hb (by omega)
    go_wp2_with fail
    ((with_reducible refine (l02Flags_any A n c xss _ Rk (by omega) hn).mono ?_); rintro e w3 ⟨rfl, f3⟩)
    rw [hN.out]
    have y3 := f3.size
    have hb3 : Below W1.heap.size W1 w3 := below_then hb f3 (by omega)
    have C3 := (hb3.cell (p := ⟨w.heap.size, 0, none⟩) (by simp; omega)).trans hC
    have R3 := hR.below hb3 (by omega)
    have hL3 := (f3.block w2.heap.size (by omega)).trans hL.out
    have ho3 := ho.below f3 hl2
    replace hL3 := Lib.hid hL3
    clear Ck Rk hL ho hb f3
    by_cases hlt : k < N
    · have hst := leastGo_succ xss N k
      unfold minF at hst
      replace hst := Lib.hid hst
      go_wp2_with fail
      ((with_reducible refine (l02Form_any A n c xss (k : Int) _ R3 (by omega) hn hn5 N hN.out h4 hs.out hcon.out (by omega) (by omega)).mono ?_); rintro e w4 ⟨A4, c4, rfl, o4, f4⟩)
      have y4 := f4.size
      have B5 : Below W1.heap.size W1 (w4.alloc (.cells #[.slice A4 n c4] 29)) := (below_then hb3 f4 (by omega)).alloc (by omega) _
      have b5 : Below w3.heap.size w3 (w4.alloc (.cells #[.slice A4 n c4] 29)) := f4.alloc (by omega) _
      have M5 : (w4.alloc (.cells #[.slice A4 n c4] 29)).heap[w4.heap.size]? = some (.cells #[.slice A4 n c4] 29 (0, 0)) := heap_new _ _ _ rfl
      have o5 : OwnS (w4.alloc (.cells #[.slice A4 n c4] 29)) w3.heap.size w4.heap.size 26 2 A4 n c4 (formL xss N (k : Int)) := o4.keep (same_alloc _ _ _ _ (Nat.le_refl _))
      have z5 : (w4.alloc (.cells #[.slice A4 n c4] 29)).heap.size = w4.heap.size + 1 := by simp
      have L5 := (b5.block w2.heap.size (by omega)).trans hL3.out
      have p5 := ho3.below b5 (by omega)
      have l5C : (w4.alloc (.cells #[.slice A4 n c4] 29)).cell? ⟨w2.heap.size, 0, none⟩ = some (.slice A3 n c3) := (cell_of_row _ _ _ _ _ _ L5).trans rfl
      have l5F : (w4.alloc (.cells #[.slice A4 n c4] 29)).frozen? ⟨w2.heap.size, 0, none⟩ = false := frozen_of_row _ _ _ _ _ L5
      replace L5 := Lib.hid L5
      replace M5 := Lib.hid M5
      go_wp2_with fail
      obtain ⟨W5, hW5⟩ : ∃ W5 : World, w4.alloc (.cells #[.slice A4 n c4] 29) = W5 := ⟨_, rfl⟩
      rw [hW5] at B5 b5 M5 o5 z5 L5 p5 ⊢
      clear hW5 l5C l5F
      ((with_reducible refine (l01Less2_any A4 n c4 _ A3 n c3 _ _ o5.rs (by omega) p5.rs (by omega)).mono ?_); rintro e w6 ⟨rfl, f6⟩)
      have y6 := f6.size
      have L6 := (f6.block w2.heap.size (by omega)).trans L5.out
      have M6 := (f6.block w4.heap.size (by omega)).trans M5.out
      have l6C : w6.cell? ⟨w2.heap.size, 0, none⟩ = some (.slice A3 n c3) := (cell_of_row _ _ _ _ _ _ L6).trans rfl
      have l6F : w6.frozen? ⟨w2.heap.size, 0, none⟩ = false := frozen_of_row _ _ _ _ _ L6
      have m6C : w6.cell? ⟨w4.heap.size, 0, none⟩ = some (.slice A4 n c4) := (cell_of_row _ _ _ _ _ _ M6).trans rfl
      have m6F : w6.frozen? ⟨w4.heap.size, 0, none⟩ = false := frozen_of_row _ _ _ _ _ M6
      replace L6 := Lib.hid L6
      replace M6 := Lib.hid M6
      have B6 : Below W1.heap.size W1 w6 := below_then B5 f6 (by omega)
      by_cases hc : cmp2 (formL xss N (k : Int)) (leastGo xss N k) < 0
      · have hd : decide (cmp2 (formL xss N (k : Int)) (leastGo xss N k) < 0) = true := decide_eq_true hc
        replace hst := hst.out
        rw [if_pos hc] at hst
        rw [hd]
        replace hst := Lib.hid hst
        replace hc := Lib.hid hc
        have o6 := (o5.below f6 (by omega)).keep (same_set w6 ⟨w2.heap.size, 0, none⟩ (Value.slice A4 n c4) _ _ (.inl (by simp; omega)))
        rw [← hst.out] at o6
        have S6 := heap_setCell_same _ _ 0 _ _ (Value.slice A4 n c4) L6.out
        replace S6 := Lib.hid S6
        have B7 := B6.setCell (p := ⟨w2.heap.size, 0, none⟩) (by simp; omega) (Value.slice A4 n c4)
        go_wp2_with fail
        go_roundw
        case measure => simp [intOf]; omega
        case rel => exact ⟨k + 1, A4, c4, w3.heap.size, w4.heap.size, by omega, by omega, by go_num, B7, by simp; omega, Lib.hid (by simpa using S6.out), o6, by omega, by simp; omega, .inr (by omega)⟩
      · have hd : decide (cmp2 (formL xss N (k : Int)) (leastGo xss N k) < 0) = false := decide_eq_false hc
        replace hst := hst.out
        rw [if_neg hc] at hst
        rw [hd]
        replace hst := Lib.hid hst
        replace hc := Lib.hid hc
        have p6 := p5.below f6 (by omega)
        rw [← hst.out] at p6
        go_wp2_with fail
        go_roundw
        case measure => simp [intOf]; omega
        case rel => exact ⟨k + 1, A3, c3, lo3, hi3, by omega, by omega, by go_num, B6, by omega, L6, p6, by omega, by omega, hl3⟩
    · have hkn : k = N := by omega
      subst hkn
      have Qk := (hb3.block (w.heap.size + 1) (by omega)).trans hQ.out
      have qC : w3.cell? ⟨w.heap.size + 1, 0, none⟩ = some (.slice none 0 0) := (cell_of_row _ _ _ _ _ _ Qk).trans rfl
      have qF : w3.frozen? ⟨w.heap.size + 1, 0, none⟩ = false := frozen_of_row _ _ _ _ _ Qk
      have lC : w3.cell? ⟨w2.heap.size, 0, none⟩ = some (.slice A3 n c3) := (cell_of_row _ _ _ _ _ _ hL3.out).trans rfl
      have lF : w3.frozen? ⟨w2.heap.size, 0, none⟩ = false := frozen_of_row _ _ _ _ _ hL3.out
      replace Qk := Lib.hid Qk
      go_wp2_with fail
      have g2 := heap_setCell_same _ _ 0 _ _ (Value.slice A3 n c3) Qk.out
      (try simp only [Exit.inBlock, Exit.then])
      refine bodyPost_ret (v := .agg #[.slice A3 n c3]) ?_ rfl ?_
      · exact results_cell_row rfl _ _ (w.heap.size + 1) 29 #[.slice A3 n c3] (0, 0) _ rfl (by simpa using g2) Try.underlying29 rfl (by kernel_rfl)
      · exact ⟨A3, c3, rfl, (ho3.keep (same_set _ _ _ _ _ (.inl (by simp; omega)))).more (by omega) (by simp; omega), (hB.trans (hb3.mono (by omega))).setCell (by simp) _⟩
end Go.Proofs.Ytpbkdjkgaalegaa
