/- Walks: sections: the reference's. Up to 400 flags. -/
import Derived.Test.YtpbkdjkgaalegaaSecP
import Derived.Test.YtpbkdjkgaalegaaForm
import Derived.Test.YtpbkdjkgaalegaaOrbS
import Derived.Test.YtpbkdjkgaalegaaFace
import Derived.Deep.RegionLaw
namespace Go.Proofs.Ytpbkdjkgaalegaa
open Go.RowKit
set_option linter.unusedVariables false
set_option maxRecDepth 100000
theorem areRanks_any (b : Nat) (A : Option Addr) (n c : Nat) (xss : List (List Int)) (i k : Int) (w : World) (hc : w.cell? ⟨b, 0, none⟩ = some (.slice A n c)) (hn : n ≤ 1048576) (hl : xss.length = n) :
    Calls Try.prog 53 #[.pointer (some ⟨b, 0, none⟩), .int .i64 i, .int .i64 k] w fun e w' => e = .returned (.bool (okR xss.length i k)) ∧ w = w' := by
  rw [hl]
  cases h1 : (decide ((0 : Int) ≤ i) && decide (i ≤ (n : Int) - 1)) with
  | false =>
    have hr : okR n i k = false := by
      cases hq : okR n i k with
      | false => rfl
      | true => have := okR_iff.1 hq; simp at h1; omega
    replace h1 := Lib.hid h1
    replace hr := Lib.hid hr
    go_enter Try.func53, Try.ntmps53
    go_wp2_with fail
    ((with_reducible refine (hasRank_any _ A n c i _ hc hn).mono ?_); rintro e w' ⟨rfl, rfl⟩)
    rw [h1.out]
    go_wp2_with fail
    go_ret
    exact ⟨ret_bool hr.out.symm, rfl⟩
  | true =>
    cases h2 : (decide ((0 : Int) ≤ k) && decide (k ≤ (n : Int) - 1)) with
    | false =>
      have hr : okR n i k = false := by
        cases hq : okR n i k with
        | false => rfl
        | true => have := okR_iff.1 hq; simp at h2; omega
      replace h1 := Lib.hid h1
      replace h2 := Lib.hid h2
      replace hr := Lib.hid hr
      go_enter Try.func53, Try.ntmps53
      go_wp2_with fail
      ((with_reducible refine (hasRank_any _ A n c i _ hc hn).mono ?_); rintro e w' ⟨rfl, rfl⟩)
      rw [h1.out]
      go_wp2_with fail
      ((with_reducible refine (hasRank_any _ A n c k _ hc hn).mono ?_); rintro e w' ⟨rfl, rfl⟩)
      rw [h2.out]
      go_wp2_with fail
      go_ret
      exact ⟨ret_bool hr.out.symm, rfl⟩
    | true =>
      have hr : okR n i k = decide (i ≤ k) := by
        unfold okR
        simp at h1 h2
        by_cases h3 : i ≤ k
        · simp [h3]; omega
        · simp [h3]
      replace h1 := Lib.hid h1
      replace h2 := Lib.hid h2
      replace hr := Lib.hid hr
      go_enter Try.func53, Try.ntmps53
      go_wp2_with fail
      ((with_reducible refine (hasRank_any _ A n c i _ hc hn).mono ?_); rintro e w' ⟨rfl, rfl⟩)
      rw [h1.out]
      go_wp2_with fail
      ((with_reducible refine (hasRank_any _ A n c k _ hc hn).mono ?_); rintro e w' ⟨rfl, rfl⟩)
      rw [h2.out]
      go_wp2_with fail
      go_ret
      exact ⟨ret_bool hr.out.symm, rfl⟩
set_option maxHeartbeats 2000000 in
theorem l04Code_any (A : Option Addr) (n c : Nat) (xss : List (List Int)) (x i k : Int) (w : World) {lo hi : Nat} (h : RS w lo hi A n xss) (hhi : hi ≤ w.heap.size) (hx : -9223372036854775808 ≤ x ∧ x ≤ 9223372036854775807) :
    Calls Try.prog 51 #[.agg #[.slice A n c], .int .i64 x, .int .i64 i, .int .i64 k] w fun e w' => e = .returned (.int .i64 (codeF xss x i k)) ∧ Below w.heap.size w w' := by
  have hm := h.max
  have hl := h.len
  have hR := rs_alloc h hhi (.cells #[.slice A n c] 29)
  have hC : (w.alloc (.cells #[.slice A n c] 29)).cell? ⟨w.heap.size, 0, none⟩ = some (.slice A n c) := al_new _ _ _ _ rfl
  have hB : Below w.heap.size w (w.alloc (.cells #[.slice A n c] 29)) := (Below.refl _ _).alloc (Nat.le_refl _) _
  cases hM : isManB xss with
  | false =>
    have hF : codeF xss x i k = 1 := by unfold codeF; rw [hM]; rfl
    replace hF := Lib.hid hF
    replace hM := Lib.hid hM
    replace hl := Lib.hid hl
    go_enter Try.func51, Try.ntmps51
    go_wp2_with fail
    ((with_reducible refine (l02Is_any A n c xss _ hR (by simp; omega)).mono ?_); rintro e w2 ⟨rfl, f2⟩)
    rw [hM.out]
    go_wp2_with fail
    go_ret
    exact ⟨ret_int hF.out.symm, hB.trans (f2.mono (by simp))⟩
  | true =>
    have hP := isManB_iff.1 hM
    have hn1 : 1 ≤ n := by have := hP.r1; omega
    have hn5 : n ≤ 5 := by have := hP.r5; omega
    have hf4 := hP.f4
    clear hP
    cases hF1 : inR 0 ((flg xss : Nat) - 1 : Int) x with
    | false =>
      have hF : codeF xss x i k = 2 := by unfold codeF; rw [if_pos hM, hF1]; rfl
      replace hF := Lib.hid hF
      replace hM := Lib.hid hM
      replace hl := Lib.hid hl
      replace hF1 := Lib.hid hF1
      go_enter Try.func51, Try.ntmps51
      go_wp2_with fail
      obtain ⟨W1, hW⟩ : ∃ W1 : World, w.alloc (.cells #[.slice A n c] 29) = W1 := ⟨_, rfl⟩
      have hz1 : W1.heap.size = w.heap.size + 1 := by rw [← hW]; simp
      rw [hW] at hR hC hB ⊢
      clear hW h
      ((with_reducible refine (l02Is_any A n c xss _ hR (by omega)).mono ?_); rintro e w2 ⟨rfl, f2⟩)
      rw [hM.out]
      have y2 := f2.size
      have C2 := (f2.cell (p := ⟨w.heap.size, 0, none⟩) (by simp; omega)).trans hC
      have R2 := hR.below f2 (by omega)
      go_wp2_with fail
      ((with_reducible refine (l02Flag_any A n c xss x _ R2 (by omega) (by omega) hf4).mono ?_); rintro e w3 ⟨rfl, f3⟩)
      rw [hF1.out]
      have B3 : Below W1.heap.size W1 w3 := below_then f2 f3 (by omega)
      go_wp2_with fail
      go_ret
      exact ⟨ret_int hF.out.symm, hB.trans (B3.mono (by omega))⟩
    | true =>
      have hF : codeF xss x i k = if okR xss.length i k = true then 0 else 2 := by unfold codeF; rw [if_pos hM, if_pos hF1]
      rw [hl] at hF
      have key : okR n i k = true ∧ 0 ≤ i ∧ i ≤ k ∧ k ≤ (n : Int) - 1 ∨ okR n i k = false ∧ (i < 0 ∨ (0 ≤ i ∧ k < i) ∨ (0 ≤ i ∧ i ≤ k ∧ (n : Int) - 1 < k)) := by
        cases hq : okR n i k with
        | true => have := okR_iff.1 hq; exact .inl ⟨rfl, this⟩
        | false =>
          refine .inr ⟨rfl, ?_⟩
          have : ¬ (0 ≤ i ∧ i ≤ k ∧ k ≤ (n : Int) - 1) := fun hh => by rw [okR_iff.2 hh] at hq; cases hq
          omega
      replace hM := Lib.hid hM
      replace hl := Lib.hid hl
      replace hF1 := Lib.hid hF1
      rcases key with ⟨hok, k1, k2, k3⟩ | ⟨hok, k1 | ⟨k0, k1⟩ | ⟨k0, k2, k1⟩⟩
      · have e1 : decide (i < 0) = false := by simp; omega
        have e2 : decide (k < i) = false := by simp; omega
        have e3 : decide ((n : Int) - 1 < k) = false := by simp; omega
        have e4 : decide (k > (n : Int) - 1) = false := by simp; omega
        rw [hok] at hF
        replace hF : Hid (codeF xss x i k = 0) := Lib.hid (hF.trans rfl)
        replace hok := Lib.hid hok
        go_enter Try.func51, Try.ntmps51
        go_wp2_with fail
        obtain ⟨W1, hW⟩ : ∃ W1 : World, w.alloc (.cells #[.slice A n c] 29) = W1 := ⟨_, rfl⟩
        have hz1 : W1.heap.size = w.heap.size + 1 := by rw [← hW]; simp
        rw [hW] at hR hC hB ⊢
        clear hW h
        ((with_reducible refine (l02Is_any A n c xss _ hR (by omega)).mono ?_); rintro e w2 ⟨rfl, f2⟩)
        rw [hM.out]
        have y2 := f2.size
        have C2 := (f2.cell (p := ⟨w.heap.size, 0, none⟩) (by simp; omega)).trans hC
        have R2 := hR.below f2 (by omega)
        go_wp2_with fail
        ((with_reducible refine (l02Flag_any A n c xss x _ R2 (by omega) (by omega) hf4).mono ?_); rintro e w3 ⟨rfl, f3⟩)
        rw [hF1.out]
        have C3 := (f3.cell (p := ⟨w.heap.size, 0, none⟩) (by simp; omega)).trans C2
        have B3 : Below W1.heap.size W1 w3 := below_then f2 f3 (by omega)
        go_wp2_with fail
        go_ret
        exact ⟨ret_int hF.out.symm, hB.trans (B3.mono (by omega))⟩
      · have e1 : decide (i < 0) = true := by simp; omega
        rw [hok] at hF
        replace hF : Hid (codeF xss x i k = 2) := Lib.hid (hF.trans rfl)
        replace hok := Lib.hid hok
        go_enter Try.func51, Try.ntmps51
        go_wp2_with fail
        obtain ⟨W1, hW⟩ : ∃ W1 : World, w.alloc (.cells #[.slice A n c] 29) = W1 := ⟨_, rfl⟩
        have hz1 : W1.heap.size = w.heap.size + 1 := by rw [← hW]; simp
        rw [hW] at hR hC hB ⊢
        clear hW h
        ((with_reducible refine (l02Is_any A n c xss _ hR (by omega)).mono ?_); rintro e w2 ⟨rfl, f2⟩)
        rw [hM.out]
        have y2 := f2.size
        have C2 := (f2.cell (p := ⟨w.heap.size, 0, none⟩) (by simp; omega)).trans hC
        have R2 := hR.below f2 (by omega)
        go_wp2_with fail
        ((with_reducible refine (l02Flag_any A n c xss x _ R2 (by omega) (by omega) hf4).mono ?_); rintro e w3 ⟨rfl, f3⟩)
        rw [hF1.out]
        have C3 := (f3.cell (p := ⟨w.heap.size, 0, none⟩) (by simp; omega)).trans C2
        have B3 : Below W1.heap.size W1 w3 := below_then f2 f3 (by omega)
        go_wp2_with fail
        go_ret
        exact ⟨ret_int hF.out.symm, hB.trans (B3.mono (by omega))⟩
      · have e1 : decide (i < 0) = false := by simp; omega
        have e2 : decide (k < i) = true := by simp; omega
        rw [hok] at hF
        replace hF : Hid (codeF xss x i k = 2) := Lib.hid (hF.trans rfl)
        replace hok := Lib.hid hok
        go_enter Try.func51, Try.ntmps51
        go_wp2_with fail
        obtain ⟨W1, hW⟩ : ∃ W1 : World, w.alloc (.cells #[.slice A n c] 29) = W1 := ⟨_, rfl⟩
        have hz1 : W1.heap.size = w.heap.size + 1 := by rw [← hW]; simp
        rw [hW] at hR hC hB ⊢
        clear hW h
        ((with_reducible refine (l02Is_any A n c xss _ hR (by omega)).mono ?_); rintro e w2 ⟨rfl, f2⟩)
        rw [hM.out]
        have y2 := f2.size
        have C2 := (f2.cell (p := ⟨w.heap.size, 0, none⟩) (by simp; omega)).trans hC
        have R2 := hR.below f2 (by omega)
        go_wp2_with fail
        ((with_reducible refine (l02Flag_any A n c xss x _ R2 (by omega) (by omega) hf4).mono ?_); rintro e w3 ⟨rfl, f3⟩)
        rw [hF1.out]
        have C3 := (f3.cell (p := ⟨w.heap.size, 0, none⟩) (by simp; omega)).trans C2
        have B3 : Below W1.heap.size W1 w3 := below_then f2 f3 (by omega)
        go_wp2_with fail
        go_ret
        exact ⟨ret_int hF.out.symm, hB.trans (B3.mono (by omega))⟩
      · have e1 : decide (i < 0) = false := by simp; omega
        have e2 : decide (k < i) = false := by simp; omega
        have e3 : decide ((n : Int) - 1 < k) = true := by simp; omega
        have e4 : decide (k > (n : Int) - 1) = true := by simp; omega
        rw [hok] at hF
        replace hF : Hid (codeF xss x i k = 2) := Lib.hid (hF.trans rfl)
        replace hok := Lib.hid hok
        go_enter Try.func51, Try.ntmps51
        go_wp2_with fail
        obtain ⟨W1, hW⟩ : ∃ W1 : World, w.alloc (.cells #[.slice A n c] 29) = W1 := ⟨_, rfl⟩
        have hz1 : W1.heap.size = w.heap.size + 1 := by rw [← hW]; simp
        rw [hW] at hR hC hB ⊢
        clear hW h
        ((with_reducible refine (l02Is_any A n c xss _ hR (by omega)).mono ?_); rintro e w2 ⟨rfl, f2⟩)
        rw [hM.out]
        have y2 := f2.size
        have C2 := (f2.cell (p := ⟨w.heap.size, 0, none⟩) (by simp; omega)).trans hC
        have R2 := hR.below f2 (by omega)
        go_wp2_with fail
        ((with_reducible refine (l02Flag_any A n c xss x _ R2 (by omega) (by omega) hf4).mono ?_); rintro e w3 ⟨rfl, f3⟩)
        rw [hF1.out]
        have C3 := (f3.cell (p := ⟨w.heap.size, 0, none⟩) (by simp; omega)).trans C2
        have B3 : Below W1.heap.size W1 w3 := below_then f2 f3 (by omega)
        go_wp2_with fail
        go_ret
        exact ⟨ret_int hF.out.symm, hB.trans (B3.mono (by omega))⟩
set_option maxHeartbeats 8000000 in
theorem l04Section_any (N : Nat) (A : Option Addr) (n c : Nat) (XSS : List (List Int)) (x : Int) (i k : Nat) (ii ki : Int) (hii : ii = i) (hki : ki = k) (w : World) {lo hi : Nat} (h : RS w lo hi A n XSS) (hhi : hi ≤ w.heap.size) (hnc : n ≤ c) (hik : i ≤ k) (hkn : k < n) (hn5 : n ≤ 20) (hN : flg XSS = N) (hn : N ≤ 400) (hS : SysOf XSS N) (hx0 : 0 ≤ x) (hx1 : x < N) :
    Calls Try.prog 52 #[.agg #[.slice A n c], .int .i64 x, .int .i64 ii, .int .i64 ki] w fun e w' => ∃ (A1 : Option Addr) (c1 : Nat), e = .returned (.agg #[.slice A1 (k + 1 - i) c1]) ∧ OwnS w' w.heap.size w'.heap.size 26 2 A1 (k + 1 - i) c1 (formL (subL XSS i (k + 1)) N x) ∧ Below w.heap.size w w' := by
  subst hii
  subst hki
  obtain ⟨j0, hj0, hy0, hy1, hy2⟩ := info_parts infoI
  obtain ⟨s0, hs0, hu0, hu1, hu2⟩ := info_parts infoS
  have hl := h.len
  obtain ⟨b0, o0, A0, n0, c0, p0, rfl, _, _, _, _, _⟩ := h.at_ (k := 0) (by omega)
  have hR0 := rs_alloc (rs_alloc h hhi (.cells #[.slice (some ⟨b0, o0, none⟩) n c] 29)) (by simp; omega) (.cells #[.slice none 0 0] 29)
  have hB0 : Below w.heap.size w ((w.alloc (.cells #[.slice (some ⟨b0, o0, none⟩) n c] 29)).alloc (.cells #[.slice none 0 0] 29)) := ((Below.refl _ _).alloc (Nat.le_refl _) _).alloc (by simp) _
  have hC0 : ((w.alloc (.cells #[.slice (some ⟨b0, o0, none⟩) n c] 29)).alloc (.cells #[.slice none 0 0] 29)).cell? ⟨w.heap.size, 0, none⟩ = some (.slice (some ⟨b0, o0, none⟩) n c) := (al_old _ _ _ _ (by simp)).trans (al_new _ _ _ _ rfl)
  have hQ0 : ((w.alloc (.cells #[.slice (some ⟨b0, o0, none⟩) n c] 29)).alloc (.cells #[.slice none 0 0] 29)).heap[w.heap.size + 1]? = some (.cells #[.slice none 0 0] 29 (0, 0)) := heap_new _ _ _ (by simp)
  have hs : SysOf (subL XSS i (k + 1)) N := sysOf_sub hS i (k + 1)
  have hxl : (subL XSS i (k + 1)).length = k + 1 - i := subL_length (by omega) (by omega)
  have hsub : RS w lo hi (some ⟨b0, o0 + i, none⟩) (k + 1 - i) (subL XSS i (k + 1)) := rs_sub h (by omega) (by omega) (fun _ => rfl)
  have hnf := l01Orbit_any N (some ⟨b0, o0 + i, none⟩) (k + 1 - i) (c - i) (subL XSS i (k + 1)) x _ ((hsub.keep (Same.of_below hB0 hhi))) (by simp; omega) hn hs hx0 hx1
  have hmet := bfs_met hs hx0 hx1
  have hclo : ∀ y ∈ bfs (subL XSS i (k + 1)) N x, ∀ p ∈ subL XSS i (k + 1), at' p y ∈ bfs (subL XSS i (k + 1)) N x := fun y hy p hp => bfs_closed hs hx0 hx1 hy hp
  have hfl : formL (subL XSS i (k + 1)) N x = (subL XSS i (k + 1)).map (ixF (bfs (subL XSS i (k + 1)) N x)) := rfl
  rw [hfl]
  clear hfl
  generalize bfs (subL XSS i (k + 1)) N x = ord at *
  generalize subL XSS i (k + 1) = xss at *
  have hol := hmet.len
  have hci : ¬ c = i := by omega
  have hic : i ≤ c := by omega
  have hI1 : (i : Int) ≤ (k : Int) + 1 := by omega
  have hI2 : (k : Int) + 1 ≤ (n : Int) := by omega
  have hI3 : (k : Int) + 1 ≤ (c : Int) := by omega
  obtain ⟨m, hmk⟩ : ∃ m, k + 1 - i = m := ⟨_, rfl⟩
  rw [hmk] at hxl hsub hnf ⊢
  have hm1 : 1 ≤ m := by omega
  have hm20 : m ≤ 20 := by omega
  replace hmet := Lib.hid hmet
  replace hclo := Lib.hid hclo
  replace hs := Lib.hid hs
  replace hS := Lib.hid hS
  replace hl := Lib.hid hl
  replace hxl := Lib.hid hxl
  go_enter Try.func52, Try.ntmps52
  go_wp2_with fail
  ((with_reducible refine hnf.mono ?_); rintro e w1 ⟨A5, n5, c5, rfl, o5, f1⟩)
  have B1 : Below w.heap.size w w1 := hB0.trans (f1.mono (by simp; omega))
  have C1 := (f1.cell (p := ⟨w.heap.size, 0, none⟩) (by simp; omega)).trans hC0
  have g4 := (f1.block (w.heap.size + 1) (by simp)).trans hQ0
  have z1 : w.heap.size + 2 ≤ w1.heap.size := by have := f1.size; simp at this; omega
  have e5 := o5.lenI
  subst e5
  have hR1 := h.below B1 hhi
  have hsub1 := hsub.below B1 hhi
  have o5 := o5.more (lo' := w.heap.size) (hi' := w1.heap.size) (by simp <;> omega) (Nat.le_refl _)
  replace g4 := Lib.hid g4
  clear f1 hnf hR0 hC0 hQ0 hB0
  go_wp2_with fail
  ((with_reducible refine (l02Flags_any (some ⟨b0, o0, none⟩) n c XSS _ hR1 (by omega) (by omega)).mono ?_); rintro e w1b ⟨rfl, f1b⟩)
  rw [hN]
  have y1b := f1b.size
  have B1b : Below w1.heap.size w1 w1b := f1b
  go_wp2_with (at_make; refine wpList_make_full _ rfl _ _ 26 rfl w1b.heap.size 2 j0 (.int .i64 0) 1 Try.underlying26 hj0 hy0 hy1 _ _ _ _ N rfl rfl rfl rfl ?c1 ?c2 (Nat.le_refl _) ?_)
  case c1 => rw [hy2]; omega
  case c2 => simp only [maxLen]; omega
  intro w2 hown hg
  have B2 : Below w1b.heap.size w1b w2 := (Below.refl _ _).grown hg (Nat.le_refl _) (by simp)
  have z2 : w1b.heap.size < w2.heap.size := (hown.lt w1b.heap.size (by simp [Value.ownBlock])).2
  have o6 : Own w2 w1b.heap.size w2.heap.size 2 (some ⟨w1b.heap.size, 0, none⟩) N N ((List.replicate N 0).map (Value.int .i64)) := by
    have := Own.of_row hown
    simpa [toList_madeCells_one, Value.cells] using this
  have o5b := o5.below B1b (Nat.le_refl _)
  clear hown hg f1b
  go_wp2_with fail
  go_loopw [12] (fun kv wq => ∃ (q : Nat) (ns : List Int), q ≤ ord.length ∧ kv = .int .i64 q ∧ Hid (NumI ord N q ns) ∧ Own wq w1b.heap.size w2.heap.size 2 (some ⟨w1b.heap.size, 0, none⟩) N N (ns.map (Value.int .i64)) ∧ w2.heap.size ≤ wq.heap.size ∧ Below w1b.heap.size w1b wq) (fun kv _ => ord.length - (intOf kv).toNat)
  case atStart => exact ⟨0, _, by omega, rfl, Lib.hid (NumI.zero ord N), o6, Nat.le_refl _, B2⟩
  case round =>
    clear o6 B2
    obtain ⟨q, ns, hq, rfl, hns, ho, hz, hb⟩ := hrel
    by_cases hlt : q < ord.length
    · obtain ⟨b5, f, rfl, _, _, _, hf, hcf, _⟩ := (o5b.below hb (by omega)).atI hlt
      obtain ⟨hf0, hf1⟩ := hmet.out.rng f (mem_of_get? hf)
      obtain ⟨f, rfl⟩ : ∃ q : Nat, f = q := ⟨f.toNat, by omega⟩
      have hcn := ho.cellI (hns.out.2 f (by omega))
      have hfr := ho.frz f
      have hfn : f < N := by omega
      have hst := hns.out.step hmet.out.nd hf
      replace hst := Lib.hid hst
      replace hf := Lib.hid hf
      generalize (if (f : Int) ∈ ord.take q then (ord.idxOf (f : Int) : Int) else 0) = old at *
      go_wp2_with fail
      go_roundw
      case measure => simp [intOf]; omega
      case rel => exact ⟨q + 1, ns.set f (q : Int), by omega, by go_num, hst, ho.setI (q : Int), by simp; omega, hb.setCell (by simp) _⟩
    · have hko : q = ord.length := by omega
      subst hko
      have hnum : ∀ z : Nat, z < N → (z : Int) ∈ ord → ns[z]? = some (ord.idxOf (z : Int) : Int) := fun z hz' hm => hns.out.get hz' hm
      replace hnum := Lib.hid hnum
      go_wp2_with fail
      obtain ⟨w3, rfl⟩ : ∃ w3 : World, w3 = wr := ⟨_, rfl⟩
      have g9 : (w3.alloc (.cells #[.slice none 0 0] 29)).heap[w3.heap.size]? = some (.cells #[.slice none 0 0] 29 (0, 0)) := heap_new _ _ _ rfl
      go_loopw [14] (fun kv wq => ∃ (q : Nat) (vs : List Value) (A2 : Option Addr) (c2 : Nat), q ≤ m ∧ vs.length = q ∧ kv = .int .i64 q ∧ wq.heap[w3.heap.size]? = some (.cells #[.slice A2 q c2] 29 (0, 0)) ∧
          Own wq (w3.heap.size + 1) wq.heap.size 26 A2 q c2 vs ∧ RowsOwn wq (w3.heap.size + 1) wq.heap.size 2 vs ((xss.take q).map (ixF ord)) ∧ w3.heap.size + 1 ≤ wq.heap.size ∧ Below w3.heap.size w3 wq) (fun kv _ => m - (intOf kv).toNat)
      case atStart => exact ⟨0, [], none, 0, by omega, rfl, rfl, g9, Own.nil, by simpa using RowsOwn.nil, by simp, (Below.refl _ _).alloc (Nat.le_refl _) _⟩
      case round =>
        clear g9
        obtain ⟨q, vs, A2, c2, hq, hvk, rfl, g9, ho9, hrows, hz9, hb9⟩ := hrel
        have C9 : wr.cell? ⟨w3.heap.size, 0, none⟩ = some (.slice A2 q c2) := by rw [cell_of_row _ _ _ _ _ _ g9]; rfl
        have F9 : wr.frozen? ⟨w3.heap.size, 0, none⟩ = false := frozen_of_row _ _ _ _ _ g9
        have hbw : Below w1b.heap.size w1b wr := hb.trans (hb9.mono (by omega))
        have hb1 : Below w1.heap.size w1 wr := B1b.trans (hbw.mono y1b)
        have ho6 := ho.below hb9 hz
        by_cases hkm : q < m
        · obtain ⟨bb, oo, Ak, nk, ck, p, e, _, _, hp, hpc, hpr⟩ := (hsub1.below hb1 (by omega)).at_ hkm
          injection e with e
          injection e with e1 e2 _
          subst e1; subst e2
          have hpm := mem_of_get? hp
          obtain ⟨hpr0, hpn, hpl⟩ := hs.out p hpm
          have hnk := hpr.len
          have hkk : nk = N := by omega
          subst hkk
          have htk := take_succ_of hp
          replace hp := Lib.hid hp
          replace htk := Lib.hid htk
          replace hpr0 := Lib.hid hpr0
          replace hpl := Lib.hid hpl
          replace g9 := Lib.hid g9
          have hnk1 := hpr.max
          go_wp2_with fail
          obtain ⟨wo, rfl⟩ : ∃ wo : World, wo = wr := ⟨_, rfl⟩
          have hlit := World.ownsRow_lit (e := 2) (base := wo.heap.size) (size := 1) wo #[] 0 (Nat.le_refl _) (by omega) rfl
          go_loopw [15, 16] (fun lv kv wq => ∃ (j : Nat) (ys : List Int) (A3 : Option Addr) (c3 : Nat), j ≤ ord.length ∧ ys.length = j ∧ lv = .slice A3 j c3 ∧ kv = .int .i64 j ∧ Hid (ys = (ixF ord p).take j) ∧ Own wq wo.heap.size wq.heap.size 2 A3 j c3 (ys.map (Value.int .i64)) ∧ wo.heap.size ≤ wq.heap.size ∧ Below wo.heap.size wo wq) (fun _ kv _ => ord.length - (intOf kv).toNat)
          case atStart => exact ⟨0, [], _, 0, by omega, rfl, rfl, rfl, Lib.hid rfl, by simpa using Own.of_row hlit, by simp, (Below.refl _ _).alloc (Nat.le_refl _) _⟩
          case round =>
            clear hlit
            obtain ⟨j, ys, A3, c3, hj, hyl, rfl, rfl, hys, ho3, hz3, hb3⟩ := hrel
            by_cases hjo : j < ord.length
            · obtain ⟨b5, f, hA5, _, _, _, hf, hcf, _⟩ := ((o5b.below hbw (by omega)).below hb3 (by omega)).atI hjo
              subst hA5
              have hfm := mem_of_get? hf
              obtain ⟨hf0, hf1⟩ := hmet.out.rng f hfm
              obtain ⟨f, rfl⟩ : ∃ q : Nat, f = q := ⟨f.toNat, by omega⟩
              have hfn : f < nk := by omega
              obtain ⟨bp, oq, v, rfl, _, _, hv, hvc⟩ := (hpr.below hb3 (by omega)).at_ hfn
              have hva : at' p f = v := by unfold at'; rw [Int.toNat_natCast]; exact getD_some hv
              have hvo := hclo.out _ hfm p hpm
              rw [hva] at hvo
              obtain ⟨hv0, hv1⟩ := hpr0.out v (mem_of_get? hv)
              obtain ⟨v, rfl⟩ : ∃ q : Nat, v = q := ⟨v.toNat, by omega⟩
              have hvn : v < nk := by omega
              have hcn := (ho6.below hb3 (by omega)).cellI (hnum.out v hvn hvo)
              have hpc3 := (hb3.cell (p := ⟨b0, o0 + i + q, none⟩) (by simp; omega)).trans hpc
              have hst : ys ++ [(ord.idxOf (v : Int) : Int)] = (ixF ord p).take (j + 1) := by
                rw [take_succ_of (x := (ord.idxOf (v : Int) : Int)) (by simp [ixF, hf, hva]), ← hys.out]
              replace hst := Lib.hid hst
              replace hf := Lib.hid hf
              replace hfm := Lib.hid hfm
              replace hv := Lib.hid hv
              replace hva := Lib.hid hva
              replace hvo := Lib.hid hvo
              generalize (ord.idxOf (v : Int) : Int) = u at *
              have hown' : Hid ((wr.alloc (.cells #[.int .i64 u] 2)).drew.ownsRow wo.heap.size 2 1 (.slice A3 j c3) j (ys.map (Value.int .i64))) := Lib.hid (ho3.1.alloc _)
              have hnew' : Hid (∀ q v, [Value.int .i64 u][q]? = some v → (wr.alloc (.cells #[.int .i64 u] 2)).drew.cell? ((⟨wr.heap.size, 0, none⟩ : Addr).add q) = some v) := Lib.hid (cell_one_new wr _ _)
              have hml : Hid (j + 1 ≤ maxLen) := Lib.hid (by simp only [maxLen]; omega)
              have hbs : wo.heap.size ≤ (wr.alloc (.cells #[.int .i64 u] 2)).drew.heap.size := by simp; omega
              have hbA : Below wo.heap.size wo (wr.alloc (.cells #[.int .i64 u] 2)).drew := below_drew (hb3.alloc hz3 _)
              have hlo3 : ∀ q, (Value.slice A3 j c3).ownBlock = some q → wo.heap.size ≤ q := fun q hq => (ho3.1.lt q hq).1
              replace hbs := Lib.hid hbs
              replace hbA := Lib.hid hbA
              replace hlo3 := Lib.hid hlo3
              go_wp2_with fail
              go_region_law (refine step_append_lies _ rfl (.tmp 56) (.tmp 70) 26 rfl wo.heap.size 2 j0 (.int .i64 0) 1 8 Try.underlying26 hj0 hy0 hy1 hy2 rfl (by decide) (.slice A3 j c3) j (ys.map (Value.int .i64)) (by simp [Act.eval]) hown'.out ⟨wr.heap.size, 0, none⟩ 1 1 [.int .i64 u] (by simp [Act.eval]) rfl hnew'.out (by simp [Value.oneCell']) (by decide) hml.out (by omega) hbs.out _ rfl ?_; intro g4 c4 w5 ho5 hg5 hor5 hlt5)
              all_goals
                have hb5 : Below wo.heap.size wo w5 := hbA.out.grown hg5 hbs.out (fun q hq => hlo3.out q hq)
                have hz5 : wo.heap.size ≤ w5.heap.size := hb5.size
                clear hcf hvc hcn ho3 hb3 hg5 hpc3
                go_wp2_with fail
                go_roundw
                case measure => simp [intOf]; omega
                case rel => exact ⟨j + 1, ys ++ [u], _, c4, by omega, by simp; omega, rfl, by go_num, hst, by simpa using Own.of_row ho5, by omega, hb5⟩
            · have hjo' : j = ord.length := by omega
              subst hjo'
              have hyf : ys = ixF ord p := by have := hys.out; rwa [List.take_of_length_le (by rw [ixF_length]; exact Nat.le_refl _)] at this
              have ho9' := ho9.below hb3 (Nat.le_refl _)
              have hrows' := hrows.keep (Same.of_below hb3 (Nat.le_refl _))
              have g9' := (hb3.block w3.heap.size (by omega)).trans g9.out
              have C9' : wr.cell? ⟨w3.heap.size, 0, none⟩ = some (.slice A2 q c2) := by rw [cell_of_row _ _ _ _ _ _ g9']; rfl
              have F9' : wr.frozen? ⟨w3.heap.size, 0, none⟩ = false := frozen_of_row _ _ _ _ _ g9'
              replace g9' := Lib.hid g9'
              replace hyf := Lib.hid hyf
              replace hyl := Lib.hid hyl
              go_wp2_with (at_builtin; refine wpList_append1 wr rfl (.tmp 73) (.tmp 75) 22 rfl (w3.heap.size + 1) 26 s0 (.slice none 0 0) 24 Try.underlying22 hs0 hu0 hu1 hu2 rfl (by omega) A2 q c2 _ (.slice A3 ord.length c3) rfl ho9'.1 _ rfl rfl rfl (by omega) (by omega) ?_)
              intro g4' c4 w5 ho5 hg5 hlo5 hlt5 hor5
              have g5 := (hg5.block w3.heap.size (by omega) (fun e => by have := (ho9'.1.lt _ e.symm).1; omega)).trans g9'.out
              have C5 : w5.cell? ⟨w3.heap.size, 0, none⟩ = some (.slice A2 q c2) := by rw [cell_of_row _ _ _ _ _ _ g5]; rfl
              have F5 : w5.frozen? ⟨w3.heap.size, 0, none⟩ = false := frozen_of_row _ _ _ _ _ g5
              have hrw5 := (hrows'.kept_ty ho9'.1 (by decide) hg5).snoc (ho3.kept_ty ho9'.1 (by decide) hg5) (by omega) hz3
              have hz5 := hg5.size
              have hb5 : Below w3.heap.size w3 w5 := (hb9.trans (hb3.mono (by omega))).grown hg5 (by omega) (fun q' hq' => by have := (ho9'.1.lt q' hq').1; omega)
              have ho5' := Own.of_row ho5
              replace g5 := Lib.hid g5
              clear C9 F9 C9' F9' ho9 ho9' hrows hrows' ho3 hg5 ho5
              go_wp2_with fail
              go_roundw
              case measure => simp [intOf]; omega
              case rel =>
                refine ⟨q + 1, vs ++ [.slice A3 ord.length c3], _, c4, by omega, by simp; omega, by go_num, ?_, (ho5'.far (.inl (by simp)) _).more (Nat.le_refl _) (by simp), ?_, by simp; omega, hb5.setCell (by simp) _⟩
                · have := heap_setCell_same _ _ 0 _ _ (Value.slice (some ⟨g4', 0, none⟩) (q + 1) c4) g5.out
                  simpa using this
                · rw [htk.out, List.map_append, List.map_singleton, ← hyf.out]
                  exact (hrw5.keep (same_set _ _ _ _ _ (.inl (by simp)))).more (Nat.le_refl _) (by simp; omega)
        · have hkm' : q = m := by omega
          subst hkm'
          have g4' := (hb1.block (w.heap.size + 1) (by omega)).trans g4.out
          have C4 : wr.cell? ⟨w.heap.size + 1, 0, none⟩ = some (.slice none 0 0) := by rw [cell_of_row _ _ _ _ _ _ g4']; rfl
          have F4 : wr.frozen? ⟨w.heap.size + 1, 0, none⟩ = false := frozen_of_row _ _ _ _ _ g4'
          replace g4' := Lib.hid g4'
          replace g9 := Lib.hid g9
          go_wp2_with fail
          have g2 := heap_setCell_same _ _ 0 _ _ (Value.slice A2 q c2) g4'.out
          (try simp only [Exit.inBlock, Exit.then])
          refine bodyPost_ret (v := .agg #[.slice A2 q c2]) ?_ rfl ?_
          · exact results_cell_row rfl _ _ (w.heap.size + 1) 29 #[.slice A2 q c2] (0, 0) _ rfl (by simpa using g2) Try.underlying29 rfl (by kernel_rfl)
          · have e : xss.take q = xss := List.take_of_length_le (by have := hxl.out; omega)
            rw [e] at hrows
            refine ⟨A2, c2, rfl, ⟨vs, ?_, ?_⟩, (B1.trans (hb1.mono (by omega))).setCell (by simp) _⟩
            · exact (ho9.keep (same_set _ _ _ _ _ (.inl (by simp; omega)))).more (by omega) (by simp)
            · exact (hrows.keep (same_set _ _ _ _ _ (.inl (by simp; omega)))).more (by omega) (by simp)
end Go.Proofs.Ytpbkdjkgaalegaa
