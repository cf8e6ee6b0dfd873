/- Walks: RunMoves, the program's and the reference's. No condition but the sizes of memory. -/
import Derived.Test.YtnkmpcdipmajhaaManX
namespace Go.Proofs.Ytnkmpcdipmajhaa
open Go.RowKit
set_option linter.unusedVariables false
set_option maxRecDepth 100000
noncomputable def runF (xss : List (List Int)) (x : Int) (word : List Int) : Int × Int :=
  if isManB xss = true then (if (inR 0 ((flg xss : Nat) - 1 : Int) x && (decide (word.length ≤ 64) && allIn 0 ((xss.length : Int) - 1) word)) = true then (runW xss word x, 0) else (0, 2)) else (0, 1)
theorem runW_take {xss : List (List Int)} {word : List Int} {k : Nat} {g x : Int} (h : word[k]? = some g) : runW xss (word.take (k + 1)) x = (xss.getD g.toNat []).getD (runW xss (word.take k) x).toNat 0 := by
  rw [take_succ_of h, runW_snoc]
theorem l02Flags_any (A : Option Addr) (n c : Nat) (xss : List (List Int)) (w : World) {lo hi : Nat} (h : RS w lo hi A n xss) (hhi : hi ≤ w.heap.size) (hn : 0 < n) :
    Calls Try.prog 121 #[.agg #[.slice A n c]] w fun e w' => e = .returned (.int .i64 (flg xss : Nat)) ∧ Below w.heap.size w w' := by
  obtain ⟨b0, o0, A0, n0, c0, p0, rfl, _, _, hp0, hc0, hr0⟩ := (rs_alloc h hhi (.cells #[.slice A n c] 52)).at_ (k := 0) hn
  rw [Nat.add_zero] at hc0
  have hm := h.max
  have hm0 := hr0.max
  have hf : flg xss = n0 := by rw [flg_of hp0]; exact hr0.len
  replace hf := Lib.hid hf
  have hpn : ¬ n = 0 := by omega
  clear hp0
  go_enter Try.func121, Try.ntmps121
  go_wp2_with fail
  go_ret
  exact ⟨ret_int (by rw [hf.out]), (Below.refl _ _).alloc (Nat.le_refl _) _⟩
theorem l02Flag_any (A : Option Addr) (n c : Nat) (xss : List (List Int)) (x : Int) (w : World) {lo hi : Nat} (h : RS w lo hi A n xss) (hhi : hi ≤ w.heap.size) (hn : 0 < n) (h4 : flg xss ≤ 400) :
    Calls Try.prog 93 #[.agg #[.slice A n c], .int .i64 x] w fun e w' => e = .returned (.bool (inR 0 ((flg xss : Nat) - 1 : Int) x)) ∧ Below w.heap.size w w' := by
  have hR := rs_alloc h hhi (.cells #[.slice A n c] 52)
  have hB : Below w.heap.size w (w.alloc (.cells #[.slice A n c] 52)) := (Below.refl _ _).alloc (Nat.le_refl _) _
  go_enter Try.func93, Try.ntmps93
  go_wp2_with fail
  ((with_reducible refine (l02Flags_any A n c xss _ hR (by simp; omega) hn).mono ?_); rintro e w1 ⟨rfl, hb1⟩)
  go_wp2_with fail
  ((with_reducible refine (in_any _ _ _ _).mono ?_); rintro e w' ⟨rfl, rfl⟩)
  go_wp2_with fail
  go_ret
  exact ⟨rfl, hB.trans (hb1.mono (by simp))⟩
theorem hasFlag_any (b : Nat) (A : Option Addr) (n c : Nat) (xss : List (List Int)) (x : Int) (w : World) (hc : w.cell? ⟨b, 0, none⟩ = some (.slice A n c)) {lo hi : Nat} (h : RS w lo hi A n xss) (hn : 0 < n) (h4 : flg xss ≤ 400) :
    Calls Try.prog 96 #[.pointer (some ⟨b, 0, none⟩), .int .i64 x] w fun e w' => e = .returned (.bool (inR 0 ((flg xss : Nat) - 1 : Int) x)) ∧ w = w' := by
  go_enter Try.func96, Try.ntmps96
  go_wp2_with fail
  ((with_reducible refine (flags_any _ A n c xss _ hc h hn).mono ?_); rintro e w' ⟨rfl, rfl⟩)
  go_wp2_with fail
  ((with_reducible refine (within_any _ _ _ _).mono ?_); rintro e w' ⟨rfl, rfl⟩)
  go_wp2_with fail
  go_ret
  exact ⟨rfl, rfl⟩
theorem isWord_any (b : Nat) (A : Option Addr) (n c : Nat) (A' : Option Addr) (m' c' : Nat) (word : List Int) (w : World) (hc : w.cell? ⟨b, 0, none⟩ = some (.slice A n c)) (hn : n ≤ 9223372036854775807) {lo hi : Nat} (h' : RI w lo hi A' m' word) (hhi : hi ≤ w.heap.size) :
    Calls Try.prog 97 #[.pointer (some ⟨b, 0, none⟩), .slice A' m' c'] w fun e w' => e = .returned (.bool (decide (word.length ≤ 64) && allIn 0 ((n : Int) - 1) word)) ∧ Below w.heap.size w w' := by
  have hm' := h'.max
  have hl' := h'.len
  by_cases hw : m' ≤ 64
  · have hd : decide ((m' : Int) ≤ 64) = true := by simp; omega
    have hF : (decide (word.length ≤ 64) && allIn 0 ((n : Int) - 1) word) = allIn 0 ((n : Int) - 1) word := by rw [hl', decide_eq_true hw]; rfl
    replace hF := Lib.hid hF
    replace hl' := Lib.hid hl'
    go_enter Try.func97, Try.ntmps97
    go_wp2_with fail
    ((with_reducible refine (rank_any _ A n c _ hc hn).mono ?_); rintro e w' ⟨rfl, rfl⟩)
    go_wp2_with fail
    ((with_reducible refine (areWithin_any _ _ _ word _ _ _ h' hhi).mono ?_); rintro e w2 ⟨rfl, hb2⟩)
    go_wp2_with fail
    go_ret
    exact ⟨ret_bool hF.out.symm, hb2⟩
  · have hd : decide ((m' : Int) ≤ 64) = false := by simp; omega
    have hF : (decide (word.length ≤ 64) && allIn 0 ((n : Int) - 1) word) = false := by rw [hl', decide_eq_false hw]; rfl
    replace hF := Lib.hid hF
    replace hl' := Lib.hid hl'
    go_enter Try.func97, Try.ntmps97
    go_wp2_with fail
    go_ret
    exact ⟨ret_bool hF.out.symm, Below.refl _ _⟩
set_option maxHeartbeats 1000000 in
theorem l02Word_any (A : Option Addr) (n c : Nat) (A' : Option Addr) (m' c' : Nat) (word : List Int) (w : World) (hn : n ≤ 1048576) {lo hi : Nat} (h' : RI w lo hi A' m' word) (hhi : hi ≤ w.heap.size) :
    Calls Try.prog 94 #[.agg #[.slice A n c], .slice A' m' c'] w fun e w' => e = .returned (.bool (decide (word.length ≤ 64) && allIn 0 ((n : Int) - 1) word)) ∧ Below w.heap.size w w' := by
  have hm' := h'.max
  have hl' := Lib.hid h'.len
  have hR : RI (w.alloc (.cells #[.slice A n c] 52)) lo hi A' m' word := h'.keep (same_alloc w _ _ _ hhi)
  have hC : (w.alloc (.cells #[.slice A n c] 52)).cell? ⟨w.heap.size, 0, none⟩ = some (.slice A n c) := al_new _ _ _ _ rfl
  have hB : Below w.heap.size w (w.alloc (.cells #[.slice A n c] 52)) := (Below.refl _ _).alloc (Nat.le_refl _) _
  go_enter Try.func94, Try.ntmps94
  go_wp2_with fail
  obtain ⟨W1, hW⟩ : ∃ W1 : World, w.alloc (.cells #[.slice A n c] 52) = W1 := ⟨_, rfl⟩
  have hz1 : W1.heap.size = w.heap.size + 1 := by rw [← hW]; simp
  rw [hW] at hR hC hB ⊢
  clear hW h'
  go_loopw [5] (fun iv wr => ∃ k : Nat, k ≤ m' ∧ iv = .int .i64 k ∧ Hid (allIn 0 ((n : Int) - 1) (word.take k) = true) ∧ Below W1.heap.size W1 wr) (fun iv _ => m' - (intOf iv).toNat)
  case atStart => exact ⟨0, by omega, rfl, Lib.hid (by simp [allIn]), Below.refl _ _⟩
  case round =>
    obtain ⟨k, hk, rfl, hall, hb⟩ := hrel
    have hCk := (hb.cell (p := ⟨w.heap.size, 0, none⟩) (by simp; omega)).trans hC
    by_cases hlt : k < m'
    · obtain ⟨b, o, g, rfl, _, _, hg, hc⟩ := (hR.below hb (by omega)).at_ hlt
      have htk := take_succ_of hg
      replace htk := Lib.hid htk
      cases hbd : inR 0 ((n : Int) - 1) g with
      | false =>
        have hin : (decide ((0 : Int) ≤ g) && decide (g ≤ (n : Int) - 1)) = false := hbd
        have hF : allIn 0 ((n : Int) - 1) word = false := by
          cases hq : allIn 0 ((n : Int) - 1) word with
          | false => rfl
          | true => have := List.all_eq_true.1 hq g (mem_of_get? hg); rw [hbd] at this; cases this
        replace hF := Lib.hid hF
        replace hbd := Lib.hid hbd
        replace hg := Lib.hid hg
        replace hin := Lib.hid hin
        go_wp2_with fail
        go_quiet ((go_at_call 67; exact quiet_left (hin.out ▸ in_any _ _ _ _)))
        go_wp2_with fail
        go_ret
        exact ⟨ret_bool (by rw [hF.out]; simp), hB.trans ((below_dn hb _).mono (by omega))⟩
      | true =>
        have hin : (decide ((0 : Int) ≤ g) && decide (g ≤ (n : Int) - 1)) = true := hbd
        replace hbd := Lib.hid hbd
        replace hg := Lib.hid hg
        replace hin := Lib.hid hin
        go_wp2_with fail
        go_quiet ((go_at_call 67; exact quiet_left (hin.out ▸ in_any _ _ _ _)))
        go_wp2_with fail
        go_roundw
        case measure => simp [intOf]; omega
        case rel => exact ⟨k + 1, by omega, by go_num, Lib.hid (by have h0 := hall.out; unfold allIn at *; rw [htk.out, List.all_append, h0]; simp [hbd.out]), below_dn hb _⟩
    · go_wp2_with fail
      go_ret
      have hkm : k = m' := by omega
      subst hkm
      refine ⟨ret_bool ?_, hB.trans (hb.mono (by omega))⟩
      have h0 := hall.out
      rw [List.take_of_length_le (by have := hl'.out; omega)] at h0
      rw [h0, hl'.out]
      by_cases hq : k ≤ 64
      · simp [hq]; omega
      · simp [hq]; omega
set_option maxHeartbeats 1000000 in
theorem l02Run_any (A : Option Addr) (n c : Nat) (xss : List (List Int)) (A' : Option Addr) (m' c' : Nat) (word : List Int) (x : Int) (N : Nat) (w : World) {lo hi lo' hi' : Nat} (h : RS w lo hi A n xss) (hhi : hi ≤ w.heap.size) (h' : RI w lo' hi' A' m' word) (hhi' : hi' ≤ w.heap.size)
    (hr : ∀ p ∈ xss, ∀ x ∈ p, 0 ≤ x ∧ x < N) (hl : ∀ p ∈ xss, p.length = N) (hw : ∀ g ∈ word, 0 ≤ g ∧ g < n) (h0 : 0 ≤ x) (h1 : x < N) :
    Calls Try.prog 95 #[.agg #[.slice A n c], .int .i64 x, .slice A' m' c'] w fun e w' => e = .returned (.int .i64 (runW xss word x)) ∧ Below w.heap.size w w' := by
  have hm' := h'.max
  have hm := h.max
  have hwl := Lib.hid h'.len
  have hR := rs_alloc h hhi (.cells #[.slice A n c] 52)
  have hR' : RI (w.alloc (.cells #[.slice A n c] 52)) lo' hi' A' m' word := h'.keep (same_alloc w _ _ _ hhi')
  have hC : (w.alloc (.cells #[.slice A n c] 52)).cell? ⟨w.heap.size, 0, none⟩ = some (.slice A n c) := al_new _ _ _ _ rfl
  have hB : Below w.heap.size w (w.alloc (.cells #[.slice A n c] 52)) := (Below.refl _ _).alloc (Nat.le_refl _) _
  replace hr := Lib.hid hr
  replace hl := Lib.hid hl
  replace hw := Lib.hid hw
  go_enter Try.func95, Try.ntmps95
  go_wp2_with fail
  obtain ⟨W1, hW⟩ : ∃ W1 : World, w.alloc (.cells #[.slice A n c] 52) = W1 := ⟨_, rfl⟩
  have hz1 : W1.heap.size = w.heap.size + 1 := by rw [← hW]; simp
  rw [hW] at hR hR' hC hB ⊢
  clear hW h' h
  go_loopw [1, 7] (fun xv iv wr => ∃ (k : Nat) (y : Int), k ≤ m' ∧ iv = .int .i64 k ∧ xv = .int .i64 y ∧ Hid (y = runW xss (word.take k) x) ∧ 0 ≤ y ∧ y < N ∧ Below W1.heap.size W1 wr) (fun _ iv _ => m' - (intOf iv).toNat)
  case atStart => exact ⟨0, x, by omega, rfl, rfl, Lib.hid (by simp [runW]), h0, h1, Below.refl _ _⟩
  case round =>
    obtain ⟨k, y, hk, rfl, rfl, hy, hy0, hy1, hb⟩ := hrel
    have hCk := (hb.cell (p := ⟨w.heap.size, 0, none⟩) (by simp; omega)).trans hC
    by_cases hlt : k < m'
    · obtain ⟨b, o, g, rfl, _, _, hg, hc⟩ := (hR'.below hb (by omega)).at_ hlt
      obtain ⟨hg0, hg1⟩ := hw.out g (mem_of_get? hg)
      obtain ⟨g, rfl⟩ : ∃ q : Nat, g = q := ⟨g.toNat, by omega⟩
      obtain ⟨b2, o2, Ak, nk, ck, p, rfl, _, _, hp, hcell, hrow⟩ := (hR.below hb (by omega)).at_ (k := g) (by omega)
      have hnk : nk = N := by rw [← hrow.len]; exact hl.out p (mem_of_get? hp)
      subst hnk
      obtain ⟨y, rfl⟩ : ∃ q : Nat, y = q := ⟨y.toNat, by omega⟩
      obtain ⟨b3, o3, z, rfl, _, _, hz, hcz⟩ := hrow.at_ (k := y) (by omega)
      obtain ⟨hz0, hz1⟩ := hr.out p (mem_of_get? hp) z (mem_of_get? hz)
      have hnk := hrow.max
      have hgn : g < n := by omega
      have hyn : y < nk := by omega
      have hst : z = runW xss (word.take (k + 1)) x := by
        rw [runW_take hg, ← hy.out, Int.toNat_natCast, Int.toNat_natCast, getD_some hp, getD_some hz]
      replace hst := Lib.hid hst
      replace hg := Lib.hid hg
      replace hp := Lib.hid hp
      replace hz := Lib.hid hz
      go_wp2_with fail
      go_quiet (fail)
      go_wp2_with fail
      go_roundw
      case measure => simp [intOf]; omega
      case rel => exact ⟨k + 1, z, by omega, by go_num, rfl, hst, hz0, hz1, below_dn hb _⟩
    · go_wp2_with fail
      go_ret
      have hkn : k = m' := by omega
      subst hkn
      have hy := hy.out
      rw [List.take_of_length_le (by have := hwl.out; omega)] at hy
      exact ⟨ret_int hy, hB.trans (hb.mono (by omega))⟩
set_option maxHeartbeats 2000000 in
theorem s_RunMoves_any (w : World) (A : Option Addr) (n c : Nat) (xss : List (List Int)) {lo hi : Nat} (h : RS w lo hi A n xss) (hhi : hi ≤ w.heap.size) (hnc : n ≤ c) (x : Int) (hx : -9223372036854775808 ≤ x ∧ x ≤ 9223372036854775807) (A' : Option Addr) (m' c' : Nat) (word : List Int) {lo' hi' : Nat} (h' : RI w lo' hi' A' m' word) (hhi' : hi' ≤ w.heap.size) :
    Calls Try.prog 51 #[.agg #[.slice A n c], .int .i64 x, .slice A' m' c'] w fun e w' => ∃ (y code : Int), e = .returned (.tuple #[.int .i64 y, .int .i64 code]) ∧ Hid ((y, code) = runF xss x word) ∧ Below w.heap.size w w' := by
  have hm := h.max
  have hm' := h'.max
  have hl := h.len
  obtain ⟨hx0, hx1⟩ := hx
  have hR := rs_alloc h hhi (.cells #[.slice A n c] 52)
  have hR' : RI (w.alloc (.cells #[.slice A n c] 52)) lo' hi' A' m' word := h'.keep (same_alloc w _ _ _ hhi')
  have hC : (w.alloc (.cells #[.slice A n c] 52)).cell? ⟨w.heap.size, 0, none⟩ = some (.slice A n c) := al_new _ _ _ _ rfl
  have hB : Below w.heap.size w (w.alloc (.cells #[.slice A n c] 52)) := (Below.refl _ _).alloc (Nat.le_refl _) _
  cases hM : isManB xss with
  | false =>
    have hF : runF xss x word = (0, 1) := by unfold runF; rw [hM]; rfl
    replace hF := Lib.hid hF
    replace hM := Lib.hid hM
    replace hl := Lib.hid hl
    go_enter Try.func51, Try.ntmps51
    go_wp2_with fail
    obtain ⟨W1, hW⟩ : ∃ W1 : World, w.alloc (.cells #[.slice A n c] 52) = W1 := ⟨_, rfl⟩
    have hz1 : W1.heap.size = w.heap.size + 1 := by rw [← hW]; simp
    rw [hW] at hR hR' hC hB ⊢
    clear hW h h'
    ((with_reducible refine (l02Is_any A n c xss _ hR (by omega)).mono ?_); rintro e w2 ⟨rfl, f2⟩)
    rw [hM.out]
    go_wp2_with fail
    go_ret2
    exact ⟨_, _, rfl, Lib.hid hF.out.symm, hB.trans (f2.mono (by omega))⟩
  | true =>
    have hP := isManB_iff.1 hM
    have hn1 : 1 ≤ n := by have := hP.r1; omega
    have hn5 : n ≤ 5 := by have := hP.r5; omega
    have hf4 := hP.f4
    have hS := hP.sys
    clear hP
    cases hF1 : inR 0 ((flg xss : Nat) - 1 : Int) x with
    | false =>
      have hF : runF xss x word = (0, 2) := by unfold runF; rw [if_pos hM, hF1]; rfl
      replace hF := Lib.hid hF
      replace hM := Lib.hid hM
      replace hl := Lib.hid hl
      replace hS := Lib.hid hS
      replace hF1 := Lib.hid hF1
      go_enter Try.func51, Try.ntmps51
      go_wp2_with fail
      obtain ⟨W1, hW⟩ : ∃ W1 : World, w.alloc (.cells #[.slice A n c] 52) = W1 := ⟨_, rfl⟩
      have hz1 : W1.heap.size = w.heap.size + 1 := by rw [← hW]; simp
      rw [hW] at hR hR' hC hB ⊢
      clear hW h h'
      ((with_reducible refine (l02Is_any A n c xss _ hR (by omega)).mono ?_); rintro e w2 ⟨rfl, f2⟩)
      rw [hM.out]
      have y2 := f2.size
      have C2 := (f2.cell (p := ⟨w.heap.size, 0, none⟩) (by simp; omega)).trans hC
      have R2 := hR.below f2 (by omega)
      have R2' := hR'.below f2 (by omega)
      go_wp2_with fail
      ((with_reducible refine (l02Flag_any A n c xss x _ R2 (by omega) (by omega) hf4).mono ?_); rintro e w3 ⟨rfl, f3⟩)
      rw [hF1.out]
      have y3 := f3.size
      have B3 : Below W1.heap.size W1 w3 := below_then f2 f3 (by omega)
      have C3 := (f3.cell (p := ⟨w.heap.size, 0, none⟩) (by simp; omega)).trans C2
      have R3 := R2.below f3 (by omega)
      have R3' := R2'.below f3 (by omega)
      go_wp2_with fail
      go_ret2
      exact ⟨_, _, rfl, Lib.hid hF.out.symm, hB.trans (B3.mono (by omega))⟩
    | true =>
      obtain ⟨hxa, hxb⟩ := inR_iff.1 hF1
      have hSr : ∀ p ∈ xss, ∀ x ∈ p, 0 ≤ x ∧ x < flg xss := fun p hp => (hS p hp).1
      have hSl : ∀ p ∈ xss, p.length = flg xss := fun p hp => (hS p hp).2.2
      replace hSr := Lib.hid hSr
      replace hSl := Lib.hid hSl
      cases hF2 : (decide (word.length ≤ 64) && allIn 0 ((n : Int) - 1) word) with
      | false =>
        have hF : runF xss x word = (0, 2) := by unfold runF; rw [if_pos hM, hF1, hl, hF2]; rfl
        replace hF := Lib.hid hF
        replace hM := Lib.hid hM
        replace hl := Lib.hid hl
        replace hS := Lib.hid hS
        replace hF1 := Lib.hid hF1
        replace hF2 := Lib.hid hF2
        go_enter Try.func51, Try.ntmps51
        go_wp2_with fail
        obtain ⟨W1, hW⟩ : ∃ W1 : World, w.alloc (.cells #[.slice A n c] 52) = W1 := ⟨_, rfl⟩
        have hz1 : W1.heap.size = w.heap.size + 1 := by rw [← hW]; simp
        rw [hW] at hR hR' hC hB ⊢
        clear hW h h'
        ((with_reducible refine (l02Is_any A n c xss _ hR (by omega)).mono ?_); rintro e w2 ⟨rfl, f2⟩)
        rw [hM.out]
        have y2 := f2.size
        have C2 := (f2.cell (p := ⟨w.heap.size, 0, none⟩) (by simp; omega)).trans hC
        have R2 := hR.below f2 (by omega)
        have R2' := hR'.below f2 (by omega)
        go_wp2_with fail
        ((with_reducible refine (l02Flag_any A n c xss x _ R2 (by omega) (by omega) hf4).mono ?_); rintro e w3 ⟨rfl, f3⟩)
        rw [hF1.out]
        have y3 := f3.size
        have B3 : Below W1.heap.size W1 w3 := below_then f2 f3 (by omega)
        have C3 := (f3.cell (p := ⟨w.heap.size, 0, none⟩) (by simp; omega)).trans C2
        have R3 := R2.below f3 (by omega)
        have R3' := R2'.below f3 (by omega)
        go_wp2_with fail
        ((with_reducible refine (l02Word_any A n c A' m' c' word _ (by omega) R3' (by omega)).mono ?_); rintro e w4 ⟨rfl, f4⟩)
        rw [hF2.out]
        have y4 := f4.size
        have B4 : Below W1.heap.size W1 w4 := below_then B3 f4 (by omega)
        have C4 := (f4.cell (p := ⟨w.heap.size, 0, none⟩) (by simp; omega)).trans C3
        have R4 := R3.below f4 (by omega)
        have R4' := R3'.below f4 (by omega)
        go_wp2_with fail
        go_ret2
        exact ⟨_, _, rfl, Lib.hid hF.out.symm, hB.trans (B4.mono (by omega))⟩
      | true =>
        have hF : runF xss x word = (runW xss word x, 0) := by unfold runF; rw [if_pos hM, hF1, hl, hF2]; rfl
        have hwr : ∀ g ∈ word, 0 ≤ g ∧ g < n := fun g hg => by have h3 := (Bool.and_eq_true_iff.1 hF2).2; have := inR_iff.1 (List.all_eq_true.1 h3 g hg); omega
        replace hF := Lib.hid hF
        replace hM := Lib.hid hM
        replace hl := Lib.hid hl
        replace hS := Lib.hid hS
        replace hF1 := Lib.hid hF1
        replace hF2 := Lib.hid hF2
        replace hwr := Lib.hid hwr
        go_enter Try.func51, Try.ntmps51
        go_wp2_with fail
        obtain ⟨W1, hW⟩ : ∃ W1 : World, w.alloc (.cells #[.slice A n c] 52) = W1 := ⟨_, rfl⟩
        have hz1 : W1.heap.size = w.heap.size + 1 := by rw [← hW]; simp
        rw [hW] at hR hR' hC hB ⊢
        clear hW h h'
        ((with_reducible refine (l02Is_any A n c xss _ hR (by omega)).mono ?_); rintro e w2 ⟨rfl, f2⟩)
        rw [hM.out]
        have y2 := f2.size
        have C2 := (f2.cell (p := ⟨w.heap.size, 0, none⟩) (by simp; omega)).trans hC
        have R2 := hR.below f2 (by omega)
        have R2' := hR'.below f2 (by omega)
        go_wp2_with fail
        ((with_reducible refine (l02Flag_any A n c xss x _ R2 (by omega) (by omega) hf4).mono ?_); rintro e w3 ⟨rfl, f3⟩)
        rw [hF1.out]
        have y3 := f3.size
        have B3 : Below W1.heap.size W1 w3 := below_then f2 f3 (by omega)
        have C3 := (f3.cell (p := ⟨w.heap.size, 0, none⟩) (by simp; omega)).trans C2
        have R3 := R2.below f3 (by omega)
        have R3' := R2'.below f3 (by omega)
        go_wp2_with fail
        ((with_reducible refine (l02Word_any A n c A' m' c' word _ (by omega) R3' (by omega)).mono ?_); rintro e w4 ⟨rfl, f4⟩)
        rw [hF2.out]
        have y4 := f4.size
        have B4 : Below W1.heap.size W1 w4 := below_then B3 f4 (by omega)
        have C4 := (f4.cell (p := ⟨w.heap.size, 0, none⟩) (by simp; omega)).trans C3
        have R4 := R3.below f4 (by omega)
        have R4' := R3'.below f4 (by omega)
        go_wp2_with fail
        ((with_reducible refine (l02Run_any A n c xss A' m' c' word x (flg xss) _ R4 (by omega) R4' (by omega) hSr.out hSl.out hwr.out hxa (by omega)).mono ?_); rintro e w5 ⟨rfl, f5⟩)
        have B5 : Below W1.heap.size W1 w5 := below_then B4 f5 (by omega)
        go_wp2_with fail
        go_ret2
        exact ⟨_, _, rfl, Lib.hid hF.out.symm, hB.trans (B5.mono (by omega))⟩
set_option maxHeartbeats 2000000 in
theorem i_RunMoves_any (w : World) (A : Option Addr) (n c : Nat) (xss : List (List Int)) {lo hi : Nat} (h : RS w lo hi A n xss) (hhi : hi ≤ w.heap.size) (hnc : n ≤ c) (x : Int) (hx : -9223372036854775808 ≤ x ∧ x ≤ 9223372036854775807) (A' : Option Addr) (m' c' : Nat) (word : List Int) {lo' hi' : Nat} (h' : RI w lo' hi' A' m' word) (hhi' : hi' ≤ w.heap.size) :
    Calls Try.prog 52 #[.agg #[.slice A n c], .int .i64 x, .slice A' m' c'] w fun e w' => ∃ (y code : Int), e = .returned (.tuple #[.int .i64 y, .int .i64 code]) ∧ Hid ((y, code) = runF xss x word) ∧ Below w.heap.size w w' := by
  have hm := h.max
  have hm' := h'.max
  have hl := h.len
  obtain ⟨hx0, hx1⟩ := hx
  have hR := rs_alloc h hhi (.cells #[.slice A n c] 52)
  have hR' : RI (w.alloc (.cells #[.slice A n c] 52)) lo' hi' A' m' word := h'.keep (same_alloc w _ _ _ hhi')
  have hC : (w.alloc (.cells #[.slice A n c] 52)).cell? ⟨w.heap.size, 0, none⟩ = some (.slice A n c) := al_new _ _ _ _ rfl
  have hB : Below w.heap.size w (w.alloc (.cells #[.slice A n c] 52)) := (Below.refl _ _).alloc (Nat.le_refl _) _
  cases hM : isManB xss with
  | false =>
    have hF : runF xss x word = (0, 1) := by unfold runF; rw [hM]; rfl
    replace hF := Lib.hid hF
    replace hM := Lib.hid hM
    replace hl := Lib.hid hl
    go_enter Try.func52, Try.ntmps52
    go_wp2_with fail
    obtain ⟨W1, hW⟩ : ∃ W1 : World, w.alloc (.cells #[.slice A n c] 52) = W1 := ⟨_, rfl⟩
    have hz1 : W1.heap.size = w.heap.size + 1 := by rw [← hW]; simp
    rw [hW] at hR hR' hC hB ⊢
    clear hW h h'
    ((with_reducible refine (isMan_any A n c xss _ hR (by omega) hnc).mono ?_); rintro e w2 ⟨rfl, f2⟩)
    rw [hM.out]
    go_wp2_with fail
    go_ret2
    exact ⟨_, _, rfl, Lib.hid hF.out.symm, hB.trans (f2.mono (by omega))⟩
  | true =>
    have hP := isManB_iff.1 hM
    have hn1 : 1 ≤ n := by have := hP.r1; omega
    have hn5 : n ≤ 5 := by have := hP.r5; omega
    have hf4 := hP.f4
    have hS := hP.sys
    clear hP
    cases hF1 : inR 0 ((flg xss : Nat) - 1 : Int) x with
    | false =>
      have hF : runF xss x word = (0, 2) := by unfold runF; rw [if_pos hM, hF1]; rfl
      replace hF := Lib.hid hF
      replace hM := Lib.hid hM
      replace hl := Lib.hid hl
      replace hS := Lib.hid hS
      replace hF1 := Lib.hid hF1
      go_enter Try.func52, Try.ntmps52
      go_wp2_with fail
      obtain ⟨W1, hW⟩ : ∃ W1 : World, w.alloc (.cells #[.slice A n c] 52) = W1 := ⟨_, rfl⟩
      have hz1 : W1.heap.size = w.heap.size + 1 := by rw [← hW]; simp
      rw [hW] at hR hR' hC hB ⊢
      clear hW h h'
      ((with_reducible refine (isMan_any A n c xss _ hR (by omega) hnc).mono ?_); rintro e w2 ⟨rfl, f2⟩)
      rw [hM.out]
      have y2 := f2.size
      have C2 := (f2.cell (p := ⟨w.heap.size, 0, none⟩) (by simp; omega)).trans hC
      have R2 := hR.below f2 (by omega)
      have R2' := hR'.below f2 (by omega)
      go_wp2_with fail
      ((with_reducible refine (hasFlag_any _ A n c xss x _ C2 R2 (by omega) hf4).mono ?_); rintro e w' ⟨rfl, rfl⟩)
      rw [hF1.out]
      have B3 := f2
      have C3 := C2
      have R3 := R2
      have R3' := R2'
      go_wp2_with fail
      go_ret2
      exact ⟨_, _, rfl, Lib.hid hF.out.symm, hB.trans (B3.mono (by omega))⟩
    | true =>
      obtain ⟨hxa, hxb⟩ := inR_iff.1 hF1
      have hSr : ∀ p ∈ xss, ∀ x ∈ p, 0 ≤ x ∧ x < flg xss := fun p hp => (hS p hp).1
      have hSl : ∀ p ∈ xss, p.length = flg xss := fun p hp => (hS p hp).2.2
      replace hSr := Lib.hid hSr
      replace hSl := Lib.hid hSl
      cases hF2 : (decide (word.length ≤ 64) && allIn 0 ((n : Int) - 1) word) with
      | false =>
        have hF : runF xss x word = (0, 2) := by unfold runF; rw [if_pos hM, hF1, hl, hF2]; rfl
        replace hF := Lib.hid hF
        replace hM := Lib.hid hM
        replace hl := Lib.hid hl
        replace hS := Lib.hid hS
        replace hF1 := Lib.hid hF1
        replace hF2 := Lib.hid hF2
        go_enter Try.func52, Try.ntmps52
        go_wp2_with fail
        obtain ⟨W1, hW⟩ : ∃ W1 : World, w.alloc (.cells #[.slice A n c] 52) = W1 := ⟨_, rfl⟩
        have hz1 : W1.heap.size = w.heap.size + 1 := by rw [← hW]; simp
        rw [hW] at hR hR' hC hB ⊢
        clear hW h h'
        ((with_reducible refine (isMan_any A n c xss _ hR (by omega) hnc).mono ?_); rintro e w2 ⟨rfl, f2⟩)
        rw [hM.out]
        have y2 := f2.size
        have C2 := (f2.cell (p := ⟨w.heap.size, 0, none⟩) (by simp; omega)).trans hC
        have R2 := hR.below f2 (by omega)
        have R2' := hR'.below f2 (by omega)
        go_wp2_with fail
        ((with_reducible refine (hasFlag_any _ A n c xss x _ C2 R2 (by omega) hf4).mono ?_); rintro e w' ⟨rfl, rfl⟩)
        rw [hF1.out]
        have B3 := f2
        have C3 := C2
        have R3 := R2
        have R3' := R2'
        go_wp2_with fail
        ((with_reducible refine (isWord_any _ A n c A' m' c' word _ C3 hm R3' (by omega)).mono ?_); rintro e w4 ⟨rfl, f4⟩)
        rw [hF2.out]
        have y4 := f4.size
        have B4 : Below W1.heap.size W1 w4 := below_then B3 f4 (by omega)
        have C4 := (f4.cell (p := ⟨w.heap.size, 0, none⟩) (by simp; omega)).trans C3
        have R4 := R3.below f4 (by omega)
        have R4' := R3'.below f4 (by omega)
        go_wp2_with fail
        go_ret2
        exact ⟨_, _, rfl, Lib.hid hF.out.symm, hB.trans (B4.mono (by omega))⟩
      | true =>
        have hF : runF xss x word = (runW xss word x, 0) := by unfold runF; rw [if_pos hM, hF1, hl, hF2]; rfl
        have hwr : ∀ g ∈ word, 0 ≤ g ∧ g < n := fun g hg => by have h3 := (Bool.and_eq_true_iff.1 hF2).2; have := inR_iff.1 (List.all_eq_true.1 h3 g hg); omega
        replace hF := Lib.hid hF
        replace hM := Lib.hid hM
        replace hl := Lib.hid hl
        replace hS := Lib.hid hS
        replace hF1 := Lib.hid hF1
        replace hF2 := Lib.hid hF2
        replace hwr := Lib.hid hwr
        go_enter Try.func52, Try.ntmps52
        go_wp2_with fail
        obtain ⟨W1, hW⟩ : ∃ W1 : World, w.alloc (.cells #[.slice A n c] 52) = W1 := ⟨_, rfl⟩
        have hz1 : W1.heap.size = w.heap.size + 1 := by rw [← hW]; simp
        rw [hW] at hR hR' hC hB ⊢
        clear hW h h'
        ((with_reducible refine (isMan_any A n c xss _ hR (by omega) hnc).mono ?_); rintro e w2 ⟨rfl, f2⟩)
        rw [hM.out]
        have y2 := f2.size
        have C2 := (f2.cell (p := ⟨w.heap.size, 0, none⟩) (by simp; omega)).trans hC
        have R2 := hR.below f2 (by omega)
        have R2' := hR'.below f2 (by omega)
        go_wp2_with fail
        ((with_reducible refine (hasFlag_any _ A n c xss x _ C2 R2 (by omega) hf4).mono ?_); rintro e w' ⟨rfl, rfl⟩)
        rw [hF1.out]
        have B3 := f2
        have C3 := C2
        have R3 := R2
        have R3' := R2'
        go_wp2_with fail
        ((with_reducible refine (isWord_any _ A n c A' m' c' word _ C3 hm R3' (by omega)).mono ?_); rintro e w4 ⟨rfl, f4⟩)
        rw [hF2.out]
        have y4 := f4.size
        have B4 : Below W1.heap.size W1 w4 := below_then B3 f4 (by omega)
        have C4 := (f4.cell (p := ⟨w.heap.size, 0, none⟩) (by simp; omega)).trans C3
        have R4 := R3.below f4 (by omega)
        have R4' := R3'.below f4 (by omega)
        go_wp2_with fail
        ((with_reducible refine (applied_any A n c xss A' m' c' word x (flg xss) _ R4 R4' hSr.out hSl.out hwr.out hxa (by omega)).mono ?_); rintro e w' ⟨rfl, rfl⟩)
        have B5 := B4
        go_wp2_with fail
        go_ret2
        exact ⟨_, _, rfl, Lib.hid hF.out.symm, hB.trans (B5.mono (by omega))⟩
end Go.Proofs.Ytnkmpcdipmajhaa
