/- Walks: the least flag of a face, the program's and the reference's. Up to 400 flags. -/
import Derived.Test.YtpbkdjkgaalegaaFaceS
import Derived.Test.YtpbkdjkgaalegaaSecP
namespace Go.Proofs.Ytpbkdjkgaalegaa
open Go.RowKit
set_option linter.unusedVariables false
set_option maxRecDepth 100000
/-- the least flag that has a face, and a code -/
noncomputable def lwF (xss : List (List Int)) (i y : Int) : Int × Int :=
  if isManB xss = true then (if (decide ((0 : Int) ≤ i) && decide (i ≤ (xss.length : Int) - 1)) = true then (if decide (y ∈ labL (xss.eraseIdx i.toNat) (flg xss)) = true then (((labL (xss.eraseIdx i.toNat) (flg xss)).idxOf y : Int), 0) else (0, 2)) else (0, 2)) else (0, 1)
/-- the reference's, which asks for one rank besides -/
noncomputable def l4F (xss : List (List Int)) (i y st : Int) : Int × Int := if (lwF xss i y).2 = 0 ∧ i = st then (0, 5) else lwF xss i y
theorem lw_zero {xss : List (List Int)} {i y fl : Int} (h : (fl, (0 : Int)) = lwF xss i y) : isManB xss = true ∧ 0 ≤ i ∧ i ≤ (xss.length : Int) - 1 ∧ 0 ≤ fl ∧ fl < (flg xss : Nat) := by
  unfold lwF at h
  by_cases h1 : isManB xss = true
  · rw [if_pos h1] at h
    by_cases h2 : (decide ((0 : Int) ≤ i) && decide (i ≤ (xss.length : Int) - 1)) = true
    · rw [if_pos h2] at h
      by_cases h3 : decide (y ∈ labL (xss.eraseIdx i.toNat) (flg xss)) = true
      · rw [if_pos h3] at h
        injection h with e1 _
        have h4 := List.idxOf_lt_length_of_mem (of_decide_eq_true h3)
        rw [labL_length] at h4
        simp at h2
        exact ⟨h1, h2.1, h2.2, by omega, by omega⟩
      · rw [if_neg h3] at h; injection h with _ e2; simp at e2
    · rw [if_neg h2] at h; injection h with _ e2; simp at e2
  · rw [if_neg h1] at h; injection h with _ e2; simp at e2
theorem idxI_neg {xs : List Int} {x : Int} (h : decide (x ∈ xs) = false) : idxI xs x = -1 := by unfold idxI; rw [if_neg (of_decide_eq_false h)]
theorem idxI_pos {xs : List Int} {x : Int} (h : decide (x ∈ xs) = true) : idxI xs x = xs.idxOf x := by unfold idxI; rw [if_pos (of_decide_eq_true h)]
theorem index_any (A : Option Addr) (n c : Nat) (xs : List Int) (x : Int) (w : World) {lo hi : Nat} (h : RI w lo hi A n xs) :
    Calls Try.prog 89 #[.slice A n c, .int .i64 x] w fun e w' => e = .returned (.int .i64 (idxI xs x)) ∧ w = w' := by
  have hm := h.max
  have hl := Lib.hid h.len
  go_enter Try.func89, Try.ntmps89
  go_wp2_with fail
  go_loopw [8] (fun kv wq => ∃ k : Nat, k ≤ n ∧ kv = .int .i64 k ∧ Hid (x ∉ xs.take k) ∧ w = wq) (fun kv _ => n - (intOf kv).toNat)
  case atStart => exact ⟨0, by omega, rfl, Lib.hid (by simp), by first | rfl | trivial⟩
  case round =>
    obtain ⟨k, hk, rfl, hnx, rfl⟩ := hrel
    by_cases hlt : k < n
    · obtain ⟨b, o, v, rfl, _, _, hv, hcv⟩ := h.at_ hlt
      have htk := take_succ_of hv
      by_cases hvx : v = x
      · subst hvx
        have hix : idxI xs v = k := by unfold idxI; rw [if_pos (mem_of_get? hv), idx_first hv hnx.out]
        replace hv := Lib.hid hv
        replace htk := Lib.hid htk
        replace hix := Lib.hid hix
        go_wp2_with fail
        go_ret
        exact ⟨ret_int hix.out.symm, rfl⟩
      · have hbq : (x == v) = false := by simp; omega
        have hn2 : x ∉ xs.take (k + 1) := by rw [htk]; simp only [List.mem_append, List.mem_singleton]; rintro (hh | hh); exact hnx.out hh; exact hvx hh.symm
        replace hn2 := Lib.hid hn2
        replace hv := Lib.hid hv
        replace htk := Lib.hid htk
        go_wp2_with fail
        go_roundw
        case measure => simp [intOf]; omega
        case rel => exact ⟨k + 1, by omega, by go_num, hn2, by first | rfl | trivial⟩
    · have hkn : k = n := by omega
      subst hkn
      have hix : idxI xs x = -1 := by unfold idxI; rw [if_neg]; have := hnx.out; rwa [List.take_of_length_le (by have := hl.out; omega)] at this
      replace hix := Lib.hid hix
      go_wp2_with fail
      go_ret
      exact ⟨ret_int hix.out.symm, rfl⟩
set_option maxHeartbeats 4000000 in
theorem leastWith_any (b : Nat) (A : Option Addr) (n c : Nat) (xss : List (List Int)) (x y : Int) (w : World) (hc : w.cell? ⟨b, 0, none⟩ = some (.slice A n c)) (hbs : b < w.heap.size) {lo hi : Nat} (h : RS w lo hi A n xss) (hhi : hi ≤ w.heap.size) (hnc : n ≤ c) :
    Calls Try.prog 67 #[.pointer (some ⟨b, 0, none⟩), .int .i64 x, .int .i64 y] w fun e w' => ∃ (fl cd : Int), e = .returned (.tuple #[.int .i64 fl, .int .i64 cd]) ∧ Hid ((fl, cd) = lwF xss x y) ∧ Below w.heap.size w w' := by
  have hm := h.max
  have hl := h.len
  cases hM : isManB xss with
  | false =>
    have hF : lwF xss x y = (0, 1) := by unfold lwF; rw [hM]; rfl
    replace hF := Lib.hid hF
    replace hM := Lib.hid hM
    replace hl := Lib.hid hl
    go_enter Try.func67, Try.ntmps67
    go_wp2_with fail
    ((with_reducible refine (isMan_any A n c xss _ h hhi hnc).mono ?_); rintro e w2 ⟨rfl, f2⟩)
    have B2 : Below w.heap.size w w2 := f2
    have C2 := (f2.cell (p := ⟨b, 0, none⟩) (by simp; omega)).trans hc
    have R2 := h.below f2 hhi
    rw [hM.out]
    have y2 := f2.size
    go_wp2_with fail
    go_ret2
    exact ⟨_, _, rfl, Lib.hid hF.out.symm, B2⟩
  | true =>
    have hP := isManB_iff.1 hM
    have hn1 : 1 ≤ n := by have := hP.r1; omega
    have hn5 : n ≤ 5 := by have := hP.r5; omega
    have hf4 := hP.f4
    have hS := Lib.hid hP.sys
    clear hP
    cases hF1 : (decide ((0 : Int) ≤ x) && decide (x ≤ (n : Int) - 1)) with
    | false =>
      have hF : lwF xss x y = (0, 2) := by unfold lwF; rw [hl]; rw [if_pos hM, hF1]; rfl
      replace hF := Lib.hid hF
      replace hM := Lib.hid hM
      replace hl := Lib.hid hl
      replace hF1 := Lib.hid hF1
      go_enter Try.func67, Try.ntmps67
      go_wp2_with fail
      ((with_reducible refine (isMan_any A n c xss _ h hhi hnc).mono ?_); rintro e w2 ⟨rfl, f2⟩)
      have B2 : Below w.heap.size w w2 := f2
      have C2 := (f2.cell (p := ⟨b, 0, none⟩) (by simp; omega)).trans hc
      have R2 := h.below f2 hhi
      rw [hM.out]
      have y2 := f2.size
      go_wp2_with fail
      ((with_reducible refine (hasRank_any _ A n c x _ C2 (by omega)).mono ?_); rintro e w' ⟨rfl, rfl⟩)
      rw [hF1.out]
      go_wp2_with fail
      go_ret2
      exact ⟨_, _, rfl, Lib.hid hF.out.symm, B2⟩
    | true =>
      obtain ⟨hxa, hxb⟩ : (0 : Int) ≤ x ∧ x ≤ (n : Int) - 1 := by simpa using hF1
      obtain ⟨x, rfl⟩ : ∃ q : Nat, x = q := ⟨x.toNat, by omega⟩
      cases hF2 : decide (y ∈ labL (xss.eraseIdx x) (flg xss)) with
      | false =>
        have hF : lwF xss x y = (0, 2) := by unfold lwF; rw [hl]; rw [if_pos hM, if_pos hF1]; rw [Int.toNat_natCast, hF2]; rfl
        replace hF := Lib.hid hF
        have hix := Lib.hid (idxI_neg hF2)
        replace hM := Lib.hid hM
        replace hl := Lib.hid hl
        replace hF1 := Lib.hid hF1
        replace hF2 := Lib.hid hF2
        go_enter Try.func67, Try.ntmps67
        go_wp2_with fail
        ((with_reducible refine (isMan_any A n c xss _ h hhi hnc).mono ?_); rintro e w2 ⟨rfl, f2⟩)
        have B2 : Below w.heap.size w w2 := f2
        have C2 := (f2.cell (p := ⟨b, 0, none⟩) (by simp; omega)).trans hc
        have R2 := h.below f2 hhi
        rw [hM.out]
        have y2 := f2.size
        go_wp2_with fail
        ((with_reducible refine (hasRank_any _ A n c x _ C2 (by omega)).mono ?_); rintro e w' ⟨rfl, rfl⟩)
        rw [hF1.out]
        go_wp2_with fail
        ((with_reducible refine (faces_any _ A n c x xss _ C2 R2 (by omega) (by omega) (by omega) _ rfl hf4 hS.out).mono ?_); rintro e w3 ⟨A3, rfl, o3, f3⟩)
        have B3 : Below w.heap.size w w3 := below_then B2 f3 (by omega)
        go_wp2_with fail
        ((with_reducible refine (index_any A3 _ _ _ y _ o3.ri).mono ?_); rintro e w' ⟨rfl, rfl⟩)
        rw [hix.out]
        go_wp2_with fail
        go_ret2
        exact ⟨_, _, rfl, Lib.hid hF.out.symm, B3⟩
      | true =>
        have hix := Lib.hid (idxI_pos hF2)
        have hlt := List.idxOf_lt_length_of_mem (of_decide_eq_true hF2)
        rw [labL_length] at hlt
        have hF : lwF xss x y = (((labL (xss.eraseIdx x) (flg xss)).idxOf y : Int), 0) := by unfold lwF; rw [hl]; rw [if_pos hM, if_pos hF1]; rw [Int.toNat_natCast, if_pos hF2]
        replace hF := Lib.hid hF
        replace hM := Lib.hid hM
        replace hl := Lib.hid hl
        replace hF1 := Lib.hid hF1
        replace hF2 := Lib.hid hF2
        generalize (labL (xss.eraseIdx x) (flg xss)).idxOf y = ix at *
        go_enter Try.func67, Try.ntmps67
        go_wp2_with fail
        ((with_reducible refine (isMan_any A n c xss _ h hhi hnc).mono ?_); rintro e w2 ⟨rfl, f2⟩)
        have B2 : Below w.heap.size w w2 := f2
        have C2 := (f2.cell (p := ⟨b, 0, none⟩) (by simp; omega)).trans hc
        have R2 := h.below f2 hhi
        rw [hM.out]
        have y2 := f2.size
        go_wp2_with fail
        ((with_reducible refine (hasRank_any _ A n c x _ C2 (by omega)).mono ?_); rintro e w' ⟨rfl, rfl⟩)
        rw [hF1.out]
        go_wp2_with fail
        ((with_reducible refine (faces_any _ A n c x xss _ C2 R2 (by omega) (by omega) (by omega) _ rfl hf4 hS.out).mono ?_); rintro e w3 ⟨A3, rfl, o3, f3⟩)
        have B3 : Below w.heap.size w w3 := below_then B2 f3 (by omega)
        go_wp2_with fail
        ((with_reducible refine (index_any A3 _ _ _ y _ o3.ri).mono ?_); rintro e w' ⟨rfl, rfl⟩)
        rw [hix.out]
        go_wp2_with fail
        go_ret2
        exact ⟨_, _, rfl, Lib.hid hF.out.symm, B3⟩
set_option maxHeartbeats 4000000 in
theorem l04Face_any (A : Option Addr) (n c : Nat) (xss : List (List Int)) (x y st : Int) (w : World) {lo hi : Nat} (h : RS w lo hi A n xss) (hhi : hi ≤ w.heap.size) :
    Calls Try.prog 66 #[.agg #[.slice A n c], .int .i64 x, .int .i64 y, .int .i64 st] w fun e w' => ∃ (fl cd : Int), e = .returned (.tuple #[.int .i64 fl, .int .i64 cd]) ∧ Hid ((fl, cd) = l4F xss x y st) ∧ Below w.heap.size w w' := by
  have hm := h.max
  have hl := h.len
  have hR := rs_alloc h hhi (.cells #[.slice A n c] 29)
  have hC : (w.alloc (.cells #[.slice A n c] 29)).cell? ⟨w.heap.size, 0, none⟩ = some (.slice A n c) := al_new _ _ _ _ rfl
  have hB : Below w.heap.size w (w.alloc (.cells #[.slice A n c] 29)) := (Below.refl _ _).alloc (Nat.le_refl _) _
  cases hM : isManB xss with
  | false =>
    have hF0 : lwF xss x y = (0, 1) := by unfold lwF; rw [hM]; rfl
    have hF : l4F xss x y st = (0, 1) := by unfold l4F; rw [hF0, if_neg (by simp)]
    clear hF0
    replace hF := Lib.hid hF
    replace hM := Lib.hid hM
    replace hl := Lib.hid hl
    go_enter Try.func66, Try.ntmps66
    go_wp2_with fail
    obtain ⟨W1, hW⟩ : ∃ W1 : World, w.alloc (.cells #[.slice A n c] 29) = W1 := ⟨_, rfl⟩
    have hz1 : W1.heap.size = w.heap.size + 1 := by rw [← hW]; simp
    rw [hW] at hR hC hB ⊢
    clear hW h
    ((with_reducible refine (l02Is_any A n c xss _ hR (by omega)).mono ?_); rintro e w2 ⟨rfl, f2⟩)
    have B2 : Below W1.heap.size W1 w2 := f2
    have C2 := (f2.cell (p := ⟨w.heap.size, 0, none⟩) (by simp; omega)).trans hC
    have R2 := hR.below f2 (by omega)
    rw [hM.out]
    have y2 := f2.size
    go_wp2_with fail
    go_ret2
    exact ⟨_, _, rfl, Lib.hid hF.out.symm, hB.trans (B2.mono (by omega))⟩
  | true =>
    have hP := isManB_iff.1 hM
    have hn1 : 1 ≤ n := by have := hP.r1; omega
    have hn5 : n ≤ 5 := by have := hP.r5; omega
    have hf4 := hP.f4
    have hS := Lib.hid hP.sys
    clear hP
    cases hF1 : (decide ((0 : Int) ≤ x) && decide (x ≤ (n : Int) - 1)) with
    | false =>
      have hF0 : lwF xss x y = (0, 2) := by unfold lwF; rw [hl]; rw [if_pos hM, hF1]; rfl
      have hF : l4F xss x y st = (0, 2) := by unfold l4F; rw [hF0, if_neg (by simp)]
      clear hF0
      replace hF := Lib.hid hF
      replace hM := Lib.hid hM
      replace hl := Lib.hid hl
      replace hF1 := Lib.hid hF1
      go_enter Try.func66, Try.ntmps66
      go_wp2_with fail
      obtain ⟨W1, hW⟩ : ∃ W1 : World, w.alloc (.cells #[.slice A n c] 29) = W1 := ⟨_, rfl⟩
      have hz1 : W1.heap.size = w.heap.size + 1 := by rw [← hW]; simp
      rw [hW] at hR hC hB ⊢
      clear hW h
      ((with_reducible refine (l02Is_any A n c xss _ hR (by omega)).mono ?_); rintro e w2 ⟨rfl, f2⟩)
      have B2 : Below W1.heap.size W1 w2 := f2
      have C2 := (f2.cell (p := ⟨w.heap.size, 0, none⟩) (by simp; omega)).trans hC
      have R2 := hR.below f2 (by omega)
      rw [hM.out]
      have y2 := f2.size
      go_wp2_with fail
      ((with_reducible refine (in_any _ _ _ _).mono ?_); rintro e w' ⟨rfl, rfl⟩)
      rw [hF1.out]
      go_wp2_with fail
      go_ret2
      exact ⟨_, _, rfl, Lib.hid hF.out.symm, hB.trans (B2.mono (by omega))⟩
    | true =>
      obtain ⟨hxa, hxb⟩ : (0 : Int) ≤ x ∧ x ≤ (n : Int) - 1 := by simpa using hF1
      obtain ⟨x, rfl⟩ : ∃ q : Nat, x = q := ⟨x.toNat, by omega⟩
      cases hF2 : decide (y ∈ labL (xss.eraseIdx x) (flg xss)) with
      | false =>
        have hF0 : lwF xss x y = (0, 2) := by unfold lwF; rw [hl]; rw [if_pos hM, if_pos hF1]; rw [Int.toNat_natCast, hF2]; rfl
        have hF : l4F xss x y st = (0, 2) := by unfold l4F; rw [hF0, if_neg (by simp)]
        clear hF0
        replace hF := Lib.hid hF
        have hix := Lib.hid (idxI_neg hF2)
        replace hM := Lib.hid hM
        replace hl := Lib.hid hl
        replace hF1 := Lib.hid hF1
        replace hF2 := Lib.hid hF2
        go_enter Try.func66, Try.ntmps66
        go_wp2_with fail
        obtain ⟨W1, hW⟩ : ∃ W1 : World, w.alloc (.cells #[.slice A n c] 29) = W1 := ⟨_, rfl⟩
        have hz1 : W1.heap.size = w.heap.size + 1 := by rw [← hW]; simp
        rw [hW] at hR hC hB ⊢
        clear hW h
        ((with_reducible refine (l02Is_any A n c xss _ hR (by omega)).mono ?_); rintro e w2 ⟨rfl, f2⟩)
        have B2 : Below W1.heap.size W1 w2 := f2
        have C2 := (f2.cell (p := ⟨w.heap.size, 0, none⟩) (by simp; omega)).trans hC
        have R2 := hR.below f2 (by omega)
        rw [hM.out]
        have y2 := f2.size
        go_wp2_with fail
        ((with_reducible refine (in_any _ _ _ _).mono ?_); rintro e w' ⟨rfl, rfl⟩)
        rw [hF1.out]
        go_wp2_with fail
        ((with_reducible refine (l02Faces_any A n c x xss _ R2 (by omega) (by omega) (by omega) _ rfl hf4 hS.out).mono ?_); rintro e w3 ⟨A3, c3, rfl, o3, f3⟩)
        have B3 : Below W1.heap.size W1 w3 := below_then B2 f3 (by omega)
        go_wp2_with fail
        ((with_reducible refine (l01Index_any A3 _ _ _ y _ o3.ri).mono ?_); rintro e w' ⟨rfl, rfl⟩)
        rw [hix.out]
        go_wp2_with fail
        go_ret2
        exact ⟨_, _, rfl, Lib.hid hF.out.symm, hB.trans (B3.mono (by omega))⟩
      | true =>
        have hix := Lib.hid (idxI_pos hF2)
        have hlt := List.idxOf_lt_length_of_mem (of_decide_eq_true hF2)
        rw [labL_length] at hlt
        have hF0 : lwF xss x y = (((labL (xss.eraseIdx x) (flg xss)).idxOf y : Int), 0) := by unfold lwF; rw [hl]; rw [if_pos hM, if_pos hF1]; rw [Int.toNat_natCast, if_pos hF2]
        by_cases hst : (x : Int) = st
        · have hF : l4F xss x y st = (0, 5) := by unfold l4F; rw [hF0, if_pos ⟨rfl, hst⟩]
          have hsb : ((x : Int) == st) = true := by simpa using hst
          replace hF := Lib.hid hF
          replace hF0 := Lib.hid hF0
          replace hst := Lib.hid hst
          replace hM := Lib.hid hM
          replace hl := Lib.hid hl
          replace hF1 := Lib.hid hF1
          replace hF2 := Lib.hid hF2
          generalize (labL (xss.eraseIdx x) (flg xss)).idxOf y = ix at *
          go_enter Try.func66, Try.ntmps66
          go_wp2_with fail
          obtain ⟨W1, hW⟩ : ∃ W1 : World, w.alloc (.cells #[.slice A n c] 29) = W1 := ⟨_, rfl⟩
          have hz1 : W1.heap.size = w.heap.size + 1 := by rw [← hW]; simp
          rw [hW] at hR hC hB ⊢
          clear hW h
          ((with_reducible refine (l02Is_any A n c xss _ hR (by omega)).mono ?_); rintro e w2 ⟨rfl, f2⟩)
          have B2 : Below W1.heap.size W1 w2 := f2
          have C2 := (f2.cell (p := ⟨w.heap.size, 0, none⟩) (by simp; omega)).trans hC
          have R2 := hR.below f2 (by omega)
          rw [hM.out]
          have y2 := f2.size
          go_wp2_with fail
          ((with_reducible refine (in_any _ _ _ _).mono ?_); rintro e w' ⟨rfl, rfl⟩)
          rw [hF1.out]
          go_wp2_with fail
          ((with_reducible refine (l02Faces_any A n c x xss _ R2 (by omega) (by omega) (by omega) _ rfl hf4 hS.out).mono ?_); rintro e w3 ⟨A3, c3, rfl, o3, f3⟩)
          have B3 : Below W1.heap.size W1 w3 := below_then B2 f3 (by omega)
          go_wp2_with fail
          ((with_reducible refine (l01Index_any A3 _ _ _ y _ o3.ri).mono ?_); rintro e w' ⟨rfl, rfl⟩)
          rw [hix.out]
          go_wp2_with fail
          go_ret2
          exact ⟨_, _, rfl, Lib.hid hF.out.symm, hB.trans (B3.mono (by omega))⟩
        · have hF : l4F xss x y st = (((labL (xss.eraseIdx x) (flg xss)).idxOf y : Int), 0) := by unfold l4F; rw [hF0, if_neg (fun hh => hst hh.2)]
          have hsb : ((x : Int) == st) = false := by simpa using hst
          replace hF := Lib.hid hF
          replace hF0 := Lib.hid hF0
          replace hst := Lib.hid hst
          replace hM := Lib.hid hM
          replace hl := Lib.hid hl
          replace hF1 := Lib.hid hF1
          replace hF2 := Lib.hid hF2
          generalize (labL (xss.eraseIdx x) (flg xss)).idxOf y = ix at *
          go_enter Try.func66, Try.ntmps66
          go_wp2_with fail
          obtain ⟨W1, hW⟩ : ∃ W1 : World, w.alloc (.cells #[.slice A n c] 29) = W1 := ⟨_, rfl⟩
          have hz1 : W1.heap.size = w.heap.size + 1 := by rw [← hW]; simp
          rw [hW] at hR hC hB ⊢
          clear hW h
          ((with_reducible refine (l02Is_any A n c xss _ hR (by omega)).mono ?_); rintro e w2 ⟨rfl, f2⟩)
          have B2 : Below W1.heap.size W1 w2 := f2
          have C2 := (f2.cell (p := ⟨w.heap.size, 0, none⟩) (by simp; omega)).trans hC
          have R2 := hR.below f2 (by omega)
          rw [hM.out]
          have y2 := f2.size
          go_wp2_with fail
          ((with_reducible refine (in_any _ _ _ _).mono ?_); rintro e w' ⟨rfl, rfl⟩)
          rw [hF1.out]
          go_wp2_with fail
          ((with_reducible refine (l02Faces_any A n c x xss _ R2 (by omega) (by omega) (by omega) _ rfl hf4 hS.out).mono ?_); rintro e w3 ⟨A3, c3, rfl, o3, f3⟩)
          have B3 : Below W1.heap.size W1 w3 := below_then B2 f3 (by omega)
          go_wp2_with fail
          ((with_reducible refine (l01Index_any A3 _ _ _ y _ o3.ri).mono ?_); rintro e w' ⟨rfl, rfl⟩)
          rw [hix.out]
          go_wp2_with fail
          go_ret2
          exact ⟨_, _, rfl, Lib.hid hF.out.symm, hB.trans (B3.mono (by omega))⟩
end Go.Proofs.Ytpbkdjkgaalegaa
