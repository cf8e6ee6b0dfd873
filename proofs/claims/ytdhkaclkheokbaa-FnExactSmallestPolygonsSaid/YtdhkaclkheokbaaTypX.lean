/- Walks: TypeOf and SmallestPolygons, the program's and the reference's. No condition but the sizes of memory. -/
import Derived.Test.YtdhkaclkheokbaaTyp
import Derived.Test.YtdhkaclkheokbaaTypS
import Derived.Test.YtdhkaclkheokbaaManX
import Derived.Test.YtdhkaclkheokbaaFormP
namespace Go.Proofs.Ytdhkaclkheokbaa
open Go.RowKit
set_option linter.unusedVariables false
set_option maxRecDepth 100000
/-- what TypeOf returns -/
noncomputable def typF (xss : List (List Int)) : List (List Int) × Int := if isManB xss = true then (typL xss (flg xss), 0) else ([], 1)
/-- the first of each -/
def polL (xss : List (List Int)) (n : Nat) : List Int := (typL xss n).map fun l => l.getD 0 0
/-- what SmallestPolygons returns -/
noncomputable def polF (xss : List (List Int)) : List Int × Int := if isManB xss = true then (polL xss (flg xss), 0) else ([], 1)
theorem typL_nums {xss : List (List Int)} {n N : Nat} (hl : xss.length = n) (hn : n ≤ 5) (hN : N ≤ 400) : n - 1 + numsIn (typL xss N) ≤ 1048576 := by
  have h := numsIn_le (xss := typL xss N) (n := N) (fun p hp => by
    obtain ⟨i, _, rfl⟩ := List.mem_map.1 hp
    exact typI_length _ _)
  rw [typL_length, hl] at h
  have := Nat.mul_le_mul (show n - 1 ≤ 4 by omega) hN
  omega
theorem typL_ne {xss : List (List Int)} {N k : Nat} {l : List Int} (hN : 0 < N) (h : (typL xss N)[k]? = some l) : 0 < l.length := by
  obtain ⟨i, _, rfl⟩ := List.mem_map.1 (mem_of_get? h)
  obtain ⟨x, hx⟩ := typI_ne (list := subL xss i (i + 2)) hN
  exact (List.getElem?_eq_some_iff.1 hx).1
set_option maxHeartbeats 4000000 in
theorem s_TypeOf_any (w : World) (A : Option Addr) (n c : Nat) (xss : List (List Int)) {lo hi : Nat} (h : RS w lo hi A n xss) (hhi : hi ≤ w.heap.size) (hnc : n ≤ c) :
    Calls Try.prog 30 #[.agg #[.slice A n c]] w fun e w' => ∃ (A1 : Option Addr) (n1 c1 : Nat) (zss : List (List Int)) (code : Int), e = .returned (.tuple #[.slice A1 n1 c1, .int .i64 code]) ∧ Hid ((zss, code) = typF xss) ∧ OwnS w' w.heap.size w'.heap.size 22 2 A1 n1 c1 zss ∧ n1 + numsIn zss ≤ 1048576 ∧ Below w.heap.size w w' := by
  have hm := h.max
  have hl := h.len
  have hR := rs_alloc h hhi (.cells #[.slice A n c] 43)
  have hC : (w.alloc (.cells #[.slice A n c] 43)).cell? ⟨w.heap.size, 0, none⟩ = some (.slice A n c) := al_new _ _ _ _ rfl
  have hB : Below w.heap.size w (w.alloc (.cells #[.slice A n c] 43)) := (Below.refl _ _).alloc (Nat.le_refl _) _
  cases hM : isManB xss with
  | false =>
    have hF : typF xss = ([], 1) := by unfold typF; rw [hM]; rfl
    replace hF := Lib.hid hF
    replace hM := Lib.hid hM
    replace hl := Lib.hid hl
    go_enter Try.func30, Try.ntmps30
    go_wp2_with fail
    obtain ⟨W1, hW⟩ : ∃ W1 : World, w.alloc (.cells #[.slice A n c] 43) = W1 := ⟨_, rfl⟩
    have hz1 : W1.heap.size = w.heap.size + 1 := by rw [← hW]; simp
    rw [hW] at hR hC hB ⊢
    clear hW h 
    ((with_reducible refine (l02Is_any A n c xss _ hR (by omega)).mono ?_); rintro e w2 ⟨rfl, f2⟩)
    rw [hM.out]
    have y2 := f2.size
    have B2 : Below W1.heap.size W1 w2 := f2
    have C2 := (f2.cell (p := ⟨w.heap.size, 0, none⟩) (by simp; omega)).trans hC
    have R2 := hR.below f2 (by omega)
    go_wp2_with fail
    go_ret2
    exact ⟨_, 0, _, [], _, rfl, Lib.hid hF.out.symm, OwnS.nil, by simp [numsIn], hB.trans (B2.mono (by omega))⟩
  | true =>
    have hP := isManB_iff.1 hM
    have hn1 : 1 ≤ n := by have := hP.r1; omega
    have hn5 : n ≤ 5 := by have := hP.r5; omega
    have hf2 := hP.f2
    have hf4 := hP.f4
    have hS := hP.sys
    replace hP := Lib.hid hP
    replace hS := Lib.hid hS
    have hF : typF xss = (typL xss (flg xss), 0) := by unfold typF; rw [if_pos hM]
    have hnum := typL_nums hl hn5 hf4
    replace hF := Lib.hid hF
    replace hM := Lib.hid hM
    replace hl := Lib.hid hl
    go_enter Try.func30, Try.ntmps30
    go_wp2_with fail
    obtain ⟨W1, hW⟩ : ∃ W1 : World, w.alloc (.cells #[.slice A n c] 43) = W1 := ⟨_, rfl⟩
    have hz1 : W1.heap.size = w.heap.size + 1 := by rw [← hW]; simp
    rw [hW] at hR hC hB ⊢
    clear hW h 
    ((with_reducible refine (l02Is_any A n c xss _ hR (by omega)).mono ?_); rintro e w2 ⟨rfl, f2⟩)
    rw [hM.out]
    have y2 := f2.size
    have B2 : Below W1.heap.size W1 w2 := f2
    have C2 := (f2.cell (p := ⟨w.heap.size, 0, none⟩) (by simp; omega)).trans hC
    have R2 := hR.below f2 (by omega)
    go_wp2_with fail
    ((with_reducible refine (l02Type_any A n c xss _ R2 (by omega) (by omega) (by omega) hnc _ rfl hf4 hS.out).mono ?_); rintro e w9 ⟨A9, c9, rfl, o9, f9⟩)
    have B9 : Below W1.heap.size W1 w9 := below_then B2 f9 (by omega)
    go_wp2_with fail
    go_ret2
    exact ⟨_, _, _, _, _, rfl, Lib.hid hF.out.symm, o9.more (by omega) (Nat.le_refl _), hnum, hB.trans (B9.mono (by omega))⟩
set_option maxHeartbeats 4000000 in
theorem i_TypeOf_any (w : World) (A : Option Addr) (n c : Nat) (xss : List (List Int)) {lo hi : Nat} (h : RS w lo hi A n xss) (hhi : hi ≤ w.heap.size) (hnc : n ≤ c) :
    Calls Try.prog 31 #[.agg #[.slice A n c]] w fun e w' => ∃ (A1 : Option Addr) (n1 c1 : Nat) (zss : List (List Int)) (code : Int), e = .returned (.tuple #[.slice A1 n1 c1, .int .i64 code]) ∧ Hid ((zss, code) = typF xss) ∧ OwnS w' w.heap.size w'.heap.size 22 2 A1 n1 c1 zss ∧ n1 + numsIn zss ≤ 1048576 ∧ Below w.heap.size w w' := by
  have hm := h.max
  have hl := h.len
  have hR := rs_alloc h hhi (.cells #[.slice A n c] 43)
  have hC : (w.alloc (.cells #[.slice A n c] 43)).cell? ⟨w.heap.size, 0, none⟩ = some (.slice A n c) := al_new _ _ _ _ rfl
  have hB : Below w.heap.size w (w.alloc (.cells #[.slice A n c] 43)) := (Below.refl _ _).alloc (Nat.le_refl _) _
  cases hM : isManB xss with
  | false =>
    have hF : typF xss = ([], 1) := by unfold typF; rw [hM]; rfl
    replace hF := Lib.hid hF
    replace hM := Lib.hid hM
    replace hl := Lib.hid hl
    go_enter Try.func31, Try.ntmps31
    go_wp2_with fail
    obtain ⟨W1, hW⟩ : ∃ W1 : World, w.alloc (.cells #[.slice A n c] 43) = W1 := ⟨_, rfl⟩
    have hz1 : W1.heap.size = w.heap.size + 1 := by rw [← hW]; simp
    rw [hW] at hR hC hB ⊢
    clear hW h 
    ((with_reducible refine (isMan_any A n c xss _ hR (by omega) hnc).mono ?_); rintro e w2 ⟨rfl, f2⟩)
    rw [hM.out]
    have y2 := f2.size
    have B2 : Below W1.heap.size W1 w2 := f2
    have C2 := (f2.cell (p := ⟨w.heap.size, 0, none⟩) (by simp; omega)).trans hC
    have R2 := hR.below f2 (by omega)
    go_wp2_with fail
    go_ret2
    exact ⟨_, 0, _, [], _, rfl, Lib.hid hF.out.symm, OwnS.nil, by simp [numsIn], hB.trans (B2.mono (by omega))⟩
  | true =>
    have hP := isManB_iff.1 hM
    have hn1 : 1 ≤ n := by have := hP.r1; omega
    have hn5 : n ≤ 5 := by have := hP.r5; omega
    have hf2 := hP.f2
    have hf4 := hP.f4
    have hS := hP.sys
    replace hP := Lib.hid hP
    replace hS := Lib.hid hS
    have hF : typF xss = (typL xss (flg xss), 0) := by unfold typF; rw [if_pos hM]
    have hnum := typL_nums hl hn5 hf4
    replace hF := Lib.hid hF
    replace hM := Lib.hid hM
    replace hl := Lib.hid hl
    go_enter Try.func31, Try.ntmps31
    go_wp2_with fail
    obtain ⟨W1, hW⟩ : ∃ W1 : World, w.alloc (.cells #[.slice A n c] 43) = W1 := ⟨_, rfl⟩
    have hz1 : W1.heap.size = w.heap.size + 1 := by rw [← hW]; simp
    rw [hW] at hR hC hB ⊢
    clear hW h 
    ((with_reducible refine (isMan_any A n c xss _ hR (by omega) hnc).mono ?_); rintro e w2 ⟨rfl, f2⟩)
    rw [hM.out]
    have y2 := f2.size
    have B2 : Below W1.heap.size W1 w2 := f2
    have C2 := (f2.cell (p := ⟨w.heap.size, 0, none⟩) (by simp; omega)).trans hC
    have R2 := hR.below f2 (by omega)
    go_wp2_with fail
    ((with_reducible refine (typeOf_any _ A n c xss _ C2 (by omega) R2 (by omega) (by omega) (by omega) hnc _ rfl hf4 hS.out).mono ?_); rintro e w9 ⟨A9, c9, rfl, o9, f9⟩)
    have B9 : Below W1.heap.size W1 w9 := below_then B2 f9 (by omega)
    go_wp2_with fail
    go_ret2
    exact ⟨_, _, _, _, _, rfl, Lib.hid hF.out.symm, o9.more (by omega) (Nat.le_refl _), hnum, hB.trans (B9.mono (by omega))⟩
set_option maxHeartbeats 4000000 in
theorem s_SmallestPolygons_any (w : World) (A : Option Addr) (n c : Nat) (xss : List (List Int)) {lo hi : Nat} (h : RS w lo hi A n xss) (hhi : hi ≤ w.heap.size) (hnc : n ≤ c) :
    Calls Try.prog 22 #[.agg #[.slice A n c]] w fun e w' => ∃ (A1 : Option Addr) (n1 c1 : Nat) (zs : List Int) (code : Int), e = .returned (.tuple #[.slice A1 n1 c1, .int .i64 code]) ∧ Hid ((zs, code) = polF xss) ∧ Own w' w.heap.size w'.heap.size 2 A1 n1 c1 (zs.map (Value.int .i64)) ∧ n1 ≤ 1048576 ∧ Below w.heap.size w w' := by
  have hm := h.max
  have hl := h.len
  have hR := rs_alloc h hhi (.cells #[.slice A n c] 43)
  have hC : (w.alloc (.cells #[.slice A n c] 43)).cell? ⟨w.heap.size, 0, none⟩ = some (.slice A n c) := al_new _ _ _ _ rfl
  have hB : Below w.heap.size w (w.alloc (.cells #[.slice A n c] 43)) := (Below.refl _ _).alloc (Nat.le_refl _) _
  cases hM : isManB xss with
  | false =>
    have hF : polF xss = ([], 1) := by unfold polF; rw [hM]; rfl
    replace hF := Lib.hid hF
    replace hM := Lib.hid hM
    replace hl := Lib.hid hl
    go_enter Try.func22, Try.ntmps22
    go_wp2_with fail
    obtain ⟨W1, hW⟩ : ∃ W1 : World, w.alloc (.cells #[.slice A n c] 43) = W1 := ⟨_, rfl⟩
    have hz1 : W1.heap.size = w.heap.size + 1 := by rw [← hW]; simp
    rw [hW] at hR hC hB ⊢
    clear hW h 
    ((with_reducible refine (l02Is_any A n c xss _ hR (by omega)).mono ?_); rintro e w2 ⟨rfl, f2⟩)
    rw [hM.out]
    have y2 := f2.size
    have B2 : Below W1.heap.size W1 w2 := f2
    have C2 := (f2.cell (p := ⟨w.heap.size, 0, none⟩) (by simp; omega)).trans hC
    have R2 := hR.below f2 (by omega)
    go_wp2_with fail
    go_ret2
    exact ⟨_, 0, _, [], _, rfl, Lib.hid hF.out.symm, Own.nil, by omega, hB.trans (B2.mono (by omega))⟩
  | true =>
    have hP := isManB_iff.1 hM
    have hn1 : 1 ≤ n := by have := hP.r1; omega
    have hn5 : n ≤ 5 := by have := hP.r5; omega
    have hf2 := hP.f2
    have hf4 := hP.f4
    have hS := hP.sys
    replace hP := Lib.hid hP
    replace hS := Lib.hid hS
    have hF : polF xss = ((typL xss (flg xss)).map (fun l => l.getD 0 0), 0) := by unfold polF; rw [if_pos hM]; rfl
    have hne : ∀ (k : Nat) (l : List Int), (typL xss (flg xss))[k]? = some l → 0 < l.length := fun k l h => typL_ne (by omega) h
    have htl := typL_length xss (flg xss)
    rw [hl] at htl
    obtain ⟨j0, hj0, hy0, hy1, hy2⟩ := info_parts infoI
    replace hF := Lib.hid hF
    replace hM := Lib.hid hM
    replace hl := Lib.hid hl
    replace hne := Lib.hid hne
    replace htl := Lib.hid htl
    go_enter Try.func22, Try.ntmps22
    go_wp2_with fail
    obtain ⟨W1, hW⟩ : ∃ W1 : World, w.alloc (.cells #[.slice A n c] 43) = W1 := ⟨_, rfl⟩
    have hz1 : W1.heap.size = w.heap.size + 1 := by rw [← hW]; simp
    rw [hW] at hR hC hB ⊢
    clear hW h 
    ((with_reducible refine (l02Is_any A n c xss _ hR (by omega)).mono ?_); rintro e w2 ⟨rfl, f2⟩)
    rw [hM.out]
    have y2 := f2.size
    have B2 : Below W1.heap.size W1 w2 := f2
    have C2 := (f2.cell (p := ⟨w.heap.size, 0, none⟩) (by simp; omega)).trans hC
    have R2 := hR.below f2 (by omega)
    go_wp2_with fail
    ((with_reducible refine (l02Type_any A n c xss _ R2 (by omega) (by omega) (by omega) hnc _ rfl hf4 hS.out).mono ?_); rintro e w9 ⟨A9, c9, rfl, o9, f9⟩)
    have B9 : Below W1.heap.size W1 w9 := below_then B2 f9 (by omega)
    have y9 := f9.size
    generalize typL xss (flg xss) = tss at *
    go_wp2_with fail
    have hl0 := own_lit0 w9 2 (Nat.le_refl _)
    go_loopw [5, 6] (fun lv kv wq => ∃ (k : Nat) (A3 : Option Addr) (c3 : Nat), k ≤ n - 1 ∧ kv = .int .i64 k ∧ lv = .slice A3 k c3 ∧ Own wq w9.heap.size wq.heap.size 2 A3 k c3 (((tss.take k).map (fun l => l.getD 0 0)).map (Value.int .i64)) ∧ w9.heap.size ≤ wq.heap.size ∧ Below w9.heap.size w9 wq) (fun _ kv _ => n - (intOf kv).toNat)
    case atStart => exact ⟨0, _, 0, by omega, rfl, rfl, by simpa using hl0, by simp, (Below.refl _ _).alloc (Nat.le_refl _) _⟩
    case round =>
      clear hl0
      obtain ⟨k, A3, c3, hk, rfl, rfl, o3, z3, f3⟩ := hrel
      by_cases hlt : k < n - 1
      · have hlti : (k : Int) < ((n - 1 : Nat) : Int) := by omega
        have o9k := o9.rs.below f3 (Nat.le_refl _)
        obtain ⟨b5, o5, Ak, nk, ck, xs, rfl, _, _, hxs, hcx, hrx⟩ := o9k.at_ hlt
        have hxl := hrx.len
        have hx0 := hne.out k xs hxs
        obtain ⟨b6, o6, v, rfl, _, _, hv, hcv⟩ := hrx.at_ (k := 0) (by omega)
        rw [Nat.add_zero] at hcv
        have htk := take_succ_of hxs
        have hgv : xs.getD 0 0 = v := getD_some hv
        replace htk := Lib.hid htk
        replace hgv := Lib.hid hgv
        replace hxs := Lib.hid hxs
        replace hxl := Lib.hid hxl
        replace hv := Lib.hid hv
        have hnk0 : 0 < nk := by have := hxl.out; omega
        have hnk1 := hrx.max
        go_wp2_with (at_builtin; refine wpList_append1 wr rfl (.tmp 19) (.tmp 26) 22 rfl w9.heap.size 2 j0 (.int .i64 0) 8 Try.underlying22 hj0 hy0 hy1 hy2 rfl (by omega) A3 k c3 _ (.int .i64 v) rfl o3.1 _ rfl rfl rfl (by omega) z3 ?_)
        intro g6 c6 w6 ho6 hg6 hlo6 hlt6 hor6
        have hz6 := hg6.size
        have b6 := f3.grown hg6 z3 (fun q hq => by have := (o3.1.lt q hq).1; omega)
        have o6' := Own.of_row ho6
        clear o3 hg6 ho6 f3 hcx hcv hrx o9k
        go_wp2_with fail
        go_roundw
        case measure => simp [intOf]; omega
        case rel => exact ⟨k + 1, _, c6, by omega, by go_num, rfl, by rw [htk.out, List.map_append, List.map_append, List.map_singleton, hgv.out]; simpa using o6', by omega, b6⟩
      · have hkn : k = n - 1 := by omega
        subst hkn
        have hlti : ¬ ((n - 1 : Nat) : Int) < ((n - 1 : Nat) : Int) := by omega
        rw [List.take_of_length_le (by have := htl.out; omega)] at o3
        go_wp2_with fail
        go_ret2
        exact ⟨_, _, _, _, _, rfl, Lib.hid hF.out.symm, o3.more (by omega) (Nat.le_refl _), by omega, hB.trans ((below_then B9 f3 (by omega)).mono (by omega))⟩
set_option maxHeartbeats 4000000 in
theorem i_SmallestPolygons_any (w : World) (A : Option Addr) (n c : Nat) (xss : List (List Int)) {lo hi : Nat} (h : RS w lo hi A n xss) (hhi : hi ≤ w.heap.size) (hnc : n ≤ c) :
    Calls Try.prog 24 #[.agg #[.slice A n c]] w fun e w' => ∃ (A1 : Option Addr) (n1 c1 : Nat) (zs : List Int) (code : Int), e = .returned (.tuple #[.slice A1 n1 c1, .int .i64 code]) ∧ Hid ((zs, code) = polF xss) ∧ Own w' w.heap.size w'.heap.size 2 A1 n1 c1 (zs.map (Value.int .i64)) ∧ n1 ≤ 1048576 ∧ Below w.heap.size w w' := by
  have hm := h.max
  have hl := h.len
  have hR := rs_alloc h hhi (.cells #[.slice A n c] 43)
  have hC : (w.alloc (.cells #[.slice A n c] 43)).cell? ⟨w.heap.size, 0, none⟩ = some (.slice A n c) := al_new _ _ _ _ rfl
  have hB : Below w.heap.size w (w.alloc (.cells #[.slice A n c] 43)) := (Below.refl _ _).alloc (Nat.le_refl _) _
  cases hM : isManB xss with
  | false =>
    have hF : polF xss = ([], 1) := by unfold polF; rw [hM]; rfl
    replace hF := Lib.hid hF
    replace hM := Lib.hid hM
    replace hl := Lib.hid hl
    go_enter Try.func24, Try.ntmps24
    go_wp2_with fail
    obtain ⟨W1, hW⟩ : ∃ W1 : World, w.alloc (.cells #[.slice A n c] 43) = W1 := ⟨_, rfl⟩
    have hz1 : W1.heap.size = w.heap.size + 1 := by rw [← hW]; simp
    rw [hW] at hR hC hB ⊢
    clear hW h 
    ((with_reducible refine (isMan_any A n c xss _ hR (by omega) hnc).mono ?_); rintro e w2 ⟨rfl, f2⟩)
    rw [hM.out]
    have y2 := f2.size
    have B2 : Below W1.heap.size W1 w2 := f2
    have C2 := (f2.cell (p := ⟨w.heap.size, 0, none⟩) (by simp; omega)).trans hC
    have R2 := hR.below f2 (by omega)
    go_wp2_with fail
    go_ret2
    exact ⟨_, 0, _, [], _, rfl, Lib.hid hF.out.symm, Own.nil, by omega, hB.trans (B2.mono (by omega))⟩
  | true =>
    have hP := isManB_iff.1 hM
    have hn1 : 1 ≤ n := by have := hP.r1; omega
    have hn5 : n ≤ 5 := by have := hP.r5; omega
    have hf2 := hP.f2
    have hf4 := hP.f4
    have hS := hP.sys
    replace hP := Lib.hid hP
    replace hS := Lib.hid hS
    have hF : polF xss = ((typL xss (flg xss)).map (fun l => l.getD 0 0), 0) := by unfold polF; rw [if_pos hM]; rfl
    have hne : ∀ (k : Nat) (l : List Int), (typL xss (flg xss))[k]? = some l → 0 < l.length := fun k l h => typL_ne (by omega) h
    have htl := typL_length xss (flg xss)
    rw [hl] at htl
    obtain ⟨j0, hj0, hy0, hy1, hy2⟩ := info_parts infoI
    replace hF := Lib.hid hF
    replace hM := Lib.hid hM
    replace hl := Lib.hid hl
    replace hne := Lib.hid hne
    replace htl := Lib.hid htl
    go_enter Try.func24, Try.ntmps24
    go_wp2_with fail
    obtain ⟨W1, hW⟩ : ∃ W1 : World, w.alloc (.cells #[.slice A n c] 43) = W1 := ⟨_, rfl⟩
    have hz1 : W1.heap.size = w.heap.size + 1 := by rw [← hW]; simp
    rw [hW] at hR hC hB ⊢
    clear hW h 
    ((with_reducible refine (isMan_any A n c xss _ hR (by omega) hnc).mono ?_); rintro e w2 ⟨rfl, f2⟩)
    rw [hM.out]
    have y2 := f2.size
    have B2 : Below W1.heap.size W1 w2 := f2
    have C2 := (f2.cell (p := ⟨w.heap.size, 0, none⟩) (by simp; omega)).trans hC
    have R2 := hR.below f2 (by omega)
    go_wp2_with fail
    ((with_reducible refine (typeOf_any _ A n c xss _ C2 (by omega) R2 (by omega) (by omega) (by omega) hnc _ rfl hf4 hS.out).mono ?_); rintro e w9 ⟨A9, c9, rfl, o9, f9⟩)
    have B9 : Below W1.heap.size W1 w9 := below_then B2 f9 (by omega)
    have y9 := f9.size
    generalize typL xss (flg xss) = tss at *
    go_wp2_with fail
    go_loopw [4, 12] (fun lv kv wq => ∃ (k : Nat) (A3 : Option Addr) (c3 : Nat), k ≤ n - 1 ∧ kv = .int .i64 k ∧ lv = .slice A3 k c3 ∧ Own wq w9.heap.size wq.heap.size 2 A3 k c3 (((tss.take k).map (fun l => l.getD 0 0)).map (Value.int .i64)) ∧ w9.heap.size ≤ wq.heap.size ∧ Below w9.heap.size w9 wq) (fun _ kv _ => n - (intOf kv).toNat)
    case atStart => exact ⟨0, none, 0, by omega, rfl, rfl, by simpa using Own.nil, by simp, Below.refl _ _⟩
    case round =>
      obtain ⟨k, A3, c3, hk, rfl, rfl, o3, z3, f3⟩ := hrel
      by_cases hlt : k < n - 1
      · have hlti : (k : Int) < ((n - 1 : Nat) : Int) := by omega
        have o9k := o9.rs.below f3 (Nat.le_refl _)
        obtain ⟨b5, o5, Ak, nk, ck, xs, rfl, _, _, hxs, hcx, hrx⟩ := o9k.at_ hlt
        have hxl := hrx.len
        have hx0 := hne.out k xs hxs
        obtain ⟨b6, o6, v, rfl, _, _, hv, hcv⟩ := hrx.at_ (k := 0) (by omega)
        rw [Nat.add_zero] at hcv
        have htk := take_succ_of hxs
        have hgv : xs.getD 0 0 = v := getD_some hv
        replace htk := Lib.hid htk
        replace hgv := Lib.hid hgv
        replace hxs := Lib.hid hxs
        replace hxl := Lib.hid hxl
        replace hv := Lib.hid hv
        have hnk0 : 0 < nk := by have := hxl.out; omega
        have hnk1 := hrx.max
        go_wp2_with (at_builtin; refine wpList_append1 wr rfl (.tmp 16) (.tmp 20) 22 rfl w9.heap.size 2 j0 (.int .i64 0) 8 Try.underlying22 hj0 hy0 hy1 hy2 rfl (by omega) A3 k c3 _ (.int .i64 v) rfl o3.1 _ rfl rfl rfl (by omega) z3 ?_)
        intro g6 c6 w6 ho6 hg6 hlo6 hlt6 hor6
        have hz6 := hg6.size
        have b6 := f3.grown hg6 z3 (fun q hq => by have := (o3.1.lt q hq).1; omega)
        have o6' := Own.of_row ho6
        clear o3 hg6 ho6 f3 hcx hcv hrx o9k
        go_wp2_with fail
        go_roundw
        case measure => simp [intOf]; omega
        case rel => exact ⟨k + 1, _, c6, by omega, by go_num, rfl, by rw [htk.out, List.map_append, List.map_append, List.map_singleton, hgv.out]; simpa using o6', by omega, b6⟩
      · have hkn : k = n - 1 := by omega
        subst hkn
        have hlti : ¬ ((n - 1 : Nat) : Int) < ((n - 1 : Nat) : Int) := by omega
        rw [List.take_of_length_le (by have := htl.out; omega)] at o3
        go_wp2_with fail
        go_ret2
        exact ⟨_, _, _, _, _, rfl, Lib.hid hF.out.symm, o3.more (by omega) (Nat.le_refl _), by omega, hB.trans ((below_then B9 f3 (by omega)).mono (by omega))⟩
end Go.Proofs.Ytdhkaclkheokbaa
