/- Walks: DiameterOf, the program's and the reference's. No condition but the sizes of memory. -/
import Derived.Test.YtonojnblcleggaaDist
namespace Go.Proofs.Ytonojnblcleggaa
open Go.RowKit
set_option linter.unusedVariables false
set_option maxRecDepth 100000
/-- the greatest of a and the numbers of l -/
def maxFrom (a : Int) (l : List Int) : Int := l.foldl (fun m x => if m < x then x else m) a
theorem maxFrom_snoc (a x : Int) (l : List Int) : maxFrom a (l ++ [x]) = if maxFrom a l < x then x else maxFrom a l := by unfold maxFrom; rw [List.foldl_append]; rfl
theorem maxFrom_spec (l : List Int) : ∀ a, a ≤ maxFrom a l ∧ (∀ x ∈ l, x ≤ maxFrom a l) ∧ (maxFrom a l = a ∨ maxFrom a l ∈ l) := by
  induction l with
  | nil => intro a; exact ⟨Int.le_refl _, by simp, .inl rfl⟩
  | cons y t ih =>
    intro a
    have e : maxFrom a (y :: t) = maxFrom (if a < y then y else a) t := rfl
    rw [e]
    have hb : a ≤ (if a < y then y else a) ∧ y ≤ (if a < y then y else a) ∧ ((if a < y then y else a) = a ∨ (if a < y then y else a) = y) := by split <;> omega
    generalize (if a < y then y else a) = b at *
    obtain ⟨h1, h2, h3⟩ := ih b
    refine ⟨by omega, fun x hx => ?_, ?_⟩
    · rcases List.mem_cons.1 hx with rfl | hx
      · omega
      · exact h2 x hx
    · rcases h3 with h3 | h3
      · rcases hb.2.2 with k | k
        · left; omega
        · right; rw [h3, k]; simp
      · right; simp [h3]
theorem maxFrom_two {a x : Int} {l : List Int} (hx : x ∈ l) : maxFrom a l = if a < maxFrom x l then maxFrom x l else a := by
  obtain ⟨h1, h2, h3⟩ := maxFrom_spec l a
  obtain ⟨k1, k2, k3⟩ := maxFrom_spec l x
  have e : maxFrom x l ∈ l := by rcases k3 with k | k
                                 · rw [k]; exact hx
                                 · exact k
  split
  · rename_i hh
    have := h2 _ e
    rcases h3 with h3 | h3
    · omega
    · have := k2 _ h3; omega
  · rename_i hh
    rcases h3 with h3 | h3
    · exact h3
    · have := k2 _ h3; omega
def diaGo (xss : List (List Int)) (n k : Nat) : Int := (List.range k).foldl (fun (m : Int) (f : Nat) => maxFrom m (dist xss n (f : Int))) (0 : Int)
theorem diaGo_succ (xss : List (List Int)) (n k : Nat) : diaGo xss n (k + 1) = maxFrom (diaGo xss n k) (dist xss n (k : Int)) := by unfold diaGo; rw [List.range_succ, List.foldl_append]; rfl
/-- what DiameterOf returns -/
noncomputable def diaF (xss : List (List Int)) : Int × Int := if isManB xss = true then (diaGo xss (flg xss) (flg xss), 0) else (0, 1)
theorem max_any (A : Option Addr) (n c : Nat) (x0 : Int) (t : List Int) (w : World) {lo hi : Nat} (h : RI w lo hi A n (x0 :: t)) :
    Calls Try.prog 72 #[.slice A n c] w fun e w' => e = .returned (.int .i64 (maxFrom x0 (x0 :: t))) ∧ w = w' := by
  have hm := h.max
  have hl := h.len
  have hn : 0 < n := by rw [← hl]; simp
  have hn1 : decide ((n : Int) < 1) = false := by simp; omega
  obtain ⟨b, o, u, rfl, _, _, hu, hc⟩ := h.at_ hn
  obtain rfl : x0 = u := by simpa using hu
  rw [Nat.add_zero] at hc
  replace hl := Lib.hid hl
  replace hu := Lib.hid hu
  go_enter Try.func72, Try.ntmps72
  go_wp2_with fail
  go_loopw [3, 4] (fun mv kv wq => ∃ k : Nat, 1 ≤ k ∧ k ≤ n ∧ kv = .int .i64 k ∧ mv = .int .i64 (maxFrom x0 ((x0 :: t).take k)) ∧ w = wq) (fun _ kv _ => n - (intOf kv).toNat)
  case atStart => exact ⟨1, by omega, by omega, rfl, by simp [maxFrom], by first | rfl | trivial⟩
  case round =>
    obtain ⟨k, hk1, hk, rfl, rfl, rfl⟩ := hrel
    by_cases hlt : k < n
    · obtain ⟨b', o', v, e, _, _, hv, hcv⟩ := h.at_ hlt
      injection e with e; injection e with e1 e2 _; subst e1; subst e2
      have htk := take_succ_of hv
      have hst : maxFrom x0 ((x0 :: t).take (k + 1)) = if maxFrom x0 ((x0 :: t).take k) < v then v else maxFrom x0 ((x0 :: t).take k) := by rw [htk, maxFrom_snoc]
      replace hst := Lib.hid hst
      replace hv := Lib.hid hv
      replace htk := Lib.hid htk
      generalize maxFrom x0 ((x0 :: t).take k) = m at *
      go_wp2_with fail
      go_roundw
      case measure => simp [intOf]; omega
      case rel =>
        refine ⟨k + 1, by omega, by omega, by go_num, ?_, by first | rfl | trivial⟩
        rw [hst.out]
    · go_wp2_with fail
      go_ret
      have hkn : k = n := by omega
      subst hkn
      exact ⟨ret_int (by rw [List.take_of_length_le (by have := hl.out; omega)]), rfl⟩
set_option maxHeartbeats 4000000 in
theorem s_DiameterOf_any (w : World) (A : Option Addr) (n c : Nat) (xss : List (List Int)) {lo hi : Nat} (h : RS w lo hi A n xss) (hhi : hi ≤ w.heap.size) (hnc : n ≤ c) :
    Calls Try.prog 32 #[.agg #[.slice A n c]] w fun e w' => ∃ (y code : Int), e = .returned (.tuple #[.int .i64 y, .int .i64 code]) ∧ Hid ((y, code) = diaF xss) ∧ Below w.heap.size w w' := by
  have hm := h.max
  have hl := h.len
  have hR := rs_alloc h hhi (.cells #[.slice A n c] 46)
  have hC : (w.alloc (.cells #[.slice A n c] 46)).cell? ⟨w.heap.size, 0, none⟩ = some (.slice A n c) := al_new _ _ _ _ rfl
  have hB : Below w.heap.size w (w.alloc (.cells #[.slice A n c] 46)) := (Below.refl _ _).alloc (Nat.le_refl _) _
  cases hM : isManB xss with
  | false =>
    have hF : diaF xss = (0, 1) := by unfold diaF; rw [hM]; rfl
    replace hF := Lib.hid hF
    replace hM := Lib.hid hM
    replace hl := Lib.hid hl
    go_enter Try.func32, Try.ntmps32
    go_wp2_with fail
    obtain ⟨W1, hW⟩ : ∃ W1 : World, w.alloc (.cells #[.slice A n c] 46) = W1 := ⟨_, rfl⟩
    have hz1 : W1.heap.size = w.heap.size + 1 := by rw [← hW]; simp
    rw [hW] at hR hC hB ⊢
    clear hW h 
    ((with_reducible refine (l02Is_any A n c xss _ hR (by omega)).mono ?_); rintro e w2 ⟨rfl, f2⟩)
    rw [hM.out]
    have y2 := f2.size
    have B2 : Below W1.heap.size W1 w2 := f2
    have C2 := (f2.cell (p := ⟨w.heap.size, 0, none⟩) (by simp; omega)).trans hC
    have R2 := hR.below f2 (by omega)
    go_wp2_with fail
    go_ret2
    exact ⟨_, _, rfl, Lib.hid hF.out.symm, hB.trans (B2.mono (by omega))⟩
  | true =>
    have hP := isManB_iff.1 hM
    have hn1 : 1 ≤ n := by have := hP.r1; omega
    have hn5 : n ≤ 5 := by have := hP.r5; omega
    have hf2 := hP.f2
    have hf4 := hP.f4
    have hS := hP.sys
    replace hP := Lib.hid hP
    replace hS := Lib.hid hS
    have hF : diaF xss = (diaGo xss (flg xss) (flg xss), 0) := by unfold diaF; rw [if_pos hM]
    replace hF := Lib.hid hF
    replace hM := Lib.hid hM
    replace hl := Lib.hid hl
    go_enter Try.func32, Try.ntmps32
    go_wp2_with fail
    obtain ⟨W1, hW⟩ : ∃ W1 : World, w.alloc (.cells #[.slice A n c] 46) = W1 := ⟨_, rfl⟩
    have hz1 : W1.heap.size = w.heap.size + 1 := by rw [← hW]; simp
    rw [hW] at hR hC hB ⊢
    clear hW h 
    ((with_reducible refine (l02Is_any A n c xss _ hR (by omega)).mono ?_); rintro e w2 ⟨rfl, f2⟩)
    rw [hM.out]
    have y2 := f2.size
    have B2 : Below W1.heap.size W1 w2 := f2
    have C2 := (f2.cell (p := ⟨w.heap.size, 0, none⟩) (by simp; omega)).trans hC
    have R2 := hR.below f2 (by omega)
    go_wp2_with fail
    go_loopw [4, 5] (fun mv kv wq => ∃ k : Nat, k ≤ flg xss ∧ kv = .int .i64 k ∧ mv = .int .i64 (diaGo xss (flg xss) k) ∧ Below W1.heap.size W1 wq) (fun _ kv _ => flg xss - (intOf kv).toNat)
    case atStart => exact ⟨0, by omega, rfl, rfl, B2⟩
    case round =>
      obtain ⟨k, hk, rfl, rfl, hb⟩ := hrel
      have Ck := (hb.cell (p := ⟨w.heap.size, 0, none⟩) (by simp; omega)).trans hC
      have Rk := hR.below hb (by omega)
      have yk := hb.size
      by_cases hlt : k < flg xss
      · go_wp2_with fail
        ((with_reducible refine (l02Flags_any A n c xss _ Rk (by omega) (by omega)).mono ?_); rintro e w8 ⟨rfl, f8⟩)
        have y8 := f8.size
        have C8 := (f8.cell (p := ⟨w.heap.size, 0, none⟩) (by simp; omega)).trans Ck
        have R8 := Rk.below f8 (by omega)
        have B8 : Below W1.heap.size W1 w8 := below_then hb f8 (by omega)
        go_wp2_with fail
        ((with_reducible refine (l02Distances_any A n c xss (k : Int) _ R8 (by omega) (by omega) _ rfl hf4 hS.out (by omega) (by omega)).mono ?_); rintro e w9 ⟨A9, c9, rfl, o9, f9⟩)
        have B9 : Below W1.heap.size W1 w9 := below_then B8 f9 (by omega)
        have hdl := o9.lenI
        have hmx := Lib.hid (diaGo_succ xss (flg xss) k)
        clear hb f8 R8 C8 Rk Ck B8
        go_wp2_with fail
        go_loopw [4, 7] (fun mv jv wq => ∃ j : Nat, j ≤ flg xss ∧ jv = .int .i64 j ∧ mv = .int .i64 (maxFrom (diaGo xss (flg xss) k) ((dist xss (flg xss) (k : Int)).take j)) ∧ w9 = wq) (fun _ jv _ => flg xss - (intOf jv).toNat)
        case atStart => exact ⟨0, by omega, rfl, by simp [maxFrom], by first | rfl | trivial⟩
        case round =>
          obtain ⟨j, hj, rfl, rfl, rfl⟩ := hrel
          by_cases hjl : j < flg xss
          · obtain ⟨b9, v, rfl, _, _, _, hv, hcv, _⟩ := o9.atI hjl
            have htk := take_succ_of hv
            have hst : maxFrom (diaGo xss (flg xss) k) ((dist xss (flg xss) (k : Int)).take (j + 1)) = if maxFrom (diaGo xss (flg xss) k) ((dist xss (flg xss) (k : Int)).take j) < v then v else maxFrom (diaGo xss (flg xss) k) ((dist xss (flg xss) (k : Int)).take j) := by rw [htk, maxFrom_snoc]
            replace hst := Lib.hid hst
            replace hv := Lib.hid hv
            replace htk := Lib.hid htk
            replace hdl := Lib.hid hdl
            generalize maxFrom (diaGo xss (flg xss) k) ((dist xss (flg xss) (k : Int)).take j) = m at *
            by_cases hgt : m < v
            · have hst2 := hst.out
              rw [if_pos hgt] at hst2
              replace hst2 := Lib.hid hst2
              have hgd : decide (m < v) = true := decide_eq_true hgt
              have hgd2 : decide (v > m) = true := decide_eq_true hgt
              go_wp2_with fail
              go_roundw
              case measure => simp [intOf]; omega
              case rel => exact ⟨j + 1, by omega, by go_num, by rw [hst2.out], by first | rfl | trivial⟩
            · have hst2 := hst.out
              rw [if_neg hgt] at hst2
              replace hst2 := Lib.hid hst2
              have hgd : decide (m < v) = false := decide_eq_false hgt
              have hgd2 : decide (v > m) = false := decide_eq_false hgt
              go_wp2_with fail
              go_roundw
              case measure => simp [intOf]; omega
              case rel => exact ⟨j + 1, by omega, by go_num, by rw [hst2.out], by first | rfl | trivial⟩
          · have hjn : j = flg xss := by omega
            subst hjn
            go_wp2_with fail
            go_roundw
            case measure => simp [intOf]; omega
            case rel => exact ⟨k + 1, by omega, by go_num, by rw [hmx.out, List.take_of_length_le (by rw [hdl]; exact Nat.le_refl _)], B9⟩
      · go_wp2_with fail
        ((with_reducible refine (l02Flags_any A n c xss _ Rk (by omega) (by omega)).mono ?_); rintro e w8 ⟨rfl, f8⟩)
        have B8 : Below W1.heap.size W1 w8 := below_then hb f8 (by omega)
        go_wp2_with fail
        go_ret2
        have hkn : k = flg xss := by omega
        subst hkn
        exact ⟨_, _, rfl, Lib.hid hF.out.symm, hB.trans (B8.mono (by omega))⟩
set_option maxHeartbeats 4000000 in
theorem i_DiameterOf_any (w : World) (A : Option Addr) (n c : Nat) (xss : List (List Int)) {lo hi : Nat} (h : RS w lo hi A n xss) (hhi : hi ≤ w.heap.size) (hnc : n ≤ c) :
    Calls Try.prog 34 #[.agg #[.slice A n c]] w fun e w' => ∃ (y code : Int), e = .returned (.tuple #[.int .i64 y, .int .i64 code]) ∧ Hid ((y, code) = diaF xss) ∧ Below w.heap.size w w' := by
  have hm := h.max
  have hl := h.len
  have hR := rs_alloc h hhi (.cells #[.slice A n c] 46)
  have hC : (w.alloc (.cells #[.slice A n c] 46)).cell? ⟨w.heap.size, 0, none⟩ = some (.slice A n c) := al_new _ _ _ _ rfl
  have hB : Below w.heap.size w (w.alloc (.cells #[.slice A n c] 46)) := (Below.refl _ _).alloc (Nat.le_refl _) _
  cases hM : isManB xss with
  | false =>
    have hF : diaF xss = (0, 1) := by unfold diaF; rw [hM]; rfl
    replace hF := Lib.hid hF
    replace hM := Lib.hid hM
    replace hl := Lib.hid hl
    go_enter Try.func34, Try.ntmps34
    go_wp2_with fail
    obtain ⟨W1, hW⟩ : ∃ W1 : World, w.alloc (.cells #[.slice A n c] 46) = W1 := ⟨_, rfl⟩
    have hz1 : W1.heap.size = w.heap.size + 1 := by rw [← hW]; simp
    rw [hW] at hR hC hB ⊢
    clear hW h 
    ((with_reducible refine (isMan_any A n c xss _ hR (by omega) hnc).mono ?_); rintro e w2 ⟨rfl, f2⟩)
    rw [hM.out]
    have y2 := f2.size
    have B2 : Below W1.heap.size W1 w2 := f2
    have C2 := (f2.cell (p := ⟨w.heap.size, 0, none⟩) (by simp; omega)).trans hC
    have R2 := hR.below f2 (by omega)
    go_wp2_with fail
    go_ret2
    exact ⟨_, _, rfl, Lib.hid hF.out.symm, hB.trans (B2.mono (by omega))⟩
  | true =>
    have hP := isManB_iff.1 hM
    have hn1 : 1 ≤ n := by have := hP.r1; omega
    have hn5 : n ≤ 5 := by have := hP.r5; omega
    have hf2 := hP.f2
    have hf4 := hP.f4
    have hS := hP.sys
    replace hP := Lib.hid hP
    replace hS := Lib.hid hS
    have hF : diaF xss = (diaGo xss (flg xss) (flg xss), 0) := by unfold diaF; rw [if_pos hM]
    replace hF := Lib.hid hF
    replace hM := Lib.hid hM
    replace hl := Lib.hid hl
    go_enter Try.func34, Try.ntmps34
    go_wp2_with fail
    obtain ⟨W1, hW⟩ : ∃ W1 : World, w.alloc (.cells #[.slice A n c] 46) = W1 := ⟨_, rfl⟩
    have hz1 : W1.heap.size = w.heap.size + 1 := by rw [← hW]; simp
    rw [hW] at hR hC hB ⊢
    clear hW h 
    ((with_reducible refine (isMan_any A n c xss _ hR (by omega) hnc).mono ?_); rintro e w2 ⟨rfl, f2⟩)
    rw [hM.out]
    have y2 := f2.size
    have B2 : Below W1.heap.size W1 w2 := f2
    have C2 := (f2.cell (p := ⟨w.heap.size, 0, none⟩) (by simp; omega)).trans hC
    have R2 := hR.below f2 (by omega)
    go_wp2_with fail
    ((with_reducible refine (flags_any _ A n c xss _ C2 R2 (by omega)).mono ?_); rintro e w' ⟨rfl, rfl⟩)
    go_wp2_with fail
    go_loopw [4, 10] (fun mv kv wq => ∃ k : Nat, k ≤ flg xss ∧ kv = .int .i64 k ∧ mv = .int .i64 (diaGo xss (flg xss) k) ∧ Below W1.heap.size W1 wq) (fun _ kv _ => flg xss - (intOf kv).toNat)
    case atStart => exact ⟨0, by omega, rfl, rfl, B2⟩
    case round =>
      obtain ⟨k, hk, rfl, rfl, hb⟩ := hrel
      have Ck := (hb.cell (p := ⟨w.heap.size, 0, none⟩) (by simp; omega)).trans hC
      have Rk := hR.below hb (by omega)
      have yk := hb.size
      by_cases hlt : k < flg xss
      · go_wp2_with fail
        ((with_reducible refine (distances_any _ A n c xss (k : Int) _ Ck (by omega) Rk (by omega) (by omega) _ rfl hf4 hS.out (by omega) (by omega)).mono ?_); rintro e w9 ⟨A9, rfl, o9, f9⟩)
        have B9 : Below W1.heap.size W1 w9 := below_then hb f9 (by omega)
        have hdl := o9.lenI
        have hmx := diaGo_succ xss (flg xss) k
        obtain ⟨x0, t0, hd⟩ : ∃ x0 t0, dist xss (flg xss) (k : Int) = x0 :: t0 := by
          cases hd : dist xss (flg xss) (k : Int) with
          | nil => rw [hd] at hdl; simp at hdl; omega
          | cons x0 t0 => exact ⟨x0, t0, rfl⟩
        rw [hd] at o9
        rw [hd, maxFrom_two (x := x0) (by simp)] at hmx
        replace hmx := Lib.hid hmx
        replace hd := Lib.hid hd
        replace hdl := Lib.hid hdl
        go_wp2_with fail
        ((with_reducible refine (max_any _ _ _ x0 t0 _ o9.ri).mono ?_); rintro e w' ⟨rfl, rfl⟩)
        generalize maxFrom x0 (x0 :: t0) = v at *
        generalize diaGo xss (flg xss) k = m at *
        go_wp2_with fail
        go_roundw
        case measure => simp [intOf]; omega
        case rel =>
          refine ⟨k + 1, by omega, by go_num, ?_, B9⟩
          rw [hmx.out]
      · go_wp2_with fail
        go_ret2
        have hkn : k = flg xss := by omega
        subst hkn
        exact ⟨_, _, rfl, Lib.hid hF.out.symm, hB.trans (hb.mono (by omega))⟩
end Go.Proofs.Ytonojnblcleggaa
