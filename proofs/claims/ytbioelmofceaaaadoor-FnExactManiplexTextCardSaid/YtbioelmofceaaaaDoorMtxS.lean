/- The text of a maniplex of the reference. No condition but the sizes of memory. -/
import Derived.Test.YtbioelmofceaaaaDoorMtx
namespace Go.Proofs.YtbioelmofceaaaaDoor
open Go.RowKit
set_option linter.unusedVariables false
set_option maxRecDepth 100000
set_option maxHeartbeats 8000000 in
theorem l02Text_any (A : Option Addr) (n c : Nat) (xss : List (List Int)) (w : World) {lo hi : Nat} (h : RS w lo hi A n xss) (hhi : hi ≤ w.heap.size) (hn : n ≤ 20) (hs : ∀ xs ∈ xss, xs.length ≤ 400 ∧ ∀ x ∈ xs, SmallI x) :
    Calls Tryd.prog 51 #[.agg #[.slice A n c]] w fun e w' => e = .returned (.string (strB (txtB xss))) ∧ Below w.heap.size w w' := by
  have hl := h.len
  have hpl : ∀ k, (txtB (xss.take k)).length ≤ 20 * (22 * 400 + 1) := fun k => by
    have h1 := txtB_take 400 xss k hs
    have h2 : xss.length * (22 * 400 + 1) ≤ 20 * (22 * 400 + 1) := Nat.mul_le_mul_right _ (by omega)
    omega
  have hR := rs_alloc h hhi (.cells #[.slice A n c] 44)
  have hC : (w.alloc (.cells #[.slice A n c] 44)).cell? ⟨w.heap.size, 0, none⟩ = some (.slice A n c) := al_new _ _ _ _ rfl
  have hB0 : Below w.heap.size w (w.alloc (.cells #[.slice A n c] 44)) := (Below.refl _ _).alloc (Nat.le_refl _) _
  replace hs := Lib.hid hs
  replace hl := Lib.hid hl
  replace hpl := Lib.hid hpl
  go_enter Tryd.func51, Tryd.ntmps51
  go_wp2_with fail
  obtain ⟨W1, hW⟩ : ∃ W1 : World, w.alloc (.cells #[.slice A n c] 44) = W1 := ⟨_, rfl⟩
  have hz1 : w.heap.size < W1.heap.size := by rw [← hW]; simp
  rw [hW] at hR hC hB0 ⊢
  clear hW h
  go_loopw [4, 3] (fun kv sv wq => ∃ (k : Nat) (s : ByteArray), k ≤ n ∧ kv = .int .i64 k ∧ sv = .string s ∧ s = strB (txtB (xss.take k)) ∧ Below W1.heap.size W1 wq) (fun kv _ _ => n - (intOf kv).toNat)
  case atStart => exact ⟨0, _, by omega, rfl, rfl, rfl, Below.refl _ _⟩
  case round =>
    obtain ⟨k, s, hk, rfl, rfl, hst, hBr⟩ := hrel
    have yr := hBr.size
    have hpk := hpl.out k
    have hss : s.size ≤ 4000000 := by rw [hst, strB_size]; exact Nat.le_trans hpk (by decide)
    have kC := (hBr.cell (p := ⟨w.heap.size, 0, none⟩) hz1).trans hC
    by_cases hlt : k < n
    · obtain ⟨b, o, Ak, nk, ck, x, rfl, _, hb, hx, hcx, hRx⟩ := hR.at_ hlt
      have hxl := hRx.len
      obtain ⟨hx1, hx2⟩ := hs.out x (List.mem_of_getElem? hx)
      have hnx : nk ≤ 400 := by omega
      have htk : xss.take (k + 1) = xss.take k ++ [x] := by rw [List.take_add_one, hx]; rfl
      replace hxl := Lib.hid hxl
      have hpt : ∀ j, (numsB 44 (x.take j)).length ≤ 10000 := fun j => by
        have := numsB_take 44 x j hx2
        omega
      obtain ⟨wo, rfl⟩ : ∃ wo : World, wo = wr := ⟨_, rfl⟩
      replace hpt := Lib.hid hpt
      replace hx2 := Lib.hid hx2
      replace hx := Lib.hid hx
      clear hx1
      by_cases hk0 : k = 0
      · subst hk0
        rw [Nat.add_zero] at hcx
        obtain ⟨P, hPe⟩ : ∃ P : List UInt8, P = [] := ⟨_, rfl⟩
        have hP2 : P.length ≤ 4000000 := by rw [hPe]; simp
        have hs0 : s = strB (P ++ numsB 44 (x.take 0)) := by rw [hst, hPe]; rfl
        have hP : strB (P ++ numsB 44 x) = strB (txtB (xss.take (0 + 1))) := by rw [hPe, htk]; simp [txtB_one]
        replace hs0 := Lib.hid hs0
        replace hP := Lib.hid hP
        replace hst := Lib.hid hst
        replace htk := Lib.hid htk
        replace hPe := Lib.hid hPe
        go_wp2_with fail
        go_loopw [5, 3] (fun jv tv wq => ∃ (j : Nat) (t : ByteArray), j ≤ nk ∧ jv = .int .i64 j ∧ tv = .string t ∧ t = strB (P ++ numsB 44 (x.take j)) ∧ Below wo.heap.size wo wq) (fun jv _ _ => nk - (intOf jv).toNat)
        case atStart => exact ⟨0, _, by omega, rfl, rfl, hs0.out, Below.refl _ _⟩
        case round =>
          obtain ⟨j, t, hj, rfl, rfl, ht, hBq⟩ := hrel
          have yq := hBq.size
          have hts : t.size ≤ 5000000 := by rw [ht, strB_size]; have := hpt.out j; simp only [List.length_append]; omega
          have kC2 := (hBq.cell (p := ⟨w.heap.size, 0, none⟩) (by simp; omega)).trans kC
          have kcx := (hBq.cell (p := ⟨b, o, none⟩) (by simp; omega)).trans ((hBr.cell (p := ⟨b, o, none⟩) (by simp; omega)).trans hcx)
          by_cases hjl : j < nk
          · obtain ⟨b2, o2, v, rfl, _, hb2, hv, hcv⟩ := (hRx.below (hBr.trans (hBq.mono yr)) (by omega)).at_ hjl
            have hvs := hx2.out v (List.mem_of_getElem? hv)
            obtain ⟨u, rfl⟩ := Int.eq_ofNat_of_zero_le hvs.1
            have hum : u ≤ 9223372036854775807 := by have := hvs.2; omega
            have hD := fun V => l01Dec_any (u + 1) u (by omega) hum V
            have hdl : (strB (Lib.decDigits u)).size ≤ 21 := by rw [strB_size]; exact dec_len u hum
            have htj : x.take (j + 1) = x.take j ++ [(u : Int)] := by rw [List.take_add_one, hv]; rfl
            obtain ⟨d, hd⟩ : ∃ d, strB (Lib.decDigits u) = d := ⟨_, rfl⟩
            rw [hd] at hD hdl
            replace hd := Lib.hid hd
            replace ht := Lib.hid ht
            replace htj := Lib.hid htj
            clear hvs hv
            by_cases hj0 : j = 0
            · subst hj0
              rw [Nat.add_zero] at hcv
              have hD0 := hD wr
              have hnew : t ++ d = strB (P ++ numsB 44 (x.take 1)) := by
                rw [ht.out, ← hd.out, strB_append, htj.out]
                simp [numsB_zero, numsB_one, itoa_nat]
              replace hnew := Lib.hid hnew
              go_wp2_with fail
              ((with_reducible refine hD0.mono ?_); rintro e w2 ⟨rfl, f2⟩)
              have hB2 := hBq.trans (f2.mono yq)
              go_wp2_with fail
              go_roundw
              case measure => simp [intOf]; omega
              case rel => first | exact ⟨1, _, by omega, by go_num, rfl, hnew.out, hB2⟩ | ((repeat (apply Exists.intro)); exact ⟨⟨1, _, by omega, by go_num, rfl, hnew.out, hB2⟩, rfl⟩)
            · have dj : (0 : Int) < (j : Int) := by omega
              have hD0 := hD wr
              have hne : x.take j ≠ [] := by
                intro e
                have := congrArg List.length e
                have h9 := hxl.out
                simp only [List.length_take, List.length_nil] at this
                omega
              have hnew : t ++ strB [44] ++ d = strB (P ++ numsB 44 (x.take (j + 1))) := by
                rw [ht.out, ← hd.out, strB_append, strB_append, htj.out, numsB_snoc _ _ _ hne, itoa_nat]
                simp
              replace hne := Lib.hid hne
              replace hnew := Lib.hid hnew
              go_wp2_with fail
              ((with_reducible refine hD0.mono ?_); rintro e w2 ⟨rfl, f2⟩)
              have hB2 := hBq.trans (f2.mono yq)
              go_wp2_with fail
              go_roundw
              case measure => simp [intOf]; omega
              case rel => first | exact ⟨j + 1, _, by omega, by go_num, rfl, hnew.out, hB2⟩ | ((repeat (apply Exists.intro)); exact ⟨⟨j + 1, _, by omega, by go_num, rfl, hnew.out, hB2⟩, rfl⟩)
          · obtain rfl : j = nk := by omega
            have e : x.take j = x := List.take_of_length_le (by rw [hxl.out]; exact Nat.le_refl _)
            rw [e] at ht
            have hB3 := hBr.trans (hBq.mono yr)
            replace ht := Lib.hid ht
            go_wp2_with fail
            go_roundw
            case measure => simp [intOf]; omega
            case rel => first | exact ⟨0 + 1, _, by omega, by go_num, rfl, ht.out.trans hP.out, hB3⟩ | ((repeat (apply Exists.intro)); exact ⟨⟨0 + 1, _, by omega, by go_num, rfl, ht.out.trans hP.out, hB3⟩, rfl⟩)
      · have dk : (0 : Int) < (k : Int) := by omega
        have hne : xss.take k ≠ [] := by
          intro e
          have := congrArg List.length e
          have h9 := hl.out
          simp only [List.length_take, List.length_nil] at this
          omega
        obtain ⟨P, hPe⟩ : ∃ P, txtB (xss.take k) ++ [47] = P := ⟨_, rfl⟩
        have hP2 : P.length ≤ 4000000 := by rw [← hPe]; simp only [List.length_append, List.length_singleton]; omega
        have hs0 : s ++ strB [47] = strB (P ++ numsB 44 (x.take 0)) := by rw [hst, strB_append, hPe]; simp [numsB_zero]
        have hP : strB (P ++ numsB 44 x) = strB (txtB (xss.take (k + 1))) := by rw [← hPe, htk, txtB_snoc _ _ hne]; simp
        replace hs0 := Lib.hid hs0
        replace hP := Lib.hid hP
        replace hst := Lib.hid hst
        replace htk := Lib.hid htk
        replace hPe := Lib.hid hPe
        clear hne
        have dkn : 0 < k := by omega
        go_wp2_with fail
        go_loopw [5, 3] (fun jv tv wq => ∃ (j : Nat) (t : ByteArray), j ≤ nk ∧ jv = .int .i64 j ∧ tv = .string t ∧ t = strB (P ++ numsB 44 (x.take j)) ∧ Below wo.heap.size wo wq) (fun jv _ _ => nk - (intOf jv).toNat)
        case atStart => exact ⟨0, _, by omega, rfl, rfl, hs0.out, Below.refl _ _⟩
        case round =>
          obtain ⟨j, t, hj, rfl, rfl, ht, hBq⟩ := hrel
          have yq := hBq.size
          have hts : t.size ≤ 5000000 := by rw [ht, strB_size]; have := hpt.out j; simp only [List.length_append]; omega
          have kC2 := (hBq.cell (p := ⟨w.heap.size, 0, none⟩) (by simp; omega)).trans kC
          have kcx := (hBq.cell (p := ⟨b, o + k, none⟩) (by simp; omega)).trans ((hBr.cell (p := ⟨b, o + k, none⟩) (by simp; omega)).trans hcx)
          by_cases hjl : j < nk
          · obtain ⟨b2, o2, v, rfl, _, hb2, hv, hcv⟩ := (hRx.below (hBr.trans (hBq.mono yr)) (by omega)).at_ hjl
            have hvs := hx2.out v (List.mem_of_getElem? hv)
            obtain ⟨u, rfl⟩ := Int.eq_ofNat_of_zero_le hvs.1
            have hum : u ≤ 9223372036854775807 := by have := hvs.2; omega
            have hD := fun V => l01Dec_any (u + 1) u (by omega) hum V
            have hdl : (strB (Lib.decDigits u)).size ≤ 21 := by rw [strB_size]; exact dec_len u hum
            have htj : x.take (j + 1) = x.take j ++ [(u : Int)] := by rw [List.take_add_one, hv]; rfl
            obtain ⟨d, hd⟩ : ∃ d, strB (Lib.decDigits u) = d := ⟨_, rfl⟩
            rw [hd] at hD hdl
            replace hd := Lib.hid hd
            replace ht := Lib.hid ht
            replace htj := Lib.hid htj
            clear hvs hv
            by_cases hj0 : j = 0
            · subst hj0
              rw [Nat.add_zero] at hcv
              have hD0 := hD wr
              have hnew : t ++ d = strB (P ++ numsB 44 (x.take 1)) := by
                rw [ht.out, ← hd.out, strB_append, htj.out]
                simp [numsB_zero, numsB_one, itoa_nat]
              replace hnew := Lib.hid hnew
              go_wp2_with fail
              ((with_reducible refine hD0.mono ?_); rintro e w2 ⟨rfl, f2⟩)
              have hB2 := hBq.trans (f2.mono yq)
              go_wp2_with fail
              go_roundw
              case measure => simp [intOf]; omega
              case rel => first | exact ⟨1, _, by omega, by go_num, rfl, hnew.out, hB2⟩ | ((repeat (apply Exists.intro)); exact ⟨⟨1, _, by omega, by go_num, rfl, hnew.out, hB2⟩, rfl⟩)
            · have dj : (0 : Int) < (j : Int) := by omega
              have hD0 := hD wr
              have hne : x.take j ≠ [] := by
                intro e
                have := congrArg List.length e
                have h9 := hxl.out
                simp only [List.length_take, List.length_nil] at this
                omega
              have hnew : t ++ strB [44] ++ d = strB (P ++ numsB 44 (x.take (j + 1))) := by
                rw [ht.out, ← hd.out, strB_append, strB_append, htj.out, numsB_snoc _ _ _ hne, itoa_nat]
                simp
              replace hne := Lib.hid hne
              replace hnew := Lib.hid hnew
              go_wp2_with fail
              ((with_reducible refine hD0.mono ?_); rintro e w2 ⟨rfl, f2⟩)
              have hB2 := hBq.trans (f2.mono yq)
              go_wp2_with fail
              go_roundw
              case measure => simp [intOf]; omega
              case rel => first | exact ⟨j + 1, _, by omega, by go_num, rfl, hnew.out, hB2⟩ | ((repeat (apply Exists.intro)); exact ⟨⟨j + 1, _, by omega, by go_num, rfl, hnew.out, hB2⟩, rfl⟩)
          · obtain rfl : j = nk := by omega
            have e : x.take j = x := List.take_of_length_le (by rw [hxl.out]; exact Nat.le_refl _)
            rw [e] at ht
            have hB3 := hBr.trans (hBq.mono yr)
            replace ht := Lib.hid ht
            go_wp2_with fail
            go_roundw
            case measure => simp [intOf]; omega
            case rel => first | exact ⟨k + 1, _, by omega, by go_num, rfl, ht.out.trans hP.out, hB3⟩ | ((repeat (apply Exists.intro)); exact ⟨⟨k + 1, _, by omega, by go_num, rfl, ht.out.trans hP.out, hB3⟩, rfl⟩)
    · obtain rfl : k = n := by omega
      have hBe := hB0.trans (hBr.mono (by omega))
      have e : xss.take k = xss := List.take_of_length_le (by rw [hl.out]; exact Nat.le_refl _)
      rw [e] at hst
      replace hst := Lib.hid hst
      go_wp2_with fail
      go_ret
      exact ⟨by rw [← hst.out]; rfl, hBe⟩
end Go.Proofs.YtbioelmofceaaaaDoor
