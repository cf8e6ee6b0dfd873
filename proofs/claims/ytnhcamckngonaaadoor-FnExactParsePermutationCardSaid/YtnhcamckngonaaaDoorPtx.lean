/- The text of a permutation, the program's and the reference's. No condition but the sizes of memory and strconv's table of powers of ten. -/
import Derived.Test.YtnhcamckngonaaaDoorTxt
import Derived.Test.YtnhcamckngonaaaDoorPermX
import Derived.Lib.Strings
namespace Go.Proofs.YtnhcamckngonaaaDoor
open Go.RowKit
set_option linter.unusedVariables false
set_option maxRecDepth 100000
theorem small_of {n : Nat} {x : Int} (hn : n ≤ 400) (h : 0 ≤ x ∧ x < (n : Int)) : SmallI x := ⟨h.1, by omega⟩
theorem cyc_small {xs : List Int} {n : Nat} (hl : xs.length = n) (hn : n ≤ 400) (hr : ∀ x ∈ xs, 0 ≤ x ∧ x < (n : Int)) : ∀ c ∈ cycAll xs, c.length ≤ 401 ∧ ∀ x ∈ c, SmallI x := by
  subst hl
  intro c hc
  have h1 := (cycAll_len xs).2 c hc
  exact ⟨by omega, fun x hx => small_of hn (cycAll_rng hr c hc x hx)⟩
theorem strB_list (l : List UInt8) : (strB l).toList = l := (Lib.toList_data _).trans (strB_data l)
set_option maxHeartbeats 4000000 in
theorem permutationText_any (A : Option Addr) (n c : Nat) (xs : List Int) (w : World) {lo hi : Nat} (h : RI w lo hi A n xs) (hhi : hi ≤ w.heap.size) (h4 : n ≤ 400) (hr : ∀ x ∈ xs, 0 ≤ x ∧ x < (n : Int)) {B : Nat} (hT : T10 B w) (hB : B ≤ w.heap.size) :
    Calls Tryd.prog 24 #[.slice A n c] w fun e w' => e = .returned (.string (strB (permB xs))) ∧ Below w.heap.size w w' := by
  have hl := h.len
  have hcs := cyc_small hl h4 hr
  have hcl := (cycAll_len xs).1
  have hpl : ∀ k, (permGo ((cycAll xs).take k)).length ≤ 400 * (22 * 401 + 2) := fun k => by
    have h1 := permGo_take (cycAll xs) 401 k hcs
    have h2 : (cycAll xs).length * (22 * 401 + 2) ≤ 400 * (22 * 401 + 2) := Nat.mul_le_mul_right _ (by omega)
    omega
  have hCy := cycles_any A n c xs w h hhi (by omega) hr
  have hpb : permB xs = if permGo (cycAll xs) = [] then [40, 41] else permGo (cycAll xs) := rfl
  obtain ⟨cs, hcc⟩ : ∃ cs, cycAll xs = cs := ⟨_, rfl⟩
  rw [hcc] at hcs hcl hpl hCy hpb
  obtain ⟨L, hL⟩ : ∃ L, permB xs = L := ⟨_, rfl⟩
  rw [hL] at hpb ⊢
  clear hL
  replace hpb := Lib.hid hpb
  replace hcs := Lib.hid hcs
  replace hpl := Lib.hid hpl
  replace hT := Lib.hid hT
  replace hl := Lib.hid hl
  clear hcc
  go_enter Tryd.func24, Tryd.ntmps24
  go_wp2_with fail
  ((with_reducible refine hCy.mono ?_); rintro e w1 ⟨A1, m, c1, rfl, o1, f1⟩)
  clear hCy
  have y1 := f1.size
  have hm := o1.len
  have r1 := o1.rs
  have hm4 : m ≤ 400 := by have := hl.out; omega
  replace hm := Lib.hid hm
  go_wp2_with fail
  go_loopw [9, 3] (fun kv sv wq => ∃ (k : Nat) (s : ByteArray), k ≤ m ∧ kv = .int .i64 k ∧ sv = .string s ∧ s = strB (permGo (cs.take k)) ∧ Below w1.heap.size w1 wq) (fun kv _ _ => m - (intOf kv).toNat)
  case atStart => exact ⟨0, _, by omega, rfl, rfl, rfl, Below.refl _ _⟩
  case round =>
    obtain ⟨k, s, hk, rfl, rfl, hs, hBr⟩ := hrel
    have yr := hBr.size
    have hss : s.size ≤ 4000000 := by rw [hs, strB_size]; exact Nat.le_trans (hpl.out k) (by decide)
    by_cases hlt : k < m
    · obtain ⟨b, o, Ak, nk, ck, x, rfl, _, hb, hx, hcx, hRx⟩ := (r1.below hBr (Nat.le_refl _)).at_ hlt
      have hxl := hRx.len
      have hxs := (hcs.out x (List.mem_of_getElem? hx))
      have hnx : nk ≤ 401 := by rw [← hxl]; exact hxs.1
      have hsu := permGo_succ hx
      replace hxl := Lib.hid hxl
      replace hx := Lib.hid hx
      by_cases h1 : 1 < nk
      · have d1 : (1 : Int) < (nk : Int) := by omega
        have hN := numbersText_any Ak nk ck x wr hRx (by omega) hxs.2 (by omega) (hT.out.on ((f1.mono hB).trans (hBr.mono (by omega)))) (by omega)
        have hnl := numsB_len 32 x hxs.2
        have hsz : (strB (numsB 32 x)).size ≤ 10000 := by rw [strB_size]; have := hxl.out; omega
        rw [cycB_pos (by rw [hxl.out]; exact h1)] at hsu
        obtain ⟨t, ht⟩ : ∃ t, strB (numsB 32 x) = t := ⟨_, rfl⟩
        rw [ht] at hN hsz
        replace hs := Lib.hid hs
        replace hsu := Lib.hid hsu
        replace ht := Lib.hid ht
        clear hnl hxs
        go_wp2_with fail
        ((with_reducible refine hN.mono ?_); rintro e w2 ⟨rfl, f2⟩)
        have hB2 := hBr.trans (f2.mono yr)
        go_wp2_with fail
        go_roundw
        case measure => simp [intOf]; omega
        case rel =>
          refine ⟨k + 1, _, by omega, by go_num, rfl, ?_, hB2⟩
          rw [hsu.out, hs.out, ← ht.out]
          show strB _ ++ (strB [40] ++ strB _ ++ strB [41]) = _
          rw [strB_append, strB_append, strB_append]
          rfl
      · have d1 : ¬ (1 : Int) < (nk : Int) := by omega
        rw [cycB_nil (by rw [hxl.out]; exact h1), List.append_nil] at hsu
        rw [← hsu] at hs
        replace hs := Lib.hid hs
        replace hsu := Lib.hid hsu
        clear hxs
        go_wp2_with fail
        go_roundw
        case measure => simp [intOf]; omega
        case rel => exact ⟨k + 1, s, by omega, by go_num, rfl, hs.out, hBr⟩
    · obtain rfl : k = m := by omega
      have hB2 := f1.trans (hBr.mono y1)
      have e : cs.take k = cs := List.take_of_length_le (by rw [hm.out]; exact Nat.le_refl _)
      rw [e] at hs
      by_cases h0 : permGo cs = []
      · have he : s.toList.isEmpty = true := by rw [hs, strB_list, h0]; rfl
        have hL : L = [40, 41] := by rw [hpb.out, if_pos h0]
        replace h0 := Lib.hid h0
        replace hs := Lib.hid hs
        replace hL := Lib.hid hL
        go_wp2_with fail
        go_ret
        exact ⟨by rw [hL.out]; rfl, hB2⟩
      · have he : s.toList.isEmpty = false := by rw [hs, strB_list]; exact List.isEmpty_eq_false_iff.2 h0
        have hL : strB L = s := by rw [hpb.out, if_neg h0, hs]
        replace h0 := Lib.hid h0
        replace hs := Lib.hid hs
        replace hL := Lib.hid hL
        go_wp2_with fail
        go_ret
        exact ⟨by rw [hL.out]; rfl, hB2⟩
set_option maxHeartbeats 8000000 in
theorem l01Text_any (A : Option Addr) (n c : Nat) (xs : List Int) (w : World) {lo hi : Nat} (h : RI w lo hi A n xs) (hhi : hi ≤ w.heap.size) (h4 : n ≤ 400) (hr : ∀ x ∈ xs, 0 ≤ x ∧ x < (n : Int)) :
    Calls Tryd.prog 26 #[.slice A n c] w fun e w' => e = .returned (.string (strB (permB xs))) ∧ Below w.heap.size w w' := by
  have hl := h.len
  have hcs := cyc_small hl h4 hr
  have hcl := (cycAll_len xs).1
  have hpl : ∀ k, (permGo ((cycAll xs).take k)).length ≤ 400 * (22 * 401 + 2) := fun k => by
    have h1 := permGo_take (cycAll xs) 401 k hcs
    have h2 : (cycAll xs).length * (22 * 401 + 2) ≤ 400 * (22 * 401 + 2) := Nat.mul_le_mul_right _ (by omega)
    omega
  have hCy := l01Cycles_any A n c xs w h hhi (by omega) hr
  have hpb : permB xs = if permGo (cycAll xs) = [] then [40, 41] else permGo (cycAll xs) := rfl
  obtain ⟨cs, hcc⟩ : ∃ cs, cycAll xs = cs := ⟨_, rfl⟩
  rw [hcc] at hcs hcl hpl hCy hpb
  obtain ⟨L, hL⟩ : ∃ L, permB xs = L := ⟨_, rfl⟩
  rw [hL] at hpb ⊢
  clear hL
  replace hpb := Lib.hid hpb
  replace hcs := Lib.hid hcs
  replace hpl := Lib.hid hpl
  replace hl := Lib.hid hl
  clear hcc
  go_enter Tryd.func26, Tryd.ntmps26
  go_wp2_with fail
  ((with_reducible refine hCy.mono ?_); rintro e w1 ⟨A1, m, c1, rfl, o1, f1⟩)
  clear hCy
  have y1 := f1.size
  have hm := o1.len
  have r1 := o1.rs
  have hm4 : m ≤ 400 := by have := hl.out; omega
  replace hm := Lib.hid hm
  go_wp2_with fail
  go_loopw [5, 4] (fun kv sv wq => ∃ (k : Nat) (s : ByteArray), k ≤ m ∧ kv = .int .i64 k ∧ sv = .string s ∧ s = strB (permGo (cs.take k)) ∧ Below w1.heap.size w1 wq) (fun kv _ _ => m - (intOf kv).toNat)
  case atStart => exact ⟨0, _, by omega, rfl, rfl, rfl, Below.refl _ _⟩
  case round =>
    obtain ⟨k, s, hk, rfl, rfl, hs, hBr⟩ := hrel
    have yr := hBr.size
    have hpk := hpl.out k
    have hss : s.size ≤ 4000000 := by rw [hs, strB_size]; exact Nat.le_trans hpk (by decide)
    by_cases hlt : k < m
    · obtain ⟨b, o, Ak, nk, ck, x, rfl, _, hb, hx, hcx, hRx⟩ := r1.at_ hlt
      have hxl := hRx.len
      have hxs := (hcs.out x (List.mem_of_getElem? hx))
      have hnx : nk ≤ 401 := by rw [← hxl]; exact hxs.1
      have hsu := permGo_succ hx
      have kcx := (hBr.cell (p := ⟨b, o + k, none⟩) (by simp; omega)).trans hcx
      have hx2 := hxs.2
      replace hxl := Lib.hid hxl
      replace hx := Lib.hid hx
      clear hxs
      by_cases h1 : 1 < nk
      · have d1 : ¬ (nk : Int) < 2 := by omega
        rw [cycB_pos (by rw [hxl.out]; exact h1)] at hsu
        obtain ⟨P, hP⟩ : ∃ P, permGo (cs.take k) = P := ⟨_, rfl⟩
        rw [hP] at hsu hs hpk
        have hpt : ∀ j, (numsB 32 (x.take j)).length ≤ 10000 := fun j => by
          have := numsB_take 32 x j hx2
          have := hxl.out
          omega
        have hpk2 : P.length ≤ 4000000 := Nat.le_trans hpk (by decide)
        have hs0 : s ++ strB [40] = strB (P ++ [40] ++ numsB 32 (x.take 0)) := by rw [hs, strB_append]; simp [numsB_zero]
        replace hs := Lib.hid hs
        replace hsu := Lib.hid hsu
        replace hP := Lib.hid hP
        replace hs0 := Lib.hid hs0
        replace hpt := Lib.hid hpt
        replace hx2 := Lib.hid hx2
        obtain ⟨wo, rfl⟩ : ∃ wo : World, wo = wr := ⟨_, rfl⟩
        go_wp2_with fail
        go_loopw [6, 4] (fun jv tv wq => ∃ (j : Nat) (t : ByteArray), j ≤ nk ∧ jv = .int .i64 j ∧ tv = .string t ∧ t = strB (P ++ [40] ++ numsB 32 (x.take j)) ∧ Below wo.heap.size wo wq) (fun jv _ _ => nk - (intOf jv).toNat)
        case atStart => exact ⟨0, _, by omega, rfl, rfl, hs0.out, Below.refl _ _⟩
        case round =>
          obtain ⟨j, t, hj, rfl, rfl, ht, hBq⟩ := hrel
          have yq := hBq.size
          have hts : t.size ≤ 5000000 := by rw [ht, strB_size]; have := hpt.out j; simp; omega
          have kc := (hBq.cell (p := ⟨b, o + k, none⟩) (by simp; omega)).trans kcx
          by_cases hjl : j < nk
          · obtain ⟨b2, o2, v, rfl, _, hb2, hv, hcv⟩ := (hRx.below (hBr.trans (hBq.mono yr)) (Nat.le_refl _)).at_ hjl
            have hvs := hx2.out v (List.mem_of_getElem? hv)
            obtain ⟨u, rfl⟩ := Int.eq_ofNat_of_zero_le hvs.1
            have hum : u ≤ 9223372036854775807 := by have := hvs.2; omega
            have hD := fun V => l01Dec_any (u + 1) u (by omega) hum V
            have hdl : (strB (Lib.decDigits u)).size ≤ 21 := by rw [strB_size]; exact dec_len u hum
            have htk : x.take (j + 1) = x.take j ++ [(u : Int)] := by rw [List.take_add_one, hv]; rfl
            obtain ⟨d, hd⟩ : ∃ d, strB (Lib.decDigits u) = d := ⟨_, rfl⟩
            rw [hd] at hD hdl
            replace hd := Lib.hid hd
            replace ht := Lib.hid ht
            replace htk := Lib.hid htk
            clear hvs hv
            by_cases hj0 : j = 0
            · subst hj0
              rw [Nat.add_zero] at hcv
              have hD0 := hD wr
              go_wp2_with fail
              ((with_reducible refine hD0.mono ?_); rintro e w2 ⟨rfl, f2⟩)
              have hB2 := hBq.trans (f2.mono yq)
              go_wp2_with fail
              go_roundw
              case measure => simp [intOf]; omega
              case rel =>
                refine ⟨1, _, by omega, by go_num, rfl, ?_, hB2⟩
                rw [ht.out, ← hd.out, strB_append, htk.out]
                simp [numsB_zero, numsB_one, itoa_nat]
            · have dj : (0 : Int) < (j : Int) := by omega
              have hD0 := hD wr
              have hne : x.take j ≠ [] := by
                intro e
                have := congrArg List.length e
                have h9 := hxl.out
                simp only [List.length_take, List.length_nil] at this
                omega
              replace hne := Lib.hid hne
              go_wp2_with fail
              ((with_reducible refine hD0.mono ?_); rintro e w2 ⟨rfl, f2⟩)
              have hB2 := hBq.trans (f2.mono yq)
              go_wp2_with fail
              go_roundw
              case measure => simp [intOf]; omega
              case rel =>
                refine ⟨j + 1, _, by omega, by go_num, rfl, ?_, hB2⟩
                rw [ht.out, ← hd.out]
                show strB _ ++ strB [32] ++ strB _ = _
                rw [strB_append, strB_append, htk.out, numsB_snoc _ _ _ hne.out, itoa_nat]
                simp
          · obtain rfl : j = nk := by omega
            have e : x.take j = x := List.take_of_length_le (by rw [hxl.out]; exact Nat.le_refl _)
            rw [e] at ht
            have hB3 := hBr.trans (hBq.mono yr)
            replace ht := Lib.hid ht
            go_wp2_with fail
            go_roundw
            case measure => simp [intOf]; omega
            case rel =>
              refine ⟨k + 1, _, by omega, by go_num, rfl, ?_, hB3⟩
              rw [hsu.out, ht.out]
              show strB _ ++ strB [41] = _
              rw [strB_append]
              simp
      · have d1 : (nk : Int) < 2 := by omega
        rw [cycB_nil (by rw [hxl.out]; exact h1), List.append_nil] at hsu
        rw [← hsu] at hs
        replace hs := Lib.hid hs
        replace hsu := Lib.hid hsu
        go_wp2_with fail
        go_roundw
        case measure => simp [intOf]; omega
        case rel => exact ⟨k + 1, s, by omega, by go_num, rfl, hs.out, hBr⟩
    · obtain rfl : k = m := by omega
      have hB2 := f1.trans (hBr.mono y1)
      have e : cs.take k = cs := List.take_of_length_le (by rw [hm.out]; exact Nat.le_refl _)
      rw [e] at hs
      by_cases h0 : permGo cs = []
      · have he : s.toList.isEmpty = true := by rw [hs, strB_list, h0]; rfl
        have hL : L = [40, 41] := by rw [hpb.out, if_pos h0]
        replace h0 := Lib.hid h0
        replace hs := Lib.hid hs
        replace hL := Lib.hid hL
        go_wp2_with fail
        go_ret
        exact ⟨by rw [hL.out]; rfl, hB2⟩
      · have he : s.toList.isEmpty = false := by rw [hs, strB_list]; exact List.isEmpty_eq_false_iff.2 h0
        have hL : strB L = s := by rw [hpb.out, if_neg h0, hs]
        replace h0 := Lib.hid h0
        replace hs := Lib.hid hs
        replace hL := Lib.hid hL
        go_wp2_with fail
        go_ret
        exact ⟨by rw [hL.out]; rfl, hB2⟩
end Go.Proofs.YtnhcamckngonaaaDoor
