/- FnPermutationTexts: the text of a permutation is parsed to it, and a text that is parsed is the text of the result: the law returns true for every code. No condition. (Merged: Ptx, Shc, Psx, PmS, PsS, PsT, Dmg, DmgQ, PtxX, PtlP, DrwT, Like, Crd, CrdE, LPermutationTexts.) -/
import Derived.Test.YtcjnhiglfkcmiaaDoorTxt
import Derived.Test.YtcjnhiglfkcmiaaDoorPermX
import Derived.Lib.Strings
import Derived.Shelf.Strings.Builder1
import Derived.Shelf.Strings.Builder2
import Derived.Shelf.Strings.OnBuilder
import Derived.Shelf.Small.Bits
import Derived.Shelf.Small.Wraps
import Derived.Shelf.Strconv.Itoa0
import Derived.Shelf.Strconv.Itoa1
import Derived.Shelf.LaysM
import Derived.Shelf.Strconv.Itoa2
import Derived.Shelf.Strconv.Itoa3
import Derived.Shelf.Strconv.Itoa4
import Derived.Shelf.Strconv.ParseIntEmpty
import Derived.Shelf.Strconv.Clone
import Derived.Shelf.Strconv.SyntaxError
import Derived.Shelf.LaysC
import Derived.Shelf.Strconv.ToError
import Derived.Shelf.Strconv.Lower
import Derived.Shelf.Strconv.ParseUint10
import Derived.Shelf.Strconv.ParseUint10Empty
import Derived.Shelf.Strconv.ParseUint10Any
import Derived.Shelf.Strconv.ParseInt10
import Derived.Shelf.Strconv.RangeError
import Derived.Shelf.Strconv.ToErrorRange
import Derived.Shelf.Strconv.ParseUintEmpty
import Derived.Shelf.Strconv.ParseUint10b64
import Derived.Shelf.Strconv.ParseUint10b32
import Derived.Shelf.Strconv.ParseUint10b16
import Derived.Shelf.Strconv.ParseUint10b8
import Derived.Shelf.Strconv.ParseUint10At
import Derived.Shelf.Strconv.ParseInt10At64
import Derived.Shelf.Strconv.ParseInt10At32
import Derived.Shelf.Strconv.ParseInt10At16
import Derived.Shelf.Strconv.ParseInt10At8
import Derived.Shelf.Strconv.ParseInt10All
import Derived.Shelf.Strconv.ParseIntPublic10
import Derived.Shelf.Strconv.ErrVarParseInt
import Derived.Shelf.Strings.Search1
import Derived.Shelf.Strings.Search2
import Derived.Shelf.Strings.Search3
import Derived.Shelf.Strings.Count
import Derived.Shelf.Strings.Shaped
import Derived.Shelf.Strconv.AppendUint10
import Derived.Shelf.Strconv.AppendInt10
import Derived.Shelf.Strconv.AppendIntPublic10
import Derived.Shelf.Strings.Prefix
import Derived.Shelf.Strings.Split
import Derived.Shelf.Strings.SplitShaped
import Derived.Shelf.Bits.Mul64
import Derived.Shelf.Unicode.DecodeSlow
import Derived.Test.YtcjnhiglfkcmiaaDoorProg
import Derived.Test.YtcjnhiglfkcmiaaDoorPsP
import Derived.Test.YtcjnhiglfkcmiaaDoorRdN
import Derived.Test.YtcjnhiglfkcmiaaDoorPow
import Derived.Test.YtcjnhiglfkcmiaaDoorDrwZ
import Derived.Test.YtcjnhiglfkcmiaaDoorLcgQ
import Derived.Test.YtcjnhiglfkcmiaaDoorLawI
import Derived.HandedShaped
import Derived.Handed
import Derived.Shelf.Vars
import Derived.Stop.LaidErr
import Derived.Test.YtcjnhiglfkcmiaaDoorRows
import Derived.Test.YtcjnhiglfkcmiaaDoorTie
import Derived.Test.YtcjnhiglfkcmiaaDoorCards
import Derived.ProofKit
import Derived.LaidMore
import Derived.OpenShut
import Derived.Stop.Joined
import Derived.SevenTiedAt
import Derived.Lib.LaidTab
import Derived.MakeChecks
import Derived.Lay
import Derived.Test.YtcjnhiglfkcmiaaDoorOpen
import Derived.Test.YtcjnhiglfkcmiaaDoorOpenB
/- Ptx -/
namespace Go.Proofs.YtcjnhiglfkcmiaaDoor
open Go.RowKit
set_option linter.unusedVariables false
set_option maxRecDepth 100000
theorem small_of {n : Nat} {x : Int} (hn : n ≤ 400) (h : 0 ≤ x ∧ x < (n : Int)) : SmallI x := ⟨h.1, by omega⟩
theorem cyc_small {xs : List Int} {n : Nat} (hl : xs.length = n) (hn : n ≤ 400) (hr : ∀ x ∈ xs, 0 ≤ x ∧ x < (n : Int)) : ∀ c ∈ cycAll xs, c.length ≤ 401 ∧ ∀ x ∈ c, SmallI x := by
  subst hl
  intro c hc
  have h1 := (cycAll_len xs).2 c hc
  exact ⟨by omega, fun x hx => small_of hn (cycAll_rng hr c hc x hx)⟩
theorem strB_list (l : List UInt8) : (strB l).toList = l := (Lib.toList_data _).trans (strB_data l)
set_option maxHeartbeats 4000000 in
theorem permutationText_any (A : Option Addr) (n c : Nat) (xs : List Int) (w : World) {lo hi : Nat} (h : RI w lo hi A n xs) (hhi : hi ≤ w.heap.size) (h4 : n ≤ 400) (hr : ∀ x ∈ xs, 0 ≤ x ∧ x < (n : Int)) {B : Nat} (hT : T10 B w) (hB : B ≤ w.heap.size) :
    Calls Tryd.prog 41 #[.slice A n c] w fun e w' => e = .returned (.string (strB (permB xs))) ∧ Below w.heap.size w w' := by
  have hl := h.len
  have hcs := cyc_small hl h4 hr
  have hcl := (cycAll_len xs).1
  have hpl : ∀ k, (permGo ((cycAll xs).take k)).length ≤ 400 * (22 * 401 + 2) := fun k => by
    have h1 := permGo_take (cycAll xs) 401 k hcs
    have h2 : (cycAll xs).length * (22 * 401 + 2) ≤ 400 * (22 * 401 + 2) := Nat.mul_le_mul_right _ (by omega)
    omega
  have hCy := cycles_any A n c xs w h hhi (by omega) hr
  have hpb : permB xs = if permGo (cycAll xs) = [] then [40, 41] else permGo (cycAll xs) := rfl
  obtain ⟨cs, hcc⟩ : ∃ cs, cycAll xs = cs := ⟨_, rfl⟩
  rw [hcc] at hcs hcl hpl hCy hpb
  obtain ⟨L, hL⟩ : ∃ L, permB xs = L := ⟨_, rfl⟩
  rw [hL] at hpb ⊢
  clear hL
  replace hpb := Lib.hid hpb
  replace hcs := Lib.hid hcs
  replace hpl := Lib.hid hpl
  replace hT := Lib.hid hT
  replace hl := Lib.hid hl
  clear hcc
  go_enter Tryd.func41, Tryd.ntmps41
  go_wp2_with fail
  ((with_reducible refine hCy.mono ?_); rintro e w1 ⟨A1, m, c1, rfl, o1, f1⟩)
  clear hCy
  have y1 := f1.size
  have hm := o1.len
  have r1 := o1.rs
  have hm4 : m ≤ 400 := by have := hl.out; omega
  replace hm := Lib.hid hm
  go_wp2_with fail
  go_loopw [9, 3] (fun kv sv wq => ∃ (k : Nat) (s : ByteArray), k ≤ m ∧ kv = .int .i64 k ∧ sv = .string s ∧ s = strB (permGo (cs.take k)) ∧ Below w1.heap.size w1 wq) (fun kv _ _ => m - (intOf kv).toNat)
  case atStart => exact ⟨0, _, by omega, rfl, rfl, rfl, Below.refl _ _⟩
  case round =>
    obtain ⟨k, s, hk, rfl, rfl, hs, hBr⟩ := hrel
    have yr := hBr.size
    have hss : s.size ≤ 4000000 := by rw [hs, strB_size]; exact Nat.le_trans (hpl.out k) (by decide)
    by_cases hlt : k < m
    · obtain ⟨b, o, Ak, nk, ck, x, rfl, _, hb, hx, hcx, hRx⟩ := (r1.below hBr (Nat.le_refl _)).at_ hlt
      have hxl := hRx.len
      have hxs := (hcs.out x (List.mem_of_getElem? hx))
      have hnx : nk ≤ 401 := by rw [← hxl]; exact hxs.1
      have hsu := permGo_succ hx
      replace hxl := Lib.hid hxl
      replace hx := Lib.hid hx
      by_cases h1 : 1 < nk
      · have d1 : (1 : Int) < (nk : Int) := by omega
        have hN := numbersText_any Ak nk ck x wr hRx (by omega) hxs.2 (by omega) (hT.out.on ((f1.mono hB).trans (hBr.mono (by omega)))) (by omega)
        have hnl := numsB_len 32 x hxs.2
        have hsz : (strB (numsB 32 x)).size ≤ 10000 := by rw [strB_size]; have := hxl.out; omega
        rw [cycB_pos (by rw [hxl.out]; exact h1)] at hsu
        obtain ⟨t, ht⟩ : ∃ t, strB (numsB 32 x) = t := ⟨_, rfl⟩
        rw [ht] at hN hsz
        replace hs := Lib.hid hs
        replace hsu := Lib.hid hsu
        replace ht := Lib.hid ht
        clear hnl hxs
        go_wp2_with fail
        ((with_reducible refine hN.mono ?_); rintro e w2 ⟨rfl, f2⟩)
        have hB2 := hBr.trans (f2.mono yr)
        go_wp2_with fail
        go_roundw
        case measure => simp [intOf]; omega
        case rel =>
          refine ⟨k + 1, _, by omega, by go_num, rfl, ?_, hB2⟩
          rw [hsu.out, hs.out, ← ht.out]
          show strB _ ++ (strB [40] ++ strB _ ++ strB [41]) = _
          rw [strB_append, strB_append, strB_append]
          rfl
      · have d1 : ¬ (1 : Int) < (nk : Int) := by omega
        rw [cycB_nil (by rw [hxl.out]; exact h1), List.append_nil] at hsu
        rw [← hsu] at hs
        replace hs := Lib.hid hs
        replace hsu := Lib.hid hsu
        clear hxs
        go_wp2_with fail
        go_roundw
        case measure => simp [intOf]; omega
        case rel => exact ⟨k + 1, s, by omega, by go_num, rfl, hs.out, hBr⟩
    · obtain rfl : k = m := by omega
      have hB2 := f1.trans (hBr.mono y1)
      have e : cs.take k = cs := List.take_of_length_le (by rw [hm.out]; exact Nat.le_refl _)
      rw [e] at hs
      by_cases h0 : permGo cs = []
      · have he : s.toList.isEmpty = true := by rw [hs, strB_list, h0]; rfl
        have hL : L = [40, 41] := by rw [hpb.out, if_pos h0]
        replace h0 := Lib.hid h0
        replace hs := Lib.hid hs
        replace hL := Lib.hid hL
        go_wp2_with fail
        go_ret
        exact ⟨by rw [hL.out]; rfl, hB2⟩
      · have he : s.toList.isEmpty = false := by rw [hs, strB_list]; exact List.isEmpty_eq_false_iff.2 h0
        have hL : strB L = s := by rw [hpb.out, if_neg h0, hs]
        replace h0 := Lib.hid h0
        replace hs := Lib.hid hs
        replace hL := Lib.hid hL
        go_wp2_with fail
        go_ret
        exact ⟨by rw [hL.out]; rfl, hB2⟩
set_option maxHeartbeats 8000000 in
theorem l01Text_any (A : Option Addr) (n c : Nat) (xs : List Int) (w : World) {lo hi : Nat} (h : RI w lo hi A n xs) (hhi : hi ≤ w.heap.size) (h4 : n ≤ 400) (hr : ∀ x ∈ xs, 0 ≤ x ∧ x < (n : Int)) :
    Calls Tryd.prog 43 #[.slice A n c] w fun e w' => e = .returned (.string (strB (permB xs))) ∧ Below w.heap.size w w' := by
  have hl := h.len
  have hcs := cyc_small hl h4 hr
  have hcl := (cycAll_len xs).1
  have hpl : ∀ k, (permGo ((cycAll xs).take k)).length ≤ 400 * (22 * 401 + 2) := fun k => by
    have h1 := permGo_take (cycAll xs) 401 k hcs
    have h2 : (cycAll xs).length * (22 * 401 + 2) ≤ 400 * (22 * 401 + 2) := Nat.mul_le_mul_right _ (by omega)
    omega
  have hCy := l01Cycles_any A n c xs w h hhi (by omega) hr
  have hpb : permB xs = if permGo (cycAll xs) = [] then [40, 41] else permGo (cycAll xs) := rfl
  obtain ⟨cs, hcc⟩ : ∃ cs, cycAll xs = cs := ⟨_, rfl⟩
  rw [hcc] at hcs hcl hpl hCy hpb
  obtain ⟨L, hL⟩ : ∃ L, permB xs = L := ⟨_, rfl⟩
  rw [hL] at hpb ⊢
  clear hL
  replace hpb := Lib.hid hpb
  replace hcs := Lib.hid hcs
  replace hpl := Lib.hid hpl
  replace hl := Lib.hid hl
  clear hcc
  go_enter Tryd.func43, Tryd.ntmps43
  go_wp2_with fail
  ((with_reducible refine hCy.mono ?_); rintro e w1 ⟨A1, m, c1, rfl, o1, f1⟩)
  clear hCy
  have y1 := f1.size
  have hm := o1.len
  have r1 := o1.rs
  have hm4 : m ≤ 400 := by have := hl.out; omega
  replace hm := Lib.hid hm
  go_wp2_with fail
  go_loopw [5, 4] (fun kv sv wq => ∃ (k : Nat) (s : ByteArray), k ≤ m ∧ kv = .int .i64 k ∧ sv = .string s ∧ s = strB (permGo (cs.take k)) ∧ Below w1.heap.size w1 wq) (fun kv _ _ => m - (intOf kv).toNat)
  case atStart => exact ⟨0, _, by omega, rfl, rfl, rfl, Below.refl _ _⟩
  case round =>
    obtain ⟨k, s, hk, rfl, rfl, hs, hBr⟩ := hrel
    have yr := hBr.size
    have hpk := hpl.out k
    have hss : s.size ≤ 4000000 := by rw [hs, strB_size]; exact Nat.le_trans hpk (by decide)
    by_cases hlt : k < m
    · obtain ⟨b, o, Ak, nk, ck, x, rfl, _, hb, hx, hcx, hRx⟩ := r1.at_ hlt
      have hxl := hRx.len
      have hxs := (hcs.out x (List.mem_of_getElem? hx))
      have hnx : nk ≤ 401 := by rw [← hxl]; exact hxs.1
      have hsu := permGo_succ hx
      have kcx := (hBr.cell (p := ⟨b, o + k, none⟩) (by simp; omega)).trans hcx
      have hx2 := hxs.2
      replace hxl := Lib.hid hxl
      replace hx := Lib.hid hx
      clear hxs
      by_cases h1 : 1 < nk
      · have d1 : ¬ (nk : Int) < 2 := by omega
        rw [cycB_pos (by rw [hxl.out]; exact h1)] at hsu
        obtain ⟨P, hP⟩ : ∃ P, permGo (cs.take k) = P := ⟨_, rfl⟩
        rw [hP] at hsu hs hpk
        have hpt : ∀ j, (numsB 32 (x.take j)).length ≤ 10000 := fun j => by
          have := numsB_take 32 x j hx2
          have := hxl.out
          omega
        have hpk2 : P.length ≤ 4000000 := Nat.le_trans hpk (by decide)
        have hs0 : s ++ strB [40] = strB (P ++ [40] ++ numsB 32 (x.take 0)) := by rw [hs, strB_append]; simp [numsB_zero]
        replace hs := Lib.hid hs
        replace hsu := Lib.hid hsu
        replace hP := Lib.hid hP
        replace hs0 := Lib.hid hs0
        replace hpt := Lib.hid hpt
        replace hx2 := Lib.hid hx2
        obtain ⟨wo, rfl⟩ : ∃ wo : World, wo = wr := ⟨_, rfl⟩
        go_wp2_with fail
        go_loopw [6, 4] (fun jv tv wq => ∃ (j : Nat) (t : ByteArray), j ≤ nk ∧ jv = .int .i64 j ∧ tv = .string t ∧ t = strB (P ++ [40] ++ numsB 32 (x.take j)) ∧ Below wo.heap.size wo wq) (fun jv _ _ => nk - (intOf jv).toNat)
        case atStart => exact ⟨0, _, by omega, rfl, rfl, hs0.out, Below.refl _ _⟩
        case round =>
          obtain ⟨j, t, hj, rfl, rfl, ht, hBq⟩ := hrel
          have yq := hBq.size
          have hts : t.size ≤ 5000000 := by rw [ht, strB_size]; have := hpt.out j; simp; omega
          have kc := (hBq.cell (p := ⟨b, o + k, none⟩) (by simp; omega)).trans kcx
          by_cases hjl : j < nk
          · obtain ⟨b2, o2, v, rfl, _, hb2, hv, hcv⟩ := (hRx.below (hBr.trans (hBq.mono yr)) (Nat.le_refl _)).at_ hjl
            have hvs := hx2.out v (List.mem_of_getElem? hv)
            obtain ⟨u, rfl⟩ := Int.eq_ofNat_of_zero_le hvs.1
            have hum : u ≤ 9223372036854775807 := by have := hvs.2; omega
            have hD := fun V => l01Dec_any (u + 1) u (by omega) hum V
            have hdl : (strB (Lib.decDigits u)).size ≤ 21 := by rw [strB_size]; exact dec_len u hum
            have htk : x.take (j + 1) = x.take j ++ [(u : Int)] := by rw [List.take_add_one, hv]; rfl
            obtain ⟨d, hd⟩ : ∃ d, strB (Lib.decDigits u) = d := ⟨_, rfl⟩
            rw [hd] at hD hdl
            replace hd := Lib.hid hd
            replace ht := Lib.hid ht
            replace htk := Lib.hid htk
            clear hvs hv
            by_cases hj0 : j = 0
            · subst hj0
              rw [Nat.add_zero] at hcv
              have hD0 := hD wr
              go_wp2_with fail
              ((with_reducible refine hD0.mono ?_); rintro e w2 ⟨rfl, f2⟩)
              have hB2 := hBq.trans (f2.mono yq)
              go_wp2_with fail
              go_roundw
              case measure => simp [intOf]; omega
              case rel =>
                refine ⟨1, _, by omega, by go_num, rfl, ?_, hB2⟩
                rw [ht.out, ← hd.out, strB_append, htk.out]
                simp [numsB_zero, numsB_one, itoa_nat]
            · have dj : (0 : Int) < (j : Int) := by omega
              have hD0 := hD wr
              have hne : x.take j ≠ [] := by
                intro e
                have := congrArg List.length e
                have h9 := hxl.out
                simp only [List.length_take, List.length_nil] at this
                omega
              replace hne := Lib.hid hne
              go_wp2_with fail
              ((with_reducible refine hD0.mono ?_); rintro e w2 ⟨rfl, f2⟩)
              have hB2 := hBq.trans (f2.mono yq)
              go_wp2_with fail
              go_roundw
              case measure => simp [intOf]; omega
              case rel =>
                refine ⟨j + 1, _, by omega, by go_num, rfl, ?_, hB2⟩
                rw [ht.out, ← hd.out]
                show strB _ ++ strB [32] ++ strB _ = _
                rw [strB_append, strB_append, htk.out, numsB_snoc _ _ _ hne.out, itoa_nat]
                simp
          · obtain rfl : j = nk := by omega
            have e : x.take j = x := List.take_of_length_le (by rw [hxl.out]; exact Nat.le_refl _)
            rw [e] at ht
            have hB3 := hBr.trans (hBq.mono yr)
            replace ht := Lib.hid ht
            go_wp2_with fail
            go_roundw
            case measure => simp [intOf]; omega
            case rel =>
              refine ⟨k + 1, _, by omega, by go_num, rfl, ?_, hB3⟩
              rw [hsu.out, ht.out]
              show strB _ ++ strB [41] = _
              rw [strB_append]
              simp
      · have d1 : (nk : Int) < 2 := by omega
        rw [cycB_nil (by rw [hxl.out]; exact h1), List.append_nil] at hsu
        rw [← hsu] at hs
        replace hs := Lib.hid hs
        replace hsu := Lib.hid hsu
        go_wp2_with fail
        go_roundw
        case measure => simp [intOf]; omega
        case rel => exact ⟨k + 1, s, by omega, by go_num, rfl, hs.out, hBr⟩
    · obtain rfl : k = m := by omega
      have hB2 := f1.trans (hBr.mono y1)
      have e : cs.take k = cs := List.take_of_length_le (by rw [hm.out]; exact Nat.le_refl _)
      rw [e] at hs
      by_cases h0 : permGo cs = []
      · have he : s.toList.isEmpty = true := by rw [hs, strB_list, h0]; rfl
        have hL : L = [40, 41] := by rw [hpb.out, if_pos h0]
        replace h0 := Lib.hid h0
        replace hs := Lib.hid hs
        replace hL := Lib.hid hL
        go_wp2_with fail
        go_ret
        exact ⟨by rw [hL.out]; rfl, hB2⟩
      · have he : s.toList.isEmpty = false := by rw [hs, strB_list]; exact List.isEmpty_eq_false_iff.2 h0
        have hL : strB L = s := by rw [hpb.out, if_neg h0, hs]
        replace h0 := Lib.hid h0
        replace hs := Lib.hid hs
        replace hL := Lib.hid hL
        go_wp2_with fail
        go_ret
        exact ⟨by rw [hL.out]; rfl, hB2⟩
end Go.Proofs.YtcjnhiglfkcmiaaDoor
/- Shc -/
namespace Go.Proofs
open Go.Shelf
def YtcjnhiglfkcmiaaDoor.lays103_ren : Go.Shelf.Ren := ⟨fun | 103 => 76 | 210 => 103 | 206 => 129 | n => n, fun | 9 => 9 | 4 => 4 | 24 => 91 | 3 => 3 | n => n, fun | n => n⟩
theorem YtcjnhiglfkcmiaaDoor.lays103 : Go.Proofs.Lays.n103 Tryd.prog YtcjnhiglfkcmiaaDoor.lays103_ren := {
  mixed := by kernel_rfl
  f103 := Tryd.func76.trans (congrArg some (by kernel_rfl))
  f206 := Tryd.func129.trans (congrArg some (by kernel_rfl))
  f210 := Tryd.func103.trans (congrArg some (by kernel_rfl))
  t3 := Tryd.underlying3
  a3 := Tryd.isAgg3
  z3 := Tryd.sizeOf3
  v3 := Tryd.zeroValue3
  t4 := Tryd.underlying4
  a4 := Tryd.isAgg4
  z4 := Tryd.sizeOf4
  v4 := Tryd.zeroValue4
  t9 := Tryd.underlying9
  a9 := Tryd.isAgg9
  z9 := Tryd.sizeOf9
  v9 := Tryd.zeroValue9
  t24 := Tryd.underlying91
  a24 := Tryd.isAgg91
  z24 := Tryd.sizeOf91
  v24 := Tryd.zeroValue91 }
open Go.RowKit in
theorem YtcjnhiglfkcmiaaDoor.strings_CutPrefix (s p : ByteArray) (w : World) :
    Calls Tryd.prog 76 #[.string s, .string p] w fun e w' => e = .returned (.tuple #[.string ⟨(Lib.trimPrefix s.data.toList p.data.toList).toArray⟩, .bool (Lib.hasPrefix s.data.toList p.data.toList)]) ∧ w' = w := Any.strings_CutPrefix YtcjnhiglfkcmiaaDoor.lays103 s p w
def YtcjnhiglfkcmiaaDoor.lays104_ren : Go.Shelf.Ren := ⟨fun | 104 => 77 | 211 => 104 | 207 => 130 | n => n, fun | 9 => 9 | 4 => 4 | 24 => 91 | 3 => 3 | n => n, fun | n => n⟩
theorem YtcjnhiglfkcmiaaDoor.lays104 : Go.Proofs.Lays.n104 Tryd.prog YtcjnhiglfkcmiaaDoor.lays104_ren := {
  mixed := by kernel_rfl
  f104 := Tryd.func77.trans (congrArg some (by kernel_rfl))
  f207 := Tryd.func130.trans (congrArg some (by kernel_rfl))
  f211 := Tryd.func104.trans (congrArg some (by kernel_rfl))
  t3 := Tryd.underlying3
  a3 := Tryd.isAgg3
  z3 := Tryd.sizeOf3
  v3 := Tryd.zeroValue3
  t4 := Tryd.underlying4
  a4 := Tryd.isAgg4
  z4 := Tryd.sizeOf4
  v4 := Tryd.zeroValue4
  t9 := Tryd.underlying9
  a9 := Tryd.isAgg9
  z9 := Tryd.sizeOf9
  v9 := Tryd.zeroValue9
  t24 := Tryd.underlying91
  a24 := Tryd.isAgg91
  z24 := Tryd.sizeOf91
  v24 := Tryd.zeroValue91 }
open Go.RowKit in
theorem YtcjnhiglfkcmiaaDoor.strings_CutSuffix (s p : ByteArray) (w : World) (hs : s.size ≤ 9223372036854775807) :
    Calls Tryd.prog 77 #[.string s, .string p] w fun e w' => e = .returned (.tuple #[.string ⟨(Lib.trimSuffix s.data.toList p.data.toList).toArray⟩, .bool (Lib.hasSuffix s.data.toList p.data.toList)]) ∧ w' = w := Any.strings_CutSuffix YtcjnhiglfkcmiaaDoor.lays104 s p w hs
end Go.Proofs
/- Psx -/
namespace Go.Proofs.YtcjnhiglfkcmiaaDoor
open Go.RowKit
set_option linter.unusedVariables false
set_option maxRecDepth 100000
/-- strings.Split at the two bytes ")(" -/
theorem split2_any (L : List UInt8) (hL : L.length ≤ 1048577) (w : World) {B : Nat} (hM : MX B w) :
    Calls Tryd.prog 78 #[.string (strB L), .string ⟨#[41, 40]⟩] w fun e w' => e = .returned (.slice (some ⟨w.heap.size, 0, none⟩) (spl2 L).length (spl2 L).length) ∧ Rd w' w.heap.size w'.heap.size (some ⟨w.heap.size, 0, none⟩) (spl2 L).length ((spl2 L).map fun p => .string (strB p)) ∧ Below w.heap.size w w' ∧ (spl2 L).length ≤ 1048578 := by
  obtain ⟨m, hm⟩ := hM
  have hS := strings_Split (strB L) ⟨#[41, 40]⟩ m w (by rw [strB_size]; omega) (hm w (Below.refl _ _)) (by decide)
  have hc : Lib.countB (strB L) ⟨#[41, 40]⟩ = Lib.count L [41, 40] := by
    show Lib.count (strB L).data.toList [41, 40] = _
    rw [strB_data]
  have hle := Lib.countB_le ⟨#[41, 40]⟩ (by decide) _ (strB L) (Nat.le_refl _)
  rw [hc, strB_size] at hle
  have hdat := Lib.splitB_data (⟨#[41, 40]⟩ : ByteArray) 0 (Lib.count L [41, 40]) (strB L)
  have e2 : (Lib.splitB ⟨#[41, 40]⟩ 0 (Lib.count L [41, 40]) (strB L)).map (·.data.toList) = spl2 L := by
    rw [hdat, strB_data]
    rfl
  have e3 : (Lib.splitB ⟨#[41, 40]⟩ 0 (Lib.count L [41, 40]) (strB L)).map Value.string = (spl2 L).map fun p => Value.string (strB p) := by
    rw [← e2, List.map_map]
    refine List.map_congr_left fun x _ => ?_
    show Value.string x = Value.string ⟨x.data.toList.toArray⟩
    cases x; simp
  have e1 : Lib.count L [41, 40] + 1 = (spl2 L).length := by
    have h := congrArg List.length e2
    rw [List.length_map, Lib.splitB_all (⟨#[41, 40]⟩ : ByteArray) (by decide) 0 (Lib.count L [41, 40]) (strB L) hc] at h
    exact h
  rw [hc, e3, e1] at hS
  refine hS.mono fun e w' ⟨he, hw⟩ => ⟨he, ?_, ?_, by omega⟩
  · subst hw
    refine ⟨by simp, by omega, fun _ => ⟨w.heap.size, 0, rfl, Nat.le_refl _, by simp, fun k v hk => ?_⟩⟩
    rw [Nat.zero_add, cell_of_row _ _ _ _ _ _ (heap_new w _ _ rfl)]
    simpa using hk
  · subst hw
    exact (Below.refl _ _).alloc (Nat.le_refl _) _
theorem spl2_mem_len : ∀ (k : Nat) (L : List UInt8), ∀ p ∈ Lib.splitK [41, 40] 0 k L, p.length ≤ L.length
  | 0, L, p, h => by simp [Lib.splitK] at h; subst h; exact Nat.le_refl _
  | k + 1, L, p, h => by
    unfold Lib.splitK at h
    split at h
    · simp at h; subst h; exact Nat.le_refl _
    · rcases List.mem_cons.1 h with h | h
      · subst h; rw [List.length_take]; omega
      · have := spl2_mem_len k _ p h
        simp at this
        omega
/-- the text without its first and last sign -/
def midB (L : List UInt8) : List UInt8 := Lib.trimSuffix (Lib.trimPrefix L [40]) [41]
theorem PT.mid {n : Nat} {L : List UInt8} {q : List Int} (h : PT n L q) : Lib.hasPrefix L [40] = true ∧ Lib.hasSuffix (Lib.trimPrefix L [40]) [41] = true ∧ midB L = innerB q := by
  have ht := h.text
  have h1 : Lib.hasPrefix L [40] = true := by rw [ht]; simp [Lib.hasPrefix, List.isPrefixOf]
  have h2 : Lib.trimPrefix L [40] = innerB q ++ [41] := by
    unfold Lib.trimPrefix
    rw [if_pos h1, ht]; rfl
  have h3 : Lib.hasSuffix (innerB q ++ [41]) [41] = true := by
    unfold Lib.hasSuffix
    rw [List.isSuffixOf_iff_suffix]
    exact ⟨innerB q, rfl⟩
  refine ⟨h1, by rw [h2]; exact h3, ?_⟩
  unfold midB
  rw [h2]
  unfold Lib.trimSuffix
  rw [if_pos h3]
  simp
theorem mid_len (L : List UInt8) : (midB L).length ≤ L.length := by
  unfold midB Lib.trimSuffix Lib.trimPrefix
  split <;> split <;> simp <;> omega
theorem mid_ok (n : Nat) (L : List UInt8) : PsOk n L (spl2 (midB L)) := fun q hq => by
  rw [hq.mid.2.2]
  exact hq.inner
theorem cutP_any (L : List UInt8) (w : World) : Calls Tryd.prog 76 #[.string (strB L), .string ⟨#[40]⟩] w fun e w' => e = .returned (.tuple #[.string (strB (Lib.trimPrefix L [40])), .bool (Lib.hasPrefix L [40])]) ∧ w' = w := by
  have h := strings_CutPrefix (strB L) ⟨#[40]⟩ w
  rw [strB_data] at h
  exact h
theorem cutS_any (L : List UInt8) (hL : L.length ≤ 4294967297) (w : World) : Calls Tryd.prog 77 #[.string (strB L), .string ⟨#[41]⟩] w fun e w' => e = .returned (.tuple #[.string (strB (Lib.trimSuffix L [41])), .bool (Lib.hasSuffix L [41])]) ∧ w' = w := by
  have h := strings_CutSuffix (strB L) ⟨#[41]⟩ w (by rw [strB_size]; omega)
  rw [strB_data] at h
  exact h
theorem trimP_len (L : List UInt8) (hL : L.length ≤ 4294967296) : (Lib.trimPrefix L [40]).length ≤ 4294967297 := by
  unfold Lib.trimPrefix
  split
  · rw [List.length_drop]; omega
  · omega
/-- what parsePermutation returns -/
def PsR (n : Nat) (L : List UInt8) (zs : List Int) (ok : Bool) : Prop := psG n L = if ok = true then (zs, 0) else ([], 6)
set_option maxHeartbeats 8000000 in
theorem parsePermutation_any (n : Nat) (hn : n ≤ 400) (L : List UInt8) (hL : L.length ≤ 4294967296) (w : World) {B : Nat} (hT : T10 B w) (hE : EV B w) (hM : MX B w) (hB : B ≤ w.heap.size) :
    Calls Tryd.prog 45 #[.int .i64 n, .string (strB L)] w fun e w' => ∃ (A1 : Option Addr) (n1 c1 : Nat) (zs : List Int) (ok : Bool), e = .returned (.tuple #[.slice A1 n1 c1, .bool ok]) ∧ Hid (PsR n L zs ok) ∧ Own w' w.heap.size w'.heap.size 2 A1 n1 c1 (zs.map (Value.int .i64)) ∧ n1 ≤ 400 ∧ Below w.heap.size w w' := by
  obtain ⟨j0, hj0, hy0, hy1, hy2⟩ := info_parts infoI
  have hI := identity_any n w (by omega)
  have hC1 := fun V => cutP_any L V
  have hC2 := fun V => cutS_any (Lib.trimPrefix L [40]) (trimP_len L hL) V
  have hml := mid_len L
  have hmok := mid_ok n L
  have hmm : Lib.trimSuffix (Lib.trimPrefix L [40]) [41] = midB L := rfl
  rw [hmm] at hC2
  by_cases hgood : Lib.hasPrefix L [40] = true ∧ Lib.hasSuffix (Lib.trimPrefix L [40]) [41] = true ∧ L.length ≤ 5000
  · obtain ⟨g1, g2, g3⟩ := hgood
    rw [g1] at hC1
    rw [g2] at hC2
    have d1 : ¬ (5000 : Int) < (L.length : Int) := by omega
    generalize Lib.trimPrefix L [40] = T1 at *
    obtain ⟨M, hMid⟩ : ∃ M, midB L = M := ⟨_, rfl⟩
    rw [hMid] at hml hmok hC2 hmm
    clear hMid hmm g1 g2
    have hSp := fun V (hV : MX B V) => split2_any M (by omega) V hV
    have hPm := spl2_mem_len (Lib.count M [41, 40]) M
    have e2 : Lib.splitK [41, 40] 0 (Lib.count M [41, 40]) M = spl2 M := rfl
    rw [e2] at hPm
    generalize spl2 M = Ps at *
    clear e2
    replace hmok := Lib.hid hmok
    replace hPm := Lib.hid hPm
    go_enter Tryd.func45, Tryd.ntmps45
    go_wp2_with fail
    ((with_reducible refine hI.mono ?_); rintro e w1 ⟨A1, rfl, o1, f1⟩)
    clear hI
    have y1 := f1.size
    go_wp2_with fail
    ((with_reducible refine (hC1 _).mono ?_); rintro e w1 ⟨rfl, rfl⟩)
    clear hC1
    go_wp2_with fail
    ((with_reducible refine (hC2 _).mono ?_); rintro e w1 ⟨rfl, rfl⟩)
    clear hC2
    go_wp2_with fail
    have hS1 := hSp _ (hM.on (f1.mono hB))
    clear hSp
    ((with_reducible refine hS1.mono ?_); rintro e w2 ⟨rfl, rd2, f2, hPl⟩)
    clear hS1
    have y2 := f2.size
    have B2 : Below w.heap.size w w2 := f1.trans (f2.mono y1)
    have o2 := o1.below f2 (Nat.le_refl _)
    clear o1 f1 f2
    go_wp2_with fail
    obtain ⟨wb, rfl⟩ : ∃ wb : World, wb = w2 := ⟨_, rfl⟩
    go_loopw [45] (fun kv wq => ∃ (k : Nat) (g : List Int), k ≤ Ps.length ∧ kv = .int .i64 k ∧ Hid (GotI n L k g) ∧ Own wq w.heap.size w1.heap.size 2 A1 n n (g.map (Value.int .i64)) ∧ Rd wq w1.heap.size wb.heap.size (some ⟨w1.heap.size, 0, none⟩) Ps.length (Ps.map fun p => .string (strB p)) ∧ wb.heap.size ≤ wq.heap.size ∧ Below w.heap.size w wq) (fun kv _ => Ps.length - (intOf kv).toNat)
    case atStart => exact ⟨0, idL n, by omega, rfl, Lib.hid (GotI.zero n L), o2, rd2, Nat.le_refl _, B2⟩
    case round =>
      clear o2 rd2 B2
      obtain ⟨k, g, hk, rfl, hgot, oG, rd, hz, hB9⟩ := hrel
      by_cases hlt : k < Ps.length
      · obtain ⟨P, hP⟩ : ∃ P, Ps[k]? = some P := ⟨Ps[k], List.getElem?_eq_getElem hlt⟩
        have hcP : wr.cell? ⟨w1.heap.size, k, none⟩ = some (.string (strB P)) := by
          have := rd.cell (k := k) (v := .string (strB P)) (by simp [hP])
          simpa using this
        have hPL := hPm.out P (List.mem_of_getElem? hP)
        have hS2 := split1_any 32 P (by omega) wr (hM.on (hB9.mono hB))
        have hQl := spl_sum 32 P
        have hQm := spl_mem_len 32 P
        have hrow0 : P ≠ [] → RowI n L k (spl 32 P) 0 [] := fun hne => RowI.zero (hmok.out.at_ hP hne)
        generalize spl 32 P = Qs at *
        replace hrow0 := Lib.hid hrow0
        replace hQm := Lib.hid hQm
        replace hP := Lib.hid hP
        obtain ⟨wo, rfl⟩ : ∃ wo : World, wo = wr := ⟨_, rfl⟩
        have hzw := hB9.size
        go_wp2_with fail
        ((with_reducible refine hS2.mono ?_); rintro e w4 ⟨rfl, rd4, f4⟩)
        clear hS2
        have y4 := f4.size
        go_wp2_with fail
        go_loopw [52, 12] (fun kv lv wq => ∃ (j : Nat) (ys : List Int) (A3 : Option Addr) (c3 : Nat), j ≤ Qs.length ∧ kv = .int .i64 j ∧ lv = .slice A3 j c3 ∧ ys.length = j ∧ Hid (P ≠ [] → RowI n L k Qs j ys) ∧ Own wq w4.heap.size wq.heap.size 2 A3 j c3 (ys.map (Value.int .i64)) ∧ w4.heap.size ≤ wq.heap.size ∧ Below w4.heap.size w4 wq) (fun kv _ _ => Qs.length - (intOf kv).toNat)
        case atStart => exact ⟨0, [], none, 0, by omega, rfl, rfl, rfl, hrow0, Own.nil, Nat.le_refl _, Below.refl _ _⟩
        case round =>
          clear hrow0
          obtain ⟨j, ys, A3, c3, hj, rfl, rfl, hyl, hrow, ho3, hz3, hb3⟩ := hrel
          have hbo : Below wo.heap.size wo wr := f4.trans (hb3.mono y4)
          have hbw : Below w.heap.size w wr := hB9.trans (hbo.mono hzw)
          by_cases hjo : j < Qs.length
          · obtain ⟨u, hu⟩ : ∃ u, Qs[j]? = some u := ⟨Qs[j], List.getElem?_eq_getElem hjo⟩
            have hcu : wr.cell? ⟨wo.heap.size, j, none⟩ = some (.string (strB u)) := by
              have := (rd4.below hb3 (Nat.le_refl _)).cell (k := j) (v := .string (strB u)) (by simp [hu])
              simpa using this
            have huL := hQm.out u (List.mem_of_getElem? hu)
            have hR := readNumber_any u (by omega) wr (hT.on (hbw.mono hB)) (hE.on (hbw.mono hB)) (by omega)
            go_wp2_with fail
            ((with_reducible refine hR.mono ?_); rintro e w5 ⟨⟨x, ok, rfl, hok, hno⟩, f5⟩)
            clear hR hcu
            have y5 := f5.size
            have hb5 : Below w4.heap.size w4 w5 := hb3.trans (f5.mono hz3)
            have hbw5 : Below w.heap.size w w5 := hbw.trans (f5.mono (by omega))
            by_cases hPe : P = []
            · have he : (P == []) = true := by simpa using hPe
              replace hPe := Lib.hid hPe
              have ho5 := (ho3.below f5 (Nat.le_refl _))
              clear hok hno
              go_wp2_with (at_builtin; refine wpList_append1 w5 rfl (.tmp 74) (.tmp 76) 24 rfl w4.heap.size 2 j0 (.int .i64 0) 8 Tryd.underlying24 hj0 hy0 hy1 hy2 rfl (by omega) A3 j c3 _ (.int .i64 x) rfl ho5.1 _ rfl rfl rfl (by omega) (by omega) ?_)
              intro g4 c4 w6 ho6 hg6 hlo6 hlt6 hor6
              have hb6 : Below w4.heap.size w4 w6 := hb5.grown hg6 (by omega) (fun q hq => by have := (ho5.1.lt q hq).1; omega)
              have hz6 := hg6.size
              clear ho3 ho5 hb3 hg6
              go_wp2_with fail
              go_roundw
              case measure => simp [intOf]; omega
              case rel => exact ⟨j + 1, ys ++ [x], _, c4, by omega, by go_num, rfl, by simp; omega, Lib.hid (fun h => absurd hPe.out h), by simpa using Own.of_row ho6, by omega, hb6⟩
            · have he : (P == []) = false := by simpa using hPe
              cases ok with
              | false =>
                have hF : PsR n L [] false := psG_no ((hrow.out hPe).bad hu (fun y h0 h1 h2 => hno rfl y h0 h2))
                replace hF := Lib.hid hF
                clear hok hno hPe
                go_wp2_with fail
                go_ret2
                exact ⟨_, 0, _, [], false, rfl, hF, Own.nil, by omega, hbw5⟩
              | true =>
                have hW := within_any x 0 ((n : Int) - 1) w5
                obtain ⟨hx1, hx2⟩ := hok rfl
                cases hin : (decide (0 ≤ x) && decide (x ≤ (n : Int) - 1)) with
                | false =>
                  have hF : PsR n L [] false := psG_no ((hrow.out hPe).bad hu (fun y h0 h1 h2 e => by
                    have := hx2 y h0 h2 e
                    subst this
                    simp at hin
                    omega))
                  rw [hin] at hW
                  replace hF := Lib.hid hF
                  clear hok hno hx1 hx2 hin hPe
                  go_wp2_with fail
                  ((with_reducible refine hW.mono ?_); rintro e w5 ⟨rfl, rfl⟩)
                  clear hW
                  go_wp2_with fail
                  go_ret2
                  exact ⟨_, 0, _, [], false, rfl, hF, Own.nil, by omega, hbw5⟩
                | true =>
                  have hin2 : 0 ≤ x ∧ x < (n : Int) := by
                    simp at hin
                    omega
                  have hst := (hrow.out hPe).snoc hu hin2.1 hin2.2 (fun y h0 h1 e => hx2 y h0 h1 e)
                  rw [hin] at hW
                  replace hst := Lib.hid hst
                  replace hu := Lib.hid hu
                  clear hok hno hx1 hx2 hin hin2 hPe
                  go_wp2_with fail
                  ((with_reducible refine hW.mono ?_); rintro e w5 ⟨rfl, rfl⟩)
                  clear hW
                  have ho5 := (ho3.below f5 (Nat.le_refl _))
                  go_wp2_with (at_builtin; refine wpList_append1 w5 rfl (.tmp 74) (.tmp 76) 24 rfl w4.heap.size 2 j0 (.int .i64 0) 8 Tryd.underlying24 hj0 hy0 hy1 hy2 rfl (by omega) A3 j c3 _ (.int .i64 x) rfl ho5.1 _ rfl rfl rfl (by omega) (by omega) ?_)
                  intro g4 c4 w6 ho6 hg6 hlo6 hlt6 hor6
                  have hb6 : Below w4.heap.size w4 w6 := hb5.grown hg6 (by omega) (fun q hq => by have := (ho5.1.lt q hq).1; omega)
                  have hz6 := hg6.size
                  clear ho3 ho5 hb3 hg6
                  go_wp2_with fail
                  go_roundw
                  case measure => simp [intOf]; omega
                  case rel => exact ⟨j + 1, ys ++ [x], _, c4, by omega, by go_num, rfl, by simp; omega, Lib.hid (fun _ => hst.out), by simpa using Own.of_row ho6, by omega, hb6⟩
          · have hjo' : j = Qs.length := by omega
            subst hjo'
            have oG5 := (oG.below hbo (by omega))
            have rd5 := rd.below hbo hz
            have hri := ho3.ri
            have hs0 : if P = [] then GotI n L k g else StoI n L k ys 0 g := by
              by_cases hPe : P = []
              · rw [if_pos hPe]; exact hgot.out
              · rw [if_neg hPe]; exact StoI.zero (hrow.out hPe) hgot.out
            have hgl := hgot.out.1
            have hrng : P ≠ [] → ∀ y ∈ ys, 0 ≤ y ∧ y < (n : Int) := fun h => (hrow.out h).2.1
            replace hs0 := Lib.hid hs0
            replace hrng := Lib.hid hrng
            clear hrow oG rd ho3 hb3 rd4
            obtain ⟨wi, rfl⟩ : ∃ wi : World, wi = wr := ⟨_, rfl⟩
            have hzi := hbo.size
            go_wp2_with fail
            go_loopw [81] (fun kv wq => ∃ (i : Nat) (g' : List Int), i ≤ Qs.length ∧ kv = .int .i64 i ∧ g'.length = n ∧ Hid (if P = [] then GotI n L k g' else StoI n L k ys i g') ∧ Own wq w.heap.size w1.heap.size 2 A1 n n (g'.map (Value.int .i64)) ∧ Rd wq w1.heap.size wb.heap.size (some ⟨w1.heap.size, 0, none⟩) Ps.length (Ps.map fun p => .string (strB p)) ∧ RI wq w4.heap.size wi.heap.size A3 Qs.length ys ∧ wi.heap.size ≤ wq.heap.size ∧ Below w.heap.size w wq) (fun kv _ => Qs.length - (intOf kv).toNat)
            case atStart => exact ⟨0, g, by omega, rfl, hgl, hs0, oG5, rd5, hri, Nat.le_refl _, hbw⟩
            case round =>
              clear oG5 rd5 hri hs0
              obtain ⟨i, g', hi, rfl, hgl, hs, oG, rd, hri, hzr, hbw⟩ := hrel
              by_cases hil : i < Qs.length
              · obtain ⟨b3, o3, y, rfl, _, _, hy, hcy⟩ := hri.at_ hil
                by_cases hPe : P = []
                · have he : (P == []) = true := by simpa using hPe
                  have hs' : GotI n L k g' := by have := hs.out; rwa [if_pos hPe] at this
                  replace hPe := Lib.hid hPe
                  replace hs' := Lib.hid hs'
                  go_wp2_with fail
                  go_roundw
                  case measure => simp [intOf]; omega
                  case rel => exact ⟨i + 1, g', by omega, by go_num, hgl, Lib.hid (by rw [if_pos hPe.out]; exact hs'.out), oG, rd, hri, hzr, hbw⟩
                · have he : (P == []) = false := by simpa using hPe
                  have hs' : StoI n L k ys i g' := by have := hs.out; rwa [if_neg hPe] at this
                  have hyr := hrng.out hPe y (List.mem_of_getElem? hy)
                  obtain ⟨u, rfl⟩ := Int.eq_ofNat_of_zero_le hyr.1
                  have hun : u < n := by omega
                  have hml : (i + 1) % Qs.length < Qs.length := Nat.mod_lt _ (by omega)
                  obtain ⟨b4, o4, v, e4, _, _, hv, hcv⟩ := hri.at_ hml
                  injection e4 with e4
                  injection e4 with e41 e42 _
                  subst e41; subst e42
                  have hmod : ((i : Int) + 1) % (Qs.length : Int) = (((i + 1) % Qs.length : Nat) : Int) := by push_cast; rfl
                  have hst := hs'.step hy (by rw [show ys.length = Qs.length from hyl]; exact hv)
                  replace hst := Lib.hid hst
                  generalize (i + 1) % Qs.length = m at *
                  obtain ⟨z, hz0⟩ : ∃ z, g'[u]? = some z := ⟨g'[u]'(by omega), List.getElem?_eq_getElem (by omega)⟩
                  obtain ⟨b6, y6, rfl, hb61, hb62, _, hy6, _, _⟩ := oG.atI hun
                  have hcg := oG.cellI hz0
                  have hfr := oG.frz u
                  replace hy := Lib.hid hy
                  replace hv := Lib.hid hv
                  replace hPe := Lib.hid hPe
                  have hyB := hbw.size
                  go_wp2_with fail
                  go_roundw
                  case measure => simp [intOf]; omega
                  case rel => exact ⟨i + 1, g'.set u v, by omega, by go_num, by simp [hgl], Lib.hid (by rw [if_neg hPe.out]; simpa using hst.out), oG.setI v, rd.keep (same_set _ _ _ _ _ (.inl hb62)), hri.keep (same_set _ _ _ _ _ (.inl (show b6 < _ by omega))), by simp; omega, hbw.setCell hb61 _⟩
              · have : i = Qs.length := by omega
                subst this
                have hfin : GotI n L (k + 1) g' := by
                  have := hs.out
                  by_cases hPe : P = []
                  · rw [if_pos hPe] at this
                    exact this.skip hmok.out (by rw [hP.out, hPe])
                  · rw [if_neg hPe] at this
                    rw [← hyl] at this
                    exact this.done
                replace hfin := Lib.hid hfin
                go_wp2_with fail
                go_roundw
                case measure => simp [intOf]; omega
                case rel => exact ⟨k + 1, g', by omega, by go_num, hfin, oG, rd, by omega, hbw⟩
      · have : k = Ps.length := by omega
        subst this
        have hfin := hmok.out.fin hgot.out
        have hgl := hfin.1
        have hIP := isPerm_any A1 n n g wr _ _ oG.ri (by have := hB9.size; omega)
        have hyB := hB9.size
        cases hpb : isPermB g with
        | false =>
          have hF : PsR n L [] false := hfin.no (.inl hpb)
          rw [hpb] at hIP
          replace hF := Lib.hid hF
          go_wp2_with fail
          ((with_reducible refine hIP.mono ?_); rintro e w5 ⟨rfl, f5⟩)
          clear hIP
          have hb5 : Below w.heap.size w w5 := hB9.trans (f5.mono hyB)
          go_wp2_with fail
          go_ret2
          exact ⟨_, 0, _, [], false, rfl, hF, Own.nil, by omega, hb5⟩
        | true =>
          rw [hpb] at hIP
          have hprm : isPermP g := of_decide_eq_true hpb
          have hrg := hprm.rng
          rw [hgl] at hrg
          have hPT := fun V (hV : Below wr.heap.size wr V) => permutationText_any A1 n n g V (oG.ri.below hV (by omega)) (by have := hV.size; omega) hn hrg (hT.on ((hB9.mono hB).trans (hV.mono (by omega)))) (by have := hV.size; omega)
          by_cases hte : permB g = L
          · have hF : PsR n L g true := hfin.yes hpb hte
            have het : (permB g == L) = true := by simpa using hte
            replace hte := Lib.hid hte
            generalize permB g = tx at *
            replace hF := Lib.hid hF
            replace hrg := Lib.hid hrg
            replace hprm := Lib.hid hprm
            clear hfin
            go_wp2_with fail
            ((with_reducible refine hIP.mono ?_); rintro e w5 ⟨rfl, f5⟩)
            clear hIP
            have y5 := f5.size
            have hPT5 := hPT _ f5
            clear hPT
            have hb5 : Below w.heap.size w w5 := hB9.trans (f5.mono hyB)
            go_wp2_with fail
            ((with_reducible refine hPT5.mono ?_); rintro e w6 ⟨rfl, f6⟩)
            clear hPT5
            have hb6 : Below w.heap.size w w6 := hb5.trans (f6.mono (by omega))
            have oG6 := (oG.below f5 (by omega)).below f6 (by omega)
            have y6 := f6.size
            go_wp2_with fail
            go_ret2
            exact ⟨A1, n, n, g, true, rfl, hF, oG6.more (Nat.le_refl _) (by omega), by omega, hb6⟩
          · have hF : PsR n L [] false := hfin.no (.inr hte)
            have het : (permB g == L) = false := by simpa using hte
            replace hte := Lib.hid hte
            generalize permB g = tx at *
            replace hF := Lib.hid hF
            replace hrg := Lib.hid hrg
            replace hprm := Lib.hid hprm
            clear hfin
            go_wp2_with fail
            ((with_reducible refine hIP.mono ?_); rintro e w5 ⟨rfl, f5⟩)
            clear hIP
            have y5 := f5.size
            have hPT5 := hPT _ f5
            clear hPT
            have hb5 : Below w.heap.size w w5 := hB9.trans (f5.mono hyB)
            go_wp2_with fail
            ((with_reducible refine hPT5.mono ?_); rintro e w6 ⟨rfl, f6⟩)
            clear hPT5
            have hb6 : Below w.heap.size w w6 := hb5.trans (f6.mono (by omega))
            go_wp2_with fail
            go_ret2
            exact ⟨_, 0, _, [], false, rfl, hF, Own.nil, by omega, hb6⟩
  · have hF : PsR n L [] false := psG_no (fun ⟨q, hq⟩ => hgood ⟨hq.mid.1, hq.mid.2.1, hq.len⟩)
    replace hF := Lib.hid hF
    have hml2 := hml
    generalize midB L = M at *
    clear hmok hmm
    by_cases g1 : Lib.hasPrefix L [40] = true
    · by_cases g2 : Lib.hasSuffix (Lib.trimPrefix L [40]) [41] = true
      · have g3 : (5000 : Int) < (L.length : Int) := by
          have : ¬ L.length ≤ 5000 := fun h => hgood ⟨g1, g2, h⟩
          omega
        rw [g1] at hC1
        rw [g2] at hC2
        clear g1 g2 hgood
        generalize Lib.trimPrefix L [40] = T1 at *
        go_enter Tryd.func45, Tryd.ntmps45
        go_wp2_with fail
        ((with_reducible refine hI.mono ?_); rintro e w1 ⟨A1, rfl, o1, f1⟩)
        clear hI
        go_wp2_with fail
        ((with_reducible refine (hC1 _).mono ?_); rintro e w1 ⟨rfl, rfl⟩)
        clear hC1
        go_wp2_with fail
        ((with_reducible refine (hC2 _).mono ?_); rintro e w1 ⟨rfl, rfl⟩)
        clear hC2
        go_wp2_with fail
        go_ret2
        exact ⟨_, 0, _, [], false, rfl, hF, Own.nil, by omega, f1⟩
      · have g2 := Bool.eq_false_iff.2 g2
        rw [g1] at hC1
        rw [g2] at hC2
        clear g1 g2 hgood
        generalize Lib.trimPrefix L [40] = T1 at *
        go_enter Tryd.func45, Tryd.ntmps45
        go_wp2_with fail
        ((with_reducible refine hI.mono ?_); rintro e w1 ⟨A1, rfl, o1, f1⟩)
        clear hI
        go_wp2_with fail
        ((with_reducible refine (hC1 _).mono ?_); rintro e w1 ⟨rfl, rfl⟩)
        clear hC1
        go_wp2_with fail
        ((with_reducible refine (hC2 _).mono ?_); rintro e w1 ⟨rfl, rfl⟩)
        clear hC2
        go_wp2_with fail
        go_ret2
        exact ⟨_, 0, _, [], false, rfl, hF, Own.nil, by omega, f1⟩
    · have g1 := Bool.eq_false_iff.2 g1
      rw [g1] at hC1
      generalize Lib.hasSuffix (Lib.trimPrefix L [40]) [41] = b2 at *
      clear g1 hgood
      generalize Lib.trimPrefix L [40] = T1 at *
      go_enter Tryd.func45, Tryd.ntmps45
      go_wp2_with fail
      ((with_reducible refine hI.mono ?_); rintro e w1 ⟨A1, rfl, o1, f1⟩)
      clear hI
      go_wp2_with fail
      ((with_reducible refine (hC1 _).mono ?_); rintro e w1 ⟨rfl, rfl⟩)
      clear hC1
      go_wp2_with fail
      ((with_reducible refine (hC2 _).mono ?_); rintro e w1 ⟨rfl, rfl⟩)
      clear hC2
      go_wp2_with fail
      go_ret2
      exact ⟨_, 0, _, [], false, rfl, hF, Own.nil, by omega, f1⟩
end Go.Proofs.YtcjnhiglfkcmiaaDoor
/- PmS -/
namespace Go.Proofs.YtcjnhiglfkcmiaaDoor
open Go.RowKit
set_option linter.unusedVariables false
set_option maxRecDepth 100000
/-- a text is split up to i: ps are the pieces, the open piece begins at fr -/
structure SplI (b : UInt8) (L : List UInt8) (i fr : Nat) (ps : List (List UInt8)) : Prop where
  le : fr ≤ i
  li : i ≤ L.length
  eq : spl b L = ps ++ spl b (L.drop fr)
  no : b ∉ (L.drop fr).take (i - fr)
theorem SplI.zero (b : UInt8) (L : List UInt8) : SplI b L 0 0 [] := ⟨Nat.le_refl _, Nat.zero_le _, by simp, by simp⟩
theorem SplI.skip {b c : UInt8} {L : List UInt8} {i fr : Nat} {ps : List (List UInt8)} (h : SplI b L i fr ps) (hc : L[i]? = some c) (hn : c ≠ b) : SplI b L (i + 1) fr ps := by
  have hi := (List.getElem?_eq_some_iff.1 hc).1
  refine ⟨by have := h.le; omega, by omega, h.eq, ?_⟩
  have hle := h.le
  have e : i + 1 - fr = (i - fr) + 1 := by omega
  have h2 : (L.drop fr)[i - fr]? = some c := by rw [List.getElem?_drop, show fr + (i - fr) = i by omega]; exact hc
  rw [e, List.take_add_one, h2]
  intro hm
  rcases List.mem_append.1 hm with hm | hm
  · exact h.no hm
  · simp at hm; exact hn hm.symm
theorem SplI.cut {b : UInt8} {L : List UInt8} {i fr : Nat} {ps : List (List UInt8)} (h : SplI b L i fr ps) (hc : L[i]? = some b) : SplI b L (i + 1) (i + 1) (ps ++ [(L.drop fr).take (i - fr)]) := by
  have hi := (List.getElem?_eq_some_iff.1 hc).1
  have hle := h.le
  refine ⟨Nat.le_refl _, by omega, ?_, by simp⟩
  have h2 : (L.drop fr)[i - fr]? = some b := by rw [List.getElem?_drop, show fr + (i - fr) = i by omega]; exact hc
  have h3 : L.drop fr = (L.drop fr).take (i - fr) ++ b :: L.drop (i + 1) := by
    have h5 := (List.getElem?_eq_some_iff.1 h2).1
    have h4 : (L.drop fr).drop (i - fr) = b :: L.drop (i + 1) := by
      rw [List.drop_eq_getElem_cons h5]
      rw [List.drop_drop, show fr + (i - fr + 1) = i + 1 by omega]
      have := (List.getElem?_eq_some_iff.1 h2).2
      rw [this]
    rw [← h4, List.take_append_drop]
  rw [h.eq]
  conv => lhs; rw [h3]
  rw [spl_app h.no, List.append_assoc, List.singleton_append]
theorem SplI.done {b : UInt8} {L : List UInt8} {fr : Nat} {ps : List (List UInt8)} (h : SplI b L L.length fr ps) : spl b L = ps ++ [L.drop fr] := by
  have := h.no
  rw [List.take_of_length_le (by simp)] at this
  rw [h.eq, spl_plain this]
theorem strB_cut (L : List UInt8) (a e : Nat) : (strB L).extract a e = strB ((L.drop a).take (e - a)) := by
  apply ByteArray.ext
  apply Array.toList_inj.1
  rw [strB_data, Lib.extract_data, strB_data]
theorem own_lit0s (w : World) (T : TypeId) : Own (w.alloc (.cells #[] T)) w.heap.size (w.alloc (.cells #[] T)).heap.size T (some ⟨w.heap.size, 0, none⟩) 0 0 [] := by
  have h0 := World.ownsRow_lit (e := T) (base := w.heap.size) (size := 1) w #[] 0 (Nat.le_refl _) (by omega) rfl
  have h1 := Own.of_row h0
  simpa using h1
theorem strB_at {L : List UInt8} {i : Nat} {u : UInt8} (hu : L[i]? = some u) : ∀ h : i < (strB L).size, (strB L)[i] = u := by
  intro h
  have h2 : (strB L)[i] = (strB L).data[i] := rfl
  rw [h2, ← Array.getElem_toList]
  have h3 := (List.getElem?_eq_some_iff.1 hu)
  exact h3.2
set_option maxHeartbeats 8000000 in
theorem l01Split_any (b : UInt8) (L : List UInt8) (hL : L.length ≤ 4294967297) (w : World) :
    Calls Tryd.prog 53 #[.string (strB L), .int .u8 b.toNat] w fun e w' => ∃ (A1 : Option Addr) (c1 : Nat), e = .returned (.slice A1 (spl b L).length c1) ∧ Rd w' w.heap.size w'.heap.size A1 (spl b L).length ((spl b L).map fun p => .string (strB p)) ∧ Below w.heap.size w w' := by
  obtain ⟨j0, hj0, hy0, hy1, hy2⟩ := info_parts infoT
  go_enter Tryd.func53, Tryd.ntmps53
  go_wp2_with fail
  have o0 : Own (w.alloc (.cells #[] 9)) w.heap.size (w.alloc (.cells #[] 9)).heap.size 9 (some ⟨w.heap.size, 0, none⟩) 0 0 [] := own_lit0s w _
  have B0 : Below w.heap.size w (w.alloc (.cells #[] 9)) := (Below.refl _ _).alloc (Nat.le_refl _) _
  obtain ⟨W1, hW⟩ : ∃ W1 : World, w.alloc (.cells #[] 9) = W1 := ⟨_, rfl⟩
  rw [hW] at o0 B0 ⊢
  clear hW
  go_loopw [7, 6, 5] (fun iv fv sv wq => ∃ (i fr k : Nat) (ps : List (List UInt8)) (A1 : Option Addr) (c1 : Nat), iv = .int .i64 i ∧ fv = .int .i64 fr ∧ sv = .slice A1 k c1 ∧ ps.length = k ∧ k ≤ i ∧ Hid (SplI b L i fr ps) ∧ Own wq w.heap.size wq.heap.size 9 A1 k c1 (ps.map fun p => .string (strB p)) ∧ Below w.heap.size w wq) (fun iv _ _ _ => L.length - (intOf iv).toNat)
  case atStart => exact ⟨0, 0, 0, [], _, 0, rfl, rfl, rfl, rfl, by omega, Lib.hid (SplI.zero b L), o0, B0⟩
  case round =>
    clear o0 B0
    obtain ⟨i, fr, k, ps, A1, c1, rfl, rfl, rfl, hpl, hki, hI, ho, hB⟩ := hrel
    have hle := hI.out.le
    have hli := hI.out.li
    have hsz := hB.size
    by_cases hlt : i < L.length
    · obtain ⟨u, hu⟩ : ∃ u, L[i]? = some u := ⟨L[i], List.getElem?_eq_getElem hlt⟩
      by_cases hub : u = b
      · subst hub
        have hst := hI.out.cut hu
        replace hst := Lib.hid hst
        have hix := strB_at hu
        clear hu
        go_wp2_with (at_builtin; refine wpList_append1 wr rfl (.tmp 20) (.tmp 25) 73 rfl w.heap.size 9 j0 (.string ByteArray.empty) 16 Tryd.underlying73 hj0 hy0 hy1 hy2 rfl (by omega) A1 k c1 _ (.string ((strB L).extract fr i)) rfl ho.1 _ rfl rfl rfl (by omega) (by omega) ?_)
        intro g4 c4 w5 ho5 hg5 hlo5 hlt5 hor5
        have hb5 := hB.grown hg5 (by omega) (fun q hq => by have := (ho.1.lt q hq).1; omega)
        rw [strB_cut] at ho5
        have ho6 := Own.of_row ho5
        clear ho hg5 ho5
        go_wp2_with fail
        go_roundw
        case measure => simp [intOf]; omega
        case rel => exact ⟨i + 1, i + 1, k + 1, ps ++ [(L.drop fr).take (i - fr)], _, c4, by go_num, by go_num, rfl, by simp; omega, by omega, hst, by simpa using ho6, hb5⟩
      · have hst := hI.out.skip hu hub
        have hix := strB_at hu
        have hne : ((u.toNat : Int) == (b.toNat : Int)) = false := by
          simp only [beq_eq_false_iff_ne, ne_eq]
          intro e
          exact hub (UInt8.toNat.inj (by omega))
        clear hu hub
        replace hst := Lib.hid hst
        go_wp2_with fail
        go_roundw
        case measure => simp [intOf]; omega
        case rel => exact ⟨i + 1, fr, k, ps, A1, c1, by go_num, rfl, rfl, hpl, by omega, hst, ho, hB⟩
    · have : i = L.length := by omega
      subst this
      have hst := hI.out.done
      replace hst := Lib.hid hst
      go_wp2_with (at_builtin; refine wpList_append1 wr rfl (.tmp 29) (.tmp 33) 73 rfl w.heap.size 9 j0 (.string ByteArray.empty) 16 Tryd.underlying73 hj0 hy0 hy1 hy2 rfl (by omega) A1 k c1 _ (.string ((strB L).extract fr L.length)) rfl ho.1 _ rfl rfl rfl (by omega) (by omega) ?_)
      intro g4 c4 w5 ho5 hg5 hlo5 hlt5 hor5
      have hb5 := hB.grown hg5 (by omega) (fun q hq => by have := (ho.1.lt q hq).1; omega)
      rw [strB_cut, List.take_of_length_le (by simp)] at ho5
      have ho6 := Own.of_row ho5
      clear ho hg5 ho5
      have e1 := hst.out
      have e2 : (spl b L).length = k + 1 := by rw [e1]; simp; omega
      have e3 : (spl b L).map (fun p => Value.string (strB p)) = ps.map (fun p => .string (strB p)) ++ [.string (strB (L.drop fr))] := by rw [e1]; simp
      go_wp2_with fail
      go_ret
      rw [e2, e3]
      exact ⟨_, c4, rfl, ho6.rd, hb5⟩
theorem valN_lt (w : List UInt8) : (∀ c ∈ w, digB c = true) → valN w < 10 ^ w.length := by
  refine list_snoc (P := fun w => (∀ c ∈ w, digB c = true) → valN w < 10 ^ w.length) (fun _ => by simp [valN]) ?_ w
  intro t c ih h
  have h1 := ih fun x hx => h x (by simp [hx])
  have h2 := of_decide_eq_true (h c (by simp))
  rw [valN_snoc, List.length_append, List.length_singleton, Nat.pow_succ]
  omega
/-- a numeral is read up to i -/
structure ValI (L : List UInt8) (i v : Nat) : Prop where
  li : i ≤ L.length
  eq : v = valN (L.take i)
  dg : ∀ c ∈ L.take i, digB c = true
theorem ValI.zero (L : List UInt8) : ValI L 0 0 := ⟨by omega, by simp [valN], by simp⟩
theorem ValI.step {L : List UInt8} {i v : Nat} {c : UInt8} (h : ValI L i v) (hc : L[i]? = some c) (h48 : 48 ≤ c.toNat) (h57 : c.toNat ≤ 57) : ValI L (i + 1) (v * 10 + (c.toNat - 48)) := by
  have hi := (List.getElem?_eq_some_iff.1 hc).1
  have e : L.take (i + 1) = L.take i ++ [c] := by rw [List.take_add_one, hc]; rfl
  refine ⟨by omega, by rw [e, valN_snoc, h.eq], fun x hx => ?_⟩
  rw [e] at hx
  rcases List.mem_append.1 hx with hx | hx
  · exact h.dg x hx
  · simp at hx; subst hx; exact decide_eq_true ⟨h48, h57⟩
theorem ValI.lt {L : List UInt8} {i v : Nat} (h : ValI L i v) (hl : L.length ≤ 9) : v < 1000000000 := by
  have h1 := valN_lt _ h.dg
  rw [← h.eq] at h1
  have h2 : (L.take i).length ≤ 9 := by rw [List.length_take]; omega
  have h3 : 10 ^ (L.take i).length ≤ 10 ^ 9 := Nat.pow_le_pow_right (by omega) h2
  omega
theorem val_no {L : List UInt8} (h : L.length = 0 ∨ 9 < L.length ∨ (1 < L.length ∧ L.headD 0 = 48)) : valB L = -1 := if_pos h
theorem val_nd {L : List UInt8} {i : Nat} {c : UInt8} (hc : L[i]? = some c) (hn : c.toNat < 48 ∨ 57 < c.toNat) : valB L = -1 := by
  unfold valB
  by_cases h : L.length = 0 ∨ 9 < L.length ∨ (1 < L.length ∧ L.headD 0 = 48)
  · rw [if_pos h]
  · rw [if_neg h, if_neg]
    intro ha
    have := of_decide_eq_true (List.all_eq_true.1 ha c (List.mem_of_getElem? hc))
    omega
theorem ValI.done {L : List UInt8} {v : Nat} (h : ValI L L.length v) (hn : ¬ (L.length = 0 ∨ 9 < L.length ∨ (1 < L.length ∧ L.headD 0 = 48))) : valB L = v := by
  have h1 := h.eq
  have h2 := h.dg
  rw [List.take_of_length_le (Nat.le_refl _)] at h1 h2
  unfold valB
  rw [if_neg hn, if_pos (List.all_eq_true.2 h2), h1]
set_option maxHeartbeats 8000000 in
theorem l01Value_any (L : List UInt8) (hL : L.length ≤ 4294967297) (w : World) :
    Calls Tryd.prog 54 #[.string (strB L)] w fun e w' => e = .returned (.int .i64 (valB L)) ∧ w' = w := by
  by_cases h0 : L.length = 0
  · have hv := val_no (.inl h0)
    have d0 : ((L.length : Int) == 0) = true := by simpa using h0
    replace hv := Lib.hid hv
    clear h0
    go_enter Tryd.func54, Tryd.ntmps54
    go_wp2_with fail
    go_ret
    exact ⟨by rw [hv.out]; rfl, rfl⟩
  · have d0 : ((L.length : Int) == 0) = false := by simpa using h0
    by_cases h9 : 9 < L.length
    · have hv := val_no (.inr (.inl h9))
      have d9 : (9 : Int) < (L.length : Int) := by omega
      replace hv := Lib.hid hv
      clear h0
      go_enter Tryd.func54, Tryd.ntmps54
      go_wp2_with fail
      go_ret
      exact ⟨by rw [hv.out]; rfl, rfl⟩
    · have d9 : ¬ (9 : Int) < (L.length : Int) := by omega
      obtain ⟨u, hu⟩ : ∃ u, L[0]? = some u := ⟨L[0]'(by omega), List.getElem?_eq_getElem (by omega)⟩
      have hhd : L.headD 0 = u := by
        cases L with
        | nil => simp at hu
        | cons a r => simpa using hu
      have hix := strB_at hu
      by_cases hb : 1 < L.length ∧ u = 48
      · have hv := val_no (L := L) (.inr (.inr ⟨hb.1, hhd.trans hb.2⟩))
        have d1 : (1 : Int) < (L.length : Int) := by omega
        have d2 : ((u.toNat : Int) == 48) = true := by rw [hb.2]; rfl
        replace hv := Lib.hid hv
        clear h0 h9 hb hu hhd
        go_enter Tryd.func54, Tryd.ntmps54
        go_wp2_with fail
        go_ret
        exact ⟨by rw [hv.out]; rfl, rfl⟩
      · have hn : ¬ (L.length = 0 ∨ 9 < L.length ∨ (1 < L.length ∧ L.headD 0 = 48)) := by
          rintro (h | h | ⟨h1, h2⟩)
          · exact h0 h
          · exact h9 h
          · exact hb ⟨h1, hhd.symm.trans h2⟩
        have hl9 : L.length ≤ 9 := by omega
        have body : Hid (¬ (1 < L.length ∧ u = 48)) := Lib.hid hb
        replace hn := Lib.hid hn
        by_cases h1 : 1 < L.length
        · have d1 : (1 : Int) < (L.length : Int) := by omega
          have d2 : ((u.toNat : Int) == 48) = false := by
            simp only [beq_eq_false_iff_ne, ne_eq]
            intro e
            exact hb ⟨h1, UInt8.toNat.inj (by show u.toNat = 48; omega)⟩
          clear h0 h9 hb hu hhd
          go_enter Tryd.func54, Tryd.ntmps54
          go_wp2_with fail
          clear hix d0 d9 d1 d2
          go_loopw [4, 3] (fun iv vv wq => ∃ (i v : Nat), iv = .int .i64 i ∧ vv = .int .i64 v ∧ Hid (ValI L i v) ∧ wq = w) (fun iv _ _ => L.length - (intOf iv).toNat)
          case atStart => exact ⟨0, 0, rfl, rfl, Lib.hid (ValI.zero L), rfl⟩
          case round =>
            obtain ⟨i, v, rfl, rfl, hI, rfl⟩ := hrel
            have hli := hI.out.li
            have hvl := hI.out.lt hl9
            by_cases hlt : i < L.length
            · obtain ⟨c, hc⟩ : ∃ c, L[i]? = some c := ⟨L[i], List.getElem?_eq_getElem hlt⟩
              have hix := strB_at hc
              have hc8 : c.toNat < 256 := by have := c.toNat_lt; omega
              by_cases hd : c.toNat < 48 ∨ 57 < c.toNat
              · have hv := val_nd hc hd
                replace hv := Lib.hid hv
                by_cases hd1 : c.toNat < 48
                · have e1 : (c.toNat : Int) < 48 := by omega
                  clear hd hc
                  go_wp2_with fail
                  go_ret
                  exact ⟨by rw [hv.out]; rfl, rfl⟩
                · have e1 : ¬ (c.toNat : Int) < 48 := by omega
                  have e2 : (57 : Int) < (c.toNat : Int) := by omega
                  clear hd hc
                  go_wp2_with fail
                  go_ret
                  exact ⟨by rw [hv.out]; rfl, rfl⟩
              · have hst := hI.out.step hc (by omega) (by omega)
                have e1 : ¬ (c.toNat : Int) < 48 := by omega
                have e2 : ¬ (57 : Int) < (c.toNat : Int) := by omega
                have e3 : IntKind.u8.wrap ((c.toNat : Int) - 48) = ((c.toNat - 48 : Nat) : Int) := by rw [show (c.toNat : Int) - 48 = ((c.toNat - 48 : Nat) : Int) by omega]; simp [IntKind.wrap, IntKind.bits, IntKind.signed]; omega
                replace hst := Lib.hid hst
                clear hd hc
                go_wp2_with fail
                go_roundw
                case measure => simp [intOf]; omega
                case rel => exact ⟨i + 1, v * 10 + (c.toNat - 48), by go_num, by go_num, hst, by trivial⟩
            · have : i = L.length := by omega
              subst this
              have hv := hI.out.done hn.out
              replace hv := Lib.hid hv
              go_wp2_with fail
              go_ret
              exact ⟨by rw [hv.out]; rfl, rfl⟩
        · have d1 : ¬ (1 : Int) < (L.length : Int) := by omega
          clear h0 h9 hb hu hhd
          go_enter Tryd.func54, Tryd.ntmps54
          go_wp2_with fail
          clear hix d0 d9 d1
          go_loopw [4, 3] (fun iv vv wq => ∃ (i v : Nat), iv = .int .i64 i ∧ vv = .int .i64 v ∧ Hid (ValI L i v) ∧ wq = w) (fun iv _ _ => L.length - (intOf iv).toNat)
          case atStart => exact ⟨0, 0, rfl, rfl, Lib.hid (ValI.zero L), rfl⟩
          case round =>
            obtain ⟨i, v, rfl, rfl, hI, rfl⟩ := hrel
            have hli := hI.out.li
            have hvl := hI.out.lt hl9
            by_cases hlt : i < L.length
            · obtain ⟨c, hc⟩ : ∃ c, L[i]? = some c := ⟨L[i], List.getElem?_eq_getElem hlt⟩
              have hix := strB_at hc
              have hc8 : c.toNat < 256 := by have := c.toNat_lt; omega
              by_cases hd : c.toNat < 48 ∨ 57 < c.toNat
              · have hv := val_nd hc hd
                replace hv := Lib.hid hv
                by_cases hd1 : c.toNat < 48
                · have e1 : (c.toNat : Int) < 48 := by omega
                  clear hd hc
                  go_wp2_with fail
                  go_ret
                  exact ⟨by rw [hv.out]; rfl, rfl⟩
                · have e1 : ¬ (c.toNat : Int) < 48 := by omega
                  have e2 : (57 : Int) < (c.toNat : Int) := by omega
                  clear hd hc
                  go_wp2_with fail
                  go_ret
                  exact ⟨by rw [hv.out]; rfl, rfl⟩
              · have hst := hI.out.step hc (by omega) (by omega)
                have e1 : ¬ (c.toNat : Int) < 48 := by omega
                have e2 : ¬ (57 : Int) < (c.toNat : Int) := by omega
                have e3 : IntKind.u8.wrap ((c.toNat : Int) - 48) = ((c.toNat - 48 : Nat) : Int) := by rw [show (c.toNat : Int) - 48 = ((c.toNat - 48 : Nat) : Int) by omega]; simp [IntKind.wrap, IntKind.bits, IntKind.signed]; omega
                replace hst := Lib.hid hst
                clear hd hc
                go_wp2_with fail
                go_roundw
                case measure => simp [intOf]; omega
                case rel => exact ⟨i + 1, v * 10 + (c.toNat - 48), by go_num, by go_num, hst, by trivial⟩
            · have : i = L.length := by omega
              subst this
              have hv := hI.out.done hn.out
              replace hv := Lib.hid hv
              go_wp2_with fail
              go_ret
              exact ⟨by rw [hv.out]; rfl, rfl⟩
end Go.Proofs.YtcjnhiglfkcmiaaDoor
/- PsS -/
namespace Go.Proofs.YtcjnhiglfkcmiaaDoor
open Go.RowKit
set_option linter.unusedVariables false
set_option maxRecDepth 100000
/-- the reference's parts -/
def RsOk (n : Nat) (L : List UInt8) (Rs : List (List UInt8)) : Prop := ∀ q, PT n L q → (cyc2 q = [] ∧ L = [40, 41]) ∨ (cyc2 q ≠ [] ∧ L ≠ [40, 41] ∧ Rs = ((cyc2 q).map fun c => 40 :: numsB 32 c) ++ [[]])
theorem rs_ok (n : Nat) (L : List UInt8) : RsOk n L (spl 41 L) := fun q hq => hq.outer
theorem RsOk.at_ {n : Nat} {L : List UInt8} {Rs : List (List UInt8)} (h : RsOk n L Rs) {k : Nat} {P : List UInt8} (hP : Rs[k]? = some P) (hk : k + 1 < Rs.length) (hL : L ≠ [40, 41]) : ∀ q, PT n L q → ∃ c, (cyc2 q)[k]? = some c ∧ P = 40 :: numsB 32 c := by
  intro q hq
  rcases h q hq with ⟨_, h2⟩ | ⟨_, _, h2⟩
  · exact absurd h2 hL
  · have hl : k < (cyc2 q).length := by rw [h2] at hk; simp at hk; exact hk
    rw [h2, List.getElem?_append_left (by simpa using hl), List.getElem?_map, List.getElem?_eq_getElem hl] at hP
    simp at hP
    exact ⟨_, List.getElem?_eq_getElem hl, hP.symm⟩
theorem RsOk.fin {n : Nat} {L : List UInt8} {Rs : List (List UInt8)} (h : RsOk n L Rs) {k : Nat} {g : List Int} (hg : GotI n L k g) (hk : Rs.length ≤ k + 1 ∨ L = [40, 41]) : GotF n L g := hg.fin fun q hq => by
  rcases h q hq with ⟨h1, _⟩ | ⟨_, h1, h2⟩
  · rw [h1]; simp
  · rcases hk with hk | hk
    · rw [h2] at hk; simp at hk; exact hk
    · exact absurd hk h1
theorem RowI.snocV {n : Nat} {L : List UInt8} {k j : Nat} {Qs : List (List UInt8)} {ys : List Int} (h : RowI n L k Qs j ys) {u : List UInt8} (hu : Qs[j]? = some u) (h0 : 0 ≤ valB u) (h1 : valB u < (n : Int)) : RowI n L k Qs (j + 1) (ys ++ [valB u]) :=
  h.snoc hu h0 h1 (fun y y0 y1 e => by rw [← e]; exact valB_back y0 y1)
theorem RowI.badV {n : Nat} {L : List UInt8} {k j : Nat} {Qs : List (List UInt8)} {ys : List Int} (h : RowI n L k Qs j ys) {u : List UInt8} (hu : Qs[j]? = some u) (hx : ¬ (0 ≤ valB u ∧ valB u < (n : Int))) : ¬ ∃ q, PT n L q :=
  h.bad hu (fun y y0 y1 y2 e => hx (by rw [← e, valB_back y0 y2]; exact ⟨y0, y1⟩))
theorem psf_in {n : Nat} (hn : n ≤ 400) (L : List UInt8) : psF (n : Int) L = psG n L := by
  unfold psF
  rw [if_pos (by unfold inR; simp; omega), Int.toNat_natCast]
theorem psf_out {x : Int} (h : (decide (0 ≤ x) && decide (x ≤ 400)) = false) (L : List UInt8) : psF x L = ([], 2) := by
  unfold psF inR
  rw [h]; rfl
theorem dec400 {x : Int} (h : (decide (0 ≤ x) && decide (x ≤ 400)) = true) : ∃ n : Nat, x = n ∧ n ≤ 400 := by
  simp at h
  exact ⟨x.toNat, by omega, by omega⟩
set_option maxHeartbeats 4000000 in
theorem l01Unit_any (n : Nat) (hn : n ≤ 1048576) (w : World) :
    Calls Tryd.prog 52 #[.int .i64 n] w fun e w' => ∃ (A1 : Option Addr) (c1 : Nat), e = .returned (.slice A1 n c1) ∧ Own w' w.heap.size w'.heap.size 2 A1 n c1 ((idL n).map (Value.int .i64)) ∧ Below w.heap.size w w' := by
  obtain ⟨j0, hj0, hy0, hy1, hy2⟩ := info_parts infoI
  have o0 := own_lit0s w 2
  have B0 := (Below.refl w.heap.size w).alloc (Nat.le_refl _) (.cells #[] 2)
  go_enter Tryd.func52, Tryd.ntmps52
  go_wp2_with fail
  obtain ⟨W1, hW⟩ : ∃ W1 : World, w.alloc (.cells #[] 2) = W1 := ⟨_, rfl⟩
  rw [hW] at o0 B0 ⊢
  clear hW
  go_loopw [4, 3] (fun kv sv wq => ∃ (k : Nat) (A1 : Option Addr) (c1 : Nat), k ≤ n ∧ kv = .int .i64 k ∧ sv = .slice A1 k c1 ∧ Own wq w.heap.size wq.heap.size 2 A1 k c1 ((idL k).map (Value.int .i64)) ∧ Below w.heap.size w wq) (fun kv _ _ => n - (intOf kv).toNat)
  case atStart => exact ⟨0, _, 0, by omega, rfl, rfl, by simpa [idL] using o0, B0⟩
  case round =>
    clear o0 B0
    obtain ⟨k, A1, c1, hk, rfl, rfl, ho, hB⟩ := hrel
    have yB := hB.size
    by_cases hlt : k < n
    · go_wp2_with (at_builtin; refine wpList_append1 wr rfl (.tmp 11) (.tmp 13) 24 rfl w.heap.size 2 j0 (.int .i64 0) 8 Tryd.underlying24 hj0 hy0 hy1 hy2 rfl (by omega) A1 k c1 _ (.int .i64 k) rfl ho.1 _ rfl rfl rfl (by omega) (by omega) ?_)
      intro g4 c4 w6 ho6 hg6 hlo6 hlt6 hor6
      have hb6 := hB.grown hg6 (by omega) (fun q hq => by have := (ho.1.lt q hq).1; omega)
      have hid : idL (k + 1) = idL k ++ [(k : Int)] := by unfold idL; rw [List.range_succ, List.map_append]; rfl
      have ho7 : Own w6 w.heap.size w6.heap.size 2 (some ⟨g4, 0, none⟩) (k + 1) c4 ((idL (k + 1)).map (Value.int .i64)) := by rw [hid]; simpa using Own.of_row ho6
      clear ho hg6 ho6 hid
      go_wp2_with fail
      go_roundw
      case measure => simp [intOf]; omega
      case rel => exact ⟨k + 1, _, c4, by omega, by go_num, rfl, ho7, hb6⟩
    · obtain rfl : k = n := by omega
      go_wp2_with fail
      go_ret
      exact ⟨A1, c1, rfl, ho, hB⟩
theorem l01SplitC (b : UInt8) (z : Int) (hz : (b.toNat : Int) = z) (L : List UInt8) (hL : L.length ≤ 4294967297) (w : World) :
    Calls Tryd.prog 53 #[.string (strB L), .int .u8 z] w fun e w' => ∃ (A1 : Option Addr) (c1 : Nat), e = .returned (.slice A1 (spl b L).length c1) ∧ Rd w' w.heap.size w'.heap.size A1 (spl b L).length ((spl b L).map fun p => .string (strB p)) ∧ Below w.heap.size w w' := by
  rw [← hz]; exact l01Split_any b L hL w
set_option maxHeartbeats 8000000 in
theorem i_ParsePermutation_any (x : Int) (hx : -9223372036854775808 ≤ x ∧ x ≤ 9223372036854775807) (L : List UInt8) (hL : L.length ≤ 4294967296) (w : World) {B : Nat} (hT : T10 B w) (hE : EV B w) (hM : MX B w) (hB : B ≤ w.heap.size) :
    Calls Tryd.prog 11 #[.int .i64 x, .string (strB L)] w fun e w' => ∃ (A1 : Option Addr) (n1 c1 : Nat) (zs : List Int) (code : Int), e = .returned (.tuple #[.slice A1 n1 c1, .int .i64 code]) ∧ Hid ((zs, code) = psF x L) ∧ Own w' w.heap.size w'.heap.size 2 A1 n1 c1 (zs.map (Value.int .i64)) ∧ n1 ≤ 1048576 ∧ Below w.heap.size w w' := by
  have hW := within_any x 0 400 w
  cases hin : (decide (0 ≤ x) && decide (x ≤ 400)) with
  | false =>
    have hF : (([] : List Int), (2 : Int)) = psF x L := (psf_out hin L).symm
    rw [hin] at hW
    replace hF := Lib.hid hF
    clear hin
    go_enter Tryd.func11, Tryd.ntmps11
    go_wp2_with fail
    ((with_reducible refine hW.mono ?_); rintro e w' ⟨rfl, rfl⟩)
    go_wp2_with fail
    go_ret2
    exact ⟨_, 0, _, [], 2, rfl, hF, Own.nil, by omega, Below.refl _ _⟩
  | true =>
    obtain ⟨n, rfl, hn⟩ := dec400 hin
    rw [hin] at hW
    have hP := fun V (hV : Below w.heap.size w V) => parsePermutation_any n hn L hL V (hT.on (hV.mono hB)) (hE.on (hV.mono hB)) (hM.on (hV.mono hB)) (by have := hV.size; omega)
    have hP1 := hP w (Below.refl _ _)
    clear hin hP
    rw [psf_in hn]
    go_enter Tryd.func11, Tryd.ntmps11
    go_wp2_with fail
    ((with_reducible refine hW.mono ?_); rintro e w ⟨rfl, rfl⟩)
    go_wp2_with fail
    ((with_reducible refine hP1.mono ?_); rintro e w2 ⟨A1, n1, c1, zs, ok, rfl, hr, o2, hn4, f2⟩)
    clear hP1
    cases ok with
    | true =>
      have hF : (zs, (0 : Int)) = psG n L := by have := hr.out; unfold PsR at this; rw [if_pos rfl] at this; exact this.symm
      replace hF := Lib.hid hF
      clear hr
      go_wp2_with fail
      go_ret2
      exact ⟨A1, n1, c1, zs, 0, rfl, hF, o2, by omega, f2⟩
    | false =>
      have hF : (([] : List Int), (6 : Int)) = psG n L := by have := hr.out; unfold PsR at this; rw [if_neg (by decide)] at this; exact this.symm
      replace hF := Lib.hid hF
      clear hr
      go_wp2_with fail
      go_ret2
      exact ⟨_, 0, _, [], 6, rfl, hF, Own.nil, by omega, f2⟩
end Go.Proofs.YtcjnhiglfkcmiaaDoor
/- PsT -/
namespace Go.Proofs.YtcjnhiglfkcmiaaDoor
open Go.RowKit
set_option linter.unusedVariables false
set_option maxRecDepth 100000
theorem sa_drew {w : World} {lo hi : Nat} : Same lo hi w w.drew := fun _ _ _ => rfl
theorem strB_drop1 (P : List UInt8) : (strB P).extract 1 P.length = strB (P.drop 1) := by
  rw [strB_cut, List.take_of_length_le (by simp)]
set_option maxHeartbeats 8000000 in
theorem s_ParsePermutation_any (x : Int) (hx : -9223372036854775808 ≤ x ∧ x ≤ 9223372036854775807) (L : List UInt8) (hL : L.length ≤ 4294967296) (w : World) :
    Calls Tryd.prog 14 #[.int .i64 x, .string (strB L)] w fun e w' => ∃ (A1 : Option Addr) (n1 c1 : Nat) (zs : List Int) (code : Int), e = .returned (.tuple #[.slice A1 n1 c1, .int .i64 code]) ∧ Hid ((zs, code) = psF x L) ∧ Own w' w.heap.size w'.heap.size 2 A1 n1 c1 (zs.map (Value.int .i64)) ∧ n1 ≤ 1048576 ∧ Below w.heap.size w w' := by
  obtain ⟨j0, hj0, hy0, hy1, hy2⟩ := info_parts infoI
  have hW := in_any x 0 400 w
  cases hin : (decide (0 ≤ x) && decide (x ≤ 400)) with
  | false =>
    have hF : (([] : List Int), (2 : Int)) = psF x L := (psf_out hin L).symm
    rw [hin] at hW
    replace hF := Lib.hid hF
    clear hin
    go_enter Tryd.func14, Tryd.ntmps14
    go_wp2_with fail
    ((with_reducible refine hW.mono ?_); rintro e w' ⟨rfl, rfl⟩)
    go_wp2_with fail
    go_ret2
    exact ⟨_, 0, _, [], 2, rfl, hF, Own.nil, by omega, Below.refl _ _⟩
  | true =>
    obtain ⟨n, rfl, hn⟩ := dec400 hin
    rw [hin] at hW
    clear hin hx
    rw [psf_in hn]
    have hU := l01Unit_any n (by omega) w
    have hS := fun V => l01SplitC 41 41 rfl L (by omega) V
    have hPl := spl_sum 41 L
    have hPm := spl_mem_len 41 L
    have hok := rs_ok n L
    have hor : ∀ g, GotF n L g → isPermB g = true → permB g = L → psG n L = (g, 0) := fun g h1 h2 h3 => h1.yes h2 h3
    generalize spl 41 L = Rs at *
    replace hPm := Lib.hid hPm
    replace hok := Lib.hid hok
    replace hor := Lib.hid hor
    go_enter Tryd.func14, Tryd.ntmps14
    go_wp2_with fail
    ((with_reducible refine hW.mono ?_); rintro e w ⟨rfl, rfl⟩)
    go_wp2_with fail
    ((with_reducible refine hU.mono ?_); rintro e w1 ⟨A1, cu, rfl, o1, f1⟩)
    clear hU hW
    have y1 := f1.size
    have hS1 := hS w1
    clear hS
    go_wp2_with fail
    ((with_reducible refine hS1.mono ?_); rintro e w2 ⟨AP, cP, rfl, rd2, f2⟩)
    clear hS1
    have y2 := f2.size
    have B2 : Below w.heap.size w w2 := f1.trans (f2.mono y1)
    have o2 := o1.below f2 (Nat.le_refl _)
    clear o1 f1 f2
    go_wp2_with fail
    obtain ⟨wb, rfl⟩ : ∃ wb : World, wb = w2 := ⟨_, rfl⟩
    go_loopw [8] (fun kv wq => ∃ (k : Nat) (g : List Int), k ≤ Rs.length ∧ kv = .int .i64 k ∧ Hid (GotI n L k g) ∧ Own wq w.heap.size w1.heap.size 2 A1 n cu (g.map (Value.int .i64)) ∧ Rd wq w1.heap.size wb.heap.size AP Rs.length (Rs.map fun p => .string (strB p)) ∧ wb.heap.size ≤ wq.heap.size ∧ Below w.heap.size w wq) (fun kv _ => Rs.length - (intOf kv).toNat)
    case atStart => exact ⟨0, idL n, by omega, rfl, Lib.hid (GotI.zero n L), o2, rd2, Nat.le_refl _, B2⟩
    case round =>
      clear o2 rd2 B2
      obtain ⟨k, g, hk, rfl, hgot, oG, rd, hz, hB9⟩ := hrel
      by_cases hgo : k + 1 < Rs.length ∧ L ≠ [40, 41]
      · obtain ⟨hlt, hLn⟩ := hgo
        have d1 : (k : Int) + 1 < (Rs.length : Int) := by omega
        have d2 : (L == [40, 41]) = false := by simpa using hLn
        obtain ⟨P, hP⟩ : ∃ P, Rs[k]? = some P := ⟨Rs[k]'(by omega), List.getElem?_eq_getElem (by omega)⟩
        obtain ⟨bP, oP, vP, rfl, _, _, hvP, hcP⟩ := rd.at_ (show k < Rs.length by omega)
        have hvP2 : vP = .string (strB P) := by
          rw [List.getElem?_map, hP] at hvP
          simpa using hvP.symm
        subst hvP2
        have hPL := hPm.out P (List.mem_of_getElem? hP)
        have hpart := hok.out.at_ hP hlt hLn
        replace hvP := Lib.hid hvP
        replace hP := Lib.hid hP
        replace hLn := Lib.hid hLn
        by_cases hP0 : P = []
        · have hF : (([] : List Int), (6 : Int)) = psG n L := (psG_no (fun ⟨q, hq⟩ => by
            obtain ⟨c, _, e⟩ := hpart q hq
            rw [hP0] at e; simp at e)).symm
          have d3 : (P.length : Int) < 1 := by rw [hP0]; simp
          replace hF := Lib.hid hF
          replace hP0 := Lib.hid hP0
          clear hpart
          go_wp2_with fail
          go_ret2
          exact ⟨_, 0, _, [], 6, rfl, hF, Own.nil, by omega, hB9⟩
        · have hpl : 0 < P.length := List.length_pos_iff.2 hP0
          have d3 : ¬ (P.length : Int) < 1 := by omega
          obtain ⟨u0, hu0⟩ : ∃ u, P[0]? = some u := ⟨P[0], List.getElem?_eq_getElem hpl⟩
          have hix := strB_at hu0
          by_cases h40 : u0 = 40
          · have d4 : ((u0.toNat : Int) == 40) = true := by rw [h40]; rfl
            have hS2 := fun V => l01SplitC 32 32 rfl (P.drop 1) (by rw [List.length_drop]; omega) V
            have hQl := spl_sum 32 (P.drop 1)
            have hQm := spl_mem_len 32 (P.drop 1)
            have hdl : (P.drop 1).length ≤ P.length := by rw [List.length_drop]; omega
            have hrow0 : RowI n L k (spl 32 (P.drop 1)) 0 [] := RowI.zero (fun q hq => by
              obtain ⟨c, hc, e⟩ := hpart q hq
              exact ⟨c, hc, by rw [e]; rfl⟩)
            have hdr := strB_drop1 P
            rw [← hdr] at hS2
            generalize spl 32 (P.drop 1) = Qs at *
            replace hQl : Qs.length ≤ 4294967298 := by omega
            replace hQm : Hid (∀ p ∈ Qs, p.length ≤ 4294967297) := Lib.hid (fun p hp => by have := hQm p hp; omega)
            replace hrow0 := Lib.hid hrow0
            clear hdr hpart hP0 h40 hu0
            obtain ⟨wo, rfl⟩ : ∃ wo : World, wo = wr := ⟨_, rfl⟩
            have hzw := hB9.size
            have hS3 := hS2 wo
            clear hS2
            go_wp2_with fail
            ((with_reducible refine hS3.mono ?_); rintro e w4 ⟨AQ, cQ, rfl, rd4, f4⟩)
            clear hS3
            have y4 := f4.size
            have o4 := own_lit0s w4 2
            have f5 := (Below.refl w4.heap.size w4).alloc (Nat.le_refl _) (.cells #[] 2)
            go_wp2_with fail
            obtain ⟨w5, hW⟩ : ∃ w5 : World, w4.alloc (.cells #[] 2) = w5 := ⟨_, rfl⟩
            have hz5 : w4.heap.size ≤ w5.heap.size := by rw [← hW]; simp
            rw [hW] at o4 f5 ⊢
            clear hW
            go_loopw [11, 10] (fun kv lv wq => ∃ (j : Nat) (ys : List Int) (A3 : Option Addr) (c3 : Nat), j ≤ Qs.length ∧ kv = .int .i64 j ∧ lv = .slice A3 j c3 ∧ Hid (RowI n L k Qs j ys) ∧ Own wq w4.heap.size wq.heap.size 2 A3 j c3 (ys.map (Value.int .i64)) ∧ w4.heap.size ≤ wq.heap.size ∧ Below w4.heap.size w4 wq) (fun kv _ _ => Qs.length - (intOf kv).toNat)
            case atStart => exact ⟨0, [], _, 0, by omega, rfl, rfl, hrow0, o4, hz5, f5⟩
            case round =>
              clear hrow0 o4 hz5 f5
              obtain ⟨j, ys, A3, c3, hj, rfl, rfl, hrow, ho3, hz3, hb3⟩ := hrel
              have hbo : Below wo.heap.size wo wr := f4.trans (hb3.mono y4)
              have hbw : Below w.heap.size w wr := hB9.trans (hbo.mono hzw)
              by_cases hjo : j < Qs.length
              · obtain ⟨u, hu⟩ : ∃ u, Qs[j]? = some u := ⟨Qs[j], List.getElem?_eq_getElem hjo⟩
                obtain ⟨bQ, oQ, vQ, rfl, _, _, hvQ, hcQ⟩ := (rd4.below hb3 (Nat.le_refl _)).at_ hjo
                have hvQ2 : vQ = .string (strB u) := by
                  rw [List.getElem?_map, hu] at hvQ
                  simpa using hvQ.symm
                subst hvQ2
                have huL := hQm.out u (List.mem_of_getElem? hu)
                have hR := l01Value_any u (by omega) wr
                have hbad : ¬ (0 ≤ valB u ∧ valB u < (n : Int)) → ¬ ∃ q, PT n L q := fun h => hrow.out.badV hu h
                have hst : 0 ≤ valB u → valB u < (n : Int) → RowI n L k Qs (j + 1) (ys ++ [valB u]) := fun h0 h1 => hrow.out.snocV hu h0 h1
                have hW2 := in_any (valB u) 0 ((n : Int) - 1) wr
                replace hu := Lib.hid hu
                replace hvQ := Lib.hid hvQ
                generalize valB u = x at *
                cases hin : (decide (0 ≤ x) && decide (x ≤ (n : Int) - 1)) with
                | false =>
                  have hF : (([] : List Int), (6 : Int)) = psG n L := (psG_no (hbad (fun h => by simp at hin; omega))).symm
                  rw [hin] at hW2
                  replace hF := Lib.hid hF
                  clear hbad hst hin
                  go_wp2_with fail
                  ((with_reducible refine hR.mono ?_); rintro e w' ⟨rfl, rfl⟩)
                  clear hR
                  go_wp2_with fail
                  ((with_reducible refine hW2.mono ?_); rintro e w' ⟨rfl, rfl⟩)
                  clear hW2
                  go_wp2_with fail
                  go_ret2
                  exact ⟨_, 0, _, [], 6, rfl, hF, Own.nil, by omega, hbw⟩
                | true =>
                  have hin2 : 0 ≤ x ∧ x < (n : Int) := by simp at hin; omega
                  have hst := hst hin2.1 hin2.2
                  rw [hin] at hW2
                  replace hst := Lib.hid hst
                  clear hbad hin hin2
                  go_wp2_with fail
                  ((with_reducible refine hR.mono ?_); rintro e wr ⟨rfl, rfl⟩)
                  clear hR
                  go_wp2_with fail
                  ((with_reducible refine hW2.mono ?_); rintro e wr ⟨rfl, rfl⟩)
                  clear hW2
                  go_wp2_with (at_builtin; refine wpList_append1 wr rfl (.tmp 69) (.tmp 71) 24 rfl w4.heap.size 2 j0 (.int .i64 0) 8 Tryd.underlying24 hj0 hy0 hy1 hy2 rfl (by omega) A3 j c3 _ (.int .i64 x) rfl ho3.1 _ rfl rfl rfl (by omega) (by omega) ?_)
                  intro g4 c4 w6 ho6 hg6 hlo6 hlt6 hor6
                  have hb6 : Below w4.heap.size w4 w6 := hb3.grown hg6 (by omega) (fun q hq => by have := (ho3.1.lt q hq).1; omega)
                  have hz6 := hg6.size
                  clear ho3 hb3 hg6 hcQ
                  go_wp2_with fail
                  go_roundw
                  case measure => simp [intOf]; omega
                  case rel => exact ⟨j + 1, ys ++ [x], _, c4, by omega, by go_num, rfl, hst, by simpa using Own.of_row ho6, by omega, hb6⟩
              · have hjo' : j = Qs.length := by omega
                subst hjo'
                have oG5 := (oG.below hbo (by omega))
                have rd5 := rd.below hbo hz
                have hri := ho3.ri
                have hs0 : StoI n L k ys 0 g := StoI.zero hrow.out hgot.out
                have hyl := hrow.out.1
                have hgl := hgot.out.1
                have hrng := hrow.out.2.1
                replace hs0 := Lib.hid hs0
                replace hrng := Lib.hid hrng
                clear hrow oG rd ho3 hb3 rd4
                obtain ⟨wi, rfl⟩ : ∃ wi : World, wi = wr := ⟨_, rfl⟩
                have hzi := hbo.size
                go_wp2_with fail
                go_loopw [13] (fun kv wq => ∃ (i : Nat) (g' : List Int), i ≤ Qs.length ∧ kv = .int .i64 i ∧ g'.length = n ∧ Hid (StoI n L k ys i g') ∧ Own wq w.heap.size w1.heap.size 2 A1 n cu (g'.map (Value.int .i64)) ∧ Rd wq w1.heap.size wb.heap.size (some ⟨bP, oP, none⟩) Rs.length (Rs.map fun p => .string (strB p)) ∧ RI wq w4.heap.size wi.heap.size A3 Qs.length ys ∧ wi.heap.size ≤ wq.heap.size ∧ Below w.heap.size w wq) (fun kv _ => Qs.length - (intOf kv).toNat)
                case atStart => exact ⟨0, g, by omega, rfl, hgl, hs0, oG5, rd5, hri, Nat.le_refl _, hbw⟩
                case round =>
                  clear oG5 rd5 hri hs0
                  obtain ⟨i, g', hi, rfl, hgl, hs', oG, rd, hri, hzr, hbw⟩ := hrel
                  by_cases hil : i < Qs.length
                  · obtain ⟨b3, o3, y, rfl, _, _, hy, hcy⟩ := hri.at_ hil
                    have hyr := hrng.out y (List.mem_of_getElem? hy)
                    obtain ⟨u, rfl⟩ := Int.eq_ofNat_of_zero_le hyr.1
                    have hun : u < n := by omega
                    have hml : (i + 1) % Qs.length < Qs.length := Nat.mod_lt _ (by omega)
                    obtain ⟨b4, o4, v, e4, _, _, hv, hcv⟩ := hri.at_ hml
                    injection e4 with e4
                    injection e4 with e41 e42 _
                    subst e41; subst e42
                    have hmod : ((i : Int) + 1) % (Qs.length : Int) = (((i + 1) % Qs.length : Nat) : Int) := by push_cast; rfl
                    have hst := hs'.out.step hy (by rw [show ys.length = Qs.length from hyl]; exact hv)
                    replace hst := Lib.hid hst
                    generalize (i + 1) % Qs.length = m at *
                    obtain ⟨z, hz0⟩ : ∃ z, g'[u]? = some z := ⟨g'[u]'(by omega), List.getElem?_eq_getElem (by omega)⟩
                    obtain ⟨b6, y6, rfl, hb61, hb62, _, hy6, _, _⟩ := oG.atI hun
                    have hcg := oG.cellI hz0
                    have hfr := oG.frz u
                    replace hy := Lib.hid hy
                    replace hv := Lib.hid hv
                    have hyB := hbw.size
                    go_wp2_with fail
                    go_region
                    all_goals
                      go_wp2_with fail
                      go_roundw
                      case measure => simp [intOf]; omega
                      case rel =>
                        have q1 := oG.setI (k := u) v
                        have q2 := rd.keep (same_set wr ⟨b6, u, none⟩ (.int .i64 v) _ _ (.inl hb62))
                        have q3 := hri.keep (same_set wr ⟨b6, u, none⟩ (.int .i64 v) _ _ (.inl (show b6 < w4.heap.size by omega)))
                        have q4 := hbw.setCell (p := ⟨b6, u, none⟩) hb61 (.int .i64 v)
                        exact ⟨i + 1, g'.set u v, by omega, by go_num, by simp [hgl], Lib.hid (by simpa using hst.out), q1.keep sa_drew, q2.keep sa_drew, q3.keep sa_drew, by simp; omega, ⟨q4.os, q4.tape, q4.output, q4.size, q4.block⟩⟩
                  · have : i = Qs.length := by omega
                    subst this
                    have hfin : GotI n L (k + 1) g' := by
                      have := hs'.out
                      rw [← hyl] at this
                      exact this.done
                    replace hfin := Lib.hid hfin
                    go_wp2_with fail
                    go_roundw
                    case measure => simp [intOf]; omega
                    case rel => exact ⟨k + 1, g', by omega, by go_num, hfin, oG, rd, by omega, hbw⟩
          · have hF : (([] : List Int), (6 : Int)) = psG n L := (psG_no (fun ⟨q, hq⟩ => by
              obtain ⟨c, _, e⟩ := hpart q hq
              rw [e] at hu0; simp at hu0; exact h40 hu0.symm)).symm
            have d4 : ((u0.toNat : Int) == 40) = false := by
              simp only [beq_eq_false_iff_ne, ne_eq]
              intro e
              exact h40 (UInt8.toNat.inj (by show u0.toNat = 40; omega))
            replace hF := Lib.hid hF
            clear hpart hP0 h40 hu0
            go_wp2_with fail
            go_ret2
            exact ⟨_, 0, _, [], 6, rfl, hF, Own.nil, by omega, hB9⟩
      · have hfin := hok.out.fin hgot.out (by
          by_cases h : k + 1 < Rs.length
          · exact .inr (Classical.byContradiction fun h2 => hgo ⟨h, h2⟩)
          · exact .inl (by omega))
        have hgl := hfin.1
        have hIP := l01Perm_any A1 n cu g wr _ _ oG.ri (by have := hB9.size; omega)
        have hyB := hB9.size
        have hexit : (¬ ((k : Int) + 1 < (Rs.length : Int))) ∨ ((k : Int) + 1 < (Rs.length : Int) ∧ (L == [40, 41]) = true) := by
          by_cases h : k + 1 < Rs.length
          · exact .inr ⟨by omega, by simpa using Classical.byContradiction fun h2 => hgo ⟨h, h2⟩⟩
          · exact .inl (by omega)
        clear hgo
        cases hpb : isPermB g with
        | false =>
          have hF : (([] : List Int), (6 : Int)) = psG n L := (hfin.no (.inl hpb)).symm
          rw [hpb] at hIP
          replace hF := Lib.hid hF
          clear hfin
          rcases hexit with d1 | ⟨d1, d2⟩
          all_goals
            go_wp2_with fail
            ((with_reducible refine hIP.mono ?_); rintro e w5 ⟨rfl, f5⟩)
            clear hIP
            have hb5 : Below w.heap.size w w5 := hB9.trans (f5.mono hyB)
            go_wp2_with fail
            go_ret2
            exact ⟨_, 0, _, [], 6, rfl, hF, Own.nil, by omega, hb5⟩
        | true =>
          rw [hpb] at hIP
          have hprm : isPermP g := of_decide_eq_true hpb
          have hrg := hprm.rng
          rw [hgl] at hrg
          have hPT := fun V (hV : Below wr.heap.size wr V) => l01Text_any A1 n cu g V (oG.ri.below hV (by omega)) (by have := hV.size; omega) hn hrg
          by_cases hte : permB g = L
          · have hF : (g, (0 : Int)) = psG n L := (hfin.yes hpb hte).symm
            have het : (permB g == L) = true := by simpa using hte
            replace hte := Lib.hid hte
            generalize permB g = tx at *
            replace hF := Lib.hid hF
            replace hrg := Lib.hid hrg
            replace hprm := Lib.hid hprm
            clear hfin
            rcases hexit with d1 | ⟨d1, d2⟩
            all_goals
              go_wp2_with fail
              ((with_reducible refine hIP.mono ?_); rintro e w5 ⟨rfl, f5⟩)
              clear hIP
              have y5 := f5.size
              have hPT5 := hPT _ f5
              clear hPT
              have hb5 : Below w.heap.size w w5 := hB9.trans (f5.mono hyB)
              go_wp2_with fail
              ((with_reducible refine hPT5.mono ?_); rintro e w6 ⟨rfl, f6⟩)
              clear hPT5
              have hb6 : Below w.heap.size w w6 := hb5.trans (f6.mono (by omega))
              have oG6 := (oG.below f5 (by omega)).below f6 (by omega)
              have y6 := f6.size
              go_wp2_with fail
              go_ret2
              exact ⟨A1, n, cu, g, 0, rfl, hF, oG6.more (Nat.le_refl _) (by omega), by omega, hb6⟩
          · have hF : (([] : List Int), (6 : Int)) = psG n L := (hfin.no (.inr hte)).symm
            have het : (permB g == L) = false := by simpa using hte
            replace hte := Lib.hid hte
            generalize permB g = tx at *
            replace hF := Lib.hid hF
            replace hrg := Lib.hid hrg
            replace hprm := Lib.hid hprm
            clear hfin
            rcases hexit with d1 | ⟨d1, d2⟩
            all_goals
              go_wp2_with fail
              ((with_reducible refine hIP.mono ?_); rintro e w5 ⟨rfl, f5⟩)
              clear hIP
              have y5 := f5.size
              have hPT5 := hPT _ f5
              clear hPT
              have hb5 : Below w.heap.size w w5 := hB9.trans (f5.mono hyB)
              go_wp2_with fail
              ((with_reducible refine hPT5.mono ?_); rintro e w6 ⟨rfl, f6⟩)
              clear hPT5
              have hb6 : Below w.heap.size w w6 := hb5.trans (f6.mono (by omega))
              go_wp2_with fail
              go_ret2
              exact ⟨_, 0, _, [], 6, rfl, hF, Own.nil, by omega, hb6⟩
end Go.Proofs.YtcjnhiglfkcmiaaDoor
/- Dmg -/
namespace Go.Proofs.YtcjnhiglfkcmiaaDoor
open Go.RowKit
set_option linter.unusedVariables false
set_option maxRecDepth 100000
/-- what a damaged text is -/
structure DmgP (w w' : World) (lo g : Nat) (T : TypeId) (A : Option Addr) (n c : Nat) (bs : List Int) (i h : Nat) (L L' : List UInt8) (i' h' : Nat) : Prop where
  len : L'.length ≤ L.length + 1
  one : L = [] → L'.length = 1
  src : Src w' lo g T A n c bs i' h'
  rise : i < n → i < i'
  stay : i = n → i' = n ∧ h' = lcgN (if L = [] then 1 else 3) h
  chg : Chg g (g + 1) w w'
  size : w.heap.size ≤ w'.heap.size
theorem lit_cell (w : World) (T : TypeId) (vs : Array Value) {k : Nat} {v : Value} (h : vs[k]? = some v) : (w.alloc (.cells vs T)).cell? ⟨w.heap.size, k, none⟩ = some v := by
  rw [cell_of_row _ _ _ _ _ _ (heap_new w _ _ rfl), h]
theorem strB_cat (a b c : List UInt8) : strB a ++ strB b ++ strB c = strB (a ++ b ++ c) := by rw [strB_append, strB_append]
set_option maxHeartbeats 8000000 in
theorem l01Damage_any (w : World) (lo g : Nat) (A : Option Addr) (n c : Nat) (bs : List Int) (i h : Nat) (s : Src w lo g 97 A n c bs i h) (L : List UInt8) (hL : L.length ≤ 549755813888) :
    Calls Tryd.prog 49 #[.pointer (some ⟨g, 0, none⟩), .string (strB L)] w fun e w' => ∃ (L' : List UInt8) (i' h' : Nat), e = .returned (.string (strB L')) ∧ DmgP w w' lo g 97 A n c bs i h L L' i' h' := by
  have hgl := s.lt
  go_enter Tryd.func49, Tryd.ntmps49
  go_wp2_with fail
  obtain ⟨vs, hvs⟩ : ∃ vs : Array Value, vs = #[Value.string ⟨#[48]⟩, Value.string ⟨#[49]⟩, Value.string ⟨#[50]⟩, Value.string ⟨#[53]⟩, Value.string ⟨#[57]⟩, Value.string ⟨#[45]⟩, Value.string ⟨#[47]⟩, Value.string ⟨#[32]⟩, Value.string ⟨#[44]⟩, Value.string ⟨#[59]⟩, Value.string ⟨#[40]⟩, Value.string ⟨#[41]⟩, Value.string ⟨#[123]⟩, Value.string ⟨#[125]⟩, Value.string ⟨#[58]⟩, Value.string ⟨#[97]⟩, Value.string ⟨#[100]⟩, Value.string ⟨#[116]⟩, Value.string ⟨#[107]⟩, Value.string ⟨#[114]⟩, Value.string ⟨#[46]⟩, Value.string ⟨#[10]⟩] := ⟨_, rfl⟩
  have hone : ∀ k, k < 22 → ∃ p : UInt8, vs[k]? = some (.string (strB [p])) := by
    intro k hk
    subst hvs
    have : k = 0 ∨ k = 1 ∨ k = 2 ∨ k = 3 ∨ k = 4 ∨ k = 5 ∨ k = 6 ∨ k = 7 ∨ k = 8 ∨ k = 9 ∨ k = 10 ∨ k = 11 ∨ k = 12 ∨ k = 13 ∨ k = 14 ∨ k = 15 ∨ k = 16 ∨ k = 17 ∨ k = 18 ∨ k = 19 ∨ k = 20 ∨ k = 21 := by omega
    rcases this with rfl | rfl | rfl | rfl | rfl | rfl | rfl | rfl | rfl | rfl | rfl | rfl | rfl | rfl | rfl | rfl | rfl | rfl | rfl | rfl | rfl | rfl <;> exact ⟨_, rfl⟩
  rw [← hvs]
  have s1 : Src (w.alloc (.cells vs 9)) lo g 97 A n c bs i h := s.below ((Below.refl w.heap.size w).alloc (Nat.le_refl _) _) hgl
  have C1 : Chg g (g + 1) w (w.alloc (.cells vs 9)) := (Chg.refl _ _ _).alloc _
  have hlit := fun k v => lit_cell w 9 vs (k := k) (v := v)
  obtain ⟨W1, hW⟩ : ∃ W1 : World, w.alloc (.cells vs 9) = W1 := ⟨_, rfl⟩
  have hz1 : w.heap.size < W1.heap.size := by rw [← hW]; simp
  rw [hW] at s1 C1 hlit ⊢
  clear hW hvs
  have hn1 := next_any W1 lo g A n c bs i h s1 22 (by omega) (by omega)
  ((with_reducible refine hn1.mono ?_); rintro e w2 ⟨v, i2, rfl, P⟩)
  clear hn1
  have p1 := P.ge
  have p2 := P.lt
  obtain ⟨V, rfl⟩ := Int.eq_ofNat_of_zero_le p1
  obtain ⟨pc, hpc⟩ := hone V (by omega)
  have hcp : w2.cell? ⟨w.heap.size, V, none⟩ = some (.string (strB [pc])) := (World.cell?_of_block (w := W1) (a := ⟨w.heap.size, V, none⟩) (P.chg.block _ (by first | omega | (simp; omega)) (by first | omega | (simp; omega)))).trans (hlit V _ hpc)
  have s2 := P.src
  have C2 := C1.trans P.chg ⟨Nat.le_refl _, Nat.le_refl _⟩ ⟨Nat.le_refl _, Nat.le_refl _⟩
  have z2 := P.size
  have st2 := P.step
  have dn2 := P.done
  clear P hone hlit hpc
  by_cases hL0 : L = []
  · have d1 : ((L.length : Int) == 0) = true := by rw [hL0]; rfl
    replace hL0 := Lib.hid hL0
    go_wp2_with fail
    go_ret
    exact ⟨[pc], i2, lcg h, rfl, ⟨by simp, fun _ => rfl, s2, fun hh => by have := st2 hh; omega, fun hh => ⟨by have := (dn2 (by omega)).1; omega, by rw [if_pos hL0.out]; rfl⟩, C2, by omega⟩⟩
  · have d1 : ((L.length : Int) == 0) = false := by simpa using hL0
    have hL1 : 0 < L.length := List.length_pos_iff.2 hL0
    replace hL0 := Lib.hid hL0
    have hn2 := next_any w2 lo g A n c bs i2 _ s2 (L.length : Int) (by omega) (by omega)
    go_wp2_with fail
    ((with_reducible refine hn2.mono ?_); rintro e w3 ⟨q, i3, rfl, P⟩)
    clear hn2
    have q1 := P.ge
    have q2 := P.lt
    obtain ⟨Q, rfl⟩ := Int.eq_ofNat_of_zero_le q1
    have s3 := P.src
    have C3 := C2.trans P.chg ⟨Nat.le_refl _, Nat.le_refl _⟩ ⟨Nat.le_refl _, Nat.le_refl _⟩
    have z3 := P.size
    have st3 := P.step
    have dn3 := P.done
    clear P s2
    have hn3 := next_any w3 lo g A n c bs i3 _ s3 3 (by omega) (by omega)
    go_wp2_with fail
    ((with_reducible refine hn3.mono ?_); rintro e w4 ⟨o, i4, rfl, P⟩)
    clear hn3
    have o1 := P.ge
    have o2 := P.lt
    have s4 := P.src
    have C4 := C3.trans P.chg ⟨Nat.le_refl _, Nat.le_refl _⟩ ⟨Nat.le_refl _, Nat.le_refl _⟩
    have z4 := P.size
    have st4 := P.step
    have dn4 := P.done
    have sle2 := s3.le
    clear P s3
    have hQ : Q < L.length := by omega
    have hQ1 : IntKind.i64.wrap ((Q : Int) + 1) = (Q : Int) + 1 := by rw [IntKind.wrap_i64]; omega
    have ho : o = 0 ∨ o = 1 ∨ o = 2 := by omega
    have hri : i < n → i < i4 := fun hh => by
      have e2 := st2 hh
      by_cases h3 : i2 < n
      · have e3 := st3 h3
        by_cases h4 : i3 < n
        · have := st4 h4; omega
        · have := (dn4 h4).1; omega
      · have e3 := (dn3 h3).1
        have := (dn4 (by omega)).1
        omega
    have hst : i = n → i4 = n := fun hh => by
      have e2 := (dn2 (by omega)).1
      have e3 := (dn3 (by omega)).1
      have e4 := (dn4 (by omega)).1
      omega
    clear st2 st3 st4 dn2 dn3 dn4
    rcases ho with rfl | rfl | rfl
    · go_wp2_with fail
      go_quiet (fail)
      go_wp2_with fail
      go_ret
      refine ⟨(L.drop 0).take (Q - 0) ++ [pc] ++ (L.drop (Q + 1)).take (L.length - (Q + 1)), i4, lcg (lcg (lcg h)), ?_, ⟨?_, fun e => absurd e hL0.out, s4.drewN _, fun hh => ?_, fun hh => ?_, C4.drewN _, ?_⟩⟩
      · show Ending.returned (Value.string _) = _
        rw [strB_cut, strB_cut, strB_append, strB_append]
      · simp; omega
      · exact hri hh
      · exact ⟨hst hh, by rw [if_neg hL0.out]; rfl⟩
      · show _ ≤ w4.heap.size
        omega
    · go_wp2_with fail
      go_quiet (fail)
      go_wp2_with fail
      go_ret
      refine ⟨(L.drop 0).take (Q - 0) ++ (L.drop (Q + 1)).take (L.length - (Q + 1)), i4, lcg (lcg (lcg h)), ?_, ⟨?_, fun e => absurd e hL0.out, s4.drewN _, fun hh => ?_, fun hh => ?_, C4.drewN _, ?_⟩⟩
      · show Ending.returned (Value.string _) = _
        rw [strB_cut, strB_cut, strB_append]
      · simp; omega
      · exact hri hh
      · exact ⟨hst hh, by rw [if_neg hL0.out]; rfl⟩
      · show _ ≤ w4.heap.size
        omega
    · go_wp2_with fail
      go_quiet (fail)
      go_wp2_with fail
      go_ret
      refine ⟨(L.drop 0).take (Q - 0) ++ [pc] ++ (L.drop Q).take (L.length - Q), i4, lcg (lcg (lcg h)), ?_, ⟨?_, fun e => absurd e hL0.out, s4.drewN _, fun hh => ?_, fun hh => ?_, C4.drewN _, ?_⟩⟩
      · show Ending.returned (Value.string _) = _
        rw [strB_cut, strB_cut, strB_append, strB_append]
      · simp; omega
      · exact hri hh
      · exact ⟨hst hh, by rw [if_neg hL0.out]; rfl⟩
      · show _ ≤ w4.heap.size
        omega
end Go.Proofs.YtcjnhiglfkcmiaaDoor
/- DmgQ -/
namespace Go.Proofs.YtcjnhiglfkcmiaaDoor
set_option linter.unusedVariables false
set_option maxRecDepth 100000
/-- the times of the rounds behind the code's end -/
structure MetS (H : Nat) (ts : List Nat) (t : Nat) : Prop where
  nd : ts.Nodup
  ev : t % 2 = 0
  mem : ∀ s ∈ ts, s % 2 = 0 ∧ s < t ∧ lcgX (lcgN (s + 1) H) % 3 = 0
  le : t ≤ 4 * ts.length
theorem MetS.zero (H : Nat) : MetS H [] 0 := ⟨List.nodup_nil, rfl, by simp, by simp⟩
theorem MetS.step {H t d : Nat} {ts : List Nat} (m : MetS H ts t) (h3 : lcgX (lcgN (t + 1) H) % 3 = 0) (hd : d = 2 ∨ d = 4) : MetS H (t :: ts) (t + d) := by
  have he := m.ev
  have hl := m.le
  refine ⟨List.nodup_cons.2 ⟨fun hm => by have := (m.mem t hm).2.1; omega, m.nd⟩, by omega, fun s hs => ?_, by rw [List.length_cons]; omega⟩
  rcases List.mem_cons.1 hs with e | hs
  · subst e; exact ⟨he, by omega, h3⟩
  · obtain ⟨a, b, c⟩ := m.mem s hs
    exact ⟨a, by omega, c⟩
theorem MetS.bound {H t : Nat} {ts : List Nat} (hH : H < 18446744073709551616) (m : MetS H ts t) (hl : ts.length ≤ 3074516989171597313) : ts.length ≤ 5592406 * 549755813888 := by
  have hle := m.le
  have hnd : (ts.map fun s => lcgCode (lcgN (s + 1) H)).Nodup := by
    rw [List.nodup_iff_pairwise_ne, List.pairwise_map]
    refine List.Pairwise.imp_of_mem ?_ m.nd
    intro a b ha hb hab e
    obtain ⟨a1, a2, a3⟩ := m.mem a ha
    obtain ⟨b1, b2, b3⟩ := m.mem b hb
    have h2 : lcgN (a + 1) H = lcgN (b + 1) H := lcgCode_inj (lcgN_lt hH _) (lcgN_lt hH _) (by rw [lcgN_mod2, lcgN_mod2]; omega) a3 b3 e
    rcases Nat.lt_or_gt_of_ne hab with h | h
    · exact lcgN_inj hH (a := a + 1) (b := b + 1) (by omega) (by omega) h2
    · exact lcgN_inj hH (a := b + 1) (b := a + 1) (by omega) (by omega) h2.symm
  have := nodup_lt (5592406 * 549755813888) hnd (fun x hx => by
    obtain ⟨s, _, rfl⟩ := List.mem_map.1 hx
    exact lcgCode_lt (lcgN_lt hH _))
  rwa [List.length_map] at this
/-- a run of rounds without an empty text between -/
structure RunS (b r h : Nat) : Prop where
  st : b < 18446744073709551616
  eq : h = lcgN (4 * r) b
  all : ∀ j, j < r → lcgX (lcg (lcgN (4 * j) b)) % 3 = 0
theorem RunS.zero {h : Nat} (hh : h < 18446744073709551616) : RunS h 0 h := ⟨hh, rfl, by intro j hj; omega⟩
theorem RunS.step {b r h : Nat} (R : RunS b r h) (h3 : lcgX (lcg h) % 3 = 0) : RunS b (r + 1) (lcgN 4 h) := by
  refine ⟨R.st, ?_, fun j hj => ?_⟩
  · rw [R.eq, ← lcgN_add]; congr 1; omega
  · by_cases e : j = r
    · subst e; rw [← R.eq]; exact h3
    · exact R.all j (by omega)
theorem RunS.bound {b r h : Nat} (R : RunS b r h) : r ≤ 2148532224 := by
  obtain ⟨j, hj, hn⟩ := run_short (h := lcg b) (lcg_lt b)
  have e : lcgN (4 * j) (lcg b) = lcg (lcgN (4 * j) b) := by
    have h1 : lcgN (4 * j) (lcgN 1 b) = lcgN (4 * j + 1) b := (lcgN_add _ _ _).symm
    exact h1
  rw [e] at hn
  apply Classical.byContradiction
  intro hr
  exact hn (R.all j (by omega))
/-- where a draw of texts stands: i bytes of n are used, h is the state, L the text; f falls with each round -/
def DmgL (K n i h : Nat) (L : List UInt8) (len0 f : Nat) : Prop :=
  (i < n ∧ L.length ≤ len0 + i ∧ f = (n - i) + (K + 3)) ∨
  (i = n ∧ ∃ (H : Nat) (ts : List Nat) (t b r base : Nat), H < 18446744073709551616 ∧ h = lcgN t H ∧ MetS H ts t ∧ ts.length ≤ K ∧ RunS b r h ∧ base ≤ len0 + n + 1 ∧ L.length ≤ base + r ∧ f = (K + 2) - ts.length)
theorem DmgL.len {K n i h len0 f : Nat} {L : List UInt8} (D : DmgL K n i h L len0 f) : L.length ≤ len0 + n + 2148532225 := by
  rcases D with ⟨_, h2, _⟩ | ⟨_, H, ts, t, b, r, base, _, _, _, _, R, h3, h4, _⟩
  · omega
  · have := R.bound; omega
theorem DmgL.start {K n i h len0 : Nat} {L : List UInt8} (hi : i ≤ n) (hh : h < 18446744073709551616) (hL : L.length ≤ len0) : ∃ f, f ≤ n + (K + 3) ∧ DmgL K n i h L len0 f := by
  by_cases hlt : i < n
  · exact ⟨(n - i) + (K + 3), by omega, .inl ⟨hlt, by omega, rfl⟩⟩
  · exact ⟨(K + 2), by omega, .inr ⟨by omega, h, [], 0, h, 0, len0, hh, rfl, MetS.zero h, by simp, RunS.zero hh, by omega, by omega, by simp⟩⟩
theorem DmgL.next {K n i h len0 f i1 i' h' : Nat} (hK : K = 5592406 * 549755813888) {L L' : List UInt8} {v : Int} (D : DmgL K n i h L len0 f) (hin : i ≤ n) (hs1 : i < n → i1 = i + 1) (hd1 : ¬ i < n → i1 = i ∧ v = (lcgX (lcg h) : Int) % 3) (hv : v = 0)
    (hlen : L'.length ≤ L.length + 1) (hone : L = [] → L'.length = 1) (hrise : i1 < n → i1 < i') (hstay : i1 = n → i' = n ∧ h' = lcgN (if L = [] then 1 else 3) (lcg h)) (hle : i' ≤ n) (hh' : h' < 18446744073709551616) :
    ∃ f', f' < f ∧ DmgL K n i' h' L' len0 f' := by
  rcases D with ⟨h1, h2, h3⟩ | ⟨h1, H, ts, t, b, r, base, hH, ht, m, hml, R, hb, hLl, hf⟩
  · have e1 := hs1 h1
    by_cases hi : i' < n
    · have hx : i1 < i' := by
        by_cases h4 : i1 < n
        · exact hrise h4
        · have := (hstay (by omega)).1; omega
      exact ⟨(n - i') + (K + 3), by omega, .inl ⟨hi, by omega, rfl⟩⟩
    · exact ⟨(K + 2), by omega, .inr ⟨by omega, h', [], 0, h', 0, len0 + n, hh', rfl, MetS.zero h', by simp, RunS.zero hh', by omega, by omega, by simp⟩⟩
  · obtain ⟨e1, e2⟩ := hd1 (by omega)
    have h3 : lcgX (lcg h) % 3 = 0 := by omega
    obtain ⟨hi, hst⟩ := hstay (by omega)
    have h3t : lcgX (lcgN (t + 1) H) % 3 = 0 := by rw [lcgN_succ, ← ht]; exact h3
    by_cases hL : L = []
    · rw [if_pos hL] at hst
      have m2 := m.step (d := 2) h3t (.inl rfl)
      have hb2 := m2.bound hH (by rw [List.length_cons]; omega)
      have e4 : h' = lcgN (t + 2) H := by rw [hst, ht, ← lcgN_succ, ← lcgN_add]; congr 1; omega
      have hl1 := hone hL
      refine ⟨(K + 2) - (ts.length + 1), ?_, .inr ⟨hi, H, t :: ts, t + 2, h', 0, 1, hH, e4, m2, ?_, RunS.zero hh', by omega, by omega, by rw [List.length_cons]⟩⟩
      · omega
      · omega
    · rw [if_neg hL] at hst
      have m2 := m.step (d := 4) h3t (.inr rfl)
      have hb2 := m2.bound hH (by rw [List.length_cons]; omega)
      have e4 : h' = lcgN (t + 4) H := by rw [hst, ht, ← lcgN_succ, ← lcgN_add]; congr 1; omega
      have e1' : lcgN 1 h = lcg h := lcgN_succ 0 h
      have e5 : h' = lcgN 4 h := by rw [hst, ← e1', ← lcgN_add]
      have R2 := R.step h3
      rw [← e5] at R2
      refine ⟨(K + 2) - (ts.length + 1), ?_, .inr ⟨hi, H, t :: ts, t + 4, b, r + 1, base, hH, e4, m2, ?_, R2, hb, by omega, by rw [List.length_cons]⟩⟩
      · omega
      · omega
end Go.Proofs.YtcjnhiglfkcmiaaDoor
/- PtxX -/
namespace Go.Proofs.YtcjnhiglfkcmiaaDoor
open Go.RowKit
set_option linter.unusedVariables false
set_option maxRecDepth 100000
/-- what PermutationText returns -/
def ptF (xs : List Int) : List UInt8 × Int := if isPermB xs = true then (permB xs, 0) else ([], 1)
theorem i_PermutationText_any (w : World) (A : Option Addr) (n c : Nat) (xs : List Int) {lo hi : Nat} (h : RI w lo hi A n xs) (hhi : hi ≤ w.heap.size) {B : Nat} (hT : T10 B w) (hB : B ≤ w.heap.size) :
    Calls Tryd.prog 9 #[.slice A n c] w fun e w' => ∃ (s : List UInt8) (code : Int), e = .returned (.tuple #[.string (strB s), .int .i64 code]) ∧ Hid ((s, code) = ptF xs) ∧ Below w.heap.size w w' := by
  have hl := h.len
  by_cases hp : isPermB xs = true
  · have hF : (permB xs, (0 : Int)) = ptF xs := by simp [ptF, hp]
    obtain ⟨hP1, hP2, hP3⟩ := isPermB_iff.1 hp
    rw [hl] at hP1 hP2
    replace hF := Lib.hid hF
    replace hp := Lib.hid hp
    have hPt := fun V (hV : Below w.heap.size w V) => permutationText_any A n c xs V (h.below hV hhi) (by have := hV.size; omega) hP1 hP2 (hT.on (hV.mono hB)) (by have := hV.size; omega)
    clear hP1 hP2 hP3 hl
    go_enter Tryd.func9, Tryd.ntmps9
    go_wp2_with fail
    ((with_reducible refine (isPerm_any _ _ _ xs _ _ _ h hhi).mono ?_); rintro e w1 ⟨rfl, hb⟩)
    rw [hp.out]
    have hs1 := hb.size
    have h2 := hPt w1 hb
    go_wp2_with fail
    ((with_reducible refine h2.mono ?_); rintro e w2 ⟨rfl, hb2⟩)
    go_wp2_with fail
    go_ret2
    exact ⟨_, _, rfl, hF, below_then hb hb2 hs1⟩
  · have hp : isPermB xs = false := by simpa using hp
    have hF : (([] : List UInt8), (1 : Int)) = ptF xs := by simp [ptF, hp]
    replace hF := Lib.hid hF
    replace hp := Lib.hid hp
    replace hl := Lib.hid hl
    go_enter Tryd.func9, Tryd.ntmps9
    go_wp2_with fail
    ((with_reducible refine (isPerm_any _ _ _ xs _ _ _ h hhi).mono ?_); rintro e w1 ⟨rfl, hb⟩)
    rw [hp.out]
    go_wp2_with fail
    go_ret2
    exact ⟨[], _, rfl, hF, hb⟩
theorem s_PermutationText_any (w : World) (A : Option Addr) (n c : Nat) (xs : List Int) {lo hi : Nat} (h : RI w lo hi A n xs) (hhi : hi ≤ w.heap.size) :
    Calls Tryd.prog 10 #[.slice A n c] w fun e w' => ∃ (s : List UInt8) (code : Int), e = .returned (.tuple #[.string (strB s), .int .i64 code]) ∧ Hid ((s, code) = ptF xs) ∧ Below w.heap.size w w' := by
  have hl := h.len
  by_cases hp : isPermB xs = true
  · have hF : (permB xs, (0 : Int)) = ptF xs := by simp [ptF, hp]
    obtain ⟨hP1, hP2, hP3⟩ := isPermB_iff.1 hp
    rw [hl] at hP1 hP2
    replace hF := Lib.hid hF
    replace hp := Lib.hid hp
    have hPt := fun V (hV : Below w.heap.size w V) => l01Text_any A n c xs V (h.below hV hhi) (by have := hV.size; omega) hP1 hP2
    clear hP1 hP2 hP3 hl
    go_enter Tryd.func10, Tryd.ntmps10
    go_wp2_with fail
    ((with_reducible refine (l01Perm_any _ _ _ xs _ _ _ h hhi).mono ?_); rintro e w1 ⟨rfl, hb⟩)
    rw [hp.out]
    have hs1 := hb.size
    have h2 := hPt w1 hb
    go_wp2_with fail
    ((with_reducible refine h2.mono ?_); rintro e w2 ⟨rfl, hb2⟩)
    go_wp2_with fail
    go_ret2
    exact ⟨_, _, rfl, hF, below_then hb hb2 hs1⟩
  · have hp : isPermB xs = false := by simpa using hp
    have hF : (([] : List UInt8), (1 : Int)) = ptF xs := by simp [ptF, hp]
    replace hF := Lib.hid hF
    replace hp := Lib.hid hp
    replace hl := Lib.hid hl
    go_enter Tryd.func10, Tryd.ntmps10
    go_wp2_with fail
    ((with_reducible refine (l01Perm_any _ _ _ xs _ _ _ h hhi).mono ?_); rintro e w1 ⟨rfl, hb⟩)
    rw [hp.out]
    go_wp2_with fail
    go_ret2
    exact ⟨[], _, rfl, hF, hb⟩
end Go.Proofs.YtcjnhiglfkcmiaaDoor
/- PtlP -/
namespace Go.Proofs.YtcjnhiglfkcmiaaDoor
set_option linter.unusedVariables false
set_option maxRecDepth 100000
theorem map_inj_in {α β : Type} {f : α → β} : ∀ {xs ys : List α}, (∀ x ∈ xs, ∀ y ∈ ys, f x = f y → x = y) → xs.map f = ys.map f → xs = ys
  | [], [], _, _ => rfl
  | [], y :: ys, _, h => by simp at h
  | x :: xs, [], _, h => by simp at h
  | x :: xs, y :: ys, hf, h => by
    simp only [List.map_cons, List.cons.injEq] at h
    rw [hf x (by simp) y (by simp) h.1, map_inj_in (fun a ha b hb => hf a (by simp [ha]) b (by simp [hb])) h.2]
theorem mixL_congr {n : Nat} {q q' : List Int} {cs : List (List Int)} (h : ∀ c ∈ cs, ∀ x ∈ c, at' q x = at' q' x) : mixL n q cs = mixL n q' cs := by
  unfold mixL
  refine List.map_congr_left fun x _ => ?_
  by_cases hx : cs.any (fun c => c.contains (x : Int)) = true
  · rw [if_pos hx, if_pos hx]
    obtain ⟨c, hc, hm⟩ := List.any_eq_true.1 hx
    exact h c hc x (by simpa using hm)
  · rw [if_neg hx, if_neg hx]
theorem PT.mix {n : Nat} {L : List UInt8} {q : List Int} (h : PT n L q) : mixL n q (cyc2 q) = q := by
  have := mixL_all h.1
  rwa [h.2.1] at this
theorem PT.notnil {n : Nat} {L : List UInt8} {q c : List Int} (h : PT n L q) (hc : c ∈ cyc2 q) : numsB 32 c ≠ [] := fun e => by
  have hw := h.words hc
  have h1 := (h.cyc hc).1
  rw [e] at hw
  have := congrArg List.length hw
  rw [List.length_map] at this
  have e2 : (spl 32 ([] : List UInt8)).length = 1 := by simp [spl]
  omega
theorem PT.cycs {n : Nat} {L : List UInt8} {q q' : List Int} (h : PT n L q) (h' : PT n L q') : cyc2 q = cyc2 q' := by
  have hi : innerB q = innerB q' := by
    have e := h.text.symm.trans h'.text
    simpa using e
  rcases h.inner with ⟨a, b⟩ | ⟨a, b⟩ <;> rcases h'.inner with ⟨a', b'⟩ | ⟨a', b'⟩
  · rw [a, a']
  · exfalso
    rw [← hi, b] at b'
    cases hc : cyc2 q' with
    | nil => exact a' hc
    | cons c r =>
      rw [hc] at b'
      simp at b'
      exact h'.notnil (by rw [hc]; simp) b'.1
  · exfalso
    rw [hi, b'] at b
    cases hc : cyc2 q with
    | nil => exact a hc
    | cons c r =>
      rw [hc] at b
      simp at b
      exact h.notnil (by rw [hc]; simp) b.1
  · rw [hi, b'] at b
    refine map_inj_in (fun x hx y hy e => ?_) b.symm
    have e1 := h.words hx
    have e2 := h'.words hy
    rw [e, e2] at e1
    exact (itoa_inj_map (h'.small hy) (h.small hx) e1).symm
theorem PT.uniq {n : Nat} {L : List UInt8} {q q' : List Int} (h : PT n L q) (h' : PT n L q') : q = q' := by
  have hc := h.cycs h'
  rw [← h.mix, ← h'.mix, hc]
  refine mixL_congr fun c hm x hx => ?_
  obtain ⟨j, hj, e⟩ := List.getElem_of_mem hx
  have hg : c[j]? = some x := by rw [List.getElem?_eq_getElem hj, e]
  have e1 := (h.cyc (hc ▸ hm)).2.2 j x hg
  have e2 := (h'.cyc hm).2.2 j x hg
  exact Option.some.inj (e1.symm.trans e2)
theorem psf_at {n : Nat} (hn : n ≤ 400) (L : List UInt8) : psF (n : Int) L = psG n L := by
  unfold psF
  rw [if_pos (by unfold inR; simp; omega), Int.toNat_natCast]
theorem ps_back {xs : List Int} (h : isPermB xs = true) : psF (xs.length : Int) (permB xs) = (xs, 0) := by
  have hp : isPermP xs := of_decide_eq_true h
  have hP : PT xs.length (permB xs) xs := ⟨hp, rfl, rfl⟩
  have hl := hP.le
  rw [psf_at hl]
  exact psG_yes hP ⟨rfl, fun q hq => hP.uniq hq⟩
theorem ps_sound {x : Int} {L : List UInt8} {zs : List Int} (h : psF x L = (zs, 0)) : ptF zs = (L, 0) := by
  unfold psF at h
  by_cases hx : inR 0 400 x = true
  · rw [if_pos hx] at h
    unfold psG at h
    by_cases hq : ∃ q, PT x.toNat L q
    · rw [dif_pos hq] at h
      have hs := hq.choose_spec
      obtain ⟨h1, h2, h3⟩ := hs
      have e : hq.choose = zs := (Prod.mk.inj h).1
      rw [e] at h1 h3
      unfold ptF
      rw [if_pos (show isPermB zs = true from decide_eq_true h1), h3]
    · rw [dif_neg hq] at h
      have := (Prod.mk.inj h).2
      omega
  · rw [if_neg hx] at h
    have := (Prod.mk.inj h).2
    omega
theorem pt_zero {xs : List Int} {s : List UInt8} (h : ptF xs = (s, 0)) : isPermB xs = true ∧ s = permB xs := by
  unfold ptF at h
  by_cases hp : isPermB xs = true
  · rw [if_pos hp] at h
    exact ⟨hp, (Prod.mk.inj h).1.symm⟩
  · rw [if_neg hp] at h
    have := (Prod.mk.inj h).2
    omega
theorem pt_code {xs : List Int} : (ptF xs).2 = 0 ∨ (ptF xs).2 = 1 := by
  unfold ptF
  by_cases hp : isPermB xs = true
  · rw [if_pos hp]; exact .inl rfl
  · rw [if_neg hp]; exact .inr rfl
theorem permB_len {xs : List Int} (h : isPermP xs) : (permB xs).length ≤ 5000 := PT.len (n := xs.length) ⟨h, rfl, rfl⟩
end Go.Proofs.YtcjnhiglfkcmiaaDoor
/- DrwT -/
namespace Go.Proofs.YtcjnhiglfkcmiaaDoor
open Go.RowKit
set_option linter.unusedVariables false
set_option maxRecDepth 100000
theorem drawIsPerm_any (w : World) (A : Option Addr) (n c : Nat) (bs : List Int) (h : Rd w 0 w.heap.size A n (bs.map (Value.int .u8))) (hb : ∀ x ∈ bs, 0 ≤ x ∧ x < 256) (hn : n ≤ 1048576) :
    Calls Tryd.prog 39 #[.slice A n c] w fun e w' => ∃ (A1 : Option Addr) (n1 c1 : Nat) (xs : List Int), e = .returned (.slice A1 n1 c1) ∧ Own w' w.heap.size w'.heap.size 2 A1 n1 c1 (xs.map (Value.int .i64)) ∧ n1 ≤ 402 ∧ Below w.heap.size w w' := by
  have hF := from_any w A n c bs h hb hn
  replace hb := Lib.hid hb
  go_enter Tryd.func39, Tryd.ntmps39
  go_wp2_with fail
  ((with_reducible refine hF.mono ?_); rintro e w1 ⟨H1, rfl, S1, B1⟩)
  clear hF
  go_wp2_with fail
  ((with_reducible refine (size_any w1 _ _ A n c bs _ _ S1).mono ?_); rintro e w2 ⟨m, rfl, hm, i2, h2, S2, C2⟩)
  have g2 := S2.lt
  have s1 := B1.size
  have s2 := C2.size
  go_wp2_with fail
  ((with_reducible refine (spoil_any w2 _ _ A n c bs _ _ S2 m (by omega)).mono ?_); rintro e w3 ⟨A1, c1, rfl, i3, h3, xs, O3, S3, C3⟩)
  have s3 := C3.size
  have D3 := C2.trans C3 ⟨Nat.le_refl _, Nat.le_refl _⟩ ⟨Nat.le_refl _, Nat.le_refl _⟩
  have E3 := B1.trans (D3.below (Nat.le_refl _) (by omega))
  go_wp2_with fail
  go_ret
  exact ⟨A1, m, c1, xs, rfl, O3.more (by omega) (Nat.le_refl _), by omega, E3⟩
theorem drawPermText_any (w : World) (A : Option Addr) (n c : Nat) (bs : List Int) (h : Rd w 0 w.heap.size A n (bs.map (Value.int .u8))) (hb : ∀ x ∈ bs, 0 ≤ x ∧ x < 256) (hn : n ≤ 1048576) :
    Calls Tryd.prog 8 #[.slice A n c] w fun e w' => ∃ (A1 : Option Addr) (n1 c1 : Nat) (xs : List Int), e = .returned (.slice A1 n1 c1) ∧ Own w' w.heap.size w'.heap.size 2 A1 n1 c1 (xs.map (Value.int .i64)) ∧ n1 ≤ 402 ∧ Below w.heap.size w w' := by
  have hF := drawIsPerm_any w A n c bs h hb hn
  replace hb := Lib.hid hb
  go_enter Tryd.func8, Tryd.ntmps8
  go_wp2_with fail
  ((with_reducible refine hF.mono ?_); rintro e w1 ⟨A1, n1, c1, xs, rfl, O1, hn1, B1⟩)
  clear hF
  go_wp2_with fail
  go_ret
  exact ⟨A1, n1, c1, xs, rfl, O1, hn1, B1⟩
/-- a drawn number of points and a drawn text -/
def DrawTx (w w' : World) (x : Int) (L : List UInt8) : Prop := (-1 ≤ x ∧ x ≤ 401) ∧ L.length ≤ 4294967296 ∧ Below w.heap.size w w'
set_option maxHeartbeats 4000000 in
theorem drawParsePerm_any (w : World) (A : Option Addr) (n c : Nat) (bs : List Int) (h : Rd w 0 w.heap.size A n (bs.map (Value.int .u8))) (hb : ∀ x ∈ bs, 0 ≤ x ∧ x < 256) (hn : n ≤ 4096) :
    Calls Tryd.prog 13 #[.slice A n c] w fun e w' => ∃ (x : Int) (L : List UInt8), e = .returned (.tuple #[.int .i64 x, .string (strB L)]) ∧ DrawTx w w' x L := by
  have hF := from_any w A n c bs h hb (by omega)
  replace hb := Lib.hid hb
  go_enter Tryd.func13, Tryd.ntmps13
  go_wp2_with fail
  ((with_reducible refine hF.mono ?_); rintro e w1 ⟨H1, rfl, S1, B1⟩)
  clear hF
  have s1 := B1.size
  have g1 := S1.lt
  go_wp2_with fail
  ((with_reducible refine (next_nat w1 _ _ A n c bs _ _ S1 13 (by omega) (by omega)).mono ?_); rintro e w2 ⟨m, rfl, hm, i2, h2, S2, C2⟩)
  have s2 := C2.size
  go_wp2_with fail
  ((with_reducible refine (draw_any w2 _ _ A n c bs _ _ S2 m (by omega)).mono ?_); rintro e w3 ⟨A3, c3, rfl, i3, h3, xs, O3, P3, S3, C3⟩)
  have s3 := C3.size
  have D3 := C2.trans C3 ⟨Nat.le_refl _, Nat.le_refl _⟩ ⟨Nat.le_refl _, Nat.le_refl _⟩
  have hid := idL_perm (n := m) (by omega)
  have hxl := O3.lenI
  have hP : isPermP xs := ⟨by omega, fun x hx => by
    have := hid.rng x (P3.mem_iff.1 hx)
    rw [idL_length] at this
    omega, P3.nodup_iff.2 hid.nd⟩
  have hpl := permB_len hP
  have hT := l01Text_any A3 m c3 xs w3 O3.ri (Nat.le_refl _) (by omega) (fun x hx => by have := hP.rng x hx; omega)
  generalize permB xs = L0 at *
  replace hP := Lib.hid hP
  replace hxl := Lib.hid hxl
  replace hid := Lib.hid hid
  clear P3
  go_wp2_with fail
  ((with_reducible refine hT.mono ?_); rintro e w4 ⟨rfl, B4⟩)
  clear hT
  have s4 := B4.size
  have g3 := S3.lt
  have S4 := S3.below B4 g3
  have D4 := D3.trans_below B4
  have i3l := S4.le
  have hst := S4.st
  obtain ⟨K, hK⟩ : ∃ K : Nat, K = 5592406 * 549755813888 := ⟨_, rfl⟩
  replace hK := Lib.hid hK
  obtain ⟨f0, hf0, hD0⟩ := DmgL.start (K := K) (n := n) (i := i3) (h := h3) (len0 := 5000) i3l hst hpl
  replace hD0 := Lib.hid hD0
  clear S1 S2 S3 C2 C3 D3 O3 B4 hpl
  go_wp2_with fail
  go_loopg [6] (n + (K + 3)) (fun f tv wq => ∃ (L : List UInt8) (i h f1 : Nat), tv = .string (strB L) ∧ f1 ≤ f ∧ Hid (DmgL K n i h L 5000 f1) ∧ Src wq w.heap.size w.heap.size 97 A n c bs i h ∧ Chg w.heap.size (w.heap.size + 1) w1 wq)
  case atStart => exact ⟨L0, i3, h3, f0, rfl, hf0, hD0, S4, D4⟩
  case round =>
    clear S4 D4 hD0 hf0 i3l hst
    obtain ⟨L, i, h, f1, rfl, hf1, hD, S, D⟩ := hrel
    have hll := hD.out.len
    have sD := D.size
    have gS := S.lt
    have hn1 := next_any wr _ _ A n c bs i h S 3 (by omega) (by omega)
    go_wp2_with fail
    ((with_reducible refine hn1.mono ?_); rintro e w5 ⟨v, i5, rfl, P⟩)
    clear hn1
    have S5 := P.src
    have D5 := D.trans P.chg ⟨Nat.le_refl _, Nat.le_refl _⟩ ⟨Nat.le_refl _, Nat.le_refl _⟩
    have st5 := P.step
    have dn5 := P.done
    have z5 := P.size
    clear P
    have sle := S.le
    clear S D
    by_cases hv : v = 0
    · have hdm := l01Damage_any w5 _ _ A n c bs i5 _ S5 L (by omega)
      have d0 : (v == 0) = true := by rw [hv]; rfl
      have hv2 := Lib.hid hv
      clear hv
      go_wp2_with fail
      ((with_reducible refine hdm.mono ?_); rintro e w6 ⟨L', i6, h6, rfl, Q⟩)
      clear hdm
      have le5 := S5.le
      obtain ⟨f2, hf2, hD2⟩ := hD.out.next hK.out sle st5 (fun hh => dn5 hh) hv2.out Q.len Q.one Q.rise Q.stay Q.src.le Q.src.st
      have S6 := Q.src
      have D6 := D5.trans Q.chg ⟨Nat.le_refl _, Nat.le_refl _⟩ ⟨Nat.le_refl _, Nat.le_refl _⟩
      replace hD2 := Lib.hid hD2
      clear Q hD st5 dn5 S5 D5 hv2
      go_wp2_with fail
      go_roundg f2
      case measure => omega
      case rel => exact ⟨L', i6, h6, f2, rfl, Nat.le_refl _, hD2, S6, D6⟩
    · have d0 : (v == 0) = false := by simpa using hv
      clear hv st5 dn5 hD
      have hn2 := next_nat w5 _ _ A n c bs i5 _ S5 16 (by omega) (by omega)
      have s5 := D5.size
      go_wp2_with fail
      ((with_reducible refine hn2.mono ?_); rintro e w6 ⟨u, rfl, hu, i6, h6, S6, C6⟩)
      clear hn2
      have s6 := C6.size
      have D6 := D5.trans C6 ⟨Nat.le_refl _, Nat.le_refl _⟩ ⟨Nat.le_refl _, Nat.le_refl _⟩
      by_cases hu0 : u = 0
      · subst hu0
        have L7 : RI (w6.alloc (.cells #[.int .i64 (-1), .int .i64 401, .int .i64 ((m : Int) + 1), .int .i64 ((m : Int) - 1), .int .i64 400] 2)) w6.heap.size (w6.heap.size + 1) (some ⟨w6.heap.size, 0, none⟩) 5 [-1, 401, (m : Int) + 1, (m : Int) - 1, 400] := lit_rd w6 #[.int .i64 (-1), .int .i64 401, .int .i64 ((m : Int) + 1), .int .i64 ((m : Int) - 1), .int .i64 400] 2 (by simp)
        have B7 : Below w6.heap.size w6 (w6.alloc (.cells #[.int .i64 (-1), .int .i64 401, .int .i64 ((m : Int) + 1), .int .i64 ((m : Int) - 1), .int .i64 400] 2)) := (Below.refl _ _).alloc (Nat.le_refl _) _
        have g6 := S6.lt
        have S7 := S6.below B7 g6
        have D7 := D6.trans_below B7
        have hp := pick_any _ _ _ A n c bs i6 _ S7 _ 5 5 _ L7 (by omega) (by simp) (by omega) (by omega)
        go_wp2_with fail
        ((with_reducible refine hp.mono ?_); rintro e w8 ⟨v8, i8, h8, y, rfl, hy, S8, C8, z8⟩)
        have hy := List.mem_of_getElem? hy
        have hy8 : -1 ≤ y ∧ y ≤ 401 := by simp at hy; omega
        have D8 := D7.trans C8 ⟨Nat.le_refl _, Nat.le_refl _⟩ ⟨Nat.le_refl _, Nat.le_refl _⟩
        have E8 := B1.trans (D8.below (Nat.le_refl _) (by omega))
        clear hp
        go_wp2_with fail
        go_ret2
        exact ⟨y, L, rfl, hy8, by omega, E8⟩
      · have d1 : ((u : Int) == 0) = false := by simp; omega
        have E6 := B1.trans (D6.below (Nat.le_refl _) (by omega))
        go_wp2_with fail
        go_ret2
        exact ⟨m, L, rfl, ⟨by omega, by omega⟩, by omega, E6⟩
end Go.Proofs.YtcjnhiglfkcmiaaDoor
/- Like -/
namespace Go.Proofs.YtcjnhiglfkcmiaaDoor
open Go.RowKit
set_option linter.unusedVariables false
set_option maxRecDepth 100000
set_option maxHeartbeats 400000 in
theorem like_q (A : Option Addr) (n c : Nat) (xs : List Int) (A' : Option Addr) (n' c' : Nat) (ys : List Int) (w : World) (lo hi lo' hi' : Nat) (h : RI w lo hi A n xs) (h' : RI w lo' hi' A' n' ys) (hhi : hi ≤ w.heap.size) (hhi' : hi' ≤ w.heap.size) :
    Calls Tryd.prog 12 #[.slice A n c, .slice A' n' c'] w fun e w' => e = .returned (.bool (decide (xs = ys))) ∧ ∃ m, w' = w.drewN m := by
  have hm := h.max
  have hm' := h'.max
  have hl := h.len
  have hl' := h'.len
  replace hl := Lib.hid hl
  replace hl' := Lib.hid hl'
  by_cases hne : n = n'
  · subst hne
    go_enter Tryd.func12, Tryd.ntmps12
    go_wp2
    go_loopw [5] (fun i wr => ∃ k : Nat, k ≤ n ∧ i = .int .i64 k ∧ (∀ j, j < k → xs[j]? = ys[j]?) ∧ (∃ m, wr = w.drewN m)) (fun i wr => n - (intOf i).toNat)
    case atStart => exact ⟨0, by omega, rfl, fun j hj => absurd hj (by omega), 0, rfl⟩
    case round =>
      obtain ⟨k, hk, rfl, hys, md, hmd⟩ := hrel
      have hb : Below w.heap.size w wr := by rw [hmd]; exact below_drewN (Below.refl _ _) _
      replace hmd := Lib.hid hmd
      replace hys := Lib.hid hys
      by_cases hlt : k < n
      · obtain ⟨b, o, x, rfl, _, _, hx, hc⟩ := (h.below hb hhi).at_ hlt
        obtain ⟨b', o', y, rfl, _, _, hy, hc'⟩ := (h'.below hb hhi').at_ hlt
        replace hx := Lib.hid hx
        replace hy := Lib.hid hy
        by_cases hxy : x = y
        · subst hxy
          go_wp2
          go_quiet (fail)
          go_wp2
          go_roundw
          case rel =>
            refine ⟨k + 1, by omega, by go_num, fun j hj => ?_, md + nq, by rw [hmd.out, World.drewN_drewN]⟩
            by_cases e : j = k
            · subst e; rw [hx.out, hy.out]
            · exact hys.out j (by omega)
          case measure => simp [intOf]; omega
        · have hxy' : (x != y) = true := by simpa using hxy
          go_wp2
          go_quiet (fail)
          go_wp2
          go_ret
          refine ⟨ret_bool ?_, md + nq, by rw [hmd.out, World.drewN_drewN]⟩
          have hx := hx.out
          have hy := hy.out
          symm
          apply decide_eq_false
          rintro rfl
          rw [hx] at hy
          exact hxy (Option.some.inj hy)
      · go_wp2
        go_ret
        refine ⟨ret_bool ?_, md, hmd.out⟩
        have hl := hl.out
        have hl' := hl'.out
        symm
        apply decide_eq_true
        exact list_ext_upto k (by omega) (by omega) hys.out
  · have hne' : ((n : Int) != (n' : Int)) = true := by simp; omega
    go_enter Tryd.func12, Tryd.ntmps12
    go_wp2
    go_ret
    refine ⟨ret_bool ?_, 0, rfl⟩
    have hl := hl.out
    have hl' := hl'.out
    symm
    apply decide_eq_false
    rintro rfl
    omega

theorem like_any (A : Option Addr) (n c : Nat) (xs : List Int) (A' : Option Addr) (n' c' : Nat) (ys : List Int) (w : World) (lo hi lo' hi' : Nat) (h : RI w lo hi A n xs) (h' : RI w lo' hi' A' n' ys) (hhi : hi ≤ w.heap.size) (hhi' : hi' ≤ w.heap.size) :
    Calls Tryd.prog 12 #[.slice A n c, .slice A' n' c'] w fun e w' => e = .returned (.bool (decide (xs = ys))) ∧ Below w.heap.size w w' :=
  (like_q A n c xs A' n' c' ys w lo hi lo' hi' h h' hhi hhi').mono fun e w' ⟨he, m, hm⟩ => ⟨he, by rw [hm]; exact below_drewN (Below.refl _ _) _⟩

end Go.Proofs.YtcjnhiglfkcmiaaDoor
/- Crd -/
namespace Go.Proofs.YtcjnhiglfkcmiaaDoor
open Go.ChangeShapes Go.WideShapes Go.ChangeAt Go.RowKit
set_option linter.unusedVariables false
section
variable {H : Type} {enc : TypeId × Value → H}
theorem handed_and_shaped {a : Assume} {C : Checked} {os : Os} {f : FuncId} {fn : Func} {s : ChangeSpec} {conds : List PathCond} {apart fresh handsOn again : Bool} {X : World → Array Value → Prop}
    (hX : ∀ (w w' : World) (args : Array Value), w.heap = w'.heap → X w args → X w' args)
    (own : ownKnob C.prog.godebug = none) (started : os.Started) (noInit : C.prog.inits.idxOf? f = none) (hfn : C.prog.funcs[f]? = some fn)
    (witness : ∃ (w : World) (tape : Tape) (i : Input), w.os = os ∧ (w.forCall tape i).Shaped C.prog ∧ i.vars = [] ∧ Input.okWide C.prog (w.forCall tape i) .any w.heap.size f i ∧
      ((s.pre enc C.prog fn conds apart (w.forCall tape i).memory i.args ∧ X (w.forCall tape i).memory i.args) ∧ sizedMet enc C.prog fn (OpenSpec.ofChange s) apart (w.forCall tape i).memory i.args) ∧ a.holds C.prog (lone (Frame.enter C.prog f i.args .normal) [] (w.forCall tape i)))
    (contract : ∀ (W : World) (base : Nat) (args : Array Value) (ds gs : List (DataW H)) (before : List MemPlace),
      (∀ (j : Nat) t v, fn.params[j]? = some t → args[j]? = some v → Value.okWide C.prog W .any base t v) →
      DataW.Whole enc C.prog fn.params.toList s.vars apart W args.toList ds gs before →
      X W args → W.ShapedOpen C.prog →
      Calls C.prog f args W fun e W' => ∃ v, e = .returned v ∧ s.post enc C.prog fn apart fresh handsOn again W args v W') :
    ReturnsInHanded a C os f .any (fun w args => (s.pre enc C.prog fn conds apart w args ∧ X w args) ∧ sizedMet enc C.prog fn (OpenSpec.ofChange s) apart w args) (s.post enc C.prog fn apart fresh handsOn again) := by
  refine returnsInHanded_of_calls own started noInit witness ?_
  intro w tape i _ hsh _ hok hpre hholds
  obtain ⟨_, _, _, fn', hfn', _, _, _, _, hval⟩ := hok
  have e : fn' = fn := Option.some.inj (hfn'.symm.trans hfn)
  subst e
  obtain ⟨⟨⟨ds, gs, before, hw, hc⟩, hx⟩, hz⟩ := hpre
  have hw' := DataW.Whole.of_heap (w' := w.forCall tape i) (by rfl) hw
  refine (contract (w.forCall tape i) w.heap.size i.args ds gs before hval hw' (hX _ _ _ (by rfl) hx) hsh).mono fun e W' ⟨v, he, hp⟩ => ?_
  subst he
  exact ChangeSpec.post_blind hp
end
theorem lt_of_cell {W : World} {g o : Nat} {v : Value} (h : W.cell? ⟨g, o, none⟩ = some v) : g < W.heap.size := by
  by_cases hg : g < W.heap.size
  · exact hg
  · have : W.heap[g]? = none := by simp; omega
    simp [World.cell?, this] at h
theorem mx_of_shaped {W : World} (h : W.ShapedOpen Tryd.prog) : MX W.heap.size W := by
  obtain ⟨m, hm⟩ := cell_of_shapedOpen_int (g := 0) (t := 3) (zero := #[.int .i64 0]) (k := .i64) h (of_decide_eq_true (by kernel_rfl)) (by kernel_rfl) rfl (by kernel_rfl) (by kernel_rfl) Tryd.underlying3
  exact ⟨m, fun w' hb => (hb.cell (p := ⟨0, 0, none⟩) (lt_of_cell hm)).trans hm⟩
end Go.Proofs.YtcjnhiglfkcmiaaDoor
/- CrdE -/
namespace Go.Proofs.YtcjnhiglfkcmiaaDoor
open Go.ChangeShapes Go.WideShapes Go.ChangeAt Go.RowKit
set_option linter.unusedVariables false
theorem var_all {P : Program} {n : String} {W : World} {cs : Array Value} (hv : W.var? P n = some cs) : ∀ w', Below W.heap.size W w' → w'.var? P n = some cs := by
  intro w' hb
  unfold World.var? at hv ⊢
  cases hg : P.globalNamed n with
  | none => rw [hg] at hv; simp at hv
  | some g =>
    rw [hg] at hv
    simp only [Option.bind_some] at hv ⊢
    have hlt : g < W.heap.size := by
      by_cases h : g < W.heap.size
      · exact h
      · have : W.heap[g]? = none := by simp; omega
        rw [this] at hv
        simp at hv
    rw [hb.block g hlt]
    exact hv
theorem star_es : "*" ++ "errors.errorString" = "*errors.errorString" := by decide
theorem row_es (u : TypeId) (h : Tryd.prog.typeName? 3 u = some "*errors.errorString") : u = 209 :=
  typeName_ptr_named (nm := "errors.errorString") (by rw [star_es]; kernel_rfl) (by kernel_rfl) (by decide) u (by rw [star_es]; exact h)
theorem ev_of {x1 x2 : List UInt8} {r1 r2 : List (String × DataW Unit)} {W : World}
    (h4 : laidMet Tryd.prog (("strconv.ErrRange", .iface "*errors.errorString" (.ptr (.agg [.lit (.string x1)]))) :: r1) W)
    (h5 : laidMet Tryd.prog (("strconv.ErrSyntax", .iface "*errors.errorString" (.ptr (.agg [.lit (.string x2)]))) :: r2) W) : EV W.heap.size W := by
  obtain ⟨a, s, hv, _⟩ := laid_sentinel (g := 2) (ti := 117) (tp := 209) (te := 211) (ts := 9) h4 (by kernel_rfl) (by kernel_rfl) Tryd.underlying117 row_es Tryd.underlying209 Tryd.underlying211 rfl rfl Tryd.underlying9 (by kernel_rfl) (by kernel_rfl)
  obtain ⟨a2, s2, hv2, _⟩ := laid_sentinel (g := 1) (ti := 117) (tp := 209) (te := 211) (ts := 9) h5 (by kernel_rfl) (by kernel_rfl) Tryd.underlying117 row_es Tryd.underlying209 Tryd.underlying211 rfl rfl Tryd.underlying9 (by kernel_rfl) (by kernel_rfl)
  exact ⟨⟨_, _, var_all hv2⟩, ⟨_, _, var_all hv⟩⟩
end Go.Proofs.YtcjnhiglfkcmiaaDoor
/- LPermutationTexts -/
namespace Go.Proofs.YtcjnhiglfkcmiaaDoor.fnPermutationTexts
open Go.ChangeShapes Go.WideShapes Go.ChangeAt Go.RowKit
open Go.ChangeMaps (open_string shut_string)
set_option linter.unusedVariables false
theorem own : ownKnob Tryd.prog.godebug = none := by kernel_rfl
theorem laidOut : laidOutB Tryd.prog = true := by kernel_rfl
/-- what the condition gives the walk: the table of the powers of ten -/
theorem t10 {W : World} (h : laidMetH Tryd.prog Rows.fnPermutationTextsRow.laid W) : T10 W.heap.size W := by
  rw [MakeChecks.laidMetH_plain _ _ _ (by kernel_rfl)] at h
  exact Lib.tabBelow_of_tabIs (Lib.tabIs_of_head (g := 3) (t := 201) (e := 54) (n := 20) (by kernel_rfl) (by kernel_rfl) Tryd.underlying201 Tryd.underlying54 (by kernel_rfl) (by kernel_rfl) h.tail.tail)
theorem evs {W : World} (h : laidMetH Tryd.prog Rows.fnPermutationTextsRow.laid W) : EV W.heap.size W := by
  rw [MakeChecks.laidMetH_plain _ _ _ (by kernel_rfl)] at h
  exact ev_of h.tail.tail.tail.tail h.tail.tail.tail.tail.tail
theorem big_any (a : Option Addr) (n c : Nat) (w : World) (hn : n ≤ 9223372036854775807) : Calls Tryd.prog 7 #[.slice a n c] w fun e w' => e = .returned (.bool (decide (4096 < n))) ∧ w = w' := by
  have hd : decide ((4096 : Int) < (n : Int)) = decide (4096 < n) := decide_eq_decide.2 (by omega)
  replace hd := Lib.hid hd
  go_enter Tryd.func7, Tryd.ntmps7
  go_wp2_with fail
  go_ret
  exact ⟨ret_bool hd.out, rfl⟩
theorem str_same (s : List UInt8) : (s == s) = true ∧ (s != s) = false := by simp
set_option maxRecDepth 100000 in
set_option maxHeartbeats 8000000 in
theorem walk (a : Option Addr) (n c : Nat) (bs : List Int) (w : World) (h : Rd w 0 w.heap.size a n (bs.map (Value.int .u8))) (hb : ∀ x ∈ bs, 0 ≤ x ∧ x < 256) (hT : T10 w.heap.size w) (hM : MX w.heap.size w) (hE : EV w.heap.size w) :
    Calls Tryd.prog 3 #[.slice a n c] w fun e w' => e = .returned (.bool true) ∧ Below w.heap.size w w' := by
  have hm := h.2.1
  have hbig := big_any a n c w hm
  by_cases h4 : 4096 < n
  · rw [decide_eq_true h4] at hbig
    replace hb := Lib.hid hb
    go_enter Tryd.func3, Tryd.ntmps3
    go_wp2_with fail
    ((with_reducible refine hbig.mono ?_); rintro e w' ⟨rfl, rfl⟩)
    go_wp2_with fail
    go_ret
    exact ⟨rfl, Below.refl _ _⟩
  · rw [decide_eq_false h4] at hbig
    have hdr := drawPermText_any w a n c bs h hb (by omega)
    have hdp := fun V (hV : Below w.heap.size w V) => drawParsePerm_any V a n c bs ((h.keep (Same.of_below hV (Nat.le_refl _))).more (Nat.le_refl _) hV.size) hb (by omega)
    replace hb := Lib.hid hb
    go_enter Tryd.func3, Tryd.ntmps3
    go_wp2_with fail
    ((with_reducible refine hbig.mono ?_); rintro e w' ⟨rfl, rfl⟩)
    go_wp2_with fail
    ((with_reducible refine hdr.mono ?_); rintro e w1 ⟨A1, n1, c1, xs, rfl, o1, hn1, f1⟩)
    clear hbig hdr
    have y1 := f1.size
    have B1 : Below w.heap.size w w1 := f1
    have hl1 := o1.lenI
    replace hl1 := Lib.hid hl1
    go_wp2_with fail
    ((with_reducible refine (i_PermutationText_any w1 A1 n1 c1 xs o1.ri (by omega) (hT.on B1) (by omega)).mono ?_); rintro e w2 ⟨s, code, rfl, H2, f2⟩)
    have y2 := f2.size
    have B2 := below_then B1 f2 (by omega)
    have o1 := o1.below f2 (by omega)
    go_wp2_with fail
    ((with_reducible refine (s_PermutationText_any w2 A1 n1 c1 xs o1.ri (by omega)).mono ?_); rintro e w3 ⟨s2, code2, rfl, H3, f3⟩)
    obtain ⟨rfl, rfl⟩ : s = s2 ∧ code = code2 := by have e := H2.out.trans H3.out.symm; simpa using e
    clear H3
    have y3 := f3.size
    have B3 := below_then B2 f3 (by omega)
    have o1 := o1.below f3 (by omega)
    obtain ⟨hss, hss2⟩ := str_same s
    have hcc : (code != code) = false := by simp
    have hcode : code = 0 ∨ code = 1 := by have e := congrArg Prod.snd H2.out; have := pt_code (xs := xs); simp only at e; omega
    rcases hcode with rfl | rfl
    · obtain ⟨hpx, rfl⟩ := pt_zero H2.out.symm
      have hback := ps_back hpx
      rw [hl1.out] at hback
      have hpl := permB_len (of_decide_eq_true hpx : isPermP xs)
      have d0 : ((0 : Int) == 0) = true := rfl
      have hiP := i_ParsePermutation_any (n1 : Int) (by omega) (permB xs) (by omega) w3 (hT.on B3) (hE.on B3) (hM.on B3) (by omega)
      generalize permB xs = s at *
      replace hback := Lib.hid hback
      replace hpx := Lib.hid hpx
      clear H2
      go_wp2_with fail
      ((with_reducible refine hiP.mono ?_); rintro e w4 ⟨A4, n4, c4, zs, code4, rfl, H4, o4, hn4, f4⟩)
      clear hiP
      obtain ⟨rfl, rfl⟩ : zs = xs ∧ code4 = 0 := by have e := H4.out.trans hback.out; simpa using e
      clear H4
      have y4 := f4.size
      have B4 := below_then B3 f4 (by omega)
      have o1 := o1.below f4 (by omega)
      go_wp2_with fail
      ((with_reducible refine (like_any A4 n4 c4 zs A1 n1 c1 zs w4 _ _ _ _ o4.ri o1.ri (by omega) (by omega)).mono ?_); rintro e w5 ⟨rfl, f5⟩)
      rw [decide_eq_true (rfl : zs = zs)]
      have y5 := f5.size
      have B5 := below_then B4 f5 (by omega)
      clear o1 o4
      have hd2 := hdp w5 B5
      clear hdp
      go_wp2_with fail
      ((with_reducible refine hd2.mono ?_); rintro e w6 ⟨x, L, rfl, hx, hL, f6⟩)
      clear hd2
      have y6 := f6.size
      have B6 := below_then B5 f6 (by omega)
      have hiP := i_ParsePermutation_any x (by omega) L (by omega) w6 (hT.on B6) (hE.on B6) (hM.on B6) (by omega)
      go_wp2_with fail
      ((with_reducible refine hiP.mono ?_); rintro e w7 ⟨A7, n7, c7, q7, k7, rfl, H7, o7, hn7, f7⟩)
      clear hiP
      have y7 := f7.size
      have B7 := below_then B6 f7 (by omega)
      have hsP := s_ParsePermutation_any x (by omega) L (by omega) w7
      go_wp2_with fail
      ((with_reducible refine hsP.mono ?_); rintro e w8 ⟨A8, n8, c8, q8, k8, rfl, H8, o8, hn8, f8⟩)
      clear hsP
      obtain ⟨rfl, rfl⟩ : q7 = q8 ∧ k7 = k8 := by have e := H7.out.trans H8.out.symm; simpa using e
      clear H8
      have y8 := f8.size
      have B8 := below_then B7 f8 (by omega)
      have o7 := o7.below f8 (by omega)
      have hkk : (k7 != k7) = false := by simp
      go_wp2_with fail
      ((with_reducible refine (like_any A7 n7 c7 q7 A8 n8 c8 q7 w8 _ _ _ _ o7.ri o8.ri (by omega) (by omega)).mono ?_); rintro e w9 ⟨rfl, f9⟩)
      rw [decide_eq_true (rfl : q7 = q7)]
      have y9 := f9.size
      have B9 := below_then B8 f9 (by omega)
      have o7 := o7.below f9 (by omega)
      clear o8
      by_cases hk : k7 = 0
      · subst hk
        have hps := ps_sound H7.out.symm
        have d1 : ((0 : Int) != 0) = false := rfl
        have hpt := i_PermutationText_any w9 A7 n7 c7 q7 o7.ri (by omega) (hT.on B9) (by omega)
        replace hps := Lib.hid hps
        clear H7
        go_wp2_with fail
        ((with_reducible refine hpt.mono ?_); rintro e w10 ⟨s10, k10, rfl, H10, f10⟩)
        clear hpt
        obtain ⟨rfl, rfl⟩ : s10 = L ∧ k10 = 0 := by have e := H10.out.trans hps.out; simpa using e
        clear H10 hps
        have y10 := f10.size
        have B10 := below_then B9 f10 (by omega)
        obtain ⟨hLL, hLL2⟩ := str_same s10
        go_wp2_with fail
        go_ret
        exact ⟨rfl, B10⟩
      · have d1 : (k7 != 0) = true := by simpa using hk
        replace hk := Lib.hid hk
        clear H7
        go_wp2_with fail
        go_ret
        exact ⟨rfl, B9⟩
    · have d0 : ((1 : Int) == 0) = false := rfl
      clear H2 o1
      have hd2 := hdp w3 B3
      clear hdp
      go_wp2_with fail
      ((with_reducible refine hd2.mono ?_); rintro e w6 ⟨x, L, rfl, hx, hL, f6⟩)
      clear hd2
      have y6 := f6.size
      have B6 := below_then B3 f6 (by omega)
      have hiP := i_ParsePermutation_any x (by omega) L (by omega) w6 (hT.on B6) (hE.on B6) (hM.on B6) (by omega)
      go_wp2_with fail
      ((with_reducible refine hiP.mono ?_); rintro e w7 ⟨A7, n7, c7, q7, k7, rfl, H7, o7, hn7, f7⟩)
      clear hiP
      have y7 := f7.size
      have B7 := below_then B6 f7 (by omega)
      have hsP := s_ParsePermutation_any x (by omega) L (by omega) w7
      go_wp2_with fail
      ((with_reducible refine hsP.mono ?_); rintro e w8 ⟨A8, n8, c8, q8, k8, rfl, H8, o8, hn8, f8⟩)
      clear hsP
      obtain ⟨rfl, rfl⟩ : q7 = q8 ∧ k7 = k8 := by have e := H7.out.trans H8.out.symm; simpa using e
      clear H8
      have y8 := f8.size
      have B8 := below_then B7 f8 (by omega)
      have o7 := o7.below f8 (by omega)
      have hkk : (k7 != k7) = false := by simp
      go_wp2_with fail
      ((with_reducible refine (like_any A7 n7 c7 q7 A8 n8 c8 q7 w8 _ _ _ _ o7.ri o8.ri (by omega) (by omega)).mono ?_); rintro e w9 ⟨rfl, f9⟩)
      rw [decide_eq_true (rfl : q7 = q7)]
      have y9 := f9.size
      have B9 := below_then B8 f9 (by omega)
      have o7 := o7.below f9 (by omega)
      clear o8
      by_cases hk : k7 = 0
      · subst hk
        have hps := ps_sound H7.out.symm
        have d1 : ((0 : Int) != 0) = false := rfl
        have hpt := i_PermutationText_any w9 A7 n7 c7 q7 o7.ri (by omega) (hT.on B9) (by omega)
        replace hps := Lib.hid hps
        clear H7
        go_wp2_with fail
        ((with_reducible refine hpt.mono ?_); rintro e w10 ⟨s10, k10, rfl, H10, f10⟩)
        clear hpt
        obtain ⟨rfl, rfl⟩ : s10 = L ∧ k10 = 0 := by have e := H10.out.trans hps.out; simpa using e
        clear H10 hps
        have y10 := f10.size
        have B10 := below_then B9 f10 (by omega)
        obtain ⟨hLL, hLL2⟩ := str_same s10
        go_wp2_with fail
        go_ret
        exact ⟨rfl, B10⟩
      · have d1 : (k7 != 0) = true := by simpa using hk
        replace hk := Lib.hid hk
        clear H7
        go_wp2_with fail
        go_ret
        exact ⟨rfl, B9⟩
/-- a world in which the listed variables lie meets the condition -/
theorem door_met (os : Os) (args : Array Value) : laidMetH Tryd.prog Rows.fnPermutationTextsRow.laid ((World.laidAll Tryd.prog os Rows.fnPermutationTextsRow.laid).forCall (fun _ _ => 0) ⟨#[], args, []⟩).memory :=
  by rw [MakeChecks.laidMetH_plain _ _ _ (by kernel_rfl)]; exact laidMet_laidAll _ (by kernel_rfl) (by kernel_rfl)
set_option maxRecDepth 100000 in
theorem lifted (os : Os) (started : os.Started) (H : Type) (enc : TypeId × Value → H) :
    ReturnsInHanded {} Tryd.checked os 3 .any (fun w args => (Rows.fnPermutationTextsSpec.pre enc Tryd.prog Tryd.f3 [] false w args ∧ laidMetH Tryd.prog Rows.fnPermutationTextsRow.laid w) ∧ sizedMet enc Tryd.prog Tryd.f3 (OpenSpec.ofChange Rows.fnPermutationTextsSpec) false w args)
      (Rows.fnPermutationTextsSpec.post enc Tryd.prog Tryd.f3 false true false false) := by
  refine handed_and_shaped (C := Tryd.checked) (X := fun w _ => laidMetH Tryd.prog Rows.fnPermutationTextsRow.laid w) (fun _ _ _ hh h => h.of_heap hh) own started (by kernel_rfl) Tryd.func3
    (ChangeSpec.witness_shaped (enc := enc) (C := Tryd.checked) (os := os) (X := fun w _ => laidMetH Tryd.prog Rows.fnPermutationTextsRow.laid w) false (World.laidAll Tryd.prog os Rows.fnPermutationTextsRow.laid) #[.slice none 0 0] 8 (World.laidAll_os _ _ _) (World.shaped_of_ZipB (by kernel_rfl) (by kernel_rfl)) (by kernel_rfl) (by kernel_rfl) (by kernel_rfl) (door_met os _)) ?_
  intro W base args ds gs before hval0 hW hL hsh
  have hval : ∀ (j : Nat) t v, Tryd.f3.params[j]? = some t → args[j]? = some v → Value.okWide Tryd.prog W .any base t v := hval0
  have hW' := hW
  obtain ⟨p, q, hA0, hV, rfl, hfz, hnd⟩ := hW
  have hA : DataW.TrodAll enc Tryd.prog W 0 (fun _ => true) true Tryd.f3.params.toList args.toList ds p := hA0
  rw [Tryd.params3] at hA hval
  obtain ⟨v0, vs0, d0, ds0, p0, q0, hargs, rfl, rfl, h0, r0⟩ := trodAll_cons hA
  obtain ⟨rfl, rfl, rfl⟩ := trodAll_nil r0
  obtain rfl : args = #[v0] := by cases args; simp_all
  obtain ⟨rfl, rfl⟩ := trodVars_none hV
  obtain ⟨a0, n0, c0, rfl⟩ := okWide_slice Tryd.underlying22 (hval 0 22 v0 rfl rfl)
  have k0 := h0
  have lt0 : ∀ x ∈ p0, x.block < W.heap.size := by obtain ⟨m, hm⟩ := k0; exact DataW.trod_lt m _ _ _ hm
  obtain ⟨xs0, w0, b0⟩ := open_RB Tryd.underlying22 Tryd.underlying5 (by kernel_rfl) h0
  clear hA0 hval0
  refine (walk a0 n0 c0 xs0 W w0 b0 (t10 hL) (mx_of_shaped hsh) (evs hL)).mono fun e W' ⟨he, bel⟩ => ?_
  subst he
  exact ⟨_, rfl, _, _, _, [], _, [], hW', trodAll_mk1 (shut_bool Tryd.underlying4 _), (trodAll_cons_mk (Below.trod laidOut (by kernel_rfl) (of_decide_eq_true (by kernel_rfl)) k0 bel lt0) trodAll_mk0), rfl, bel.frame _, fun h => by cases h⟩
theorem over : Rows.fnPermutationTextsRow.holds Tryd.pinned (OpenSpec.ofChange Rows.fnPermutationTextsSpec) :=
  OpenClaim.holds_of_wide 3 Tryd.f3 rfl rfl rfl rfl rfl rfl rfl ⟨rfl, rfl, rfl, rfl, rfl⟩ rfl rfl rfl rfl rfl (by kernel_rfl) Tryd.func3 (by kernel_rfl)
    (of_decide_eq_true (by kernel_rfl)) (by unfold Func.isWrapper; first | (rw [if_pos (by decide +kernel)]; kernel_rfl) | (rw [if_neg (by decide +kernel)]; exact ⟨rfl, rfl⟩))
    (fun os started H enc _ => lifted os started H enc)
/-- THE STATEMENT -/
theorem proved : Rows.FnPermutationTextsCardSaid :=
  Claim7.holds_tied_plain_at .later [] [.data, .data, .data, .data, .sentinel, .sentinel, .pinned] true _ true
    over (fun _ h => by cases h) (by kernel_rfl) (fun _ h => by cases h) fnPermutationTexts_row_tie rfl ⟨rfl, rfl⟩ (by kernel_rfl) rfl
    (fun f fn hf hfn => by
      obtain rfl : f = 3 := Option.some.inj ((show Tryd.prog.funcNamed "loop.example/g01108/laws.FnPermutationTexts" = some 3 by kernel_rfl).symm.trans hf) |>.symm
      obtain rfl : fn = Tryd.f3 := (Option.some.inj (Tryd.func3.symm.trans hfn)).symm
      exact ⟨by kernel_rfl, fun j t ht => by
        rw [Tryd.params3] at ht
        have hm : t ∈ [22] := by simpa using Array.mem_of_getElem? ht
        have hall : ([22].all fun u => !Tryd.prog.wantsStandIn u) = true := by kernel_rfl
        exact (show Tryd.prog.wantsStandIn t = false by simpa using List.all_eq_true.1 hall t hm)⟩)
    (by kernel_rfl)
end Go.Proofs.YtcjnhiglfkcmiaaDoor.fnPermutationTexts
