/- Walks: what a maniplex is, the program's and the reference's. No condition but the sizes of memory. -/
import Derived.Test.YtcjnhiglfkcmiaaGreatDoorManP
import Derived.Test.YtcjnhiglfkcmiaaGreatDoorPerm2
import Derived.Deep.RegionWith
namespace Go.Proofs.YtcjnhiglfkcmiaaGreatDoor
open Go.RowKit
set_option linter.unusedVariables false
set_option maxRecDepth 100000
theorem rs_drew {w : World} {lo hi n : Nat} {A : Option Addr} {xss : List (List Int)} (h : RS w lo hi A n xss) : RS w.drew lo hi A n xss := h.keep fun _ _ _ => rfl
theorem below_drew {B : Nat} {w w' : World} (h : Below B w w') : Below B w w'.drew := ⟨h.os, h.tape, h.output, h.size, h.block⟩
theorem flg_of {xss : List (List Int)} {ys : List Int} (h : xss[0]? = some ys) : flg xss = ys.length := by
  unfold flg
  rw [getD_some h]
theorem rank_any (b : Nat) (A : Option Addr) (n c : Nat) (w : World) (hc : w.cell? ⟨b, 0, none⟩ = some (.slice A n c)) (hn : n ≤ 9223372036854775807) :
    Calls Tryz.prog 29 #[.pointer (some ⟨b, 0, none⟩)] w fun e w' => e = .returned (.int .i64 n) ∧ w = w' := by
  go_enter Tryz.func29, Tryz.ntmps29
  go_wp2_with fail
  ((with_reducible refine (sizeS_any _ _ _ _ hn).mono ?_); rintro e w' ⟨rfl, rfl⟩)
  go_wp2_with fail
  go_ret
  exact ⟨rfl, rfl⟩
theorem flags_any (b : Nat) (A : Option Addr) (n c : Nat) (xss : List (List Int)) (w : World) (hc : w.cell? ⟨b, 0, none⟩ = some (.slice A n c)) {lo hi : Nat} (h : RS w lo hi A n xss) (hn : 0 < n) :
    Calls Tryz.prog 30 #[.pointer (some ⟨b, 0, none⟩)] w fun e w' => e = .returned (.int .i64 (flg xss : Nat)) ∧ w = w' := by
  obtain ⟨b0, o0, A0, n0, c0, p0, rfl, _, _, hp0, hc0, hr0⟩ := h.at_ (k := 0) hn
  rw [Nat.add_zero] at hc0
  have hm := h.max
  have hm0 := hr0.max
  have hf : flg xss = n0 := by rw [flg_of hp0]; exact hr0.len
  replace hf := Lib.hid hf
  clear hp0
  go_enter Tryz.func30, Tryz.ntmps30
  go_wp2_with fail
  ((with_reducible refine (sizeI_any _ _ _ _ hm0).mono ?_); rintro e w' ⟨rfl, rfl⟩)
  go_wp2_with fail
  go_ret
  exact ⟨ret_int (by rw [hf.out]), rfl⟩
set_option maxHeartbeats 8000000 in
theorem isMan_any (A : Option Addr) (n c : Nat) (xss : List (List Int)) (w : World) {lo hi : Nat} (h : RS w lo hi A n xss) (hhi : hi ≤ w.heap.size) (hnc : n ≤ c) :
    Calls Tryz.prog 14 #[.agg #[.slice A n c]] w fun e w' => e = .returned (.bool (isManB xss)) ∧ Below w.heap.size w w' := by
  have hm := h.max
  have hl := h.len
  have hR : RS (w.alloc (.cells #[.slice A n c] 26)) lo hi A n xss := h.keep (same_alloc w _ _ _ hhi)
  have hC : (w.alloc (.cells #[.slice A n c] 26)).cell? ⟨w.heap.size, 0, none⟩ = some (.slice A n c) := by simp
  have hB : Below w.heap.size w (w.alloc (.cells #[.slice A n c] 26)) := (Below.refl _ _).alloc (Nat.le_refl _) _
  by_cases hrk : 1 ≤ n ∧ n ≤ 5
  · have hrk' : (decide ((1 : Int) ≤ (n : Int)) && decide ((n : Int) ≤ 5)) = true := by simp; omega
    by_cases hfl : 2 ≤ flg xss ∧ flg xss ≤ 400
    · have hfl' : (decide ((2 : Int) ≤ (flg xss : Nat)) && decide (((flg xss : Nat) : Int) ≤ 400)) = true := by simp; omega
      replace hl := Lib.hid hl
      go_enter Tryz.func14, Tryz.ntmps14
      go_wp2_with fail
      ((with_reducible refine (rank_any _ A n c _ hC hm).mono ?_); rintro e w' ⟨rfl, rfl⟩)
      go_wp2_with fail
      ((with_reducible refine (within_any _ _ _ _).mono ?_); rintro e w' ⟨rfl, rfl⟩)
      rw [hrk']
      go_wp2_with fail
      ((with_reducible refine (flags_any _ A n c xss _ hC hR (by omega)).mono ?_); rintro e w' ⟨rfl, rfl⟩)
      go_wp2_with fail
      ((with_reducible refine (within_any _ _ _ _).mono ?_); rintro e w' ⟨rfl, rfl⟩)
      rw [hfl']
      go_wp2_with fail
      obtain ⟨W1, hW⟩ : ∃ W1 : World, w.alloc (.cells #[.slice A n c] 26) = W1 := ⟨_, rfl⟩
      have hz1 : W1.heap.size = w.heap.size + 1 := by rw [← hW]; simp
      rw [hW] at hR hC hB ⊢
      clear hW h
      go_loopw [23] (fun kv wr => ∃ k : Nat, k ≤ n ∧ kv = .int .i64 k ∧ Hid (∀ p ∈ xss.take k, mvB (flg xss) p = true) ∧ Below W1.heap.size W1 wr) (fun kv _ => n - (intOf kv).toNat)
      case atStart => exact ⟨0, by omega, rfl, Lib.hid (by simp), Below.refl _ _⟩
      case round =>
        obtain ⟨k, hk, rfl, hmv, hb⟩ := hrel
        have hbz := hb.size
        have hCk : wr.cell? ⟨w.heap.size, 0, none⟩ = some (.slice A n c) := (hb.cell (p := ⟨w.heap.size, 0, none⟩) (by simp; omega)).trans hC
        have hRk := hR.below hb (by omega)
        by_cases hlt : k < n
        · obtain ⟨b, o, Ak, nk, ck, ys, rfl, _, _, hys, hcell, hrow⟩ := hRk.at_ hlt
          have hyl := hrow.len
          have hnm := hrow.max
          cases hpf : (isPermB ys && freeB ys) with
          | false =>
            have hF : isManB xss = false := isManB_mv (mem_of_get? hys) (by unfold mvB; rw [hpf]; rfl)
            replace hF := Lib.hid hF
            replace hpf := Lib.hid hpf
            replace hys := Lib.hid hys
            go_wp2_with fail
            ((with_reducible refine (isFree_any _ _ _ ys _ _ _ hrow (by omega)).mono ?_); rintro e w2 ⟨rfl, hb2⟩)
            rw [hpf.out]
            go_wp2_with fail
            go_ret
            exact ⟨ret_bool hF.out.symm, (hB.trans (hb.mono (by omega))).trans (hb2.mono (by omega))⟩
          | true =>
            by_cases hlen : nk = flg xss
            · subst hlen
              have hd : (((flg xss : Nat) : Int) != ((flg xss : Nat) : Int)) = false := by simp
              have hmy : mvB (flg xss) ys = true := by unfold mvB; rw [hpf, hyl]; simp
              have htk := take_succ_of hys
              replace htk := Lib.hid htk
              replace hmy := Lib.hid hmy
              replace hpf := Lib.hid hpf
              replace hys := Lib.hid hys
              go_wp2_with fail
              ((with_reducible refine (isFree_any _ _ _ ys _ _ _ hrow (by omega)).mono ?_); rintro e w2 ⟨rfl, hb2⟩)
              rw [hpf.out]
              have hB2 : Below W1.heap.size W1 w2 := hb.trans (hb2.mono hbz)
              have hC2 : w2.cell? ⟨w.heap.size, 0, none⟩ = some (.slice (some ⟨b, o, none⟩) n c) := (hB2.cell (p := ⟨w.heap.size, 0, none⟩) (by simp; omega)).trans hC
              go_wp2_with fail
              ((with_reducible refine (sizeI_any _ _ _ _ hnm).mono ?_); rintro e w' ⟨rfl, rfl⟩)
              go_wp2_with fail
              ((with_reducible refine (flags_any _ _ n c xss _ hC2 (hR.below hB2 (by omega)) (by omega)).mono ?_); rintro e w' ⟨rfl, rfl⟩)
              go_wp2_with fail
              go_roundw
              case measure => simp [intOf]; omega
              case rel =>
                refine ⟨k + 1, by omega, by go_num, Lib.hid fun p hp => ?_, hB2⟩
                rw [htk.out] at hp
                rcases List.mem_append.1 hp with hp | hp
                · exact hmv.out p hp
                · simp at hp; subst hp; exact hmy.out
            · have hd : ((nk : Int) != ((flg xss : Nat) : Int)) = true := by simp; omega
              have hF : isManB xss = false := isManB_mv (mem_of_get? hys) (by unfold mvB; rw [hpf, hyl, decide_eq_false hlen]; rfl)
              replace hF := Lib.hid hF
              replace hpf := Lib.hid hpf
              replace hys := Lib.hid hys
              go_wp2_with fail
              ((with_reducible refine (isFree_any _ _ _ ys _ _ _ hrow (by omega)).mono ?_); rintro e w2 ⟨rfl, hb2⟩)
              rw [hpf.out]
              have hB2 : Below W1.heap.size W1 w2 := hb.trans (hb2.mono hbz)
              have hC2 : w2.cell? ⟨w.heap.size, 0, none⟩ = some (.slice (some ⟨b, o, none⟩) n c) := (hB2.cell (p := ⟨w.heap.size, 0, none⟩) (by simp; omega)).trans hC
              go_wp2_with fail
              ((with_reducible refine (sizeI_any _ _ _ _ hnm).mono ?_); rintro e w' ⟨rfl, rfl⟩)
              go_wp2_with fail
              ((with_reducible refine (flags_any _ _ n c xss _ hC2 (hR.below hB2 (by omega)) (by omega)).mono ?_); rintro e w' ⟨rfl, rfl⟩)
              go_wp2_with fail
              go_ret
              exact ⟨ret_bool hF.out.symm, hB.trans (hB2.mono (by omega))⟩
        · have hkn : k = n := by omega
          subst hkn
          have hmvA : ∀ p ∈ xss, mvB (flg xss) p = true := by
            have := hmv.out
            rwa [List.take_of_length_le (by have := hl.out; omega)] at this
          have hS := sysOf_mv hmvA
          replace hmvA := Lib.hid hmvA
          clear hmv
          replace hS := Lib.hid hS
          go_wp2_with fail
          clear hCk hRk hbz
          go_loopw [40] (fun iv wq => ∃ i : Nat, i ≤ k ∧ iv = .int .i64 i ∧ Hid (PairsTo xss i (i + 2)) ∧ Below W1.heap.size W1 wq) (fun iv _ => k - (intOf iv).toNat)
          case atStart => exact ⟨0, by omega, rfl, Lib.hid (PairsTo.zero xss), hb⟩
          case round =>
            clear hb
            obtain ⟨i, hi, rfl, hpt, hb⟩ := hrel
            have hbz := hb.size
            have hCk : wr.cell? ⟨w.heap.size, 0, none⟩ = some (.slice A k c) := (hb.cell (p := ⟨w.heap.size, 0, none⟩) (by simp; omega)).trans hC
            have hRk := hR.below hb (by omega)
            by_cases hlt : i < k
            · obtain ⟨b, o, Aa, na, ca, pa, rfl, _, hbb, hpa, hcaW, hra⟩ := hR.at_ hlt
              have hca := (hb.cell (p := ⟨b, o + i, none⟩) (by simp; omega)).trans hcaW
              have hna : na = flg xss := by rw [← hra.len]; exact (hS.out _ (mem_of_get? hpa)).2.2
              subst hna
              have hpaS := (hS.out _ (mem_of_get? hpa)).1
              replace hpaS := Lib.hid hpaS
              by_cases hs2 : i + 2 < k
              · replace hpa := Lib.hid hpa
                go_wp2_with fail
                go_loopw [55] (fun tv wq => ∃ t : Nat, t ≤ k - (i + 2) ∧ tv = .int .i64 t ∧ Hid (PairsTo xss i (i + 2 + t)) ∧ Below W1.heap.size W1 wq) (fun tv _ => (k - (i + 2)) - (intOf tv).toNat)
                case atStart => exact ⟨0, by omega, rfl, hpt, hb⟩
                case round =>
                  clear hb hca hCk hRk hpt hbz
                  obtain ⟨t, ht, rfl, hpt, hb⟩ := hrel
                  have hbz := hb.size
                  by_cases htk : t < k - (i + 2)
                  · obtain ⟨b', o', Ab, nb, cb, pb, hA, _, _, hpb, hcbW, hrb⟩ := hR.at_ (k := i + 2 + t) (by omega)
                    injection hA with hA
                    injection hA with hA1 hA2 _
                    subst hA1; subst hA2
                    have hnb : nb = flg xss := by rw [← hrb.len]; exact (hS.out _ (mem_of_get? hpb)).2.2
                    subst hnb
                    have hpbS := (hS.out _ (mem_of_get? hpb)).1
                    replace hpbS := Lib.hid hpbS
                    have hcb : wr.cell? ⟨b, o + (i + 2) + t, none⟩ = some (.slice Ab (flg xss) cb) := by
                      rw [Nat.add_assoc]
                      exact (hb.cell (p := ⟨b, o + (i + 2 + t), none⟩) (by simp; omega)).trans hcbW
                    have hCk : wr.cell? ⟨w.heap.size, 0, none⟩ = some (.slice (some ⟨b, o, none⟩) k c) := (hb.cell (p := ⟨w.heap.size, 0, none⟩) (by simp; omega)).trans hC
                    have hRk := hR.below hb (by omega)
                    replace hpb := Lib.hid hpb
                    go_wp2_with fail
                    ((with_reducible refine (flags_any _ _ k c xss _ hCk hRk (by omega)).mono ?_); rintro e w' ⟨rfl, rfl⟩)
                    go_wp2_with fail
                    go_loopw [60] (fun fv wq => ∃ f : Nat, f ≤ flg xss ∧ fv = .int .i64 f ∧ Hid ((List.range f).all (comB pa pb) = true) ∧ Below W1.heap.size W1 wq) (fun fv _ => flg xss - (intOf fv).toNat)
                    case atStart => exact ⟨0, by omega, rfl, Lib.hid (by simp), hb⟩
                    case round =>
                      clear hb hcb hCk hRk hbz
                      obtain ⟨f, hf, rfl, hall, hb⟩ := hrel
                      have hbz := hb.size
                      by_cases hfn : f < flg xss
                      · obtain ⟨ba, oa, x, rfl, _, _, hx, hxc⟩ := (hra.below hb (by omega)).at_ hfn
                        obtain ⟨bb, ob, y, rfl, _, _, hy, hyc⟩ := (hrb.below hb (by omega)).at_ hfn
                        obtain ⟨hx0, hx1⟩ := hpaS.out x (mem_of_get? hx)
                        obtain ⟨hy0, hy1⟩ := hpbS.out y (mem_of_get? hy)
                        obtain ⟨x, rfl⟩ : ∃ q : Nat, x = q := ⟨x.toNat, by omega⟩
                        obtain ⟨y, rfl⟩ : ∃ q : Nat, y = q := ⟨y.toNat, by omega⟩
                        obtain ⟨_, _, u, hu1, _, _, hu, huc⟩ := (hrb.below hb (by omega)).at_ (k := x) (by omega)
                        injection hu1 with hu1
                        injection hu1 with hu1 hu2 _
                        subst hu1; subst hu2
                        obtain ⟨_, _, v, hv1, _, _, hv, hvc⟩ := (hra.below hb (by omega)).at_ (k := y) (by omega)
                        injection hv1 with hv1
                        injection hv1 with hv1 hv2 _
                        subst hv1; subst hv2
                        have hcm : comB pa pb f = (decide ((x : Int) ≠ y) && decide (u = v)) := by
                          unfold comB
                          rw [getD_some hx, getD_some hy, Int.toNat_natCast, Int.toNat_natCast, getD_some hu, getD_some hv]
                        have hxN : x < flg xss := by omega
                        have hyN : y < flg xss := by omega
                        replace hx := Lib.hid hx
                        replace hy := Lib.hid hy
                        replace hu := Lib.hid hu
                        replace hv := Lib.hid hv
                        by_cases hxy : (x : Int) = y
                        · have hd1 : ((x : Int) == (y : Int)) = true := by simpa using hxy
                          have hF : isManB xss = false := isManB_com (by omega) hpa.out hpb.out hfn (by rw [hcm]; simp [hxy])
                          replace hF := Lib.hid hF
                          clear hcm hxy
                          go_wp2_with fail
                          go_quiet (fail)
                          go_wp2_with fail
                          go_ret
                          exact ⟨ret_bool hF.out.symm, hB.trans ((below_dn hb _).mono (by omega))⟩
                        · have hd1 : ((x : Int) == (y : Int)) = false := by simpa using hxy
                          by_cases huv : u = v
                          · have hd2 : (u != v) = false := by simpa using huv
                            have hok : comB pa pb f = true := by rw [hcm]; simp [hxy, huv]
                            replace hok := Lib.hid hok
                            clear hcm hxy huv
                            go_wp2_with fail
                            go_quiet (fail)
                            go_wp2_with fail
                            go_roundw
                            case measure => simp [intOf]; omega
                            case rel => exact ⟨f + 1, by omega, by go_num, Lib.hid (all_range_succ hall.out hok.out), below_dn hb _⟩
                          · have hd2 : (u != v) = true := by simpa using huv
                            have hF : isManB xss = false := isManB_com (by omega) hpa.out hpb.out hfn (by rw [hcm]; simp [huv])
                            replace hF := Lib.hid hF
                            clear hcm hxy huv
                            go_wp2_with fail
                            go_quiet (fail)
                            go_wp2_with fail
                            go_ret
                            exact ⟨ret_bool hF.out.symm, hB.trans ((below_dn hb _).mono (by omega))⟩
                      · have hfe : f = flg xss := by omega
                        have hpar : parB (flg xss) pa pb = true := by unfold parB; rw [← hfe]; exact hall.out
                        replace hpar := Lib.hid hpar
                        go_wp2_with fail
                        go_roundw
                        case measure => simp [intOf]; omega
                        case rel => exact ⟨t + 1, by omega, by go_num, Lib.hid (hpt.out.step hpa.out hpb.out hpar.out), hb⟩
                  · have hte : i + 2 + t = k := by omega
                    have hnx := hpt.out.next (by have := hl.out; omega)
                    replace hnx := Lib.hid hnx
                    go_wp2_with fail
                    go_roundw
                    case measure => simp [intOf]; omega
                    case rel => exact ⟨i + 1, by omega, by go_num, hnx, hb⟩
              · have hkc : k = c ∨ k < c := by omega
                replace hpa := Lib.hid hpa
                rcases hkc with hkc | hkc
                all_goals
                  (try subst hkc)
                  go_wp2_with fail
                all_goals
                  go_loopw [55] (fun tv wq => tv = .int .i64 0 ∧ wq = wr) (fun _ _ => 0)
                  case atStart => exact ⟨rfl, rfl⟩
                  case round =>
                    obtain ⟨rfl, rfl⟩ := hrel
                    go_wp2_with fail
                    go_roundw
                    case measure => simp [intOf]; omega
                    case rel => exact ⟨i + 1, by omega, by go_num, Lib.hid (hpt.out.next (by have := hl.out; omega)), hb⟩
            · have hik : i = k := by omega
              subst hik
              have hfin := (isManB_all (by have := hl.out; omega) (by have := hl.out; omega) hfl.1 hfl.2 hmvA.out (hpt.out.done (by have := hl.out; omega))).1
              replace hfin := Lib.hid hfin
              go_wp2_with fail
              have hRd := rs_drew hRk
              have hbd := below_drew hb
              have hi0 : 0 < i := by omega
              have hF1 := flags_any w.heap.size A i c xss wr.drew hCk hRd hi0
              have hF2 := orbitLabels_any (flg xss) A i c xss wr.drew hRd (show _ ≤ wr.heap.size by omega) hfl.2 hS.out
              go_region_with (first
                | (go_at_call 30; refine hF1.mono ?_; rintro e w' ⟨rfl, rfl⟩)
                | (go_at_call 33; refine hF2.mono ?_; rintro e w2 ⟨A2, rfl, ho2, hb2⟩))
              all_goals
                go_wp2_with fail
                go_ret
                refine ⟨ret_bool ?_, hB.trans ((hbd.mono (by omega)).trans (hb2.mono (by simp; omega)))⟩
                rw [hfin.out]
                by_cases hq : cntR xss (flg xss) = 1
                · simp [hq]
                · have : ¬ ((cntR xss (flg xss) : Nat) : Int) = 1 := by omega
                  simp [hq, this]
    · have hfl' : (decide ((2 : Int) ≤ (flg xss : Nat)) && decide (((flg xss : Nat) : Int) ≤ 400)) = false := by simp; omega
      have hF : isManB xss = false := isManB_false fun hh => hfl ⟨hh.f2, hh.f4⟩
      replace hF := Lib.hid hF
      replace hl := Lib.hid hl
      clear hfl
      go_enter Tryz.func14, Tryz.ntmps14
      go_wp2_with fail
      ((with_reducible refine (rank_any _ A n c _ hC hm).mono ?_); rintro e w' ⟨rfl, rfl⟩)
      go_wp2_with fail
      ((with_reducible refine (within_any _ _ _ _).mono ?_); rintro e w' ⟨rfl, rfl⟩)
      rw [hrk']
      go_wp2_with fail
      ((with_reducible refine (flags_any _ A n c xss _ hC hR (by omega)).mono ?_); rintro e w' ⟨rfl, rfl⟩)
      go_wp2_with fail
      ((with_reducible refine (within_any _ _ _ _).mono ?_); rintro e w' ⟨rfl, rfl⟩)
      rw [hfl']
      go_wp2_with fail
      go_ret
      exact ⟨ret_bool hF.out.symm, hB⟩
  · have hrk' : (decide ((1 : Int) ≤ (n : Int)) && decide ((n : Int) ≤ 5)) = false := by simp; omega
    have hF : isManB xss = false := isManB_false fun hh => hrk ⟨by have := hh.r1; omega, by have := hh.r5; omega⟩
    replace hF := Lib.hid hF
    replace hl := Lib.hid hl
    clear hrk
    go_enter Tryz.func14, Tryz.ntmps14
    go_wp2_with fail
    ((with_reducible refine (rank_any _ A n c _ hC hm).mono ?_); rintro e w' ⟨rfl, rfl⟩)
    go_wp2_with fail
    ((with_reducible refine (within_any _ _ _ _).mono ?_); rintro e w' ⟨rfl, rfl⟩)
    rw [hrk']
    go_wp2_with fail
    go_ret
    exact ⟨ret_bool hF.out.symm, hB⟩
end Go.Proofs.YtcjnhiglfkcmiaaGreatDoor
