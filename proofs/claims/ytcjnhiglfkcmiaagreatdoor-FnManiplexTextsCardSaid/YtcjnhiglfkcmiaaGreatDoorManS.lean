/- Walks: the reference's check of a maniplex. No condition but the sizes of memory. -/
import Derived.Test.YtcjnhiglfkcmiaaGreatDoorMan
namespace Go.Proofs.YtcjnhiglfkcmiaaGreatDoor
open Go.RowKit
set_option linter.unusedVariables false
set_option maxRecDepth 100000
set_option maxHeartbeats 8000000 in
theorem l02Is_any (A : Option Addr) (n c : Nat) (xss : List (List Int)) (w : World) {lo hi : Nat} (h : RS w lo hi A n xss) (hhi : hi ≤ w.heap.size) :
    Calls Tryz.prog 16 #[.agg #[.slice A n c]] w fun e w' => e = .returned (.bool (isManB xss)) ∧ Below w.heap.size w w' := by
  have hm := h.max
  have hl := h.len
  have hR : RS (w.alloc (.cells #[.slice A n c] 26)) lo hi A n xss := h.keep (same_alloc w _ _ _ hhi)
  have hC : (w.alloc (.cells #[.slice A n c] 26)).cell? ⟨w.heap.size, 0, none⟩ = some (.slice A n c) := by simp
  have hB : Below w.heap.size w (w.alloc (.cells #[.slice A n c] 26)) := (Below.refl _ _).alloc (Nat.le_refl _) _
  by_cases hn1 : n < 1
  · have d1 : decide ((n : Int) < 1) = true := by simp; omega
    have hF : isManB xss = false := isManB_false fun hh => by have := hh.r1; omega
    replace hF := Lib.hid hF
    replace hl := Lib.hid hl
    go_enter Tryz.func16, Tryz.ntmps16
    go_wp2_with fail
    go_ret
    exact ⟨ret_bool hF.out.symm, hB⟩
  have d1 : decide ((n : Int) < 1) = false := by simp; omega
  by_cases hn5 : 5 < n
  · have d2 : decide ((5 : Int) < (n : Int)) = true := by simp; omega
    have hF : isManB xss = false := isManB_false fun hh => by have := hh.r5; omega
    replace hF := Lib.hid hF
    replace hl := Lib.hid hl
    go_enter Tryz.func16, Tryz.ntmps16
    go_wp2_with fail
    go_ret
    exact ⟨ret_bool hF.out.symm, hB⟩
  have d2 : decide ((5 : Int) < (n : Int)) = false := by simp; omega
  obtain ⟨b, o, A0, n0, c0, p0, rfl, _, hbh, hp0, hc0, hr0⟩ := hR.at_ (k := 0) (by omega)
  rw [Nat.add_zero] at hc0
  have hn0 : n0 = flg xss := by rw [flg_of hp0]; exact hr0.len.symm
  subst hn0
  have hm0 := hr0.max
  by_cases hf2 : flg xss < 2
  · have d3 : decide (((flg xss : Nat) : Int) < 2) = true := by simp; omega
    have hF : isManB xss = false := isManB_false fun hh => by have := hh.f2; omega
    replace hF := Lib.hid hF
    replace hl := Lib.hid hl
    replace hp0 := Lib.hid hp0
    go_enter Tryz.func16, Tryz.ntmps16
    go_wp2_with fail
    go_ret
    exact ⟨ret_bool hF.out.symm, hB⟩
  have d3 : decide (((flg xss : Nat) : Int) < 2) = false := by simp; omega
  by_cases hf4 : 400 < flg xss
  · have d4 : decide ((400 : Int) < ((flg xss : Nat) : Int)) = true := by simp; omega
    have hF : isManB xss = false := isManB_false fun hh => by have := hh.f4; omega
    replace hF := Lib.hid hF
    replace hl := Lib.hid hl
    replace hp0 := Lib.hid hp0
    go_enter Tryz.func16, Tryz.ntmps16
    go_wp2_with fail
    go_ret
    exact ⟨ret_bool hF.out.symm, hB⟩
  have d4 : decide ((400 : Int) < ((flg xss : Nat) : Int)) = false := by simp; omega
  replace hl := Lib.hid hl
  replace hp0 := Lib.hid hp0
  go_enter Tryz.func16, Tryz.ntmps16
  go_wp2_with fail
  obtain ⟨W1, hW⟩ : ∃ W1 : World, w.alloc (.cells #[.slice (some ⟨b, o, none⟩) n c] 26) = W1 := ⟨_, rfl⟩
  have hz1 : W1.heap.size = w.heap.size + 1 := by rw [← hW]; simp
  rw [hW] at hR hC hB hr0 hc0 ⊢
  clear hW h
  have Hs : ∀ w' : World, Below W1.heap.size W1 w' → w'.cell? ⟨w.heap.size, 0, none⟩ = some (.slice (some ⟨b, o, none⟩) n c) ∧ w'.cell? ⟨b, o, none⟩ = some (.slice A0 (flg xss) c0) := fun w' hb =>
    ⟨(hb.cell (p := ⟨w.heap.size, 0, none⟩) (by simp; omega)).trans hC, (hb.cell (p := ⟨b, o, none⟩) (by simp; omega)).trans hc0⟩
  replace Hs := Lib.hid Hs
  go_loopw [4] (fun kv wr => ∃ k : Nat, k ≤ n ∧ kv = .int .i64 k ∧ Hid (∀ p ∈ xss.take k, mvB (flg xss) p = true) ∧ Below W1.heap.size W1 wr) (fun kv _ => n - (intOf kv).toNat)
  case atStart => exact ⟨0, by omega, rfl, Lib.hid (by simp), Below.refl _ _⟩
  case round =>
    obtain ⟨k, hk, rfl, hmv, hb⟩ := hrel
    have hbz := hb.size
    obtain ⟨hCk, hc0k⟩ := Hs.out _ hb
    have hRk := hR.below hb (by omega)
    by_cases hlt : k < n
    · obtain ⟨b', o', Ak, nk, ck, ys, hA, _, _, hys, hcell, hrow⟩ := hRk.at_ hlt
      injection hA with hA
      injection hA with hA1 hA2 _
      subst hA1; subst hA2
      have hyl := hrow.len
      have hnm := hrow.max
      haveI := Since.ne wr
      have u1 : ∀ u : Since wr, u.val.cell? ⟨w.heap.size, 0, none⟩ = some (.slice (some ⟨b, o, none⟩) n c) := fun u => (u.ok.cell (p := ⟨w.heap.size, 0, none⟩) (by simp; omega)).trans hCk
      have u2 : ∀ u : Since wr, u.val.cell? ⟨b, o, none⟩ = some (.slice A0 (flg xss) c0) := fun u => (u.ok.cell (p := ⟨b, o, none⟩) (by simp; omega)).trans hc0k
      have u3 : ∀ u : Since wr, u.val.cell? ⟨b, o + k, none⟩ = some (.slice Ak nk ck) := fun u => (u.ok.cell (p := ⟨b, o + k, none⟩) (by simp; omega)).trans hcell
      have hhb : hi ≤ wr.heap.size := by omega
      have hpn : 0 < n := by omega
      have hpn2 : ¬ n = 0 := by omega
      by_cases hlen : nk = flg xss
      · subst hlen
        have hd : (((flg xss : Nat) : Int) != ((flg xss : Nat) : Int)) = false := by simp
        cases hp : isPermB ys with
        | false =>
          have hF : isManB xss = false := isManB_mv (mem_of_get? hys) (by unfold mvB; rw [hp]; rfl)
          replace hF := Lib.hid hF
          replace hp := Lib.hid hp
          replace hys := Lib.hid hys
          go_wp2_with fail
          refine wp_region_since_lit (by kernel_rfl) (by kernel_rfl) ?_
          repeat (go_big_quiet_step ((go_at_call 37; refine since_call (hp.out ▸ l01Perm_any _ _ _ ys _ lo hi (hrow.below (Since.ok _) hhb) ?_); exact Nat.le_trans hhb (Since.ok _).size)))
          refine wpQuiet_nil ?_
          intro w2 hw2
          have hb2 : Below wr.heap.size wr w2 := by obtain ⟨u, hu⟩ := hw2; rw [hu]; exact u.ok
          clear hw2 u1 u2 u3
          go_wp2_with fail
          go_ret
          exact ⟨ret_bool hF.out.symm, (hB.trans (hb.mono (by omega))).trans (hb2.mono (by omega))⟩
        | true =>
          have hpp := isPermB_iff.1 hp
          cases hfr : freeB ys with
          | false =>
            have hF : isManB xss = false := isManB_mv (mem_of_get? hys) (by unfold mvB; rw [hp, hfr]; rfl)
            replace hF := Lib.hid hF
            replace hp := Lib.hid hp
            replace hpp := Lib.hid hpp
            replace hfr := Lib.hid hfr
            replace hys := Lib.hid hys
            go_wp2_with fail
            refine wp_region_since_lit (by kernel_rfl) (by kernel_rfl) ?_
            repeat (go_big_quiet_step (first | (go_at_call 37; refine since_call (hp.out ▸ l01Perm_any _ _ _ ys _ lo hi (hrow.below (Since.ok _) hhb) ?_); exact Nat.le_trans hhb (Since.ok _).size) | (go_at_call 38; refine since_call (hfr.out ▸ l01Free_any _ _ _ ys _ lo hi (hrow.below (Since.ok _) hhb) ?_ hpp.out); exact Nat.le_trans hhb (Since.ok _).size)))
            refine wpQuiet_nil ?_
            intro w2 hw2
            have hb2 : Below wr.heap.size wr w2 := by obtain ⟨u, hu⟩ := hw2; rw [hu]; exact u.ok
            clear hw2 u1 u2 u3
            go_wp2_with fail
            go_ret
            exact ⟨ret_bool hF.out.symm, (hB.trans (hb.mono (by omega))).trans (hb2.mono (by omega))⟩
          | true =>
            have hmy : mvB (flg xss) ys = true := by unfold mvB; rw [hp, hfr, hyl]; simp
            have htk := take_succ_of hys
            replace htk := Lib.hid htk
            replace hmy := Lib.hid hmy
            replace hp := Lib.hid hp
            replace hpp := Lib.hid hpp
            replace hfr := Lib.hid hfr
            replace hys := Lib.hid hys
            go_wp2_with fail
            refine wp_region_since_lit (by kernel_rfl) (by kernel_rfl) ?_
            repeat (go_big_quiet_step (first | (go_at_call 37; refine since_call (hp.out ▸ l01Perm_any _ _ _ ys _ lo hi (hrow.below (Since.ok _) hhb) ?_); exact Nat.le_trans hhb (Since.ok _).size) | (go_at_call 38; refine since_call (hfr.out ▸ l01Free_any _ _ _ ys _ lo hi (hrow.below (Since.ok _) hhb) ?_ hpp.out); exact Nat.le_trans hhb (Since.ok _).size)))
            refine wpQuiet_nil ?_
            intro w2 hw2
            have hb2 : Below wr.heap.size wr w2 := by obtain ⟨u, hu⟩ := hw2; rw [hu]; exact u.ok
            clear hw2 u1 u2 u3
            have hB2 : Below W1.heap.size W1 w2 := hb.trans (hb2.mono hbz)
            go_wp2_with fail
            go_roundw
            case measure => simp [intOf]; omega
            case rel =>
              refine ⟨k + 1, by omega, by go_num, Lib.hid fun p hp => ?_, hB2⟩
              rw [htk.out] at hp
              rcases List.mem_append.1 hp with hp | hp
              · exact hmv.out p hp
              · simp at hp; subst hp; exact hmy.out
      · have hd : ((nk : Int) != ((flg xss : Nat) : Int)) = true := by simp; omega
        have hF : isManB xss = false := isManB_mv (mem_of_get? hys) (by unfold mvB; rw [hyl, decide_eq_false hlen]; simp)
        replace hF := Lib.hid hF
        replace hys := Lib.hid hys
        clear hlen
        go_wp2_with fail
        go_quiet (fail)
        go_wp2_with fail
        go_ret
        exact ⟨ret_bool hF.out.symm, hB.trans ((below_dn hb _).mono (by omega))⟩
    · have hkn : k = n := by omega
      subst hkn
      have hmvA : ∀ p ∈ xss, mvB (flg xss) p = true := by
        have := hmv.out
        rwa [List.take_of_length_le (by have := hl.out; omega)] at this
      have hS := sysOf_mv hmvA
      replace hmvA := Lib.hid hmvA
      replace hS := Lib.hid hS
      clear hmv hCk hc0k hRk hbz
      go_wp2_with fail
      go_loopw [5] (fun iv wq => ∃ i : Nat, i ≤ k ∧ iv = .int .i64 i ∧ Hid (PairsTo xss i (i + 2)) ∧ Below W1.heap.size W1 wq) (fun iv _ => k - (intOf iv).toNat)
      case atStart => exact ⟨0, by omega, rfl, Lib.hid (PairsTo.zero xss), hb⟩
      case round =>
        clear hb
        obtain ⟨i, hi, rfl, hpt, hb⟩ := hrel
        by_cases hlt : i < k
        · obtain ⟨b', o', Aa, na, ca, pa, hA, _, _, hpa, hcaW, hra⟩ := hR.at_ hlt
          injection hA with hA
          injection hA with hA1 hA2 _
          subst hA1; subst hA2
          have hna : na = flg xss := by rw [← hra.len]; exact (hS.out _ (mem_of_get? hpa)).2.2
          subst hna
          have hpaS := (hS.out _ (mem_of_get? hpa)).1
          replace hpaS := Lib.hid hpaS
          replace hpa := Lib.hid hpa
          go_wp2_with fail
          go_loopw [6] (fun tv wq => ∃ t : Nat, i + 2 ≤ t ∧ t ≤ k + 2 ∧ tv = .int .i64 t ∧ Hid (PairsTo xss i t) ∧ Below W1.heap.size W1 wq) (fun tv _ => k - (intOf tv).toNat)
          case atStart => exact ⟨i + 2, by omega, by omega, by go_num, hpt, hb⟩
          case round =>
            clear hb hpt
            obtain ⟨t, hit, htk2, rfl, hpt, hb⟩ := hrel
            by_cases htk : t < k
            · obtain ⟨b', o', Ab, nb, cb, pb, hA, _, _, hpb, hcbW, hrb⟩ := hR.at_ htk
              injection hA with hA
              injection hA with hA1 hA2 _
              subst hA1; subst hA2
              have hnb : nb = flg xss := by rw [← hrb.len]; exact (hS.out _ (mem_of_get? hpb)).2.2
              subst hnb
              have hpbS := (hS.out _ (mem_of_get? hpb)).1
              replace hpbS := Lib.hid hpbS
              replace hpb := Lib.hid hpb
              go_wp2_with fail
              go_loopw [7] (fun fv wq => ∃ f : Nat, f ≤ flg xss ∧ fv = .int .i64 f ∧ Hid ((List.range f).all (comB pa pb) = true) ∧ Below W1.heap.size W1 wq) (fun fv _ => flg xss - (intOf fv).toNat)
              case atStart => exact ⟨0, by omega, rfl, Lib.hid (by simp), hb⟩
              case round =>
                clear hb
                obtain ⟨f, hf, rfl, hall, hb⟩ := hrel
                have hbz := hb.size
                obtain ⟨hCk, hc0k⟩ := Hs.out _ hb
                have hcak := (hb.cell (p := ⟨b, o + i, none⟩) (by simp; omega)).trans hcaW
                have hcbk := (hb.cell (p := ⟨b, o + t, none⟩) (by simp; omega)).trans hcbW
                have hpn : 0 < k := by omega
                have hpn2 : ¬ k = 0 := by omega
                by_cases hfn : f < flg xss
                · obtain ⟨ba, oa, x, rfl, _, _, hx, hxc⟩ := (hra.below hb (by omega)).at_ hfn
                  obtain ⟨bb, ob, y, rfl, _, _, hy, hyc⟩ := (hrb.below hb (by omega)).at_ hfn
                  obtain ⟨hx0, hx1⟩ := hpaS.out x (mem_of_get? hx)
                  obtain ⟨hy0, hy1⟩ := hpbS.out y (mem_of_get? hy)
                  obtain ⟨x, rfl⟩ : ∃ q : Nat, x = q := ⟨x.toNat, by omega⟩
                  obtain ⟨y, rfl⟩ : ∃ q : Nat, y = q := ⟨y.toNat, by omega⟩
                  obtain ⟨_, _, u, hu1, _, _, hu, huc⟩ := (hrb.below hb (by omega)).at_ (k := x) (by omega)
                  injection hu1 with hu1
                  injection hu1 with hu1 hu2 _
                  subst hu1; subst hu2
                  obtain ⟨_, _, v, hv1, _, _, hv, hvc⟩ := (hra.below hb (by omega)).at_ (k := y) (by omega)
                  injection hv1 with hv1
                  injection hv1 with hv1 hv2 _
                  subst hv1; subst hv2
                  have hcm : comB pa pb f = (decide ((x : Int) ≠ y) && decide (u = v)) := by
                    unfold comB
                    rw [getD_some hx, getD_some hy, Int.toNat_natCast, Int.toNat_natCast, getD_some hu, getD_some hv]
                  have hxN : x < flg xss := by omega
                  have hyN : y < flg xss := by omega
                  replace hx := Lib.hid hx
                  replace hy := Lib.hid hy
                  replace hu := Lib.hid hu
                  replace hv := Lib.hid hv
                  by_cases huv : u = v
                  · have hd2 : (u != v) = false := by simpa using huv
                    by_cases hxy : (x : Int) = y
                    · have hd1 : ((x : Int) == (y : Int)) = true := by simpa using hxy
                      have hF : isManB xss = false := isManB_com (by omega) hpa.out hpb.out hfn (by rw [hcm]; simp [hxy])
                      replace hF := Lib.hid hF
                      clear hcm hxy huv
                      go_wp2_with fail
                      go_quiet (fail)
                      go_wp2_with fail
                      go_ret
                      exact ⟨ret_bool hF.out.symm, hB.trans ((below_dn hb _).mono (by omega))⟩
                    · have hd1 : ((x : Int) == (y : Int)) = false := by simpa using hxy
                      have hok : comB pa pb f = true := by rw [hcm]; simp [hxy, huv]
                      replace hok := Lib.hid hok
                      clear hcm hxy huv
                      go_wp2_with fail
                      go_quiet (fail)
                      go_wp2_with fail
                      go_roundw
                      case measure => simp [intOf]; omega
                      case rel => exact ⟨f + 1, by omega, by go_num, Lib.hid (all_range_succ hall.out hok.out), below_dn hb _⟩
                  · have hd2 : (u != v) = true := by simpa using huv
                    have hF : isManB xss = false := isManB_com (by omega) hpa.out hpb.out hfn (by rw [hcm]; simp [huv])
                    replace hF := Lib.hid hF
                    clear hcm huv
                    go_wp2_with fail
                    go_quiet (fail)
                    go_wp2_with fail
                    go_ret
                    exact ⟨ret_bool hF.out.symm, hB.trans ((below_dn hb _).mono (by omega))⟩
                · have hfe : f = flg xss := by omega
                  have hpar : parB (flg xss) pa pb = true := by unfold parB; rw [← hfe]; exact hall.out
                  replace hpar := Lib.hid hpar
                  go_wp2_with fail
                  go_roundw
                  case measure => simp [intOf]; omega
                  case rel => exact ⟨t + 1, by omega, by omega, by go_num, Lib.hid (hpt.out.step hpa.out hpb.out hpar.out), hb⟩
            · have hnx := hpt.out.next (by have := hl.out; omega)
              replace hnx := Lib.hid hnx
              go_wp2_with fail
              go_roundw
              case measure => simp [intOf]; omega
              case rel => exact ⟨i + 1, by omega, by go_num, hnx, hb⟩
        · have hik : i = k := by omega
          subst hik
          have hfin := (isManB_all (by have := hl.out; omega) (by have := hl.out; omega) (by omega) (by omega) hmvA.out (hpt.out.done (by have := hl.out; omega))).2
          replace hfin := Lib.hid hfin
          have hbd := below_drew hb
          have hbz := hb.size
          obtain ⟨hCk, hc0k⟩ := Hs.out _ hb
          have hpn : 0 < i := by omega
          have hpn2 : ¬ i = 0 := by omega
          have hO := l01Orbit_any (flg xss) (some ⟨b, o, none⟩) i c xss 0 wr.drew (rs_drew (hR.below hb (by omega))) (show _ ≤ wr.heap.size by omega) (by omega) hS.out (by omega) (by omega)
          go_wp2_with fail
          go_region_with (go_at_call 39; refine hO.mono ?_; rintro e w2 ⟨A2, n2, c2, rfl, ho2, hb2⟩; have hC2 := (hb2.cell (p := ⟨w.heap.size, 0, none⟩) (by simp; omega)).trans hCk; have hc02 := (hb2.cell (p := ⟨b, o, none⟩) (by simp; omega)).trans hc0k)
          all_goals
            have hl2 := ho2.lenI
            go_wp2_with fail
            go_ret
            refine ⟨ret_bool ?_, hB.trans ((hbd.mono (by omega)).trans (hb2.mono (by simp; omega)))⟩
            rw [hfin.out, hl2]
            by_cases hq : n2 = flg xss
            · simp [hq]
            · have : ¬ ((n2 : Nat) : Int) = ((flg xss : Nat) : Int) := by omega
              simp [hq, this]
end Go.Proofs.YtcjnhiglfkcmiaaGreatDoor
