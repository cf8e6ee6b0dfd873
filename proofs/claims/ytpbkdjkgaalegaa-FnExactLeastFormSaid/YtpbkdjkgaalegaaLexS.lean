/- Walks: the reference's comparisons of lists and of lists of lists. No condition but the sizes of memory. -/
import Derived.Test.YtpbkdjkgaalegaaLexP
import Derived.Test.YtpbkdjkgaalegaaMan
import Derived.Test.YtpbkdjkgaalegaaLawM
import Derived.Test.YtpbkdjkgaalegaaOrbS
namespace Go.Proofs.Ytpbkdjkgaalegaa
open Go.RowKit
set_option linter.unusedVariables false
set_option maxRecDepth 100000
set_option maxHeartbeats 2000000 in
theorem l01Same_any (A : Option Addr) (n c : Nat) (xs : List Int) (A' : Option Addr) (n' c' : Nat) (ys : List Int) (w : World) {lo hi lo' hi' : Nat} (h : RI w lo hi A n xs) (hhi : hi ≤ w.heap.size) (h' : RI w lo' hi' A' n' ys) (hhi' : hi' ≤ w.heap.size) :
    Calls Try.prog 99 #[.slice A n c, .slice A' n' c'] w fun e w' => e = .returned (.bool (decide (xs = ys))) ∧ Below w.heap.size w w' := by
  have hm := h.max
  have hm' := h'.max
  have hl := h.len
  have hl' := h'.len
  by_cases hn : n = n'
  · subst hn
    have hd : ((n : Int) != (n : Int)) = false := by simp
    replace hl := Lib.hid hl
    replace hl' := Lib.hid hl'
    go_enter Try.func99, Try.ntmps99
    go_wp2_with fail
    go_loopw [5] (fun kv wq => ∃ k : Nat, k ≤ n ∧ kv = .int .i64 k ∧ Hid (∀ j, j < k → xs[j]? = ys[j]?) ∧ Below w.heap.size w wq) (fun kv _ => n - (intOf kv).toNat)
    case atStart => exact ⟨0, by omega, rfl, Lib.hid (fun j hj => by omega), Below.refl _ _⟩
    case round =>
      obtain ⟨k, hk, rfl, hall, hb⟩ := hrel
      by_cases hlt : k < n
      · obtain ⟨b, o, x, rfl, _, _, hx, hcx⟩ := (h.below hb hhi).at_ hlt
        obtain ⟨b', o', y, rfl, _, _, hy, hcy⟩ := (h'.below hb hhi').at_ hlt
        by_cases hxy : x = y
        · subst hxy
          have hne : (x != x) = false := by simp
          have hall2 : ∀ j, j < k + 1 → xs[j]? = ys[j]? := fun j hj => by
            by_cases e : j = k
            · subst e; rw [hx, hy]
            · exact hall.out j (by omega)
          replace hall2 := Lib.hid hall2
          replace hx := Lib.hid hx
          replace hy := Lib.hid hy
          go_wp2_with fail
          go_quiet (fail)
          go_wp2_with fail
          go_roundw
          case measure => simp [intOf]; omega
          case rel => exact ⟨k + 1, by omega, by go_num, hall2, below_dn hb _⟩
        · have hne : (x != y) = true := by simpa using hxy
          have hF : decide (xs = ys) = false := decide_eq_false (fun e => by rw [e, hy] at hx; exact hxy (Option.some.inj hx).symm)
          replace hF := Lib.hid hF
          replace hx := Lib.hid hx
          replace hy := Lib.hid hy
          replace hxy := Lib.hid hxy
          go_wp2_with fail
          go_quiet (fail)
          go_wp2_with fail
          go_ret
          exact ⟨ret_bool hF.out.symm, below_dn hb _⟩
      · have hkn : k = n := by omega
        subst hkn
        have hF : decide (xs = ys) = true := decide_eq_true (list_ext_upto k (by have := hl.out; omega) (by have := hl'.out; omega) hall.out)
        replace hF := Lib.hid hF
        go_wp2_with fail
        go_ret
        exact ⟨ret_bool (by first | exact hF.out.symm | (rw [hF.out]; simp; omega)), hb⟩
  · have hd : ((n : Int) != (n' : Int)) = true := by simp; omega
    have hF : decide (xs = ys) = false := decide_eq_false (fun e => by subst e; omega)
    replace hF := Lib.hid hF
    replace hl := Lib.hid hl
    replace hl' := Lib.hid hl'
    replace hn := Lib.hid hn
    go_enter Try.func99, Try.ntmps99
    go_wp2_with fail
    go_ret
    exact ⟨ret_bool hF.out.symm, Below.refl _ _⟩
set_option maxHeartbeats 4000000 in
theorem l01Less_any (A : Option Addr) (n c : Nat) (xs : List Int) (A' : Option Addr) (n' c' : Nat) (ys : List Int) (w : World) {lo hi lo' hi' : Nat} (h : RI w lo hi A n xs) (hhi : hi ≤ w.heap.size) (h' : RI w lo' hi' A' n' ys) (hhi' : hi' ≤ w.heap.size) :
    Calls Try.prog 100 #[.slice A n c, .slice A' n' c'] w fun e w' => e = .returned (.bool (decide (cmpL xs ys < 0))) ∧ Below w.heap.size w w' := by
  have hm := h.max
  have hm' := h'.max
  have hl := Lib.hid h.len
  have hl' := Lib.hid h'.len
  go_enter Try.func100, Try.ntmps100
  go_wp2_with fail
  go_loopw [5] (fun kv wq => ∃ k : Nat, k ≤ n ∧ k ≤ n' ∧ kv = .int .i64 k ∧ Hid (cmpL (xs.drop k) (ys.drop k) = cmpL xs ys) ∧ Below w.heap.size w wq) (fun kv _ => n - (intOf kv).toNat)
  case atStart => exact ⟨0, by omega, by omega, rfl, Lib.hid rfl, Below.refl _ _⟩
  case round =>
    obtain ⟨k, hk, hk', rfl, heq, hb⟩ := hrel
    by_cases hlt : k < n
    · by_cases hlt' : k < n'
      · obtain ⟨b, o, x, rfl, _, hbu, hx, hcx⟩ := (h.below hb hhi).at_ hlt
        obtain ⟨b', o', y, rfl, _, hbu', hy, hcy⟩ := (h'.below hb hhi').at_ hlt'
        have hst := cmpL_step hx hy
        rw [heq.out] at hst
        replace hx := Lib.hid hx
        replace hy := Lib.hid hy
        by_cases hxy : x = y
        · subst hxy
          have hne : (x != x) = false := by simp
          rw [if_neg (by omega), if_neg (by omega)] at hst
          replace hst := Lib.hid hst
          go_wp2_with fail
          go_quiet (fail)
          go_wp2_with fail
          go_roundw
          case measure => simp [intOf]; omega
          case rel => exact ⟨k + 1, by omega, by omega, by go_num, Lib.hid hst.out.symm, below_dn hb _⟩
        · have hne : (x != y) = true := by simpa using hxy
          have hF : decide (cmpL xs ys < 0) = decide (x < y) := by
            rw [hst]
            by_cases h1 : x < y
            · simp [h1]
            · rw [if_neg h1, if_pos (by omega)]; simp [h1]
          replace hF := Lib.hid hF
          replace hst := Lib.hid hst
          replace hxy := Lib.hid hxy
          go_wp2_with fail
          go_quiet (fail)
          go_wp2_with fail
          go_quiet (fail)
          go_wp2_with fail
          go_ret
          exact ⟨ret_bool hF.out.symm, below_dn (below_dn hb _) _⟩
      · obtain ⟨b, o, x, hAe, _, _, hx, _⟩ := (h.below hb hhi).at_ hlt
        have hst := cmpL_short (b := ys) hx (by have := hl'.out; omega)
        rw [heq.out] at hst
        have hF : decide (cmpL xs ys < 0) = false := by rw [hst]; rfl
        have hnl : decide ((n : Int) < (n' : Int)) = false := by simp; omega
        clear hAe
        replace hF := Lib.hid hF
        replace hst := Lib.hid hst
        replace hx := Lib.hid hx
        go_wp2_with fail
        go_ret
        exact ⟨ret_bool (by first | exact hF.out.symm | (rw [hF.out]; simp; omega)), hb⟩
    · have hkn : k = n := by omega
      subst hkn
      by_cases hlt' : k < n'
      · have hst := cmpL_long (a := xs) (b := ys) (k := k) (by have := hl.out; omega) (by have := hl'.out; omega)
        rw [heq.out] at hst
        have hF : decide (cmpL xs ys < 0) = true := by rw [hst]; rfl
        have hnl : decide ((k : Int) < (n' : Int)) = true := by simp; omega
        replace hF := Lib.hid hF
        replace hst := Lib.hid hst
        go_wp2_with fail
        go_ret
        exact ⟨ret_bool (by first | exact hF.out.symm | (rw [hF.out]; simp; omega)), hb⟩
      · have hst := cmpL_end (a := xs) (b := ys) (k := k) (by have := hl.out; omega) (by have := hl'.out; omega)
        rw [heq.out] at hst
        have hF : decide (cmpL xs ys < 0) = false := by rw [hst]; rfl
        have hnl : decide ((k : Int) < (n' : Int)) = false := by simp; omega
        replace hF := Lib.hid hF
        replace hst := Lib.hid hst
        go_wp2_with fail
        go_ret
        exact ⟨ret_bool (by first | exact hF.out.symm | (rw [hF.out]; simp; omega)), hb⟩
set_option maxHeartbeats 4000000 in
theorem l01Less2_any (A : Option Addr) (n c : Nat) (xs : List (List Int)) (A' : Option Addr) (n' c' : Nat) (ys : List (List Int)) (w : World) {lo hi lo' hi' : Nat} (h : RS w lo hi A n xs) (hhi : hi ≤ w.heap.size) (h' : RS w lo' hi' A' n' ys) (hhi' : hi' ≤ w.heap.size) :
    Calls Try.prog 91 #[.slice A n c, .slice A' n' c'] w fun e w' => e = .returned (.bool (decide (cmp2 xs ys < 0))) ∧ Below w.heap.size w w' := by
  have hm := h.max
  have hm' := h'.max
  have hl := Lib.hid h.len
  have hl' := Lib.hid h'.len
  go_enter Try.func91, Try.ntmps91
  go_wp2_with fail
  go_loopw [5] (fun kv wq => ∃ k : Nat, k ≤ n ∧ k ≤ n' ∧ kv = .int .i64 k ∧ Hid (cmp2 (xs.drop k) (ys.drop k) = cmp2 xs ys) ∧ Below w.heap.size w wq) (fun kv _ => n - (intOf kv).toNat)
  case atStart => exact ⟨0, by omega, by omega, rfl, Lib.hid rfl, Below.refl _ _⟩
  case round =>
    obtain ⟨k, hk, hk', rfl, heq, hb⟩ := hrel
    by_cases hlt : k < n
    · by_cases hlt' : k < n'
      · obtain ⟨b, o, Ak, nk, ck, x, rfl, _, hbu, hx, hcx, hrx⟩ := (h.below hb hhi).at_ hlt
        obtain ⟨b', o', Ak', nk', ck', y, rfl, _, hbu', hy, hcy, hry⟩ := (h'.below hb hhi').at_ hlt'
        have hst := cmp2_step hx hy
        rw [heq.out] at hst
        replace hx := Lib.hid hx
        replace hy := Lib.hid hy
        have hhb : hi ≤ wr.heap.size := Nat.le_trans hhi hb.size
        have hhb' : hi' ≤ wr.heap.size := Nat.le_trans hhi' hb.size
        haveI := Since.ne wr
        have u1 : ∀ u : Since wr, u.val.cell? ⟨b, o + k, none⟩ = some (.slice Ak nk ck) := fun u => (u.ok.cell (p := ⟨b, o + k, none⟩) (by simp; omega)).trans hcx
        have u2 : ∀ u : Since wr, u.val.cell? ⟨b', o' + k, none⟩ = some (.slice Ak' nk' ck') := fun u => (u.ok.cell (p := ⟨b', o' + k, none⟩) (by simp; omega)).trans hcy
        have hpn : 0 < n := by omega
        have hpn2 : ¬ n = 0 := by omega
        have hpn3 : 0 < n' := by omega
        have hpn4 : ¬ n' = 0 := by omega
        by_cases hxy : x = y
        · have hsm : decide (x = y) = true := decide_eq_true hxy
          rw [if_pos ((cmpL_zero x y).2 hxy)] at hst
          replace hst := Lib.hid hst
          replace hxy := Lib.hid hxy
          replace hsm := Lib.hid hsm
          go_wp2_with fail
          refine wp_region_since_lit (by kernel_rfl) (by kernel_rfl) ?_
          repeat (go_big_quiet_step ((go_at_call 99; refine since_call (hsm.out ▸ l01Same_any _ _ _ x _ _ _ y _ (hrx.below (Since.ok _) hhb) ?_ (hry.below (Since.ok _) hhb') ?_); exact Nat.le_trans hhb (Since.ok _).size; exact Nat.le_trans hhb' (Since.ok _).size)))
          refine wpQuiet_nil ?_
          intro w2 hw2
          have hb2 : Below wr.heap.size wr w2 := by obtain ⟨u, hu⟩ := hw2; rw [hu]; exact u.ok
          clear hw2 u1 u2
          have hbz := hb.size
          have hb3 := below_then hb hb2 hbz
          go_wp2_with fail
          go_roundw
          case measure => simp [intOf]; omega
          case rel => exact ⟨k + 1, by omega, by omega, by go_num, Lib.hid hst.out.symm, hb3⟩
        · have hsm : decide (x = y) = false := decide_eq_false hxy
          rw [if_neg (fun e => hxy ((cmpL_zero x y).1 e))] at hst
          have hF : decide (cmp2 xs ys < 0) = decide (cmpL x y < 0) := by rw [hst]
          replace hF := Lib.hid hF
          replace hst := Lib.hid hst
          replace hxy := Lib.hid hxy
          replace hsm := Lib.hid hsm
          go_wp2_with fail
          refine wp_region_since_lit (by kernel_rfl) (by kernel_rfl) ?_
          repeat (go_big_quiet_step ((go_at_call 99; refine since_call (hsm.out ▸ l01Same_any _ _ _ x _ _ _ y _ (hrx.below (Since.ok _) hhb) ?_ (hry.below (Since.ok _) hhb') ?_); exact Nat.le_trans hhb (Since.ok _).size; exact Nat.le_trans hhb' (Since.ok _).size)))
          refine wpQuiet_nil ?_
          intro w2 hw2
          have hb2 : Below wr.heap.size wr w2 := by obtain ⟨u, hu⟩ := hw2; rw [hu]; exact u.ok
          clear hw2 u1 u2
          have hbz := hb.size
          have hb3 := below_then hb hb2 hbz
          have hz2 := hb2.size
          have hrx2 := hrx.below hb2 hhb
          have hry2 := hry.below hb2 hhb'
          have hcx2 := (hb2.cell (p := ⟨b, o + k, none⟩) (by simp; omega)).trans hcx
          have hcy2 := (hb2.cell (p := ⟨b', o' + k, none⟩) (by simp; omega)).trans hcy
          have hhc : hi ≤ w2.heap.size := by omega
          have hhc' : hi' ≤ w2.heap.size := by omega
          haveI := Since.ne w2
          have u1 : ∀ u : Since w2, u.val.cell? ⟨b, o + k, none⟩ = some (.slice Ak nk ck) := fun u => (u.ok.cell (p := ⟨b, o + k, none⟩) (by simp; omega)).trans hcx2
          have u2 : ∀ u : Since w2, u.val.cell? ⟨b', o' + k, none⟩ = some (.slice Ak' nk' ck') := fun u => (u.ok.cell (p := ⟨b', o' + k, none⟩) (by simp; omega)).trans hcy2
          go_wp2_with fail
          refine wp_region_since_lit (by kernel_rfl) (by kernel_rfl) ?_
          repeat (go_big_quiet_step ((go_at_call 100; refine since_call (l01Less_any _ _ _ x _ _ _ y _ (hrx2.below (Since.ok _) hhc) ?_ (hry2.below (Since.ok _) hhc') ?_); exact Nat.le_trans hhc (Since.ok _).size; exact Nat.le_trans hhc' (Since.ok _).size)))
          refine wpQuiet_nil ?_
          intro w3 hw3
          have hb4 : Below w2.heap.size w2 w3 := by obtain ⟨u, hu⟩ := hw3; rw [hu]; exact u.ok
          clear hw3 u1 u2
          go_wp2_with fail
          go_ret
          exact ⟨ret_bool hF.out.symm, below_then hb3 hb4 (by omega)⟩
      · obtain ⟨b, o, Ak, nk, ck, x, hAe, _, _, hx, _, _⟩ := (h.below hb hhi).at_ hlt
        have hst := cmp2_short (b := ys) hx (by have := hl'.out; omega)
        rw [heq.out] at hst
        have hF : decide (cmp2 xs ys < 0) = false := by rw [hst]; rfl
        have hnl : decide ((n : Int) < (n' : Int)) = false := by simp; omega
        clear hAe
        replace hF := Lib.hid hF
        replace hst := Lib.hid hst
        replace hx := Lib.hid hx
        go_wp2_with fail
        go_ret
        exact ⟨ret_bool (by first | exact hF.out.symm | (rw [hF.out]; simp; omega)), hb⟩
    · have hkn : k = n := by omega
      subst hkn
      by_cases hlt' : k < n'
      · have hst := cmp2_long (a := xs) (b := ys) (k := k) (by have := hl.out; omega) (by have := hl'.out; omega)
        rw [heq.out] at hst
        have hF : decide (cmp2 xs ys < 0) = true := by rw [hst]; rfl
        have hnl : decide ((k : Int) < (n' : Int)) = true := by simp; omega
        replace hF := Lib.hid hF
        replace hst := Lib.hid hst
        go_wp2_with fail
        go_ret
        exact ⟨ret_bool (by first | exact hF.out.symm | (rw [hF.out]; simp; omega)), hb⟩
      · have hst := cmp2_end (a := xs) (b := ys) (k := k) (by have := hl.out; omega) (by have := hl'.out; omega)
        rw [heq.out] at hst
        have hF : decide (cmp2 xs ys < 0) = false := by rw [hst]; rfl
        have hnl : decide ((k : Int) < (n' : Int)) = false := by simp; omega
        replace hF := Lib.hid hF
        replace hst := Lib.hid hst
        go_wp2_with fail
        go_ret
        exact ⟨ret_bool (by first | exact hF.out.symm | (rw [hF.out]; simp; omega)), hb⟩
end Go.Proofs.Ytpbkdjkgaalegaa
