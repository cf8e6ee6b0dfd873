/- Walks: the reference's comparisons of lists and of lists of lists. No condition but the sizes of memory. -/
import Derived.Test.YtcjnhiglfkcmiaaDoorLexP
import Derived.Test.YtcjnhiglfkcmiaaDoorMan
import Derived.Test.YtcjnhiglfkcmiaaDoorLawM
import Derived.Test.YtcjnhiglfkcmiaaDoorOrbS
namespace Go.Proofs.YtcjnhiglfkcmiaaDoor
open Go.RowKit
set_option linter.unusedVariables false
set_option maxRecDepth 100000
set_option maxHeartbeats 2000000 in
theorem l01Same_any (A : Option Addr) (n c : Nat) (xs : List Int) (A' : Option Addr) (n' c' : Nat) (ys : List Int) (w : World) {lo hi lo' hi' : Nat} (h : RI w lo hi A n xs) (hhi : hi ≤ w.heap.size) (h' : RI w lo' hi' A' n' ys) (hhi' : hi' ≤ w.heap.size) :
    Calls Tryd.prog 118 #[.slice A n c, .slice A' n' c'] w fun e w' => e = .returned (.bool (decide (xs = ys))) ∧ Below w.heap.size w w' := by
  have hm := h.max
  have hm' := h'.max
  have hl := h.len
  have hl' := h'.len
  by_cases hn : n = n'
  · subst hn
    have hd : ((n : Int) != (n : Int)) = false := by simp
    replace hl := Lib.hid hl
    replace hl' := Lib.hid hl'
    go_enter Tryd.func118, Tryd.ntmps118
    go_wp2_with fail
    go_loopw [5] (fun kv wq => ∃ k : Nat, k ≤ n ∧ kv = .int .i64 k ∧ Hid (∀ j, j < k → xs[j]? = ys[j]?) ∧ Below w.heap.size w wq) (fun kv _ => n - (intOf kv).toNat)
    case atStart => exact ⟨0, by omega, rfl, Lib.hid (fun j hj => by omega), Below.refl _ _⟩
    case round =>
      obtain ⟨k, hk, rfl, hall, hb⟩ := hrel
      by_cases hlt : k < n
      · obtain ⟨b, o, x, rfl, _, _, hx, hcx⟩ := (h.below hb hhi).at_ hlt
        obtain ⟨b', o', y, rfl, _, _, hy, hcy⟩ := (h'.below hb hhi').at_ hlt
        by_cases hxy : x = y
        · subst hxy
          have hne : (x != x) = false := by simp
          have hall2 : ∀ j, j < k + 1 → xs[j]? = ys[j]? := fun j hj => by
            by_cases e : j = k
            · subst e; rw [hx, hy]
            · exact hall.out j (by omega)
          replace hall2 := Lib.hid hall2
          replace hx := Lib.hid hx
          replace hy := Lib.hid hy
          go_wp2_with fail
          go_quiet (fail)
          go_wp2_with fail
          go_roundw
          case measure => simp [intOf]; omega
          case rel => exact ⟨k + 1, by omega, by go_num, hall2, below_dn hb _⟩
        · have hne : (x != y) = true := by simpa using hxy
          have hF : decide (xs = ys) = false := decide_eq_false (fun e => by rw [e, hy] at hx; exact hxy (Option.some.inj hx).symm)
          replace hF := Lib.hid hF
          replace hx := Lib.hid hx
          replace hy := Lib.hid hy
          replace hxy := Lib.hid hxy
          go_wp2_with fail
          go_quiet (fail)
          go_wp2_with fail
          go_ret
          exact ⟨ret_bool hF.out.symm, below_dn hb _⟩
      · have hkn : k = n := by omega
        subst hkn
        have hF : decide (xs = ys) = true := decide_eq_true (list_ext_upto k (by have := hl.out; omega) (by have := hl'.out; omega) hall.out)
        replace hF := Lib.hid hF
        go_wp2_with fail
        go_ret
        exact ⟨ret_bool (by first | exact hF.out.symm | (rw [hF.out]; simp; omega)), hb⟩
  · have hd : ((n : Int) != (n' : Int)) = true := by simp; omega
    have hF : decide (xs = ys) = false := decide_eq_false (fun e => by subst e; omega)
    replace hF := Lib.hid hF
    replace hl := Lib.hid hl
    replace hl' := Lib.hid hl'
    replace hn := Lib.hid hn
    go_enter Tryd.func118, Tryd.ntmps118
    go_wp2_with fail
    go_ret
    exact ⟨ret_bool hF.out.symm, Below.refl _ _⟩
set_option maxHeartbeats 4000000 in
theorem l01Less_any (A : Option Addr) (n c : Nat) (xs : List Int) (A' : Option Addr) (n' c' : Nat) (ys : List Int) (w : World) {lo hi lo' hi' : Nat} (h : RI w lo hi A n xs) (hhi : hi ≤ w.heap.size) (h' : RI w lo' hi' A' n' ys) (hhi' : hi' ≤ w.heap.size) :
    Calls Tryd.prog 117 #[.slice A n c, .slice A' n' c'] w fun e w' => e = .returned (.bool (decide (cmpL xs ys < 0))) ∧ Below w.heap.size w w' := by
  have hm := h.max
  have hm' := h'.max
  have hl := Lib.hid h.len
  have hl' := Lib.hid h'.len
  go_enter Tryd.func117, Tryd.ntmps117
  go_wp2_with fail
  go_loopw [5] (fun kv wq => ∃ k : Nat, k ≤ n ∧ k ≤ n' ∧ kv = .int .i64 k ∧ Hid (cmpL (xs.drop k) (ys.drop k) = cmpL xs ys) ∧ Below w.heap.size w wq) (fun kv _ => n - (intOf kv).toNat)
  case atStart => exact ⟨0, by omega, by omega, rfl, Lib.hid rfl, Below.refl _ _⟩
  case round =>
    obtain ⟨k, hk, hk', rfl, heq, hb⟩ := hrel
    by_cases hlt : k < n
    · by_cases hlt' : k < n'
      · obtain ⟨b, o, x, rfl, _, hbu, hx, hcx⟩ := (h.below hb hhi).at_ hlt
        obtain ⟨b', o', y, rfl, _, hbu', hy, hcy⟩ := (h'.below hb hhi').at_ hlt'
        have hst := cmpL_step hx hy
        rw [heq.out] at hst
        replace hx := Lib.hid hx
        replace hy := Lib.hid hy
        by_cases hxy : x = y
        · subst hxy
          have hne : (x != x) = false := by simp
          rw [if_neg (by omega), if_neg (by omega)] at hst
          replace hst := Lib.hid hst
          go_wp2_with fail
          go_quiet (fail)
          go_wp2_with fail
          go_roundw
          case measure => simp [intOf]; omega
          case rel => exact ⟨k + 1, by omega, by omega, by go_num, Lib.hid hst.out.symm, below_dn hb _⟩
        · have hne : (x != y) = true := by simpa using hxy
          have hF : decide (cmpL xs ys < 0) = decide (x < y) := by
            rw [hst]
            by_cases h1 : x < y
            · simp [h1]
            · rw [if_neg h1, if_pos (by omega)]; simp [h1]
          replace hF := Lib.hid hF
          replace hst := Lib.hid hst
          replace hxy := Lib.hid hxy
          go_wp2_with fail
          go_quiet (fail)
          go_wp2_with fail
          go_quiet (fail)
          go_wp2_with fail
          go_ret
          exact ⟨ret_bool hF.out.symm, below_dn (below_dn hb _) _⟩
      · obtain ⟨b, o, x, hAe, _, _, hx, _⟩ := (h.below hb hhi).at_ hlt
        have hst := cmpL_short (b := ys) hx (by have := hl'.out; omega)
        rw [heq.out] at hst
        have hF : decide (cmpL xs ys < 0) = false := by rw [hst]; rfl
        have hnl : decide ((n : Int) < (n' : Int)) = false := by simp; omega
        clear hAe
        replace hF := Lib.hid hF
        replace hst := Lib.hid hst
        replace hx := Lib.hid hx
        go_wp2_with fail
        go_ret
        exact ⟨ret_bool (by first | exact hF.out.symm | (rw [hF.out]; simp; omega)), hb⟩
    · have hkn : k = n := by omega
      subst hkn
      by_cases hlt' : k < n'
      · have hst := cmpL_long (a := xs) (b := ys) (k := k) (by have := hl.out; omega) (by have := hl'.out; omega)
        rw [heq.out] at hst
        have hF : decide (cmpL xs ys < 0) = true := by rw [hst]; rfl
        have hnl : decide ((k : Int) < (n' : Int)) = true := by simp; omega
        replace hF := Lib.hid hF
        replace hst := Lib.hid hst
        go_wp2_with fail
        go_ret
        exact ⟨ret_bool (by first | exact hF.out.symm | (rw [hF.out]; simp; omega)), hb⟩
      · have hst := cmpL_end (a := xs) (b := ys) (k := k) (by have := hl.out; omega) (by have := hl'.out; omega)
        rw [heq.out] at hst
        have hF : decide (cmpL xs ys < 0) = false := by rw [hst]; rfl
        have hnl : decide ((k : Int) < (n' : Int)) = false := by simp; omega
        replace hF := Lib.hid hF
        replace hst := Lib.hid hst
        go_wp2_with fail
        go_ret
        exact ⟨ret_bool (by first | exact hF.out.symm | (rw [hF.out]; simp; omega)), hb⟩
end Go.Proofs.YtcjnhiglfkcmiaaDoor
