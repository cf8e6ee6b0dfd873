/- Walks: comparisons of lists and of lists of lists. No condition but the sizes of memory. -/
import Derived.Test.YtcjnhiglfkcmiaaDoorLexP
import Derived.Test.YtcjnhiglfkcmiaaDoorMan
import Derived.Test.YtcjnhiglfkcmiaaDoorLawM
namespace Go.Proofs.YtcjnhiglfkcmiaaDoor
open Go.RowKit
set_option linter.unusedVariables false
set_option maxRecDepth 100000
theorem cmpCompare_any (x y : Int) (w : World) : Calls Tryd.prog 123 #[.int .i64 x, .int .i64 y] w fun e w' => e = .returned (.int .i64 (if x < y then -1 else if y < x then 1 else 0)) ∧ w = w' := by
  rcases Int.lt_trichotomy x y with h | h | h
  · have h1 : (if x < y then (-1 : Int) else if y < x then 1 else 0) = -1 := if_pos h
    have hd : decide (x < y) = true := decide_eq_true h
    rw [h1]
    go_enter Tryd.func123, Tryd.ntmps123
    go_wp2
    all_goals (go_ret; exact ⟨rfl, rfl⟩)
  · subst h
    have h1 : (if x < x then (-1 : Int) else if x < x then 1 else 0) = 0 := by simp
    rw [h1]
    go_enter Tryd.func123, Tryd.ntmps123
    go_wp2
    all_goals (go_ret; exact ⟨rfl, rfl⟩)
  · have h1 : (if x < y then (-1 : Int) else if y < x then 1 else 0) = 1 := by rw [if_neg (by omega), if_pos h]
    have hd : decide (x < y) = false := decide_eq_false (by omega)
    have hd2 : decide (y < x) = true := decide_eq_true h
    have hd3 : decide (x > y) = true := decide_eq_true h
    rw [h1]
    go_enter Tryd.func123, Tryd.ntmps123
    go_wp2
    all_goals (go_ret; exact ⟨rfl, rfl⟩)
set_option maxHeartbeats 2000000 in
theorem compare_any (A : Option Addr) (n c : Nat) (xs : List Int) (A' : Option Addr) (n' c' : Nat) (ys : List Int) (w : World) {lo hi lo' hi' : Nat} (h : RI w lo hi A n xs) (h' : RI w lo' hi' A' n' ys) :
    Calls Tryd.prog 99 #[.slice A n c, .slice A' n' c'] w fun e w' => e = .returned (.int .i64 (cmpL xs ys)) ∧ w = w' := by
  have hm := h.max
  have hm' := h'.max
  have hl := Lib.hid h.len
  have hl' := Lib.hid h'.len
  go_enter Tryd.func99, Tryd.ntmps99
  go_wp2_with fail
  go_loopw [11] (fun kv wq => ∃ k : Nat, k ≤ n ∧ k ≤ n' ∧ kv = .int .i64 k ∧ Hid (cmpL (xs.drop k) (ys.drop k) = cmpL xs ys) ∧ w = wq) (fun kv _ => n - (intOf kv).toNat)
  case atStart => exact ⟨0, by omega, by omega, rfl, Lib.hid rfl, by first | rfl | trivial⟩
  case round =>
    obtain ⟨k, hk, hk', rfl, heq, rfl⟩ := hrel
    by_cases hlt : k < n
    · obtain ⟨b, o, x, rfl, _, _, hx, hcx⟩ := h.at_ hlt
      by_cases hlt' : k < n'
      · obtain ⟨b', o', y, rfl, _, _, hy, hcy⟩ := h'.at_ hlt'
        have hge : decide ((k : Int) ≥ (n' : Int)) = false := by simp; omega
        have hst := cmpL_step hx hy
        rw [heq.out] at hst
        replace hx := Lib.hid hx
        replace hy := Lib.hid hy
        by_cases h1 : x < y
        · rw [if_pos h1] at hst
          have hc : (if x < y then (-1 : Int) else if y < x then 1 else 0) = -1 := if_pos h1
          replace hst := Lib.hid hst
          replace h1 := Lib.hid h1
          go_wp2_with fail
          ((with_reducible refine (cmpCompare_any x y _).mono ?_); rintro e w' ⟨rfl, rfl⟩)
          rw [hc]
          go_wp2_with fail
          go_ret
          exact ⟨ret_int hst.out.symm, rfl⟩
        · by_cases h2 : y < x
          · rw [if_neg h1, if_pos h2] at hst
            have hc : (if x < y then (-1 : Int) else if y < x then 1 else 0) = 1 := by rw [if_neg h1, if_pos h2]
            replace hst := Lib.hid hst
            replace h1 := Lib.hid h1
            replace h2 := Lib.hid h2
            go_wp2_with fail
            ((with_reducible refine (cmpCompare_any x y _).mono ?_); rintro e w' ⟨rfl, rfl⟩)
            rw [hc]
            go_wp2_with fail
            go_ret
            exact ⟨ret_int hst.out.symm, rfl⟩
          · rw [if_neg h1, if_neg h2] at hst
            have hc : (if x < y then (-1 : Int) else if y < x then 1 else 0) = 0 := by rw [if_neg h1, if_neg h2]
            replace hst := Lib.hid hst
            replace h1 := Lib.hid h1
            replace h2 := Lib.hid h2
            go_wp2_with fail
            ((with_reducible refine (cmpCompare_any x y _).mono ?_); rintro e w' ⟨rfl, rfl⟩)
            rw [hc]
            go_wp2_with fail
            go_roundw
            case measure => simp [intOf]; omega
            case rel => exact ⟨k + 1, by omega, by omega, by go_num, Lib.hid hst.out.symm, by first | rfl | trivial⟩
      · have hge : decide ((k : Int) ≥ (n' : Int)) = true := by simp; omega
        have hst := cmpL_short (b := ys) hx (by have := hl'.out; omega)
        rw [heq.out] at hst
        replace hst := Lib.hid hst
        replace hx := Lib.hid hx
        go_wp2_with fail
        go_ret
        exact ⟨ret_int hst.out.symm, rfl⟩
    · have hkn : k = n := by omega
      subst hkn
      by_cases hlt' : k < n'
      · have hst := cmpL_long (a := xs) (b := ys) (k := k) (by have := hl.out; omega) (by have := hl'.out; omega)
        rw [heq.out] at hst
        replace hst := Lib.hid hst
        go_wp2_with fail
        go_ret
        exact ⟨ret_int hst.out.symm, rfl⟩
      · have hst := cmpL_end (a := xs) (b := ys) (k := k) (by have := hl.out; omega) (by have := hl'.out; omega)
        rw [heq.out] at hst
        replace hst := Lib.hid hst
        go_wp2_with fail
        go_ret
        exact ⟨ret_int hst.out.symm, rfl⟩
end Go.Proofs.YtcjnhiglfkcmiaaDoor
