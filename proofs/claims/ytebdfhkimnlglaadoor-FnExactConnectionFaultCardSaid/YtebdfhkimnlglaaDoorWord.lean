/- Walks: ranges of lists, the reference's check of a system, words applied to points. No condition but the sizes of memory. -/
import Derived.Test.YtebdfhkimnlglaaDoorSys
namespace Go.Proofs.YtebdfhkimnlglaaDoor
open Go.RowKit
set_option linter.unusedVariables false
set_option maxRecDepth 100000

/-- low to high -/
def inR (lo hi x : Int) : Bool := decide (lo ≤ x) && decide (x ≤ hi)
theorem inR_iff {lo hi x : Int} : inR lo hi x = true ↔ lo ≤ x ∧ x ≤ hi := by simp [inR]
def allIn (lo hi : Int) (xs : List Int) : Bool := xs.all (inR lo hi)
/-- a word applied to a point -/
def runW (list : List (List Int)) (word : List Int) (x : Int) : Int := word.foldl (fun x g => (list.getD g.toNat []).getD x.toNat 0) x
theorem runW_snoc (list : List (List Int)) (word : List Int) (g x : Int) : runW list (word ++ [g]) x = (list.getD g.toNat []).getD (runW list word x).toNat 0 := by simp [runW]
def applyF (n : Int) (list : List (List Int)) (word : List Int) (x : Int) : Int × Int :=
  if isSysB n list = true then (if inR 0 (n - 1) x = true ∧ word.length ≤ 64 ∧ allIn 0 ((list.length : Int) - 1) word = true then (runW list word x, 0) else (0, 2)) else (0, 1)
set_option maxHeartbeats 400000 in
theorem withinClosure_any (x : Int) (b1 b2 : Nat) (l h : Int) (w : World) (h1 : w.cell? ⟨b1, 0, none⟩ = some (.int .i64 l)) (h2 : w.cell? ⟨b2, 0, none⟩ = some (.int .i64 h)) :
    Calls Tryd.prog 52 #[.int .i64 x, .pointer (some ⟨b1, 0, none⟩), .pointer (some ⟨b2, 0, none⟩)] w fun e w' => e = .returned (.bool (!(inR l h x))) ∧ w = w' := by
  go_enter Tryd.func52, Tryd.ntmps52
  go_wp2_with fail
  ((with_reducible refine (within_any _ _ _ _).mono ?_); rintro e w' ⟨rfl, rfl⟩)
  go_wp2_with fail
  go_ret
  exact ⟨ret_bool (by simp [inR]), rfl⟩
set_option maxHeartbeats 400000 in
theorem withinIndex_any (A : Option Addr) (m c : Nat) (xs : List Int) (b1 b2 : Nat) (l u : Int) (w : World) {lo hi : Nat} (h : RI w lo hi A m xs) (h1 : w.cell? ⟨b1, 0, none⟩ = some (.int .i64 l)) (h2 : w.cell? ⟨b2, 0, none⟩ = some (.int .i64 u)) :
    Calls Tryd.prog 57 #[.slice A m c, .func (.func 52) #[] #[.pointer (some ⟨b1, 0, none⟩), .pointer (some ⟨b2, 0, none⟩)]] w fun e w' => ∃ r : Int, e = .returned (.int .i64 r) ∧ -1 ≤ r ∧ Hid ((!(decide (0 ≤ r))) = allIn l u xs) ∧ w = w' := by
  have hm := h.max
  have hl := Lib.hid h.len
  go_enter Tryd.func57, Tryd.ntmps57
  go_wp2_with fail
  go_loop [8] (fun iv => ∃ k : Nat, k ≤ m ∧ iv = .int .i64 k ∧ Hid (allIn l u (xs.take k) = true)) (fun iv => m - (intOf iv).toNat)
  case atStart => exact ⟨0, by omega, rfl, Lib.hid (by simp [allIn])⟩
  case round =>
    obtain ⟨k, hk, rfl, hall⟩ := hrel
    by_cases hlt : k < m
    · obtain ⟨b, o, x, rfl, _, _, hx, hc⟩ := h.at_ hlt
      replace hx := Lib.hid hx
      cases hbd : inR l u x with
      | false =>
        replace hbd := Lib.hid hbd
        go_wp2_with fail
        ((with_reducible refine (withinClosure_any x b1 b2 l u _ h1 h2).mono ?_); rintro e w2 ⟨rfl, rfl⟩)
        rw [hbd.out, show (!false) = true from rfl]
        go_wp2_with fail
        go_ret
        refine ⟨_, rfl, by omega, Lib.hid ?_, rfl⟩
        rw [decide_eq_true (by omega)]
        symm
        have hm' := mem_of_get? hx.out
        cases hq : allIn l u xs with
        | false => rfl
        | true => have := List.all_eq_true.1 hq x hm'; rw [hbd.out] at this; cases this
      | true =>
        replace hbd := Lib.hid hbd
        go_wp2_with fail
        ((with_reducible refine (withinClosure_any x b1 b2 l u _ h1 h2).mono ?_); rintro e w2 ⟨rfl, rfl⟩)
        rw [hbd.out, show (!true) = false from rfl]
        go_wp2_with fail
        go_round
        case rel => exact ⟨k + 1, by omega, by go_num, Lib.hid (by have h0 := hall.out; unfold allIn at *; rw [take_succ_of hx.out, List.all_append, h0]; simp [hbd.out])⟩
        case measure => simp [intOf]; omega
    · go_wp2_with fail
      go_ret
      have hkn : k = m := by omega
      subst hkn
      refine ⟨_, rfl, by omega, Lib.hid ?_, rfl⟩
      have hall := hall.out
      rw [List.take_of_length_le (by have := hl.out; omega)] at hall
      rw [hall]
      rfl
set_option maxHeartbeats 400000 in
theorem areWithin_any (A : Option Addr) (m c : Nat) (xs : List Int) (l u : Int) (w : World) {lo hi : Nat} (h : RI w lo hi A m xs) (hhi : hi ≤ w.heap.size) :
    Calls Tryd.prog 42 #[.slice A m c, .int .i64 l, .int .i64 u] w fun e w' => e = .returned (.bool (allIn l u xs)) ∧ Below w.heap.size w w' := by
  have hr : RI ((w.alloc (.cells #[.int .i64 l] 2)).alloc (.cells #[.int .i64 u] 2)) lo hi A m xs := (h.keep (same_alloc w _ _ _ hhi)).keep (same_alloc _ _ _ _ (by simp; omega))
  have c1 : ((w.alloc (.cells #[.int .i64 l] 2)).alloc (.cells #[.int .i64 u] 2)).cell? ⟨w.heap.size, 0, none⟩ = some (.int .i64 l) := by simp
  have c2 : ((w.alloc (.cells #[.int .i64 l] 2)).alloc (.cells #[.int .i64 u] 2)).cell? ⟨w.heap.size + 1, 0, none⟩ = some (.int .i64 u) := by
    simp
  replace c1 := Lib.hid c1
  replace c2 := Lib.hid c2
  go_enter Tryd.func42, Tryd.ntmps42
  go_wp2_with fail
  refine Calls.mono (R := fun e w' => e = .returned (.bool (!(allIn l u xs))) ∧ w' = ((w.alloc (.cells #[.int .i64 l] 2)).alloc (.cells #[.int .i64 u] 2))) ?_ ?_
  · go_enter Tryd.func51, Tryd.ntmps51
    go_wp2_with fail
    ((with_reducible refine (withinIndex_any _ _ _ xs _ _ l u _ hr c1.out c2.out).mono ?_); rintro e w2 ⟨r, rfl, hr1, hr2, rfl⟩)
    go_wp2_with fail
    go_ret
    exact ⟨ret_bool (by rw [← hr2.out]; simp), rfl⟩
  · rintro e w2 ⟨rfl, rfl⟩
    go_wp2_with fail
    go_ret
    exact ⟨ret_bool (by simp), ((Below.refl _ _).alloc (Nat.le_refl _) _).alloc (by simp) _⟩
theorem sizeS_any (A : Option Addr) (n c : Nat) (w : World) (hn : n ≤ 9223372036854775807) :
    Calls Tryd.prog 32 #[.slice A n c] w fun e w' => e = .returned (.int .i64 n) ∧ w = w' := by
  go_enter Tryd.func32, Tryd.ntmps32
  go_wp2
  go_ret
  exact ⟨rfl, rfl⟩
theorem rng_of' {p : List Int} {n : Nat} (h : isPermP p) (hl : p.length = n) : ∀ x ∈ p, 0 ≤ x ∧ x < n := by
  have := h.rng; rw [hl] at this; exact this
end Go.Proofs.YtebdfhkimnlglaaDoor
