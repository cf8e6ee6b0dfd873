/- Walks: FlagsOf, the program's and the reference's. No condition but the sizes of memory. -/
import Derived.Test.YtdhkaclkheokbaaFlg
import Derived.Test.YtdhkaclkheokbaaFlgT
import Derived.Test.YtdhkaclkheokbaaPosS
namespace Go.Proofs.Ytdhkaclkheokbaa
open Go.RowKit
set_option linter.unusedVariables false
set_option maxRecDepth 100000
open Classical
set_option maxHeartbeats 4000000 in
theorem i_FlagsOf_any (w : World) (r : Int) (hr : -9223372036854775808 ≤ r ∧ r ≤ 9223372036854775807) (D : Option Addr) (k e : Nat) (ps : List Int) {lo hi : Nat} (g : RI w lo hi D k ps) (hg : hi ≤ w.heap.size) (hke : k ≤ e) (A : Option Addr) (n c : Nat) (xss : List (List Int)) {lo' hi' : Nat} (h : RS w lo' hi' A n xss) (hhi : hi' ≤ w.heap.size) (hnc : n ≤ c) :
    Calls Try.prog 16 #[.agg #[.int .i64 r, .slice D k e, .slice A n c]] w fun e' w' => ∃ (A1 : Option Addr) (n1 c1 : Nat) (zss : List (List Int)) (code : Int), e' = .returned (.tuple #[.slice A1 n1 c1, .int .i64 code]) ∧ Hid ((zss, code) = flagF r ps xss) ∧ OwnS w' w.heap.size w'.heap.size 22 2 A1 n1 c1 zss ∧ n1 + numsIn zss ≤ 1048576 ∧ Below w.heap.size w w' := by
  have hl := g.len
  have hl1 := h.len
  have hm := g.max
  have hm1 := h.max
  have hR := rs_alloc h hhi (.cells #[.int .i64 r, .slice D k e, .slice A n c] 29)
  have hG := ri_alloc g hg (.cells #[.int .i64 r, .slice D k e, .slice A n c] 29)
  have hB : Below w.heap.size w (w.alloc (.cells #[.int .i64 r, .slice D k e, .slice A n c] 29)) := (Below.refl _ _).alloc (Nat.le_refl _) _
  have p0 : (w.alloc (.cells #[.int .i64 r, .slice D k e, .slice A n c] 29)).heap[w.heap.size]? = some (.cells #[.int .i64 r, .slice D k e, .slice A n c] 29 (0, 0)) := heap_new _ _ _ rfl
  replace p0 := Lib.hid p0
  replace hl := Lib.hid hl
  replace hl1 := Lib.hid hl1
  go_enter Try.func16, Try.ntmps16
  go_wp2_with fail
  obtain ⟨W1, hW⟩ : ∃ W1 : World, (w.alloc (.cells #[.int .i64 r, .slice D k e, .slice A n c] 29)) = W1 := ⟨_, rfl⟩
  have hz1 : W1.heap.size = w.heap.size + 1 := by rw [← hW]; simp
  rw [hW] at hR hG hB p0 ⊢
  clear hW h g
  ((with_reducible refine (flagsOf_any W1 r hr D k e ps hG (by omega) hke A n c xss hR (by omega) hnc).mono ?_); rintro e2 w2 ⟨A1, n1, c1, zss, code, rfl, hF, ho, hnum, f2⟩)
  have y2 := f2.size
  go_wp2_with fail
  go_ret2
  exact ⟨A1, n1, c1, zss, code, rfl, hF, ho.more (by omega) (Nat.le_refl _), hnum, hB.trans (f2.mono (by omega))⟩
set_option maxHeartbeats 4000000 in
theorem s_FlagsOf_any (w : World) (r : Int) (hr : -9223372036854775808 ≤ r ∧ r ≤ 9223372036854775807) (D : Option Addr) (k e : Nat) (ps : List Int) {lo hi : Nat} (g : RI w lo hi D k ps) (hg : hi ≤ w.heap.size) (hke : k ≤ e) (A : Option Addr) (n c : Nat) (xss : List (List Int)) {lo' hi' : Nat} (h : RS w lo' hi' A n xss) (hhi : hi' ≤ w.heap.size) (hnc : n ≤ c) :
    Calls Try.prog 15 #[.agg #[.int .i64 r, .slice D k e, .slice A n c]] w fun e' w' => ∃ (A1 : Option Addr) (n1 c1 : Nat) (zss : List (List Int)) (code : Int), e' = .returned (.tuple #[.slice A1 n1 c1, .int .i64 code]) ∧ Hid ((zss, code) = flagF r ps xss) ∧ OwnS w' w.heap.size w'.heap.size 22 2 A1 n1 c1 zss ∧ n1 + numsIn zss ≤ 1048576 ∧ Below w.heap.size w w' := by
  have hl := g.len
  have hl1 := h.len
  have hm := g.max
  have hm1 := h.max
  have hR := rs_alloc h hhi (.cells #[.int .i64 r, .slice D k e, .slice A n c] 29)
  have hG := ri_alloc g hg (.cells #[.int .i64 r, .slice D k e, .slice A n c] 29)
  have hB : Below w.heap.size w (w.alloc (.cells #[.int .i64 r, .slice D k e, .slice A n c] 29)) := (Below.refl _ _).alloc (Nat.le_refl _) _
  have p0 : (w.alloc (.cells #[.int .i64 r, .slice D k e, .slice A n c] 29)).heap[w.heap.size]? = some (.cells #[.int .i64 r, .slice D k e, .slice A n c] 29 (0, 0)) := heap_new _ _ _ rfl
  replace p0 := Lib.hid p0
  cases hM : isPosB r ps xss with
  | false =>
    have hF : flagF r ps xss = ([], 1) := by unfold flagF; rw [hM]; rfl
    replace hF := Lib.hid hF
    replace hM := Lib.hid hM
    replace hl := Lib.hid hl
    replace hl1 := Lib.hid hl1
    go_enter Try.func15, Try.ntmps15
    go_wp2_with fail
    obtain ⟨W1, hW⟩ : ∃ W1 : World, (w.alloc (.cells #[.int .i64 r, .slice D k e, .slice A n c] 29)) = W1 := ⟨_, rfl⟩
    have hz1 : W1.heap.size = w.heap.size + 1 := by rw [← hW]; simp
    rw [hW] at hR hG hB p0 ⊢
    clear hW h g
    ((with_reducible refine (l03Is_any r hr D k e ps A n c xss _ hG (by omega) hR (by omega)).mono ?_); rintro e2 w2 ⟨rfl, f2⟩)
    rw [hM.out]
    have y2 := f2.size
    go_wp2_with fail
    go_ret2
    exact ⟨_, 0, _, [], _, rfl, Lib.hid hF.out.symm, OwnS.nil, by simp [numsIn], hB.trans (f2.mono (by omega))⟩
  | true =>
    have hp := isPosB_iff.1 hM
    have hnk : n = k := by have := hp.len; omega
    subst hnk
    have hr15 : 1 ≤ r ∧ r ≤ 5 := ⟨hp.r1, hp.r5⟩
    have hF : flagF r ps xss = if 400 < (allFl r ps xss).length then ([], 3) else (allFl r ps xss, 0) := by unfold flagF; rw [if_pos hM]
    have hnum := allFl_nums (r := r) (ps := ps) (xss := xss) hr15.2
    obtain ⟨R, rfl⟩ : ∃ R : Nat, r = R := ⟨r.toNat, by omega⟩
    replace hF := Lib.hid hF
    replace hM := Lib.hid hM
    replace hl := Lib.hid hl
    replace hl1 := Lib.hid hl1
    replace hp := Lib.hid hp
    replace hnum := Lib.hid hnum
    go_enter Try.func15, Try.ntmps15
    go_wp2_with fail
    obtain ⟨W1, hW⟩ : ∃ W1 : World, (w.alloc (.cells #[.int .i64 (R : Int), .slice D n e, .slice A n c] 29)) = W1 := ⟨_, rfl⟩
    have hz1 : W1.heap.size = w.heap.size + 1 := by rw [← hW]; simp
    rw [hW] at hR hG hB p0 ⊢
    clear hW h g
    ((with_reducible refine (l03Is_any (R : Int) hr D n e ps A n c xss _ hG (by omega) hR (by omega)).mono ?_); rintro e2 w2 ⟨rfl, f2⟩)
    rw [hM.out]
    have y2 := f2.size
    have p2 := (f2.block _ (by omega)).trans p0.out
    have a0 : w2.cell? ⟨w.heap.size, 0, none⟩ = some (.int .i64 (R : Int)) := by rw [cell_of_row _ _ _ _ _ _ p2]; rfl
    have a1 : w2.cell? ⟨w.heap.size, 1, none⟩ = some (.slice D n e) := by rw [cell_of_row _ _ _ _ _ _ p2]; rfl
    have a2 : w2.cell? ⟨w.heap.size, 2, none⟩ = some (.slice A n c) := by rw [cell_of_row _ _ _ _ _ _ p2]; rfl
    replace p2 := Lib.hid p2
    have hfl := l03Flags_any R D e n ps A c xss w2 (hG.below f2 (by omega)) (by omega) (hR.below f2 (by omega)) (by omega) hp.out
    go_wp2_with fail
    ((with_reducible refine hfl.mono ?_); rintro e3 w3 ⟨L, nl, cl, rfl, hL, f3⟩)
    clear hfl
    have y3 := f3.size
    have hn8 := hL.len
    have hB3 : Below w.heap.size w w3 := hB.trans ((f2.mono (by omega)).trans (f3.mono (by omega)))
    obtain ⟨vs8, hH8, hR8⟩ := hL
    have hOS : OwnS w3 w.heap.size w3.heap.size 22 2 L nl cl (allFl (R : Int) ps xss) := ⟨vs8, hH8.more (by omega) (Nat.le_refl _), hR8.more (by omega) (Nat.le_refl _)⟩
    replace hn8 := Lib.hid hn8
    clear hH8 hR8
    by_cases h4 : nl ≤ 400
    · have hF' : Hid ((allFl (R : Int) ps xss, (0 : Int)) = flagF (R : Int) ps xss) := Lib.hid (by rw [hF.out, if_neg (by rw [hn8.out]; omega)])
      have hnm : nl + numsIn (allFl (R : Int) ps xss) ≤ 1048576 := by have := hnum.out; rw [hn8.out] at this; exact this
      rw [decide_eq_true h4]
      go_wp2_with fail
      go_ret2
      exact ⟨L, nl, cl, _, _, rfl, hF', hOS, hnm, hB3⟩
    · have hF' : Hid ((([] : List (List Int)), (3 : Int)) = flagF (R : Int) ps xss) := Lib.hid (by rw [hF.out, if_pos (by rw [hn8.out]; omega)])
      rw [decide_eq_false h4]
      go_wp2_with fail
      go_ret2
      exact ⟨_, 0, _, [], _, rfl, hF', OwnS.nil, by simp [numsIn], hB3⟩
end Go.Proofs.Ytdhkaclkheokbaa
