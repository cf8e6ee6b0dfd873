/- Walks: DiamondFault, the program's and the reference's. No condition but the sizes of memory. -/
import Derived.Test.YtpbmhhopgjikhaaDf
import Derived.Test.YtpbmhhopgjikhaaDfS
import Derived.Test.YtpbmhhopgjikhaaLawP
namespace Go.Proofs.Ytpbmhhopgjikhaa
open Go.RowKit
set_option linter.unusedVariables false
set_option maxRecDepth 100000
set_option maxHeartbeats 4000000 in
theorem i_DiamondFault_any (w : World) (r : Int) (hr : -9223372036854775808 ≤ r ∧ r ≤ 9223372036854775807) (D : Option Addr) (k e : Nat) (ps : List Int) {lo hi : Nat} (g : RI w lo hi D k ps) (hg : hi ≤ w.heap.size) (hke : k ≤ e) (A : Option Addr) (n c : Nat) (xss : List (List Int)) {lo' hi' : Nat} (h : RS w lo' hi' A n xss) (hhi : hi' ≤ w.heap.size) (hnc : n ≤ c) :
    Calls Try.prog 26 #[.agg #[.int .i64 r, .slice D k e, .slice A n c]] w fun e' w' => ∃ (A1 : Option Addr) (n1 c1 : Nat) (zs : List Int) (code : Int), e' = .returned (.tuple #[.slice A1 n1 c1, .int .i64 code]) ∧ Hid ((zs, code) = dfF r ps xss) ∧ Own w' w.heap.size w'.heap.size 2 A1 n1 c1 (zs.map (Value.int .i64)) ∧ n1 ≤ 1048576 ∧ Below w.heap.size w w' := by
  have hl := g.len
  have hl1 := h.len
  have hm := g.max
  have hm1 := h.max
  have hR := rs_alloc h hhi (.cells #[.int .i64 r, .slice D k e, .slice A n c] 28)
  have hG := ri_alloc g hg (.cells #[.int .i64 r, .slice D k e, .slice A n c] 28)
  have hB : Below w.heap.size w (w.alloc (.cells #[.int .i64 r, .slice D k e, .slice A n c] 28)) := (Below.refl _ _).alloc (Nat.le_refl _) _
  have p0 : (w.alloc (.cells #[.int .i64 r, .slice D k e, .slice A n c] 28)).heap[w.heap.size]? = some (.cells #[.int .i64 r, .slice D k e, .slice A n c] 28 (0, 0)) := heap_new _ _ _ rfl
  replace p0 := Lib.hid p0
  cases hM : isPosB r ps xss with
  | false =>
    have hF : dfF r ps xss = ([], 1) := by unfold dfF; rw [hM]; rfl
    replace hF := Lib.hid hF
    replace hM := Lib.hid hM
    replace hl := Lib.hid hl
    replace hl1 := Lib.hid hl1
    go_enter Try.func26, Try.ntmps26
    go_wp2_with fail
    obtain ⟨W1, hW⟩ : ∃ W1 : World, (w.alloc (.cells #[.int .i64 r, .slice D k e, .slice A n c] 28)) = W1 := ⟨_, rfl⟩
    have hz1 : W1.heap.size = w.heap.size + 1 := by rw [← hW]; simp
    rw [hW] at hR hG hB p0 ⊢
    clear hW h g
    ((with_reducible refine (isPoset_any r hr D k e ps A n c xss _ hG (by omega) hR (by omega)).mono ?_); rintro e2 w2 ⟨rfl, f2⟩)
    rw [hM.out]
    have y2 := f2.size
    have a0 : w2.cell? ⟨w.heap.size, 0, none⟩ = some (.int .i64 r) := by rw [cell_of_row _ _ _ _ _ _ ((f2.block _ (by omega)).trans p0.out)]; rfl
    have a1 : w2.cell? ⟨w.heap.size, 1, none⟩ = some (.slice D k e) := by rw [cell_of_row _ _ _ _ _ _ ((f2.block _ (by omega)).trans p0.out)]; rfl
    have a2 : w2.cell? ⟨w.heap.size, 2, none⟩ = some (.slice A n c) := by rw [cell_of_row _ _ _ _ _ _ ((f2.block _ (by omega)).trans p0.out)]; rfl
    go_wp2_with fail
    go_ret2
    exact ⟨_, 0, _, [], _, rfl, Lib.hid hF.out.symm, Own.nil, by omega, hB.trans (f2.mono (by omega))⟩
  | true =>
    have hp := isPosB_iff.1 hM
    have hnk : n = k := by have := hp.len; omega
    subst hnk
    cases hdf : df r ps xss with
    | none =>
      have hF : dfF r ps xss = ([], 4) := by unfold dfF; rw [if_pos hM, hdf]; rfl
      have hnil := fun wx : World => Lib.run_eql_slice_nil (P := Try.prog) wx 22 2 none 0 0 0 0 Try.underlying22
      replace hF := Lib.hid hF
      replace hM := Lib.hid hM
      replace hl := Lib.hid hl
      replace hl1 := Lib.hid hl1
      replace hdf := Lib.hid hdf
      go_enter Try.func26, Try.ntmps26
      go_wp2_with fail
      obtain ⟨W1, hW⟩ : ∃ W1 : World, (w.alloc (.cells #[.int .i64 r, .slice D n e, .slice A n c] 28)) = W1 := ⟨_, rfl⟩
      have hz1 : W1.heap.size = w.heap.size + 1 := by rw [← hW]; simp
      rw [hW] at hR hG hB p0 ⊢
      clear hW h g
      ((with_reducible refine (isPoset_any r hr D n e ps A n c xss _ hG (by omega) hR (by omega)).mono ?_); rintro e2 w2 ⟨rfl, f2⟩)
      rw [hM.out]
      have y2 := f2.size
      have a0 : w2.cell? ⟨w.heap.size, 0, none⟩ = some (.int .i64 r) := by rw [cell_of_row _ _ _ _ _ _ ((f2.block _ (by omega)).trans p0.out)]; rfl
      have a1 : w2.cell? ⟨w.heap.size, 1, none⟩ = some (.slice D n e) := by rw [cell_of_row _ _ _ _ _ _ ((f2.block _ (by omega)).trans p0.out)]; rfl
      have a2 : w2.cell? ⟨w.heap.size, 2, none⟩ = some (.slice A n c) := by rw [cell_of_row _ _ _ _ _ _ ((f2.block _ (by omega)).trans p0.out)]; rfl
      go_wp2_with fail
      ((with_reducible refine (diamondFault_any r D e n ps A c xss w2 (hG.below f2 (by omega)) (by omega) (hR.below f2 (by omega)) (by omega) hp).mono ?_); rintro e3 w3 ⟨v, rfl, hv, f3⟩)
      have y3 := f3.size
      have F3 : Below W1.heap.size W1 w3 := below_then f2 f3 (by omega)
      obtain rfl := hv.out.1 hdf.out
      clear hv
      go_wp2_with fail
      go_ret2
      exact ⟨_, 0, _, [], _, rfl, Lib.hid hF.out.symm, Own.nil, by omega, hB.trans (F3.mono (by omega))⟩
    | some l =>
      have hF : dfF r ps xss = (l, 0) := by unfold dfF; rw [if_pos hM, hdf]; rfl
      have hl3 := df_len hdf
      have hnil := fun (g : Nat) (wx : World) => Lib.run_eql_slice_nil (P := Try.prog) wx 22 2 (some ⟨g, 0, none⟩) 3 3 0 0 Try.underlying22
      replace hF := Lib.hid hF
      replace hM := Lib.hid hM
      replace hl := Lib.hid hl
      replace hl1 := Lib.hid hl1
      replace hdf := Lib.hid hdf
      replace hl3 := Lib.hid hl3
      go_enter Try.func26, Try.ntmps26
      go_wp2_with fail
      obtain ⟨W1, hW⟩ : ∃ W1 : World, (w.alloc (.cells #[.int .i64 r, .slice D n e, .slice A n c] 28)) = W1 := ⟨_, rfl⟩
      have hz1 : W1.heap.size = w.heap.size + 1 := by rw [← hW]; simp
      rw [hW] at hR hG hB p0 ⊢
      clear hW h g
      ((with_reducible refine (isPoset_any r hr D n e ps A n c xss _ hG (by omega) hR (by omega)).mono ?_); rintro e2 w2 ⟨rfl, f2⟩)
      rw [hM.out]
      have y2 := f2.size
      have a0 : w2.cell? ⟨w.heap.size, 0, none⟩ = some (.int .i64 r) := by rw [cell_of_row _ _ _ _ _ _ ((f2.block _ (by omega)).trans p0.out)]; rfl
      have a1 : w2.cell? ⟨w.heap.size, 1, none⟩ = some (.slice D n e) := by rw [cell_of_row _ _ _ _ _ _ ((f2.block _ (by omega)).trans p0.out)]; rfl
      have a2 : w2.cell? ⟨w.heap.size, 2, none⟩ = some (.slice A n c) := by rw [cell_of_row _ _ _ _ _ _ ((f2.block _ (by omega)).trans p0.out)]; rfl
      go_wp2_with fail
      ((with_reducible refine (diamondFault_any r D e n ps A c xss w2 (hG.below f2 (by omega)) (by omega) (hR.below f2 (by omega)) (by omega) hp).mono ?_); rintro e3 w3 ⟨v, rfl, hv, f3⟩)
      have y3 := f3.size
      have F3 : Below W1.heap.size W1 w3 := below_then f2 f3 (by omega)
      obtain ⟨g3, rfl, o3⟩ := hv.out.2 l hdf.out
      clear hv
      have hnil := hnil g3
      go_wp2_with fail
      go_ret2
      exact ⟨_, 3, _, l, _, rfl, Lib.hid hF.out.symm, o3.more (by omega) (Nat.le_refl _), by omega, hB.trans (F3.mono (by omega))⟩
set_option maxHeartbeats 4000000 in
theorem s_DiamondFault_any (w : World) (r : Int) (hr : -9223372036854775808 ≤ r ∧ r ≤ 9223372036854775807) (D : Option Addr) (k e : Nat) (ps : List Int) {lo hi : Nat} (g : RI w lo hi D k ps) (hg : hi ≤ w.heap.size) (hke : k ≤ e) (A : Option Addr) (n c : Nat) (xss : List (List Int)) {lo' hi' : Nat} (h : RS w lo' hi' A n xss) (hhi : hi' ≤ w.heap.size) (hnc : n ≤ c) :
    Calls Try.prog 25 #[.agg #[.int .i64 r, .slice D k e, .slice A n c]] w fun e' w' => ∃ (A1 : Option Addr) (n1 c1 : Nat) (zs : List Int) (code : Int), e' = .returned (.tuple #[.slice A1 n1 c1, .int .i64 code]) ∧ Hid ((zs, code) = dfF r ps xss) ∧ Own w' w.heap.size w'.heap.size 2 A1 n1 c1 (zs.map (Value.int .i64)) ∧ n1 ≤ 1048576 ∧ Below w.heap.size w w' := by
  have hl := g.len
  have hl1 := h.len
  have hm := g.max
  have hm1 := h.max
  have hR := rs_alloc h hhi (.cells #[.int .i64 r, .slice D k e, .slice A n c] 28)
  have hG := ri_alloc g hg (.cells #[.int .i64 r, .slice D k e, .slice A n c] 28)
  have hB : Below w.heap.size w (w.alloc (.cells #[.int .i64 r, .slice D k e, .slice A n c] 28)) := (Below.refl _ _).alloc (Nat.le_refl _) _
  have p0 : (w.alloc (.cells #[.int .i64 r, .slice D k e, .slice A n c] 28)).heap[w.heap.size]? = some (.cells #[.int .i64 r, .slice D k e, .slice A n c] 28 (0, 0)) := heap_new _ _ _ rfl
  replace p0 := Lib.hid p0
  cases hM : isPosB r ps xss with
  | false =>
    have hF : dfF r ps xss = ([], 1) := by unfold dfF; rw [hM]; rfl
    replace hF := Lib.hid hF
    replace hM := Lib.hid hM
    replace hl := Lib.hid hl
    replace hl1 := Lib.hid hl1
    go_enter Try.func25, Try.ntmps25
    go_wp2_with fail
    obtain ⟨W1, hW⟩ : ∃ W1 : World, (w.alloc (.cells #[.int .i64 r, .slice D k e, .slice A n c] 28)) = W1 := ⟨_, rfl⟩
    have hz1 : W1.heap.size = w.heap.size + 1 := by rw [← hW]; simp
    rw [hW] at hR hG hB p0 ⊢
    clear hW h g
    ((with_reducible refine (l03Is_any r hr D k e ps A n c xss _ hG (by omega) hR (by omega)).mono ?_); rintro e2 w2 ⟨rfl, f2⟩)
    rw [hM.out]
    have y2 := f2.size
    have a0 : w2.cell? ⟨w.heap.size, 0, none⟩ = some (.int .i64 r) := by rw [cell_of_row _ _ _ _ _ _ ((f2.block _ (by omega)).trans p0.out)]; rfl
    have a1 : w2.cell? ⟨w.heap.size, 1, none⟩ = some (.slice D k e) := by rw [cell_of_row _ _ _ _ _ _ ((f2.block _ (by omega)).trans p0.out)]; rfl
    have a2 : w2.cell? ⟨w.heap.size, 2, none⟩ = some (.slice A n c) := by rw [cell_of_row _ _ _ _ _ _ ((f2.block _ (by omega)).trans p0.out)]; rfl
    go_wp2_with fail
    go_ret2
    exact ⟨_, 0, _, [], _, rfl, Lib.hid hF.out.symm, Own.nil, by omega, hB.trans (f2.mono (by omega))⟩
  | true =>
    have hp := isPosB_iff.1 hM
    have hnk : n = k := by have := hp.len; omega
    subst hnk
    cases hdf : df r ps xss with
    | none =>
      have hF : dfF r ps xss = ([], 4) := by unfold dfF; rw [if_pos hM, hdf]; rfl
      replace hF := Lib.hid hF
      replace hM := Lib.hid hM
      replace hl := Lib.hid hl
      replace hl1 := Lib.hid hl1
      replace hdf := Lib.hid hdf
      go_enter Try.func25, Try.ntmps25
      go_wp2_with fail
      obtain ⟨W1, hW⟩ : ∃ W1 : World, (w.alloc (.cells #[.int .i64 r, .slice D n e, .slice A n c] 28)) = W1 := ⟨_, rfl⟩
      have hz1 : W1.heap.size = w.heap.size + 1 := by rw [← hW]; simp
      rw [hW] at hR hG hB p0 ⊢
      clear hW h g
      ((with_reducible refine (l03Is_any r hr D n e ps A n c xss _ hG (by omega) hR (by omega)).mono ?_); rintro e2 w2 ⟨rfl, f2⟩)
      rw [hM.out]
      have y2 := f2.size
      have a0 : w2.cell? ⟨w.heap.size, 0, none⟩ = some (.int .i64 r) := by rw [cell_of_row _ _ _ _ _ _ ((f2.block _ (by omega)).trans p0.out)]; rfl
      have a1 : w2.cell? ⟨w.heap.size, 1, none⟩ = some (.slice D n e) := by rw [cell_of_row _ _ _ _ _ _ ((f2.block _ (by omega)).trans p0.out)]; rfl
      have a2 : w2.cell? ⟨w.heap.size, 2, none⟩ = some (.slice A n c) := by rw [cell_of_row _ _ _ _ _ _ ((f2.block _ (by omega)).trans p0.out)]; rfl
      go_wp2_with fail
      ((with_reducible refine (l03Fault_any r D e n ps A c xss w2 (hG.below f2 (by omega)) (by omega) (hR.below f2 (by omega)) (by omega) hp).mono ?_); rintro e3 w3 ⟨A3, n3, c3, zs3, rfl, hz3, o3, f3⟩)
      have y3 := f3.size
      have F3 : Below W1.heap.size W1 w3 := below_then f2 f3 (by omega)
      have hz4 := hz3.out
      rw [hdf.out] at hz4
      have o3l := o3.lenI
      have hz4 : zs3 = [] := hz4
      subst hz4
      have o3l : 0 = n3 := o3l
      subst o3l
      go_wp2_with fail
      go_ret2
      exact ⟨_, 0, _, [], _, rfl, Lib.hid hF.out.symm, Own.nil, by omega, hB.trans (F3.mono (by omega))⟩
    | some l =>
      have hF : dfF r ps xss = (l, 0) := by unfold dfF; rw [if_pos hM, hdf]; rfl
      have hl3 := df_len hdf
      replace hF := Lib.hid hF
      replace hM := Lib.hid hM
      replace hl := Lib.hid hl
      replace hl1 := Lib.hid hl1
      replace hdf := Lib.hid hdf
      replace hl3 := Lib.hid hl3
      go_enter Try.func25, Try.ntmps25
      go_wp2_with fail
      obtain ⟨W1, hW⟩ : ∃ W1 : World, (w.alloc (.cells #[.int .i64 r, .slice D n e, .slice A n c] 28)) = W1 := ⟨_, rfl⟩
      have hz1 : W1.heap.size = w.heap.size + 1 := by rw [← hW]; simp
      rw [hW] at hR hG hB p0 ⊢
      clear hW h g
      ((with_reducible refine (l03Is_any r hr D n e ps A n c xss _ hG (by omega) hR (by omega)).mono ?_); rintro e2 w2 ⟨rfl, f2⟩)
      rw [hM.out]
      have y2 := f2.size
      have a0 : w2.cell? ⟨w.heap.size, 0, none⟩ = some (.int .i64 r) := by rw [cell_of_row _ _ _ _ _ _ ((f2.block _ (by omega)).trans p0.out)]; rfl
      have a1 : w2.cell? ⟨w.heap.size, 1, none⟩ = some (.slice D n e) := by rw [cell_of_row _ _ _ _ _ _ ((f2.block _ (by omega)).trans p0.out)]; rfl
      have a2 : w2.cell? ⟨w.heap.size, 2, none⟩ = some (.slice A n c) := by rw [cell_of_row _ _ _ _ _ _ ((f2.block _ (by omega)).trans p0.out)]; rfl
      go_wp2_with fail
      ((with_reducible refine (l03Fault_any r D e n ps A c xss w2 (hG.below f2 (by omega)) (by omega) (hR.below f2 (by omega)) (by omega) hp).mono ?_); rintro e3 w3 ⟨A3, n3, c3, zs3, rfl, hz3, o3, f3⟩)
      have y3 := f3.size
      have F3 : Below W1.heap.size W1 w3 := below_then f2 f3 (by omega)
      have hz4 := hz3.out
      rw [hdf.out] at hz4
      have o3l := o3.lenI
      have hz4 : zs3 = l := hz4
      subst hz4
      have o3m : n3 = 3 := by have := hl3.out; omega
      subst o3m
      replace hz3 := Lib.hid hz3
      replace o3l := Lib.hid o3l
      go_wp2_with fail
      go_ret2
      exact ⟨_, 3, _, zs3, _, rfl, Lib.hid hF.out.symm, o3.more (by omega) (Nat.le_refl _), by omega, hB.trans (F3.mono (by omega))⟩
end Go.Proofs.Ytpbmhhopgjikhaa
