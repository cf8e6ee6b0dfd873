/- Walks: identities, powers of permutations. Permutations of at most 400 points, exponents up to 10^9. -/
import Derived.Test.YtcjnhiglfkcmiaaDoorOrd
namespace Go.Proofs.YtcjnhiglfkcmiaaDoor
open Go.RowKit
set_option linter.unusedVariables false
set_option maxRecDepth 100000
set_option maxHeartbeats 400000 in
theorem identity_any (n : Nat) (w : World) (h4 : n ≤ 1048576) :
    Calls Tryd.prog 75 #[.int .i64 n] w fun e w' => ∃ A1, e = .returned (.slice A1 n n) ∧ Own w' w.heap.size w'.heap.size 2 A1 n n ((idL n).map (Value.int .i64)) ∧ Below w.heap.size w w' := by
  obtain ⟨i0, hi0, hz0, hz1, hz2⟩ := info_parts infoI
  go_enter Tryd.func75, Tryd.ntmps75
  go_wp2_with (at_make; refine wpList_make_full _ rfl _ _ 24 rfl w.heap.size 2 i0 (.int .i64 0) 1 Tryd.underlying24 hi0 hz0 hz1 _ _ _ _ n rfl rfl rfl rfl ?c1 ?c2 (Nat.le_refl _) ?_)
  case c1 => rw [hz2]; omega
  case c2 => simp only [maxLen]; omega
  intro w1 hown hg
  have hb1 : Below w.heap.size w w1 := below_of_grown hg (Nat.le_refl _) (by simp)
  go_wp2_with fail
  go_loopw [9] (fun i wr => ∃ (k : Nat) (ys : List Int), k ≤ n ∧ i = .int .i64 k ∧ Hid (∀ j, j < k → ys[j]? = some (j : Int)) ∧ wr.ownsRow w.heap.size 2 1 (.slice (some ⟨w.heap.size, 0, none⟩) n n) n (ys.map (Value.int .i64)) ∧ Below w.heap.size w wr) (fun i wr => n - (intOf i).toNat)
  case atStart =>
    refine ⟨0, List.replicate n 0, by omega, rfl, Lib.hid (fun j hj => absurd hj (by omega)), ?_, hb1⟩
    simpa [toList_madeCells_one, Value.cells] using hown
  case round =>
    obtain ⟨k, ys, hk, rfl, hys, ho, hb⟩ := hrel
    by_cases hlt : k < n
    · have hyl : ys.length = n := by have := ho.1; simpa using this
      replace hyl := Lib.hid hyl
      have hc3 : wr.cell? ⟨w.heap.size, k, none⟩ = some (.int .i64 (ys.getD k 0)) := by
        have hyl := hyl.out
        rw [ho.cellAt k (by omega)]; simp [List.getD, hyl, hlt]
      have hfr := ho.frozenAt k
      go_wp2_with fail
      go_roundw
      case rel =>
        refine ⟨k + 1, ys.set k (k : Int), by omega, by go_num, Lib.hid (fun j hj => ?_), ?_, hb.setCell (by simp) _⟩
        · have hyl := hyl.out
          rw [List.getElem?_set]
          by_cases e : k = j
          · subst e; rw [if_pos rfl, if_pos (by omega)]
          · rw [if_neg e]; exact hys.out j (by omega)
        · rw [List.map_set]; exact (ho.stored k (.int .i64 k)).1
      case measure => simp [intOf]; omega
    · go_wp2_with fail
      go_ret
      have hkn : k = n := by omega
      subst hkn
      have hyl : ys.length = k := by have := ho.1; simpa using this
      have e : ys = idL k := list_ext_upto k (by omega) (by rw [idL_length]; omega) fun j hj => by rw [hys.out j hj, idL_get hj]
      exact ⟨_, rfl, Own.of_row (e ▸ ho), hb⟩
set_option maxHeartbeats 400000 in
theorem unit_any (n : Nat) (w : World) (h4 : n ≤ 1048576) :
    Calls Tryd.prog 52 #[.int .i64 n] w fun e w' => ∃ A1 c1, e = .returned (.slice A1 n c1) ∧ Own w' w.heap.size w'.heap.size 2 A1 n c1 ((idL n).map (Value.int .i64)) ∧ Below w.heap.size w w' := by
  obtain ⟨j0, hj0, hy0, hy1, hy2⟩ := info_parts infoI
  have h0 := World.ownsRow_lit (e := 2) (base := w.heap.size) (size := 1) w #[] 0 (Nat.le_refl _) (by omega) rfl
  go_enter Tryd.func52, Tryd.ntmps52
  go_wp2_with fail
  go_loopw [3, 4] (fun v i wr => ∃ (k : Nat) (A2 : Option Addr) (c2 : Nat), k ≤ n ∧ v = .slice A2 k c2 ∧ i = .int .i64 k ∧ wr.ownsRow w.heap.size 2 1 (.slice A2 k c2) k (((idL n).take k).map (Value.int .i64)) ∧ Below w.heap.size w wr) (fun _ i wr => n - (intOf i).toNat)
  case atStart => exact ⟨0, _, 0, by omega, rfl, rfl, by simpa using h0, (Below.refl _ _).alloc (Nat.le_refl _) _⟩
  case round =>
    obtain ⟨k, A2, c2, hk, rfl, rfl, ho, hb⟩ := hrel
    by_cases hlt : k < n
    · have hbs := hb.size
      go_wp2_with (at_builtin; refine wpList_append1 wr rfl (.tmp 11) (.tmp 13) 24 rfl w.heap.size 2 j0 (.int .i64 0) 8 Tryd.underlying24 hj0 hy0 hy1 hy2 rfl (by omega) _ k c2 _ (.int .i64 k) rfl ho _ rfl rfl rfl (by omega) hbs ?_)
      intro g c3 w2 ho2 hg2 hlo2 hlt2 hor2
      have hb2 : Below w.heap.size w w2 := hb.grown hg2 hbs (fun q hq => (ho.lt q hq).1)
      go_wp2_with fail
      go_roundw
      case rel =>
        refine ⟨k + 1, _, c3, by omega, rfl, by go_num, ?_, hb2⟩
        rw [take_succ_of (idL_get hlt), List.map_append]
        simpa using ho2
      case measure => simp [intOf]; omega
    · go_wp2_with fail
      go_ret
      have hkn : k = n := by omega
      subst hkn
      rw [List.take_of_length_le (by rw [idL_length]; omega)] at ho
      exact ⟨_, _, rfl, Own.of_row ho, hb⟩
theorem rng_of {p : List Int} {n : Nat} (h : isPermP p) (hl : p.length = n) : ∀ x ∈ p, 0 ≤ x ∧ x < n := by
  have := h.rng; rw [hl] at this; exact this
end Go.Proofs.YtcjnhiglfkcmiaaDoor
