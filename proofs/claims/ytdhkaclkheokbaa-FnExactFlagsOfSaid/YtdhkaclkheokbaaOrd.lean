/- Walks: common divisors, copies, sorting by insertion, lengths of cycles, orders. Lengths up to 2^20, divisors below 2^62. -/
import Derived.Test.YtdhkaclkheokbaaCyc
import Derived.Test.YtdhkaclkheokbaaOrdP
namespace Go.Proofs.Ytdhkaclkheokbaa
open Go.RowKit
set_option linter.unusedVariables false
set_option maxRecDepth 100000
set_option maxHeartbeats 400000 in
theorem own1_any (A : Option Addr) (n c : Nat) (xs : List Int) (w : World) {lo hi : Nat} (h : RI w lo hi A n xs) (hhi : hi ≤ w.heap.size) (h4 : n ≤ 1099511627776) :
    Calls Try.prog 110 #[.slice A n c] w fun e w' => ∃ A1 c1, e = .returned (.slice A1 n c1) ∧ Own w' w.heap.size w'.heap.size 2 A1 n c1 (xs.map (Value.int .i64)) ∧ Below w.heap.size w w' := by
  obtain ⟨j0, hj0, hy0, hy1, hy2⟩ := info_parts infoI
  have h0 := World.ownsRow_lit (e := 2) (base := w.heap.size) (size := 1) w #[] 0 (Nat.le_refl _) (by omega) rfl
  have hr : RI (w.alloc (.cells #[] 2)) lo hi A n xs := h.keep (same_alloc w _ _ _ hhi)
  go_enter Try.func110, Try.ntmps110
  go_wp2_with (at_builtin; refine wpList_appendL _ rfl (.tmp 3) (.tmp 4) 22 rfl w.heap.size 2 j0 (.int .i64 0) 8 Try.underlying22 hj0 hy0 hy1 hy2 rfl (by omega) _ 0 0 _ rfl h0 A n c _ lo hi rfl hr (ints_oneCell _ _) (by omega) (by simp) ?_)
  intro A2 c2 w2 ho2 hg2 _
  have hb2 : Below w.heap.size w w2 := ((Below.refl _ _).alloc (Nat.le_refl _) _).grown hg2 (by simp) (by simp [Value.ownBlock])
  go_wp2_with fail
  go_ret
  refine ⟨A2, c2, by simp, Own.of_row ?_, hb2⟩
  simpa using ho2
set_option maxHeartbeats 1000000 in
theorem sort_any (A : Option Addr) (n c : Nat) (xs : List Int) (w : World) {lo hi : Nat} (h : RI w lo hi A n xs) (hhi : hi ≤ w.heap.size) (h4 : n ≤ 1099511627776) :
    Calls Try.prog 82 #[.slice A n c] w fun e w' => ∃ A1 c1, e = .returned (.slice A1 n c1) ∧ Own w' w.heap.size w'.heap.size 2 A1 n c1 ((sortL xs).map (Value.int .i64)) ∧ Below w.heap.size w w' := by
  have hl := Lib.hid h.len
  go_enter Try.func82, Try.ntmps82
  go_wp2_with fail
  ((with_reducible refine (own1_any _ _ _ xs _ h hhi h4).mono ?_); rintro e w1 ⟨A1, c1, rfl, ho1, hb1⟩)
  go_wp2_with fail
  go_loopw [4] (fun iv wr => ∃ (i : Nat) (ys : List Int), iv = .int .i64 i ∧ 1 ≤ i ∧ (i ≤ n ∨ i = 1) ∧ Hid (ys.Perm xs) ∧ Hid (SortedTo ys i) ∧ wr.ownsRow w.heap.size 2 1 (.slice A1 n c1) n (ys.map (Value.int .i64)) ∧ Below w.heap.size w wr) (fun iv _ => n - (intOf iv).toNat)
  case atStart => exact ⟨1, xs, rfl, by omega, by omega, Lib.hid (List.Perm.refl _), Lib.hid (fun a b h1 h2 => by omega), ho1.1, hb1⟩
  case round =>
    obtain ⟨i, ys, rfl, hi1, hi2, hp, hs, ho, hb⟩ := hrel
    by_cases hlt : i < n
    · obtain ⟨g, v, rfl, hgb, -⟩ := (Own.of_row ho).at_ hlt
      have hs0 := ins_start hs.out
      replace hs0 := Lib.hid hs0
      clear hs
      go_wp2_with fail
      go_loopw [5] (fun kv wq => ∃ (k : Nat) (zs : List Int), kv = .int .i64 k ∧ k ≤ i ∧ Hid (zs.Perm xs) ∧ Hid (InsAt zs i k) ∧ wq.ownsRow w.heap.size 2 1 (.slice (some ⟨g, 0, none⟩) n c1) n (zs.map (Value.int .i64)) ∧ Below w.heap.size w wq) (fun kv _ => (intOf kv).toNat)
      case atStart => exact ⟨i, ys, rfl, Nat.le_refl _, hp, hs0, ho, hb⟩
      case round =>
        obtain ⟨k, zs, rfl, hki, hp, hs, ho, hb⟩ := hrel
        have hzl : zs.length = n := by have := ho.1; simpa using this
        by_cases hk0 : k = 0
        · subst hk0
          have hz := ins_zero hs.out
          go_wp2_with fail
          go_quiet (fail)
          go_wp2_with fail
          go_roundw
          case rel => exact ⟨i + 1, zs, by go_num, by omega, by omega, hp, Lib.hid hz, ho, below_drewN hb _⟩
          case measure => simp [intOf]; omega
        · have hd0 : decide ((0 : Int) < (k : Int)) = true := by simp; omega
          obtain ⟨k, rfl⟩ : ∃ k', k = k' + 1 := ⟨k - 1, by omega⟩
          have e1 : (((k + 1 : Nat) : Int) - 1) = (k : Int) := by omega
          have hcy : ∀ (j : Nat), j < n → wr.cell? ⟨g, j, none⟩ = some (.int .i64 (zs.getD j 0)) := fun j hj => by
            rw [ho.cellAt j (by omega), List.getElem?_map, get?_getD 0 (by omega)]; rfl
          have hc1 := hcy (k + 1) (by omega)
          have hc0 := hcy k (by omega)
          have hfr := ho.frozenAt
          have hf1 := hfr (k + 1)
          have hf0 := hfr k
          clear hcy hfr
          replace hzl := Lib.hid hzl
          obtain ⟨y, hy⟩ : ∃ y, y = zs.getD (k + 1) 0 := ⟨_, rfl⟩
          obtain ⟨z, hz⟩ : ∃ z, z = zs.getD k 0 := ⟨_, rfl⟩
          rw [← hy] at hc1
          rw [← hz] at hc0
          replace hy := Lib.hid hy
          replace hz := Lib.hid hz
          by_cases hle : y < z
          · go_wp2_with fail
            go_quiet (fail)
            go_wp2_with fail
            go_roundw
            case rel =>
              have hy := hy.out
              have hz := hz.out
              have hzl := hzl.out
              refine ⟨k, swapAt zs (k + 1), rfl, by omega, Lib.hid ((swapAt_perm (by omega) (by omega)).trans hp.out), Lib.hid (ins_swap hs.out (by omega) hki (by omega) (by rw [← hy]; simpa using (by rw [← hz]; exact hle : y < zs.getD k 0))), ?_, ((below_drewN hb _).setCell hgb _).setCell hgb _⟩
              have e := ((((show (wr.drewN nq).ownsRow _ _ _ _ _ _ from ho).stored (k + 1) (.int .i64 z)).1).stored k (.int .i64 y)).1
              have e2 : (swapAt zs (k + 1)).map (Value.int .i64) = ((zs.map (Value.int .i64)).set (k + 1) (.int .i64 z)).set k (.int .i64 y) := by
                unfold swapAt
                rw [List.map_set, List.map_set, ← hy, show k + 1 - 1 = k from rfl, ← hz]
              rw [e2]
              exact e
            case measure => simp [intOf]
          · go_wp2_with fail
            go_quiet (fail)
            go_wp2_with fail
            go_roundw
            case rel =>
              have hy := hy.out
              have hz := hz.out
              exact ⟨i + 1, zs, by go_num, by omega, by omega, hp, Lib.hid (ins_stop hs.out (by omega) hki (by rw [← hy]; simpa using (by rw [← hz]; omega : zs.getD k 0 ≤ y))), ho, below_drewN hb _⟩
            case measure => simp [intOf]; omega
    · go_wp2_with fail
      go_ret
      have hys : Sorted ys := by
        have hyl : ys.length = n := by have := ho.1; simpa using this
        refine sorted_of_getD fun a b h1 h2 => hs.out a b h1 (by omega)
      refine ⟨A1, c1, rfl, ?_, hb⟩
      rw [← sortL_eq hp.out hys]
      exact Own.of_row ho
theorem wrap_in {x y : Int} (h : x = y) (h1 : -9223372036854775808 ≤ y) (h2 : y ≤ 9223372036854775807) : IntKind.i64.wrap x = y := by
  subst h; rw [IntKind.wrap_i64]; omega
end Go.Proofs.Ytdhkaclkheokbaa
