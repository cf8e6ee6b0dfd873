/- Walks of the permutations' functions of both packages: within, size, isPermutation and l01Perm. Lengths below 2^63. -/
import Derived.Test.YtcjnhiglfkcmiaaDoorProg
import Derived.Test.YtcjnhiglfkcmiaaDoorVoc
import Derived.Test.YtcjnhiglfkcmiaaDoorPlain
import Derived.Outline
import Derived.Deep.QuietTactic
import Derived.BigQuiet
namespace Go.Proofs.YtcjnhiglfkcmiaaDoor
open Go.RowKit
set_option linter.unusedVariables false
set_option maxRecDepth 100000

theorem infoB : (Tryd.prog.info? 4).map (fun i => (i.zero, i.size, i.bytes)) = some (some (.bool false), 1, 1) := by kernel_rfl

theorem within_any (n lo hi : Int) (w : World) :
    Calls Tryd.prog 44 #[.int .i64 n, .int .i64 lo, .int .i64 hi] w fun e w' => e = .returned (.bool (decide (lo ≤ n) && decide (n ≤ hi))) ∧ w = w' := by
  by_cases h1 : lo ≤ n
  · go_enter Tryd.func44, Tryd.ntmps44
    go_wp2
    go_ret
    exact ⟨by simp [h1], rfl⟩
  · go_enter Tryd.func44, Tryd.ntmps44
    go_wp2
    go_ret
    refine ⟨?_, rfl⟩
    rw [decide_eq_false (show ¬ lo ≤ n from by omega)]
    rfl
theorem in_any (n lo hi : Int) (w : World) :
    Calls Tryd.prog 51 #[.int .i64 n, .int .i64 lo, .int .i64 hi] w fun e w' => e = .returned (.bool (decide (lo ≤ n) && decide (n ≤ hi))) ∧ w = w' := by
  by_cases h1 : lo ≤ n
  · go_enter Tryd.func51, Tryd.ntmps51
    go_wp2
    go_ret
    exact ⟨by simp [h1], rfl⟩
  · go_enter Tryd.func51, Tryd.ntmps51
    go_wp2
    go_ret
    refine ⟨?_, rfl⟩
    rw [decide_eq_false (show ¬ lo ≤ n from by omega)]
    rfl
theorem sizeI_any (A : Option Addr) (n c : Nat) (w : World) (hn : n ≤ 9223372036854775807) :
    Calls Tryd.prog 70 #[.slice A n c] w fun e w' => e = .returned (.int .i64 n) ∧ w = w' := by
  go_enter Tryd.func70, Tryd.ntmps70
  go_wp2
  go_ret
  exact ⟨rfl, rfl⟩
set_option maxHeartbeats 400000 in
theorem isPerm_any (A : Option Addr) (n c : Nat) (xs : List Int) (w : World) (lo hi : Nat) (h : RI w lo hi A n xs) (hhi : hi ≤ w.heap.size) :
    Calls Tryd.prog 40 #[.slice A n c] w fun e w' => e = .returned (.bool (isPermB xs)) ∧ Below w.heap.size w w' := by
  obtain ⟨i0, hi0, hz0, hz1, hz2⟩ := info_parts infoB
  have hm := h.max
  have hl := Lib.hid h.len
  by_cases h4 : n ≤ 400
  · have h4d : decide ((400 : Int) < (n : Int)) = false := by simp; omega
    go_enter Tryd.func40, Tryd.ntmps40
    go_wp2_with (at_make; refine wpList_make_full _ rfl _ _ 60 rfl w.heap.size 4 i0 (.bool false) 1 Tryd.underlying60 hi0 hz0 hz1 _ _ _ _ n rfl rfl rfl rfl ?c1 ?c2 (Nat.le_refl _) ?_)
    case c1 => rw [hz2]; omega
    case c2 => simp only [maxLen]; omega
    intro w1 hown hg
    have hb1 : Below w.heap.size w w1 := below_of_grown hg (Nat.le_refl _) (by simp)
    go_wp2_with fail
    go_loopw [14] (fun i wr => ∃ (k : Nat) (bs : List Bool), k ≤ n ∧ i = .int .i64 k ∧ (∀ y : Int, 0 ≤ y → y < n → bs[y.toNat]? = some (decide (y ∈ xs.take k))) ∧ (∀ y ∈ xs.take k, 0 ≤ y ∧ y < n) ∧ (xs.take k).Nodup ∧ wr.ownsRow w.heap.size 4 1 (.slice (some ⟨w.heap.size, 0, none⟩) n n) n (bs.map Value.bool) ∧ Below w.heap.size w wr) (fun i wr => n - (intOf i).toNat)
    case atStart =>
      refine ⟨0, List.replicate n false, by omega, rfl, fun y h0 h1 => ?_, by simp, by simp, ?_, hb1⟩
      · rw [List.getElem?_replicate, if_pos (by omega)]; simp
      · simpa [toList_madeCells_one, Value.cells] using hown
    case round =>
      obtain ⟨k, bs, hk, rfl, hbs, hrg, hnd, ho, hb⟩ := hrel
      replace hbs := Lib.hid hbs
      replace hrg := Lib.hid hrg
      replace hnd := Lib.hid hnd
      by_cases hlt : k < n
      · obtain ⟨b, o, x, rfl, _, _, hx, hc⟩ := (h.below hb hhi).at_ hlt
        replace hx := Lib.hid hx
        by_cases hr : 0 ≤ x ∧ x < n
        · obtain ⟨hx0, hx1⟩ := hr
          have hbx := hbs.out x hx0 hx1
          replace hbx := Lib.hid hbx
          have hcb : wr.cell? ⟨w.heap.size, x.toNat, none⟩ = some (.bool (decide (x ∈ xs.take k))) := by
            rw [ho.cellAt x.toNat (by omega), List.getElem?_map, hbx.out]; rfl
          have hw1 : (decide ((0 : Int) ≤ x) && decide (x ≤ (n : Int) - 1)) = true := by simp; omega
          have hfr := ho.frozenAt x.toNat
          by_cases hmem : x ∈ xs.take k
          · rw [decide_eq_true hmem] at hcb
            go_wp2_with (first | (go_at_call 70; refine (sizeI_any _ _ _ _ (by omega)).mono ?_; rintro e w' ⟨rfl, rfl⟩) | (go_at_call 44; refine (within_any _ _ _ _).mono ?_; rintro e w' ⟨rfl, rfl⟩))
            go_ret
            exact ⟨ret_bool (perm_dup hx.out hmem).symm, hb⟩
          · rw [decide_eq_false hmem] at hcb
            go_wp2_with (first | (go_at_call 70; refine (sizeI_any _ _ _ _ (by omega)).mono ?_; rintro e w' ⟨rfl, rfl⟩) | (go_at_call 44; refine (within_any _ _ _ _).mono ?_; rintro e w' ⟨rfl, rfl⟩))
            go_roundw
            case rel =>
              refine ⟨k + 1, bs.set x.toNat true, by omega, by go_num, fun y h0 h1 => ?_, ?_, nodup_take_succ hx.out hnd.out hmem, ?_, hb.setCell (by simp) _⟩
              · have hbl : bs.length = n := by have := ho.1; simpa using this
                rw [List.getElem?_set, take_succ_of hx.out]
                by_cases e : x = y
                · subst e; simp; omega
                · rw [if_neg (by omega), hbs.out y h0 h1]
                  have e' : y ≠ x := fun h => e h.symm
                  simp [e']
              · intro y hy
                rw [take_succ_of hx.out] at hy
                rcases List.mem_append.1 hy with hy | hy
                · exact hrg.out y hy
                · simp at hy; subst hy; exact ⟨hx0, hx1⟩
              · rw [List.map_set]; exact (ho.stored x.toNat (.bool true)).1
            case measure => simp [intOf]; omega
        · have hw1 : (decide ((0 : Int) ≤ x) && decide (x ≤ (n : Int) - 1)) = false := by simp; omega
          go_wp2_with (first | (go_at_call 70; refine (sizeI_any _ _ _ _ (by omega)).mono ?_; rintro e w' ⟨rfl, rfl⟩) | (go_at_call 44; refine (within_any _ _ _ _).mono ?_; rintro e w' ⟨rfl, rfl⟩))
          go_ret
          exact ⟨ret_bool (perm_out hl.out hx.out hr).symm, hb⟩
      · go_wp2_with fail
        go_ret
        have hkn : k = n := by omega
        subst hkn
        exact ⟨ret_bool (perm_all hl.out h4 hrg.out hnd.out).symm, hb⟩
  · go_enter Tryd.func40, Tryd.ntmps40
    go_wp2
    go_ret
    refine ⟨ret_bool ?_, Below.refl _ _⟩
    rw [isPermB_false]
    rintro ⟨h, _⟩
    have := hl.out
    omega
set_option maxHeartbeats 400000 in
theorem l01Perm_any (A : Option Addr) (n c : Nat) (xs : List Int) (w : World) (lo hi : Nat) (h : RI w lo hi A n xs) (hhi : hi ≤ w.heap.size) :
    Calls Tryd.prog 42 #[.slice A n c] w fun e w' => e = .returned (.bool (isPermB xs)) ∧ Below w.heap.size w w' := by
  obtain ⟨i0, hi0, hz0, hz1, hz2⟩ := info_parts infoB
  have hm := h.max
  have hl := Lib.hid h.len
  by_cases h4 : n ≤ 400
  · have h4d : decide ((400 : Int) < (n : Int)) = false := by simp; omega
    go_enter Tryd.func42, Tryd.ntmps42
    go_wp2_with (at_make; refine wpList_make_full _ rfl _ _ 60 rfl w.heap.size 4 i0 (.bool false) 1 Tryd.underlying60 hi0 hz0 hz1 _ _ _ _ n rfl rfl rfl rfl ?c1 ?c2 (Nat.le_refl _) ?_)
    case c1 => rw [hz2]; omega
    case c2 => simp only [maxLen]; omega
    intro w1 hown hg
    have hb1 : Below w.heap.size w w1 := below_of_grown hg (Nat.le_refl _) (by simp)
    go_wp2_with fail
    go_loopw [4] (fun i wr => ∃ (k : Nat) (bs : List Bool), k ≤ n ∧ i = .int .i64 k ∧ (∀ y : Int, 0 ≤ y → y < n → bs[y.toNat]? = some (decide (y ∈ xs.take k))) ∧ (∀ y ∈ xs.take k, 0 ≤ y ∧ y < n) ∧ (xs.take k).Nodup ∧ wr.ownsRow w.heap.size 4 1 (.slice (some ⟨w.heap.size, 0, none⟩) n n) n (bs.map Value.bool) ∧ Below w.heap.size w wr) (fun i wr => n - (intOf i).toNat)
    case atStart =>
      refine ⟨0, List.replicate n false, by omega, rfl, fun y h0 h1 => ?_, by simp, by simp, ?_, hb1⟩
      · rw [List.getElem?_replicate, if_pos (by omega)]; simp
      · simpa [toList_madeCells_one, Value.cells] using hown
    case round =>
      obtain ⟨k, bs, hk, rfl, hbs, hrg, hnd, ho, hb⟩ := hrel
      replace hbs := Lib.hid hbs
      replace hrg := Lib.hid hrg
      replace hnd := Lib.hid hnd
      by_cases hlt : k < n
      · obtain ⟨b, o, x, rfl, _, _, hx, hc⟩ := (h.below hb hhi).at_ hlt
        replace hx := Lib.hid hx
        by_cases hr : 0 ≤ x ∧ x < n
        · obtain ⟨hx0, hx1⟩ := hr
          have hbx := hbs.out x hx0 hx1
          replace hbx := Lib.hid hbx
          have hcb : wr.cell? ⟨w.heap.size, x.toNat, none⟩ = some (.bool (decide (x ∈ xs.take k))) := by
            rw [ho.cellAt x.toNat (by omega), List.getElem?_map, hbx.out]; rfl
          have hw1 : (decide ((0 : Int) ≤ x) && decide (x ≤ (n : Int) - 1)) = true := by simp; omega
          have hfr := ho.frozenAt x.toNat
          by_cases hmem : x ∈ xs.take k
          · rw [decide_eq_true hmem] at hcb
            go_wp2_with (first | (go_at_call 51; refine (in_any _ _ _ _).mono ?_; rintro e w' ⟨rfl, rfl⟩))
            go_ret
            exact ⟨ret_bool (perm_dup hx.out hmem).symm, hb⟩
          · rw [decide_eq_false hmem] at hcb
            go_wp2_with (first | (go_at_call 51; refine (in_any _ _ _ _).mono ?_; rintro e w' ⟨rfl, rfl⟩))
            go_roundw
            case rel =>
              refine ⟨k + 1, bs.set x.toNat true, by omega, by go_num, fun y h0 h1 => ?_, ?_, nodup_take_succ hx.out hnd.out hmem, ?_, hb.setCell (by simp) _⟩
              · have hbl : bs.length = n := by have := ho.1; simpa using this
                rw [List.getElem?_set, take_succ_of hx.out]
                by_cases e : x = y
                · subst e; simp; omega
                · rw [if_neg (by omega), hbs.out y h0 h1]
                  have e' : y ≠ x := fun h => e h.symm
                  simp [e']
              · intro y hy
                rw [take_succ_of hx.out] at hy
                rcases List.mem_append.1 hy with hy | hy
                · exact hrg.out y hy
                · simp at hy; subst hy; exact ⟨hx0, hx1⟩
              · rw [List.map_set]; exact (ho.stored x.toNat (.bool true)).1
            case measure => simp [intOf]; omega
        · have hw1 : (decide ((0 : Int) ≤ x) && decide (x ≤ (n : Int) - 1)) = false := by simp; omega
          go_wp2_with (first | (go_at_call 51; refine (in_any _ _ _ _).mono ?_; rintro e w' ⟨rfl, rfl⟩))
          go_ret
          exact ⟨ret_bool (perm_out hl.out hx.out hr).symm, hb⟩
      · go_wp2_with fail
        go_ret
        have hkn : k = n := by omega
        subst hkn
        exact ⟨ret_bool (perm_all hl.out h4 hrg.out hnd.out).symm, hb⟩
  · go_enter Tryd.func42, Tryd.ntmps42
    go_wp2
    go_ret
    refine ⟨ret_bool ?_, Below.refl _ _⟩
    rw [isPermB_false]
    rintro ⟨h, _⟩
    have := hl.out
    omega
theorem free_end {xs : List Int} {n : Nat} (hl : xs.length = n) (h : ∀ j, j < n → xs.getD j 0 ≠ (j : Int) ∧ xs.getD (xs.getD j 0).toNat 0 = (j : Int)) : freeB xs = true := by
  unfold freeB; apply decide_eq_true; intro j hj; exact h j (by omega)
theorem free_no {xs : List Int} {k : Nat} {x y : Int} (hx : xs[k]? = some x) (hy : xs[x.toNat]? = some y) (h : x = (k : Int) ∨ y ≠ (k : Int)) : freeB xs = false := by
  unfold freeB; apply decide_eq_false
  intro hh
  obtain ⟨h1, h2⟩ := hh k (List.getElem?_eq_some_iff.1 hx).1
  rw [getD_some hx] at h1 h2
  rw [getD_some hy] at h2
  rcases h with h | h
  · exact h1 h
  · exact h h2
