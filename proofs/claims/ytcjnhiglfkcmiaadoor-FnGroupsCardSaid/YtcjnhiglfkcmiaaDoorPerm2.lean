/- Walks of both packages' functions on permutations: isFreeInvolution, inverse, l01Back, then, l01Then, l01Two, arePermutations. Lengths up to 400 (permutations). -/
import Derived.Test.YtcjnhiglfkcmiaaDoorPerm
import Derived.Test.YtcjnhiglfkcmiaaDoorApp
import Derived.Test.YtcjnhiglfkcmiaaDoorLawI
namespace Go.Proofs.YtcjnhiglfkcmiaaDoor
open Go.RowKit
set_option linter.unusedVariables false
set_option maxRecDepth 100000
set_option maxHeartbeats 400000 in
theorem inverse_any (A : Option Addr) (n c : Nat) (xs : List Int) (w : World) (lo hi : Nat) (h : RI w lo hi A n xs) (hhi : hi ≤ w.heap.size) (h4 : n ≤ 1048576) (hr : ∀ x ∈ xs, 0 ≤ x ∧ x < n) (hn : xs.Nodup) :
    Calls Tryd.prog 66 #[.slice A n c] w fun e w' => ∃ A', e = .returned (.slice A' n n) ∧ Own w' w.heap.size w'.heap.size 2 A' n n ((invL xs).map (Value.int .i64)) ∧ Below w.heap.size w w' := by
  obtain ⟨i0, hi0, hz0, hz1, hz2⟩ := info_parts infoI
  have hl := Lib.hid h.len
  replace hr := Lib.hid hr
  replace hn := Lib.hid hn
  go_enter Tryd.func66, Tryd.ntmps66
  go_wp2_with (at_make; refine wpList_make_full _ rfl _ _ 24 rfl w.heap.size 2 i0 (.int .i64 0) 1 Tryd.underlying24 hi0 hz0 hz1 _ _ _ _ n rfl rfl rfl rfl ?c1 ?c2 (Nat.le_refl _) ?_)
  case c1 => rw [hz2]; omega
  case c2 => simp only [maxLen]; omega
  intro w1 hown hg
  have hb1 : Below w.heap.size w w1 := below_of_grown hg (Nat.le_refl _) (by simp)
  go_wp2_with fail
  go_loopw [11] (fun i wr => ∃ (k : Nat) (ys : List Int), k ≤ n ∧ i = .int .i64 k ∧ (∀ j x, j < k → xs[j]? = some x → ys[x.toNat]? = some (j : Int)) ∧ wr.ownsRow w.heap.size 2 1 (.slice (some ⟨w.heap.size, 0, none⟩) n n) n (ys.map (Value.int .i64)) ∧ Below w.heap.size w wr) (fun i wr => n - (intOf i).toNat)
  case atStart =>
    refine ⟨0, List.replicate n 0, by omega, rfl, fun j x hj => absurd hj (by omega), ?_, hb1⟩
    simpa [toList_madeCells_one, Value.cells] using hown
  case round =>
    obtain ⟨k, ys, hk, rfl, hys, ho, hb⟩ := hrel
    replace hys := Lib.hid hys
    by_cases hlt : k < n
    · obtain ⟨b, o, x, rfl, hb1, hb2, hx, hc⟩ := (h.below hb hhi).at_ hlt
      obtain ⟨hx0, hx1⟩ := hr.out x (mem_of_get? hx)
      replace hx := Lib.hid hx
      have hyl : ys.length = n := by have := ho.1; simpa using this
      replace hyl := Lib.hid hyl
      have hc3 : wr.cell? ⟨w.heap.size, x.toNat, none⟩ = some (.int .i64 (ys.getD x.toNat 0)) := by
        rw [ho.cellAt x.toNat (by omega)]
        have hyl := hyl.out
        simp [List.getD, hyl, show x.toNat < n from by omega]
      have hfr := ho.frozenAt x.toNat
      go_wp2_with fail
      go_roundw
      case rel =>
        refine ⟨k + 1, ys.set x.toNat k, by omega, by go_num, fun j y hj hy => ?_, ?_, hb.setCell (by simp) _⟩
        · have hyl := hyl.out
          have hx := hx.out
          have hy0 := hr.out y (mem_of_get? hy)
          rw [List.getElem?_set]
          by_cases e : j = k
          · subst e
            rw [hx] at hy
            obtain rfl := Option.some.inj hy
            rw [if_pos rfl, if_pos (by omega)]
          · have hne : x.toNat ≠ y.toNat := by
              intro e'
              have e2 : x = y := by omega
              subst e2
              have := (List.getElem?_inj (by have := (List.getElem?_eq_some_iff.1 hy).1; omega) hn.out).1 (hy.trans hx.symm)
              omega
            rw [if_neg hne]
            exact hys.out j y (by omega) hy
        · rw [List.map_set]; exact (ho.stored x.toNat (.int .i64 k)).1
      case measure => simp [intOf]; omega
    · go_wp2_with fail
      go_ret
      have hkn : k = n := by omega
      subst hkn
      have hyl : ys.length = k := by have := ho.1; simpa using this
      have hxl := hl.out
      have e : ys = invL xs := by
        refine list_ext_upto k (by omega) (by rw [invL_length]; omega) fun j hj => ?_
        have hm := perm_mem hxl hr.out hn.out (j := (j : Int)) (by omega) (by omega)
        have hi := get?_idxOf hm
        have := hys.out (xs.idxOf (j : Int)) (j : Int) (by have := List.idxOf_lt_length_iff.2 hm; omega) hi
        rw [invL_get (by omega)]
        simpa using this
      exact ⟨_, rfl, Own.of_row (e ▸ ho), hb⟩
set_option maxHeartbeats 400000 in
theorem then_any (A : Option Addr) (n c : Nat) (xs : List Int) (A' : Option Addr) (n' c' : Nat) (ys : List Int) (w : World) {lo hi lo' hi' : Nat} (h : RI w lo hi A n xs) (hhi : hi ≤ w.heap.size) (h' : RI w lo' hi' A' n' ys) (hhi' : hi' ≤ w.heap.size)
    (h4 : n ≤ 1048576) (hr : ∀ x ∈ xs, 0 ≤ x ∧ x < n') :
    Calls Tryd.prog 97 #[.slice A n c, .slice A' n' c'] w fun e w' => ∃ A1, e = .returned (.slice A1 n n) ∧ Own w' w.heap.size w'.heap.size 2 A1 n n ((thenL xs ys).map (Value.int .i64)) ∧ Below w.heap.size w w' := by
  obtain ⟨i0, hi0, hz0, hz1, hz2⟩ := info_parts infoI
  have hl := Lib.hid h.len
  replace hr := Lib.hid hr
  have hm' := h'.max
  go_enter Tryd.func97, Tryd.ntmps97
  go_wp2_with (at_make; refine wpList_make_full _ rfl _ _ 24 rfl w.heap.size 2 i0 (.int .i64 0) 1 Tryd.underlying24 hi0 hz0 hz1 _ _ _ _ n rfl rfl rfl rfl ?c1 ?c2 (Nat.le_refl _) ?_)
  case c1 => rw [hz2]; omega
  case c2 => simp only [maxLen]; omega
  intro w1 hown hg
  have hb1 : Below w.heap.size w w1 := below_of_grown hg (Nat.le_refl _) (by simp)
  go_wp2_with fail
  go_loopw [13] (fun i wr => ∃ (k : Nat) (zs : List Int), k ≤ n ∧ i = .int .i64 k ∧ (∀ j, j < k → zs[j]? = (thenL xs ys)[j]?) ∧ wr.ownsRow w.heap.size 2 1 (.slice (some ⟨w.heap.size, 0, none⟩) n n) n (zs.map (Value.int .i64)) ∧ Below w.heap.size w wr) (fun i wr => n - (intOf i).toNat)
  case atStart =>
    refine ⟨0, List.replicate n 0, by omega, rfl, fun j hj => absurd hj (by omega), ?_, hb1⟩
    simpa [toList_madeCells_one, Value.cells] using hown
  case round =>
    obtain ⟨k, zs, hk, rfl, hzs, ho, hb⟩ := hrel
    replace hzs := Lib.hid hzs
    by_cases hlt : k < n
    · obtain ⟨b, o, x, rfl, _, _, hx, hc⟩ := (h.below hb hhi).at_ hlt
      obtain ⟨hx0, hx1⟩ := hr.out x (mem_of_get? hx)
      obtain ⟨b', o', y, rfl, _, _, hy, hcy⟩ := (h'.below hb hhi').at_ (k := x.toNat) (by omega)
      replace hx := Lib.hid hx
      replace hy := Lib.hid hy
      have hzl : zs.length = n := by have := ho.1; simpa using this
      replace hzl := Lib.hid hzl
      have hc3 : wr.cell? ⟨w.heap.size, k, none⟩ = some (.int .i64 (zs.getD k 0)) := by
        rw [ho.cellAt k (by omega)]
        have hzl := hzl.out
        simp [List.getD, hzl, hlt]
      have hfr := ho.frozenAt k
      go_wp2_with fail
      go_roundw
      case rel =>
        refine ⟨k + 1, zs.set k y, by omega, by go_num, fun j hj => ?_, ?_, hb.setCell (by simp) _⟩
        · have hzl := hzl.out
          rw [List.getElem?_set]
          by_cases e : k = j
          · subst e
            rw [if_pos rfl, if_pos (by omega), thenL_get hx.out, getD_some hy.out]
          · rw [if_neg e]
            exact hzs.out j (by omega)
        · rw [List.map_set]; exact (ho.stored k (.int .i64 y)).1
      case measure => simp [intOf]; omega
    · go_wp2_with fail
      go_ret
      have hkn : k = n := by omega
      subst hkn
      have hzl : zs.length = k := by have := ho.1; simpa using this
      have hxl := hl.out
      have e : zs = thenL xs ys := list_ext_upto k (by omega) (by rw [thenL_length]; omega) hzs.out
      exact ⟨_, rfl, Own.of_row (e ▸ ho), hb⟩
set_option maxHeartbeats 400000 in
theorem l01Then_any (A : Option Addr) (n c : Nat) (xs : List Int) (A' : Option Addr) (n' c' : Nat) (ys : List Int) (w : World) {lo hi lo' hi' : Nat} (h : RI w lo hi A n xs) (hhi : hi ≤ w.heap.size) (h' : RI w lo' hi' A' n' ys) (hhi' : hi' ≤ w.heap.size)
    (h4 : n ≤ 1048576) (hr : ∀ x ∈ xs, 0 ≤ x ∧ x < n') :
    Calls Tryd.prog 92 #[.slice A n c, .slice A' n' c'] w fun e w' => ∃ A1 c1, e = .returned (.slice A1 n c1) ∧ Own w' w.heap.size w'.heap.size 2 A1 n c1 ((thenL xs ys).map (Value.int .i64)) ∧ Below w.heap.size w w' := by
  obtain ⟨i0, hi0, hz0, hz1, hz2⟩ := info_parts infoI
  have hl := Lib.hid h.len
  replace hr := Lib.hid hr
  have hm' := h'.max
  go_enter Tryd.func92, Tryd.ntmps92
  go_wp2_with fail
  go_loopw [5, 6] (fun v i wr => ∃ (k : Nat) (A1 : Option Addr) (c1 : Nat), k ≤ n ∧ v = .slice A1 k c1 ∧ i = .int .i64 k ∧ wr.ownsRow w.heap.size 2 1 (.slice A1 k c1) k (((thenL xs ys).take k).map (Value.int .i64)) ∧ Below w.heap.size w wr) (fun _ i wr => n - (intOf i).toNat)
  case atStart =>
    refine ⟨0, _, 0, by omega, rfl, rfl, ?_, (Below.refl _ _).alloc (Nat.le_refl _) _⟩
    simpa using World.ownsRow_lit (e := 2) (base := w.heap.size) (size := 1) w #[] 0 (Nat.le_refl _) (by omega) rfl
  case round =>
    obtain ⟨k, A1, c1, hk, rfl, rfl, ho, hb⟩ := hrel
    by_cases hlt : k < n
    · obtain ⟨b, o, x, rfl, _, _, hx, hc⟩ := (h.below hb hhi).at_ hlt
      obtain ⟨hx0, hx1⟩ := hr.out x (mem_of_get? hx)
      obtain ⟨b', o', y, rfl, _, _, hy, hcy⟩ := (h'.below hb hhi').at_ (k := x.toNat) (by omega)
      have hxl := List.getElem?_eq_some_iff.1 hx |>.1
      replace hx := Lib.hid hx
      replace hy := Lib.hid hy
      have hbs := hb.size
      go_wp2_with (at_builtin; refine wpList_append1 wr rfl (.tmp 14) (.tmp 22) 24 rfl w.heap.size 2 i0 (.int .i64 0) 8 Tryd.underlying24 hi0 hz0 hz1 hz2 rfl (by omega) _ k c1 _ (.int .i64 y) rfl ho _ rfl rfl rfl (by omega) hbs ?_)
      intro g c2 w2 ho2 hg2 hlo2 hlt2 hor2
      have hb2 : Below w.heap.size w w2 := hb.grown hg2 hbs (fun q hq => (ho.lt q hq).1)
      go_wp2_with fail
      go_roundw
      case rel =>
        refine ⟨k + 1, _, c2, by omega, rfl, by go_num, ?_, hb2⟩
        rw [take_succ_of (thenL_get hx.out), List.map_append, getD_some hy.out]
        simpa using ho2
      case measure => simp [intOf]; omega
    · go_wp2_with fail
      go_ret
      have hkn : k = n := by omega
      subst hkn
      have hxl := hl.out
      rw [List.take_of_length_le (by rw [thenL_length]; omega)] at ho
      exact ⟨_, _, rfl, Own.of_row ho, hb⟩
end Go.Proofs.YtcjnhiglfkcmiaaDoor
