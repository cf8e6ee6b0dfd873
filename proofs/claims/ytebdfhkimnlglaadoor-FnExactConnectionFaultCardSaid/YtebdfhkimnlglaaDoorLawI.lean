/- The laws' helpers at []int64: toInt64S copies, eqInt64S compares, markInt64S numbers, heldInt64S checks the numbers. Lengths up to 2^20 (copies), 2^62 (numbers). -/
import Derived.Test.YtebdfhkimnlglaaDoorProg
import Derived.Test.YtebdfhkimnlglaaDoorVoc
import Derived.Outline
import Derived.Deep.QuietTactic
import Derived.BigQuiet
namespace Go.Proofs.YtebdfhkimnlglaaDoor
open Go.RowKit
set_option linter.unusedVariables false
set_option maxRecDepth 100000

theorem infoI : (Tryd.prog.info? 2).map (fun i => (i.zero, i.size, i.bytes)) = some (some (.int .i64 0), 1, 8) := by kernel_rfl

set_option maxHeartbeats 400000 in
theorem toI_any (A : Option Addr) (n c : Nat) (xs : List Int) (w : World) (lo hi : Nat) (h : RI w lo hi A n xs) (hhi : hi ≤ w.heap.size) (hn : n ≤ 1048576) :
    Calls Tryd.prog 17 #[.slice A n c] w fun e w' => ∃ A', e = .returned (.slice A' n n) ∧ Own w' w.heap.size w'.heap.size 2 A' n n (xs.map (Value.int .i64)) ∧ Below w.heap.size w w' := by
  obtain ⟨i0, hi0, hz0, hz1, hz2⟩ := info_parts infoI
  go_enter Tryd.func17, Tryd.ntmps17
  go_wp2_with (at_make; refine wpList_make_full _ rfl _ _ 22 rfl w.heap.size 2 i0 (.int .i64 0) 1 Tryd.underlying22 hi0 hz0 hz1 _ _ _ _ n rfl rfl rfl rfl ?c1 ?c2 (Nat.le_refl _) ?_)
  case c1 => rw [hz2]; omega
  case c2 => simp only [maxLen]; omega
  intro w1 hown hg
  have hb1 : Below w.heap.size w w1 := below_of_grown hg (Nat.le_refl _) (by simp)
  go_wp2
  go_loopw [4] (fun i wr => ∃ (k : Nat) (ys : List Int), k ≤ n ∧ i = .int .i64 k ∧ (∀ j, j < k → ys[j]? = xs[j]?) ∧ wr.ownsRow w.heap.size 2 1 (.slice (some ⟨w.heap.size, 0, none⟩) n n) n (ys.map (Value.int .i64)) ∧ Below w.heap.size w wr) (fun i wr => n - (intOf i).toNat)
  case atStart =>
    refine ⟨0, List.replicate n 0, by omega, rfl, fun j hj => absurd hj (by omega), ?_, hb1⟩
    simpa [toList_madeCells_one, Value.cells] using hown
  case round =>
    obtain ⟨k, ys, hk, rfl, hys, ho, hb⟩ := hrel
    replace hys := Lib.hid hys
    by_cases hlt : k < n
    · obtain ⟨b, o, x, rfl, hb1, hb2, hx, hc⟩ := (h.below hb hhi).at_ hlt
      replace hx := Lib.hid hx
      have hyl : ys.length = n := by have := ho.1; simpa using this
      have hc2 := ho.cellAt k (by omega)
      have hc3 : wr.cell? ⟨w.heap.size, k, none⟩ = some (.int .i64 (ys.getD k 0)) := by rw [hc2]; simp [List.getD, hyl, hlt]
      have hfr := ho.frozenAt k
      go_wp2
      go_roundw
      case rel =>
        have hst := ho.stored k (.int .i64 x)
        refine ⟨k + 1, ys.set k x, by omega, by go_num, ?_, ?_, hb.setCell (by simp) _⟩
        · intro j hj
          rw [List.getElem?_set]
          have hys := hys.out
          have hx := hx.out
          split
          · rename_i e; subst e; rw [hx]; simp [hyl, hlt]
          · exact hys j (by omega)
        · rw [List.map_set]; exact hst.1
      case measure => simp [intOf]; omega
    · go_wp2
      go_ret
      have hkn : k = n := by omega
      have hyl : ys.length = n := by have := ho.1; simpa using this
      have hxl := h.len
      have e : ys = xs := list_ext_upto k (by omega) (by omega) hys.out
      exact ⟨_, rfl, Own.of_row (e ▸ ho), hb⟩

set_option maxHeartbeats 400000 in
theorem eqI_q (A : Option Addr) (n c : Nat) (xs : List Int) (A' : Option Addr) (n' c' : Nat) (ys : List Int) (w : World) (lo hi lo' hi' : Nat) (h : RI w lo hi A n xs) (h' : RI w lo' hi' A' n' ys) (hhi : hi ≤ w.heap.size) (hhi' : hi' ≤ w.heap.size) :
    Calls Tryd.prog 8 #[.slice A n c, .slice A' n' c'] w fun e w' => e = .returned (.bool (decide (xs = ys))) ∧ ∃ m, w' = w.drewN m := by
  have hm := h.max
  have hm' := h'.max
  have hl := h.len
  have hl' := h'.len
  replace hl := Lib.hid hl
  replace hl' := Lib.hid hl'
  by_cases hne : n = n'
  · subst hne
    go_enter Tryd.func8, Tryd.ntmps8
    go_wp2
    go_loopw [5] (fun i wr => ∃ k : Nat, k ≤ n ∧ i = .int .i64 k ∧ (∀ j, j < k → xs[j]? = ys[j]?) ∧ (∃ m, wr = w.drewN m)) (fun i wr => n - (intOf i).toNat)
    case atStart => exact ⟨0, by omega, rfl, fun j hj => absurd hj (by omega), 0, rfl⟩
    case round =>
      obtain ⟨k, hk, rfl, hys, md, hmd⟩ := hrel
      have hb : Below w.heap.size w wr := by rw [hmd]; exact below_drewN (Below.refl _ _) _
      replace hmd := Lib.hid hmd
      replace hys := Lib.hid hys
      by_cases hlt : k < n
      · obtain ⟨b, o, x, rfl, _, _, hx, hc⟩ := (h.below hb hhi).at_ hlt
        obtain ⟨b', o', y, rfl, _, _, hy, hc'⟩ := (h'.below hb hhi').at_ hlt
        replace hx := Lib.hid hx
        replace hy := Lib.hid hy
        by_cases hxy : x = y
        · subst hxy
          go_wp2
          go_quiet (fail)
          go_wp2
          go_roundw
          case rel =>
            refine ⟨k + 1, by omega, by go_num, fun j hj => ?_, md + nq, by rw [hmd.out, World.drewN_drewN]⟩
            by_cases e : j = k
            · subst e; rw [hx.out, hy.out]
            · exact hys.out j (by omega)
          case measure => simp [intOf]; omega
        · have hxy' : (x != y) = true := by simpa using hxy
          go_wp2
          go_quiet (fail)
          go_wp2
          go_ret
          refine ⟨ret_bool ?_, md + nq, by rw [hmd.out, World.drewN_drewN]⟩
          have hx := hx.out
          have hy := hy.out
          symm
          apply decide_eq_false
          rintro rfl
          rw [hx] at hy
          exact hxy (Option.some.inj hy)
      · go_wp2
        go_ret
        refine ⟨ret_bool ?_, md, hmd.out⟩
        have hl := hl.out
        have hl' := hl'.out
        symm
        apply decide_eq_true
        exact list_ext_upto k (by omega) (by omega) hys.out
  · have hne' : ((n : Int) != (n' : Int)) = true := by simp; omega
    go_enter Tryd.func8, Tryd.ntmps8
    go_wp2
    go_ret
    refine ⟨ret_bool ?_, 0, rfl⟩
    have hl := hl.out
    have hl' := hl'.out
    symm
    apply decide_eq_false
    rintro rfl
    omega

theorem eqI_any (A : Option Addr) (n c : Nat) (xs : List Int) (A' : Option Addr) (n' c' : Nat) (ys : List Int) (w : World) (lo hi lo' hi' : Nat) (h : RI w lo hi A n xs) (h' : RI w lo' hi' A' n' ys) (hhi : hi ≤ w.heap.size) (hhi' : hi' ≤ w.heap.size) :
    Calls Tryd.prog 8 #[.slice A n c, .slice A' n' c'] w fun e w' => e = .returned (.bool (decide (xs = ys))) ∧ Below w.heap.size w w' :=
  (eqI_q A n c xs A' n' c' ys w lo hi lo' hi' h h' hhi hhi').mono fun e w' ⟨he, m, hm⟩ => ⟨he, by rw [hm]; exact below_drewN (Below.refl _ _) _⟩

theorem grown_set {w wr : World} {g : Nat} {n c o : Nat} (h : w.grownBy wr (Value.slice (some ⟨g, o, none⟩) n c).ownBlock) (j : Nat) (u : Value) : w.grownBy (wr.setCell ⟨g, j, none⟩ u) (Value.slice (some ⟨g, o, none⟩) n c).ownBlock :=
  ⟨h.os, h.tape, h.output, by have := h.size; simp only [World.size_setCell]; omega, fun k hk hne => (Below.heap_setCell _ _ _ _ (fun e => hne (by simp [Value.ownBlock, e]))).trans (h.block k hk hne)⟩
def mkI (k : Int) (n : Nat) : List Int := (List.range n).map fun (i : Nat) => k + (i : Int)
theorem mkI_get {k : Int} {n j : Nat} (h : j < n) : (mkI k n)[j]? = some (k + (j : Int)) := by simp [mkI, h]
theorem mkI_len (k : Int) (n : Nat) : (mkI k n).length = n := by simp [mkI]

set_option maxHeartbeats 400000 in
theorem markI_g (A : Option Addr) (n c : Nat) (xs : List Int) (k0 : Int) (w : World) (lo hi : Nat) (h : Own w lo hi 2 A n c (xs.map (Value.int .i64))) (hhi : hi ≤ w.heap.size) (h0 : 0 ≤ k0) (h1 : k0 + n ≤ 4611686018427387904) :
    Calls Tryd.prog 11 #[.slice A n c, .int .i64 k0] w fun e w' => e = .returned (.int .i64 (k0 + n)) ∧ Own w' lo hi 2 A n c ((mkI k0 n).map (Value.int .i64)) ∧ w.grownBy w' (Value.slice A n c).ownBlock := by
  have hm := h.ri.max
  have hl : xs.length = n := h.ri.len
  replace hl := Lib.hid hl
  go_enter Tryd.func11, Tryd.ntmps11
  go_wp2
  go_loopw [1, 5] (fun kk i wr => ∃ (k : Nat) (ys : List Int), k ≤ n ∧ i = .int .i64 k ∧ kk = .int .i64 (k0 + k) ∧ (∀ j, j < k → ys[j]? = some (k0 + (j : Int))) ∧ Own wr lo hi 2 A n c (ys.map (Value.int .i64)) ∧ w.grownBy wr (Value.slice A n c).ownBlock) (fun _ i wr => n - (intOf i).toNat)
  case atStart =>
    exact ⟨0, xs, by omega, rfl, by simp, fun j hj => absurd hj (by omega), h, World.grownBy.refl _ _⟩
  case round =>
    obtain ⟨k, ys, hk, rfl, rfl, hys, ho, hb⟩ := hrel
    replace hys := Lib.hid hys
    by_cases hlt : k < n
    · obtain ⟨b, v, rfl, hb1, hb2, hb3, hx, -, hc, hfr⟩ := ho.at_ hlt
      replace hx := Lib.hid hx
      have hyl : ys.length = n := by have := ho.len; simpa using this
      replace hyl := Lib.hid hyl
      have hfr1 := hfr k
      clear hfr
      go_wp2
      go_roundw
      case rel =>
        refine ⟨k + 1, ys.set k (k0 + k), by omega, by go_num, by go_num, fun j hj => ?_, ?_, grown_set hb _ _⟩
        · rw [List.getElem?_set]
          have hyl := hyl.out
          split
          · rename_i e; subst e; simp [hyl, hlt]
          · exact hys.out j (by omega)
        · rw [List.map_set]; exact ho.set _
      case measure => simp [intOf]; omega
    · go_wp2
      go_ret
      have hyl : ys.length = n := by have := ho.len; simpa using this
      have hkn : k = n := by omega
      subst hkn
      have e : ys = mkI k0 k := list_ext_upto k (by omega) (by rw [mkI_len]; omega) fun j hj => by rw [hys.out j hj, mkI_get hj]
      exact ⟨ret_int rfl, e ▸ ho, hb⟩

theorem markI_any (A : Option Addr) (n c : Nat) (xs : List Int) (k0 : Int) (w : World) (lo hi : Nat) (h : Own w lo hi 2 A n c (xs.map (Value.int .i64))) (hhi : hi ≤ w.heap.size) (h0 : 0 ≤ k0) (h1 : k0 + n ≤ 4611686018427387904) :
    Calls Tryd.prog 11 #[.slice A n c, .int .i64 k0] w fun e w' => e = .returned (.int .i64 (k0 + n)) ∧ Own w' lo hi 2 A n c ((mkI k0 n).map (Value.int .i64)) ∧ Chg lo hi w w' :=
  (markI_g A n c xs k0 w lo hi h hhi h0 h1).mono fun e w' ⟨he, ho, hg⟩ => ⟨he, ho, Chg.of_grown hg fun g hg' => ⟨(h.1.lt g hg').1, by
    rcases A with _ | ad
    · simp [Value.ownBlock] at hg'
    · have := h.2 ad rfl; simp [Value.ownBlock] at hg'; omega⟩⟩

set_option maxHeartbeats 400000 in
theorem heldI_any (A : Option Addr) (n c : Nat) (k0 : Int) (w : World) (lo hi : Nat) (h : RI w lo hi A n (mkI k0 n)) (hhi : hi ≤ w.heap.size) (h0 : 0 ≤ k0) (h1 : k0 + n ≤ 4611686018427387904) :
    Calls Tryd.prog 12 #[.slice A n c, .int .i64 k0] w fun e w' => e = .returned (.int .i64 (k0 + n)) ∧ Below w.heap.size w w' := by
  have hm := h.max
  go_enter Tryd.func12, Tryd.ntmps12
  go_wp2
  go_loopw [1, 5] (fun kk i wr => ∃ (k : Nat), k ≤ n ∧ i = .int .i64 k ∧ kk = .int .i64 (k0 + k) ∧ Below w.heap.size w wr) (fun _ i wr => n - (intOf i).toNat)
  case atStart =>
    exact ⟨0, by omega, rfl, by simp, Below.refl _ _⟩
  case round =>
    obtain ⟨k, hk, rfl, rfl, hb⟩ := hrel
    by_cases hlt : k < n
    · obtain ⟨b, o, x, rfl, hb1, hb2, hx, hc⟩ := (h.below hb hhi).at_ hlt
      rw [mkI_get hlt] at hx
      obtain rfl := Option.some.inj hx
      clear hx
      go_wp2
      go_roundw
      case rel => exact ⟨k + 1, by omega, by go_num, by go_num, hb⟩
      case measure => simp [intOf]; omega
    · go_wp2
      go_ret
      have hkn : k = n := by omega
      subst hkn
      exact ⟨rfl, hb⟩
end Go.Proofs.YtebdfhkimnlglaaDoor
