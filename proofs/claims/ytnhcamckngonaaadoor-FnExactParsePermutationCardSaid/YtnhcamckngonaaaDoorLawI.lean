/- The laws' helpers at []int64: toInt64S copies, eqInt64S compares, markInt64S numbers, heldInt64S checks the numbers. Lengths up to 2^20 (copies), 2^62 (numbers). -/
import Derived.Test.YtnhcamckngonaaaDoorProg
import Derived.Test.YtnhcamckngonaaaDoorVoc
import Derived.Outline
import Derived.Deep.QuietTactic
import Derived.BigQuiet
namespace Go.Proofs.YtnhcamckngonaaaDoor
open Go.RowKit
set_option linter.unusedVariables false
set_option maxRecDepth 100000

theorem infoI : (Tryd.prog.info? 2).map (fun i => (i.zero, i.size, i.bytes)) = some (some (.int .i64 0), 1, 8) := by kernel_rfl

set_option maxHeartbeats 400000 in
theorem eqI_q (A : Option Addr) (n c : Nat) (xs : List Int) (A' : Option Addr) (n' c' : Nat) (ys : List Int) (w : World) (lo hi lo' hi' : Nat) (h : RI w lo hi A n xs) (h' : RI w lo' hi' A' n' ys) (hhi : hi ≤ w.heap.size) (hhi' : hi' ≤ w.heap.size) :
    Calls Tryd.prog 19 #[.slice A n c, .slice A' n' c'] w fun e w' => e = .returned (.bool (decide (xs = ys))) ∧ ∃ m, w' = w.drewN m := by
  have hm := h.max
  have hm' := h'.max
  have hl := h.len
  have hl' := h'.len
  replace hl := Lib.hid hl
  replace hl' := Lib.hid hl'
  by_cases hne : n = n'
  · subst hne
    go_enter Tryd.func19, Tryd.ntmps19
    go_wp2
    go_loopw [5] (fun i wr => ∃ k : Nat, k ≤ n ∧ i = .int .i64 k ∧ (∀ j, j < k → xs[j]? = ys[j]?) ∧ (∃ m, wr = w.drewN m)) (fun i wr => n - (intOf i).toNat)
    case atStart => exact ⟨0, by omega, rfl, fun j hj => absurd hj (by omega), 0, rfl⟩
    case round =>
      obtain ⟨k, hk, rfl, hys, md, hmd⟩ := hrel
      have hb : Below w.heap.size w wr := by rw [hmd]; exact below_drewN (Below.refl _ _) _
      replace hmd := Lib.hid hmd
      replace hys := Lib.hid hys
      by_cases hlt : k < n
      · obtain ⟨b, o, x, rfl, _, _, hx, hc⟩ := (h.below hb hhi).at_ hlt
        obtain ⟨b', o', y, rfl, _, _, hy, hc'⟩ := (h'.below hb hhi').at_ hlt
        replace hx := Lib.hid hx
        replace hy := Lib.hid hy
        by_cases hxy : x = y
        · subst hxy
          go_wp2
          go_quiet (fail)
          go_wp2
          go_roundw
          case rel =>
            refine ⟨k + 1, by omega, by go_num, fun j hj => ?_, md + nq, by rw [hmd.out, World.drewN_drewN]⟩
            by_cases e : j = k
            · subst e; rw [hx.out, hy.out]
            · exact hys.out j (by omega)
          case measure => simp [intOf]; omega
        · have hxy' : (x != y) = true := by simpa using hxy
          go_wp2
          go_quiet (fail)
          go_wp2
          go_ret
          refine ⟨ret_bool ?_, md + nq, by rw [hmd.out, World.drewN_drewN]⟩
          have hx := hx.out
          have hy := hy.out
          symm
          apply decide_eq_false
          rintro rfl
          rw [hx] at hy
          exact hxy (Option.some.inj hy)
      · go_wp2
        go_ret
        refine ⟨ret_bool ?_, md, hmd.out⟩
        have hl := hl.out
        have hl' := hl'.out
        symm
        apply decide_eq_true
        exact list_ext_upto k (by omega) (by omega) hys.out
  · have hne' : ((n : Int) != (n' : Int)) = true := by simp; omega
    go_enter Tryd.func19, Tryd.ntmps19
    go_wp2
    go_ret
    refine ⟨ret_bool ?_, 0, rfl⟩
    have hl := hl.out
    have hl' := hl'.out
    symm
    apply decide_eq_false
    rintro rfl
    omega

theorem eqI_any (A : Option Addr) (n c : Nat) (xs : List Int) (A' : Option Addr) (n' c' : Nat) (ys : List Int) (w : World) (lo hi lo' hi' : Nat) (h : RI w lo hi A n xs) (h' : RI w lo' hi' A' n' ys) (hhi : hi ≤ w.heap.size) (hhi' : hi' ≤ w.heap.size) :
    Calls Tryd.prog 19 #[.slice A n c, .slice A' n' c'] w fun e w' => e = .returned (.bool (decide (xs = ys))) ∧ Below w.heap.size w w' :=
  (eqI_q A n c xs A' n' c' ys w lo hi lo' hi' h h' hhi hhi').mono fun e w' ⟨he, m, hm⟩ => ⟨he, by rw [hm]; exact below_drewN (Below.refl _ _) _⟩

theorem grown_set {w wr : World} {g : Nat} {n c o : Nat} (h : w.grownBy wr (Value.slice (some ⟨g, o, none⟩) n c).ownBlock) (j : Nat) (u : Value) : w.grownBy (wr.setCell ⟨g, j, none⟩ u) (Value.slice (some ⟨g, o, none⟩) n c).ownBlock :=
  ⟨h.os, h.tape, h.output, by have := h.size; simp only [World.size_setCell]; omega, fun k hk hne => (Below.heap_setCell _ _ _ _ (fun e => hne (by simp [Value.ownBlock, e]))).trans (h.block k hk hne)⟩
def mkI (k : Int) (n : Nat) : List Int := (List.range n).map fun (i : Nat) => k + (i : Int)
theorem mkI_get {k : Int} {n j : Nat} (h : j < n) : (mkI k n)[j]? = some (k + (j : Int)) := by simp [mkI, h]
theorem mkI_len (k : Int) (n : Nat) : (mkI k n).length = n := by simp [mkI]

set_option maxHeartbeats 400000 in
theorem markI_g (A : Option Addr) (n c : Nat) (xs : List Int) (k0 : Int) (w : World) (lo hi : Nat) (h : Own w lo hi 2 A n c (xs.map (Value.int .i64))) (hhi : hi ≤ w.heap.size) (h0 : 0 ≤ k0) (h1 : k0 + n ≤ 4611686018427387904) :
    Calls Tryd.prog 20 #[.slice A n c, .int .i64 k0] w fun e w' => e = .returned (.int .i64 (k0 + n)) ∧ Own w' lo hi 2 A n c ((mkI k0 n).map (Value.int .i64)) ∧ w.grownBy w' (Value.slice A n c).ownBlock := by
  have hm := h.ri.max
  have hl : xs.length = n := h.ri.len
  replace hl := Lib.hid hl
  go_enter Tryd.func20, Tryd.ntmps20
  go_wp2
  go_loopw [1, 5] (fun kk i wr => ∃ (k : Nat) (ys : List Int), k ≤ n ∧ i = .int .i64 k ∧ kk = .int .i64 (k0 + k) ∧ (∀ j, j < k → ys[j]? = some (k0 + (j : Int))) ∧ Own wr lo hi 2 A n c (ys.map (Value.int .i64)) ∧ w.grownBy wr (Value.slice A n c).ownBlock) (fun _ i wr => n - (intOf i).toNat)
  case atStart =>
    exact ⟨0, xs, by omega, rfl, by simp, fun j hj => absurd hj (by omega), h, World.grownBy.refl _ _⟩
  case round =>
    obtain ⟨k, ys, hk, rfl, rfl, hys, ho, hb⟩ := hrel
    replace hys := Lib.hid hys
    by_cases hlt : k < n
    · obtain ⟨b, v, rfl, hb1, hb2, hb3, hx, -, hc, hfr⟩ := ho.at_ hlt
      replace hx := Lib.hid hx
      have hyl : ys.length = n := by have := ho.len; simpa using this
      replace hyl := Lib.hid hyl
      have hfr1 := hfr k
      clear hfr
      go_wp2
      go_roundw
      case rel =>
        refine ⟨k + 1, ys.set k (k0 + k), by omega, by go_num, by go_num, fun j hj => ?_, ?_, grown_set hb _ _⟩
        · rw [List.getElem?_set]
          have hyl := hyl.out
          split
          · rename_i e; subst e; simp [hyl, hlt]
          · exact hys.out j (by omega)
        · rw [List.map_set]; exact ho.set _
      case measure => simp [intOf]; omega
    · go_wp2
      go_ret
      have hyl : ys.length = n := by have := ho.len; simpa using this
      have hkn : k = n := by omega
      subst hkn
      have e : ys = mkI k0 k := list_ext_upto k (by omega) (by rw [mkI_len]; omega) fun j hj => by rw [hys.out j hj, mkI_get hj]
      exact ⟨ret_int rfl, e ▸ ho, hb⟩

theorem markI_any (A : Option Addr) (n c : Nat) (xs : List Int) (k0 : Int) (w : World) (lo hi : Nat) (h : Own w lo hi 2 A n c (xs.map (Value.int .i64))) (hhi : hi ≤ w.heap.size) (h0 : 0 ≤ k0) (h1 : k0 + n ≤ 4611686018427387904) :
    Calls Tryd.prog 20 #[.slice A n c, .int .i64 k0] w fun e w' => e = .returned (.int .i64 (k0 + n)) ∧ Own w' lo hi 2 A n c ((mkI k0 n).map (Value.int .i64)) ∧ Chg lo hi w w' :=
  (markI_g A n c xs k0 w lo hi h hhi h0 h1).mono fun e w' ⟨he, ho, hg⟩ => ⟨he, ho, Chg.of_grown hg fun g hg' => ⟨(h.1.lt g hg').1, by
    rcases A with _ | ad
    · simp [Value.ownBlock] at hg'
    · have := h.2 ad rfl; simp [Value.ownBlock] at hg'; omega⟩⟩

set_option maxHeartbeats 400000 in
theorem heldI_any (A : Option Addr) (n c : Nat) (k0 : Int) (w : World) (lo hi : Nat) (h : RI w lo hi A n (mkI k0 n)) (hhi : hi ≤ w.heap.size) (h0 : 0 ≤ k0) (h1 : k0 + n ≤ 4611686018427387904) :
    Calls Tryd.prog 21 #[.slice A n c, .int .i64 k0] w fun e w' => e = .returned (.int .i64 (k0 + n)) ∧ Below w.heap.size w w' := by
  have hm := h.max
  go_enter Tryd.func21, Tryd.ntmps21
  go_wp2
  go_loopw [1, 5] (fun kk i wr => ∃ (k : Nat), k ≤ n ∧ i = .int .i64 k ∧ kk = .int .i64 (k0 + k) ∧ Below w.heap.size w wr) (fun _ i wr => n - (intOf i).toNat)
  case atStart =>
    exact ⟨0, by omega, rfl, by simp, Below.refl _ _⟩
  case round =>
    obtain ⟨k, hk, rfl, rfl, hb⟩ := hrel
    by_cases hlt : k < n
    · obtain ⟨b, o, x, rfl, hb1, hb2, hx, hc⟩ := (h.below hb hhi).at_ hlt
      rw [mkI_get hlt] at hx
      obtain rfl := Option.some.inj hx
      clear hx
      go_wp2
      go_roundw
      case rel => exact ⟨k + 1, by omega, by go_num, by go_num, hb⟩
      case measure => simp [intOf]; omega
    · go_wp2
      go_ret
      have hkn : k = n := by omega
      subst hkn
      exact ⟨rfl, hb⟩
end Go.Proofs.YtnhcamckngonaaaDoor
