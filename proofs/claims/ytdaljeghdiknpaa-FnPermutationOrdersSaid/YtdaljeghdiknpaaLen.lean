/- Walks: the lengths of cycles of both packages. -/
import Derived.Test.YtdaljeghdiknpaaSrt
namespace Go.Proofs.Ytdaljeghdiknpaa
open Go.RowKit
set_option linter.unusedVariables false
set_option maxRecDepth 100000
set_option maxHeartbeats 1000000 in
theorem i_CycleLengths_any (w : World) (A : Option Addr) (n c : Nat) (xs : List Int) {lo hi : Nat} (h : RI w lo hi A n xs) (hhi : hi ≤ w.heap.size) :
    Calls Try.prog 42 #[.slice A n c] w fun e w' => ∃ (A1 : Option Addr) (n1 c1 : Nat) (zs : List Int) (code : Int), e = .returned (.tuple #[.slice A1 n1 c1, .int .i64 code]) ∧ Hid ((zs, code) = lengthsF xs) ∧ Own w' w.heap.size w'.heap.size 2 A1 n1 c1 (zs.map (Value.int .i64)) ∧ n1 ≤ 1048576 ∧ Below w.heap.size w w' := by
  obtain ⟨j0, hj0, hy0, hy1, hy2⟩ := info_parts infoI
  have hl := h.len
  by_cases hp : isPermB xs = true
  · have hP := isPermB_iff.1 hp
    have hPr := hP.rng
    have hP4 := hP.le
    rw [hl] at hPr hP4
    replace hPr := Lib.hid hPr
    have hlen := (cycAll_len xs).1
    rw [hl] at hlen
    replace hl := Lib.hid hl
    have hF : (sortL ((cycLens xs).map Int.ofNat), (0 : Int)) = lengthsF xs := by unfold lengthsF; rw [if_pos hp]; rfl
    replace hF := Lib.hid hF
    replace hp := Lib.hid hp
    clear hP
    go_enter Try.func42, Try.ntmps42
    go_wp2_with fail
    ((with_reducible refine (isPerm_any _ _ _ xs _ _ _ h hhi).mono ?_); rintro e w1 ⟨rfl, hb1⟩)
    rw [hp.out]
    have hs1 := hb1.size
    go_wp2_with fail
    ((with_reducible refine (cycles_any _ _ _ xs _ (h.below hb1 hhi) (by omega) (by omega) hPr.out).mono ?_); rintro e w2 ⟨A1, n1, c1, rfl, hc1, hb2⟩)
    have hs2 := hb2.size
    have hB := below_then hb1 hb2 hs1
    have hcl := hc1.len
    have hn1 : n1 ≤ 1048576 := by omega
    have hm1 := hc1.rs.max
    replace hcl := Lib.hid hcl
    go_wp2_with fail
    go_loopw [4, 13] (fun v i wr => ∃ (k : Nat) (A2 : Option Addr) (c2 : Nat), k ≤ n1 ∧ v = .slice A2 k c2 ∧ i = .int .i64 k ∧ wr.ownsRow w2.heap.size 2 1 (.slice A2 k c2) k ((((cycLens xs).map Int.ofNat).take k).map (Value.int .i64)) ∧ Below w2.heap.size w2 wr) (fun _ i wr => n1 - (intOf i).toNat)
    case atStart => exact ⟨0, none, 0, by omega, rfl, rfl, by simpa using World.ownsRow_nil w2 w2.heap.size 2 1, Below.refl _ _⟩
    case round =>
      obtain ⟨k, A2, c2, hk, rfl, rfl, ho, hb⟩ := hrel
      by_cases hlt : k < n1
      · obtain ⟨b, o, Ak, nk, ck, ys, rfl, _, _, hys, hcell, hrow⟩ := (hc1.rs.below hb (Nat.le_refl _)).at_ hlt
        have hm := hrow.max
        have hyl := hrow.len
        have hbs := hb.size
        have hget : ((cycLens xs).map Int.ofNat)[k]? = some (nk : Int) := by simp [cycLens, hys, hyl]
        replace hget := Lib.hid hget
        replace hys := Lib.hid hys
        replace hyl := Lib.hid hyl
        go_wp2_with (first | (at_builtin; refine wpList_append1 wr rfl (.tmp 17) (.tmp 20) 27 rfl w2.heap.size 2 j0 (.int .i64 0) 8 Try.underlying27 hj0 hy0 hy1 hy2 rfl (by omega) _ k c2 _ (.int .i64 nk) rfl ho _ rfl rfl rfl (by omega) hbs ?_) | go_in)
        intro g c3 w3 ho2 hg2 hlo2 hlt2 hor2
        have hb3 : Below w2.heap.size w2 w3 := hb.grown hg2 hbs (fun q hq => (ho.lt q hq).1)
        go_wp2_with fail
        go_roundw
        case rel =>
          refine ⟨k + 1, _, c3, by omega, rfl, by go_num, ?_, hb3⟩
          rw [take_succ_of hget.out, List.map_append]
          simpa using ho2
        case measure => simp [intOf]; omega
      · have hkn : k = n1 := by omega
        subst hkn
        have hfull : ((cycLens xs).map Int.ofNat).take k = (cycLens xs).map Int.ofNat := List.take_of_length_le (by have := hcl.out; simp [cycLens]; omega)
        rw [hfull] at ho
        have hbs := hb.size
        clear hfull
        go_wp2_with fail
        ((with_reducible refine (isort_any _ _ _ _ _ ho (by omega) hbs).mono ?_); rintro e w3 ⟨rfl, ho3, hb3⟩)
        have hs3 := hb3.size
        go_wp2_with fail
        go_ret2
        exact ⟨_, _, _, _, _, rfl, hF, (Own.of_row ho3).more (by omega) (Nat.le_refl _), by omega, (below_then hB hb (by omega)).trans (hb3.mono (by omega))⟩
  · have hp : isPermB xs = false := by simpa using hp
    have hF : (([] : List Int), (1 : Int)) = lengthsF xs := by simp [lengthsF, hp]
    replace hF := Lib.hid hF
    replace hp := Lib.hid hp
    replace hl := Lib.hid hl
    go_enter Try.func42, Try.ntmps42
    go_wp2_with fail
    ((with_reducible refine (isPerm_any _ _ _ xs _ _ _ h hhi).mono ?_); rintro e w1 ⟨rfl, hb1⟩)
    rw [hp.out]
    go_wp2_with fail
    go_ret2
    exact ⟨_, _, _, _, _, rfl, hF, Own.nil, by omega, hb1⟩
end Go.Proofs.Ytdaljeghdiknpaa
