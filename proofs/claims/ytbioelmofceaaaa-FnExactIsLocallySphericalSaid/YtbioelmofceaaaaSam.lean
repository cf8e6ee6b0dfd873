/- sameManiplex and slices.EqualFunc at rows; copies of maniplexes. No condition but the sizes of memory. -/
import Derived.Test.YtbioelmofceaaaaGrw
import Derived.Test.YtbioelmofceaaaaTw
namespace Go.Proofs.Ytbioelmofceaaaa
open Go.RowKit
set_option linter.unusedVariables false
set_option maxRecDepth 100000
set_option maxHeartbeats 2000000 in
theorem equalFunc_any (A : Option Addr) (n c : Nat) (xss : List (List Int)) (A' : Option Addr) (n' c' : Nat) (yss : List (List Int)) (w : World) {lo hi lo' hi' : Nat} (h : RS w lo hi A n xss) (hhi : hi ≤ w.heap.size) (h' : RS w lo' hi' A' n' yss) (hhi' : hi' ≤ w.heap.size) :
    Calls Try.prog 103 #[.slice A n c, .slice A' n' c', .func (.func 104) #[] #[]] w fun e w' => e = .returned (.bool (decide (xss = yss))) ∧ ∃ m, w' = w.drewN m := by
  have hm := h.max
  have hm' := h'.max
  have hl := Lib.hid h.len
  have hl' := Lib.hid h'.len
  by_cases hne : n = n'
  · subst hne
    go_enter Try.func103, Try.ntmps103
    go_wp2_with fail
    go_loopw [17] (fun i wr => ∃ k : Nat, k ≤ n ∧ i = .int .i64 k ∧ Hid (∀ j, j < k → xss[j]? = yss[j]?) ∧ (∃ m, wr = w.drewN m)) (fun i wr => n - (intOf i).toNat)
    case atStart => exact ⟨0, by omega, rfl, Lib.hid fun j hj => absurd hj (by omega), 0, rfl⟩
    case round =>
      obtain ⟨k, hk, rfl, hys, md, hmd⟩ := hrel
      have hb : Below w.heap.size w wr := by rw [hmd]; exact below_drewN (Below.refl _ _) _
      have hbz := hb.size
      replace hmd := Lib.hid hmd
      by_cases hlt : k < n
      · obtain ⟨b, o, Ak, nk, ck, x, rfl, _, hbu, hx, hcx, hrx⟩ := (h.below hb hhi).at_ hlt
        obtain ⟨b', o', Ak', nk', ck', y, rfl, _, hbu', hy, hcy, hry⟩ := (h'.below hb hhi').at_ hlt
        replace hx := Lib.hid hx
        replace hy := Lib.hid hy
        have hE : ∀ m, Calls Try.prog 104 #[.slice Ak nk ck, .slice Ak' nk' ck'] (wr.drewN m) fun e w' => e = .returned (.bool (decide (x = y))) ∧ ∃ q, w' = wr.drewN q := fun m => by
          refine (equal_q Ak nk ck x Ak' nk' ck' y (wr.drewN m) _ _ _ _ (hrx.below (below_drewN (Below.refl wr.heap.size wr) m) (by omega)) (hry.below (below_drewN (Below.refl wr.heap.size wr) m) (by omega)) (by simp; omega) (by simp; omega)).mono ?_
          rintro e w' ⟨he, q, hq⟩
          exact ⟨he, m + q, by rw [hq, World.drewN_drewN]⟩
        have hE0 := hE 0
        rw [World.drewN_zero] at hE0
        by_cases hxy : x = y
        · rw [decide_eq_true hxy] at hE0 hE
          replace hxy := Lib.hid hxy
          replace hE := Lib.hid hE
          replace hE0 := Lib.hid hE0
          go_wp2_with fail
          ((first | (with_reducible refine (hE0.out).mono ?_) | (with_reducible refine (hE.out _).mono ?_)); rintro e w' ⟨rfl, q, rfl⟩)
          go_wp2_with fail
          go_roundw
          case rel =>
            refine ⟨k + 1, by omega, by go_num, Lib.hid fun j hj => ?_, _, by rw [hmd.out, World.drewN_drewN]⟩
            by_cases e : j = k
            · subst e; rw [hx.out, hy.out, hxy.out]
            · exact hys.out j (by omega)
          case measure => simp [intOf]; omega
        · rw [decide_eq_false hxy] at hE0 hE
          replace hxy := Lib.hid hxy
          replace hE := Lib.hid hE
          replace hE0 := Lib.hid hE0
          go_wp2_with fail
          ((first | (with_reducible refine (hE0.out).mono ?_) | (with_reducible refine (hE.out _).mono ?_)); rintro e w' ⟨rfl, q, rfl⟩)
          go_wp2_with fail
          go_ret
          refine ⟨ret_bool ?_, _, by rw [hmd.out, World.drewN_drewN]⟩
          have hx := hx.out
          have hy := hy.out
          symm
          apply decide_eq_false
          rintro rfl
          rw [hx] at hy
          exact hxy.out (Option.some.inj hy)
      · go_wp2_with fail
        go_ret
        refine ⟨ret_bool ?_, md, hmd.out⟩
        have hl := hl.out
        have hl' := hl'.out
        symm
        apply decide_eq_true
        exact list_ext_upto k (by omega) (by omega) hys.out
  · have hne' : ((n : Int) != (n' : Int)) = true := by simp; omega
    go_enter Try.func103, Try.ntmps103
    go_wp2_with fail
    go_ret
    refine ⟨ret_bool ?_, 0, rfl⟩
    have hl := hl.out
    have hl' := hl'.out
    symm
    apply decide_eq_false
    rintro rfl
    omega
theorem sameM_any (A : Option Addr) (n c : Nat) (xss : List (List Int)) (A' : Option Addr) (n' c' : Nat) (yss : List (List Int)) (w : World) {lo hi lo' hi' : Nat} (h : RS w lo hi A n xss) (hhi : hi ≤ w.heap.size) (h' : RS w lo' hi' A' n' yss) (hhi' : hi' ≤ w.heap.size) :
    Calls Try.prog 80 #[.agg #[.slice A n c], .agg #[.slice A' n' c']] w fun e w' => e = .returned (.bool (decide (xss = yss))) ∧ Gr w w' := by
  have hR := rs_alloc (rs_alloc h hhi (.cells #[.slice A n c] 38)) (by simp; omega) (.cells #[.slice A' n' c'] 38)
  have hR' := rs_alloc (rs_alloc h' hhi' (.cells #[.slice A n c] 38)) (by simp; omega) (.cells #[.slice A' n' c'] 38)
  have hB : Gr w ((w.alloc (.cells #[.slice A n c] 38)).alloc (.cells #[.slice A' n' c'] 38)) := ((Gr.refl _).alloc _).alloc _
  go_enter Try.func80, Try.ntmps80
  go_wp2_with fail
  ((with_reducible refine (equalFunc_any A n c xss A' n' c' yss _ hR (by simp; omega) hR' (by simp; omega)).mono ?_); rintro e w' ⟨rfl, q, rfl⟩)
  go_wp2_with fail
  go_ret
  exact ⟨rfl, hB.dn q⟩
end Go.Proofs.Ytbioelmofceaaaa
