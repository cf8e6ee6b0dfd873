/- Walks of both packages' functions on permutations: isFreeInvolution, inverse, l01Back, then, l01Then, l01Two, arePermutations. Lengths up to 400 (permutations). -/
import Derived.Test.YtcjnhiglfkcmiaaGreatDoorPerm
import Derived.Test.YtcjnhiglfkcmiaaGreatDoorApp
import Derived.Test.YtcjnhiglfkcmiaaGreatDoorLawI
namespace Go.Proofs.YtcjnhiglfkcmiaaGreatDoor
open Go.RowKit
set_option linter.unusedVariables false
set_option maxRecDepth 100000
set_option maxHeartbeats 400000 in
theorem isFree_any (A : Option Addr) (n c : Nat) (xs : List Int) (w : World) (lo hi : Nat) (h : RI w lo hi A n xs) (hhi : hi ≤ w.heap.size) :
    Calls Tryz.prog 31 #[.slice A n c] w fun e w' => e = .returned (.bool (isPermB xs && freeB xs)) ∧ Below w.heap.size w w' := by
  have hm := h.max
  have hl := Lib.hid h.len
  by_cases hp : isPermP xs
  · have hpb := Lib.hid (isPermB_iff.2 hp)
    replace hp := Lib.hid hp
    go_enter Tryz.func31, Tryz.ntmps31
    go_wp2_with fail
    ((with_reducible refine (isPerm_any _ _ _ xs _ _ _ h hhi).mono ?_); rintro e w1 ⟨rfl, hb1⟩)
    rw [hpb.out]
    go_wp2_with fail
    have h1 := h.below hb1 hhi
    have hs1 := hb1.size
    go_loopw [10] (fun i wr => ∃ (k : Nat), k ≤ n ∧ i = .int .i64 k ∧ (∀ j, j < k → xs.getD j 0 ≠ (j : Int) ∧ xs.getD (xs.getD j 0).toNat 0 = (j : Int)) ∧ Below w.heap.size w wr) (fun i wr => n - (intOf i).toNat)
    case atStart => exact ⟨0, by omega, rfl, fun j hj => absurd hj (by omega), hb1⟩
    case round =>
      obtain ⟨k, hk, rfl, hall, hb⟩ := hrel
      replace hall := Lib.hid hall
      by_cases hlt : k < n
      · have hr := h.below hb hhi
        clear h1
        obtain ⟨b, o, x, rfl, _, _, hx, hc⟩ := hr.at_ hlt
        have hxr := hp.out.get (k := k) (by have := hl.out; omega)
        rw [getD_some hx, hl.out] at hxr
        obtain ⟨hx0, hx1⟩ := hxr
        obtain ⟨b', o', y, e, _, _, hy, hc'⟩ := hr.at_ (k := x.toNat) (by omega)
        injection e with e; injection e with e1 e2 _; subst e1; subst e2
        replace hx := Lib.hid hx
        replace hy := Lib.hid hy
        by_cases c1 : x = (k : Int)
        · have c1' : (x == (k : Int)) = true := by simpa using c1
          go_wp2_with fail
          go_ret
          exact ⟨ret_bool (by rw [hpb.out, free_no hx.out hy.out (.inl c1)]; rfl), hb⟩
        · have c1' : (x == (k : Int)) = false := by simpa using c1
          by_cases c2 : y = (k : Int)
          · have c2' : (y != (k : Int)) = false := by simpa using c2
            go_wp2_with fail
            go_roundw
            case rel =>
              refine ⟨k + 1, by omega, by go_num, fun j hj => ?_, hb⟩
              by_cases e : j = k
              · subst e; rw [getD_some hx.out, getD_some hy.out]; exact ⟨c1, c2⟩
              · exact hall.out j (by omega)
            case measure => simp [intOf]; omega
          · have c2' : (y != (k : Int)) = true := by simpa using c2
            go_wp2_with fail
            go_ret
            exact ⟨ret_bool (by rw [hpb.out, free_no hx.out hy.out (.inr c2)]; rfl), hb⟩
      · go_wp2_with fail
        go_ret
        have hkn : k = n := by omega
        subst hkn
        exact ⟨ret_bool (by rw [hpb.out, free_end hl.out hall.out]; rfl), hb⟩
  · have hpb := Lib.hid (isPermB_false hp)
    go_enter Tryz.func31, Tryz.ntmps31
    go_wp2_with fail
    ((with_reducible refine (isPerm_any _ _ _ xs _ _ _ h hhi).mono ?_); rintro e w1 ⟨rfl, hb1⟩)
    rw [hpb.out]
    go_wp2_with fail
    go_ret
    exact ⟨ret_bool (by rw [hpb.out]; rfl), hb1⟩
end Go.Proofs.YtcjnhiglfkcmiaaGreatDoor
