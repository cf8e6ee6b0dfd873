/- Walks: systems of permutations: isSystem with its closure and the library's search, l01System. No condition but the sizes of memory. -/
import Derived.Test.YtcjnhiglfkcmiaaDoorPerm2
import Derived.Test.YtcjnhiglfkcmiaaDoorSls
import Derived.Deep.RegionWith
import Derived.Deep.RegionHeld3
namespace Go.Proofs.YtcjnhiglfkcmiaaDoor
open Go.RowKit
set_option linter.unusedVariables false
set_option maxRecDepth 100000

def isSysP (n : Int) (list : List (List Int)) : Prop := 0 ≤ n ∧ n ≤ 400 ∧ list.length ≤ 16 ∧ ∀ p ∈ list, isPermP p ∧ (p.length : Int) = n
instance (n : Int) (list : List (List Int)) : Decidable (isSysP n list) := by unfold isSysP; infer_instance
def isSysB (n : Int) (list : List (List Int)) : Bool := decide (isSysP n list)
theorem isSysB_iff {n : Int} {list : List (List Int)} : isSysB n list = true ↔ isSysP n list := by unfold isSysB; simp
theorem isSysB_false {n : Int} {list : List (List Int)} (h : ¬ isSysP n list) : isSysB n list = false := by unfold isSysB; simp [h]
/-- a list is no permutation of n points -/
def badFor (n : Int) (p : List Int) : Bool := !(isPermB p && decide ((p.length : Int) = n))
set_option maxHeartbeats 400000 in
theorem sysClosure_any (A : Option Addr) (m c : Nat) (xs : List Int) (bn : Nat) (n : Int) (w : World) {lo hi : Nat} (h : RI w lo hi A m xs) (hhi : hi ≤ w.heap.size) (hbn : bn < w.heap.size) (hn : w.cell? ⟨bn, 0, none⟩ = some (.int .i64 n)) :
    Calls Tryd.prog 96 #[.slice A m c, .pointer (some ⟨bn, 0, none⟩)] w fun e w' => e = .returned (.bool (badFor n xs)) ∧ Below w.heap.size w w' := by
  have hl := h.len
  have hm := h.max
  by_cases hp : isPermB xs = true
  · have hB : badFor n xs = !(decide ((m : Int) = n)) := by unfold badFor; rw [hp, hl]; simp
    replace hB := Lib.hid hB
    replace hp := Lib.hid hp
    replace hl := Lib.hid hl
    by_cases hmn : (m : Int) = n
    · have hd : ((m : Int) != n) = false := by simpa using hmn
      haveI := Since.ne w
      have hcn : ∀ u : Since w, u.val.cell? ⟨bn, 0, none⟩ = some (.int .i64 n) := fun u => (u.ok.cell (p := ⟨bn, 0, none⟩) hbn).trans hn
      go_enter Tryd.func96, Tryd.ntmps96
      go_wp2_with fail
      refine wp_region_since_lit (by kernel_rfl) (by kernel_rfl) ?_
      repeat (refine wpQuiet_step (fun K hK => ?_); go_simp; first | (refine hK _ ?_; clear hK K) | (apply Exists.intro; refine ⟨fun _ => ?_, hK _ ?_⟩; (first | (go_at_call 40; refine since_call (hp.out ▸ isPerm_any _ _ _ xs _ lo hi (h.below (Since.ok _) hhi) ?_); exact Nat.le_trans hhi (Since.ok _).size) | (go_at_call 70; exact since_call_same (sizeI_any _ _ _ _ (by omega)))); clear hK K))
      refine wpQuiet_nil ?_
      intro w2 hw2
      have hb2 : Below w.heap.size w w2 := by obtain ⟨u, hu⟩ := hw2; rw [hu]; exact u.ok
      clear hw2
      go_wp2_with fail
      go_ret
      exact ⟨ret_bool (by rw [hB.out]; simp [hmn]), hb2⟩
    · have hd : ((m : Int) != n) = true := by simpa using hmn
      haveI := Since.ne w
      have hcn : ∀ u : Since w, u.val.cell? ⟨bn, 0, none⟩ = some (.int .i64 n) := fun u => (u.ok.cell (p := ⟨bn, 0, none⟩) hbn).trans hn
      go_enter Tryd.func96, Tryd.ntmps96
      go_wp2_with fail
      refine wp_region_since_lit (by kernel_rfl) (by kernel_rfl) ?_
      repeat (refine wpQuiet_step (fun K hK => ?_); go_simp; first | (refine hK _ ?_; clear hK K) | (apply Exists.intro; refine ⟨fun _ => ?_, hK _ ?_⟩; (first | (go_at_call 40; refine since_call (hp.out ▸ isPerm_any _ _ _ xs _ lo hi (h.below (Since.ok _) hhi) ?_); exact Nat.le_trans hhi (Since.ok _).size) | (go_at_call 70; exact since_call_same (sizeI_any _ _ _ _ (by omega)))); clear hK K))
      refine wpQuiet_nil ?_
      intro w2 hw2
      have hb2 : Below w.heap.size w w2 := by obtain ⟨u, hu⟩ := hw2; rw [hu]; exact u.ok
      clear hw2
      go_wp2_with fail
      go_ret
      exact ⟨ret_bool (by rw [hB.out]; simp [hmn]), hb2⟩
  · have hp : isPermB xs = false := by simpa using hp
    have hB : badFor n xs = true := by unfold badFor; rw [hp]; rfl
    replace hB := Lib.hid hB
    replace hp := Lib.hid hp
    replace hl := Lib.hid hl
    haveI := Since.ne w
    go_enter Tryd.func96, Tryd.ntmps96
    go_wp2_with fail
    refine wp_region_since_lit (by kernel_rfl) (by kernel_rfl) ?_
    repeat (refine wpQuiet_step (fun K hK => ?_); go_simp; first | (refine hK _ ?_; clear hK K) | (apply Exists.intro; refine ⟨fun _ => ?_, hK _ ?_⟩; (first | (go_at_call 40; refine since_call (hp.out ▸ isPerm_any _ _ _ xs _ lo hi (h.below (Since.ok _) hhi) ?_); exact Nat.le_trans hhi (Since.ok _).size) | (go_at_call 70; exact since_call_same (sizeI_any _ _ _ _ (by omega)))); clear hK K))
    refine wpQuiet_nil ?_
    intro w2 hw2
    have hb2 : Below w.heap.size w w2 := by obtain ⟨u, hu⟩ := hw2; rw [hu]; exact u.ok
    clear hw2
    go_wp2_with fail
    go_ret
    exact ⟨ret_bool (by rw [hB.out]), hb2⟩
set_option maxHeartbeats 400000 in
theorem sysIndex_any (A : Option Addr) (m c : Nat) (xss : List (List Int)) (bn : Nat) (n : Int) (w : World) {lo hi : Nat} (h : RS w lo hi A m xss) (hhi : hi ≤ w.heap.size) (hbn : bn < w.heap.size) (hn : w.cell? ⟨bn, 0, none⟩ = some (.int .i64 n)) :
    Calls Tryd.prog 120 #[.slice A m c, .func (.func 96) #[] #[.pointer (some ⟨bn, 0, none⟩)]] w fun e w' => ∃ r : Int, e = .returned (.int .i64 r) ∧ -1 ≤ r ∧ Hid ((decide (0 ≤ r)) = xss.any (badFor n)) ∧ Below w.heap.size w w' := by
  have hm := h.max
  have hl := Lib.hid h.len
  go_enter Tryd.func120, Tryd.ntmps120
  go_wp2_with fail
  go_loopw [8] (fun iv wr => ∃ k : Nat, k ≤ m ∧ iv = .int .i64 k ∧ Hid ((xss.take k).any (badFor n) = false) ∧ Below w.heap.size w wr) (fun iv _ => m - (intOf iv).toNat)
  case atStart => exact ⟨0, by omega, rfl, Lib.hid (by simp), Below.refl _ _⟩
  case round =>
    obtain ⟨k, hk, rfl, hbad, hb⟩ := hrel
    by_cases hlt : k < m
    · obtain ⟨b, o, Ak, nk, ck, ys, rfl, _, _, hys, hcell, hrow⟩ := (h.below hb hhi).at_ hlt
      have hbs := hb.size
      have hnr : wr.cell? ⟨bn, 0, none⟩ = some (.int .i64 n) := (hb.cell (p := ⟨bn, 0, none⟩) hbn).trans hn
      replace hys := Lib.hid hys
      by_cases hbd : badFor n ys = true
      · replace hbd := Lib.hid hbd
        go_wp2_with fail
        ((with_reducible refine (sysClosure_any _ _ _ ys bn n _ hrow (by omega) (by omega) hnr).mono ?_); rintro e w2 ⟨rfl, hb2⟩)
        rw [hbd.out]
        go_wp2_with fail
        go_ret
        refine ⟨_, rfl, by omega, Lib.hid ?_, below_then hb hb2 hbs⟩
        rw [decide_eq_true (by omega)]
        symm
        exact List.any_eq_true.2 ⟨ys, mem_of_get? hys.out, hbd.out⟩
      · have hbd : badFor n ys = false := by simpa using hbd
        replace hbd := Lib.hid hbd
        go_wp2_with fail
        ((with_reducible refine (sysClosure_any _ _ _ ys bn n _ hrow (by omega) (by omega) hnr).mono ?_); rintro e w2 ⟨rfl, hb2⟩)
        rw [hbd.out]
        go_wp2_with fail
        go_roundw
        case rel => exact ⟨k + 1, by omega, by go_num, Lib.hid (by rw [take_succ_of hys.out, List.any_append, hbad.out]; simp [hbd.out]), below_then hb hb2 hbs⟩
        case measure => simp [intOf]; omega
    · go_wp2_with fail
      go_ret
      have hkn : k = m := by omega
      subst hkn
      refine ⟨_, rfl, by omega, Lib.hid ?_, hb⟩
      have hbad := hbad.out
      rw [List.take_of_length_le (by have := hl.out; omega)] at hbad
      rw [hbad]
      rfl
set_option maxHeartbeats 400000 in
theorem sysContains_any (A : Option Addr) (m c : Nat) (xss : List (List Int)) (bn : Nat) (n : Int) (w : World) {lo hi : Nat} (h : RS w lo hi A m xss) (hhi : hi ≤ w.heap.size) (hbn : bn < w.heap.size) (hn : w.cell? ⟨bn, 0, none⟩ = some (.int .i64 n)) :
    Calls Tryd.prog 95 #[.slice A m c, .func (.func 96) #[] #[.pointer (some ⟨bn, 0, none⟩)]] w fun e w' => e = .returned (.bool (xss.any (badFor n))) ∧ Below w.heap.size w w' := by
  go_enter Tryd.func95, Tryd.ntmps95
  go_wp2_with fail
  ((with_reducible refine (sysIndex_any _ _ _ xss bn n _ h hhi hbn hn).mono ?_); rintro e w2 ⟨r, rfl, hr1, hr2, hb2⟩)
  go_wp2_with fail
  go_ret
  exact ⟨ret_bool hr2.out, hb2⟩
theorem isSysB_eq {n : Int} {xss : List (List Int)} (h0 : 0 ≤ n) (h4 : n ≤ 400) (hl : xss.length ≤ 16) : isSysB n xss = !(xss.any (badFor n)) := by
  unfold isSysB
  cases hb : xss.any (badFor n) with
  | true =>
    obtain ⟨p, hp, hq⟩ := List.any_eq_true.1 hb
    simp only [Bool.not_true, decide_eq_false_iff_not]
    intro h
    obtain ⟨h1, h2⟩ := h.2.2.2 p hp
    unfold badFor at hq
    rw [isPermB_iff.2 h1, decide_eq_true h2] at hq
    simp at hq
  | false =>
    simp only [Bool.not_false, decide_eq_true_eq]
    refine ⟨h0, h4, hl, fun p hp => ?_⟩
    have hq := List.any_eq_false.1 hb p hp
    unfold badFor at hq
    simp at hq
    exact ⟨isPermB_iff.1 hq.1, hq.2⟩
set_option maxHeartbeats 400000 in
theorem isSys_any (n : Int) (A : Option Addr) (m c : Nat) (xss : List (List Int)) (w : World) {lo hi : Nat} (h : RS w lo hi A m xss) (hhi : hi ≤ w.heap.size) :
    Calls Tryd.prog 63 #[.int .i64 n, .slice A m c] w fun e w' => e = .returned (.bool (isSysB n xss)) ∧ Below w.heap.size w w' := by
  have hm := h.max
  have hl := h.len
  by_cases hn : 0 ≤ n ∧ n ≤ 400
  · have hw : (decide ((0 : Int) ≤ n) && decide (n ≤ (400 : Int))) = true := by simp; omega
    by_cases h16 : m ≤ 16
    · have hB := isSysB_eq hn.1 hn.2 (show xss.length ≤ 16 by omega)
      have h16d : decide ((m : Int) ≤ 16) = true := by simp; omega
      replace hl := Lib.hid hl
      replace hB := Lib.hid hB
      have hr : RS (w.alloc (.cells #[.int .i64 n] 2)) lo hi A m xss := h.keep (same_alloc w _ _ _ hhi)
      have hcn : (w.alloc (.cells #[.int .i64 n] 2)).cell? ⟨w.heap.size, 0, none⟩ = some (.int .i64 n) := by simp
      replace hcn := Lib.hid hcn
      go_enter Tryd.func63, Tryd.ntmps63
      go_wp2_with fail
      ((with_reducible refine (within_any _ _ _ _).mono ?_); rintro e w' ⟨rfl, rfl⟩)
      rw [hw]
      go_wp2_with fail
      ((with_reducible refine (sysContains_any _ _ _ xss _ n _ hr (by simp; omega) (by simp) hcn.out).mono ?_); rintro e w2 ⟨rfl, hb2⟩)
      go_wp2_with fail
      go_ret
      exact ⟨ret_bool (by rw [hB.out]), ((Below.refl _ _).alloc (Nat.le_refl _) _).trans (hb2.mono (by simp))⟩
    · have hB : isSysB n xss = false := isSysB_false (by rintro ⟨_, _, h3, _⟩; omega)
      have h16d : decide ((m : Int) ≤ 16) = false := by simp; omega
      replace hl := Lib.hid hl
      replace hB := Lib.hid hB
      go_enter Tryd.func63, Tryd.ntmps63
      go_wp2_with fail
      ((with_reducible refine (within_any _ _ _ _).mono ?_); rintro e w' ⟨rfl, rfl⟩)
      rw [hw]
      go_wp2_with fail
      go_ret
      exact ⟨ret_bool (by rw [hB.out]), (Below.refl _ _).alloc (Nat.le_refl _) _⟩
  · have hw : (decide ((0 : Int) ≤ n) && decide (n ≤ (400 : Int))) = false := by simp; omega
    have hB : isSysB n xss = false := isSysB_false (by rintro ⟨h1, h2, _⟩; exact hn ⟨h1, h2⟩)
    replace hl := Lib.hid hl
    replace hB := Lib.hid hB
    clear hn
    go_enter Tryd.func63, Tryd.ntmps63
    go_wp2_with fail
    ((with_reducible refine (within_any _ _ _ _).mono ?_); rintro e w' ⟨rfl, rfl⟩)
    rw [hw]
    go_wp2_with fail
    go_ret
    exact ⟨ret_bool (by rw [hB.out]), (Below.refl _ _).alloc (Nat.le_refl _) _⟩
end Go.Proofs.YtcjnhiglfkcmiaaDoor
