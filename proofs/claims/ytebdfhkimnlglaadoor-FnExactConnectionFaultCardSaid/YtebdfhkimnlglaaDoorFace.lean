/- Walks: the faces of a rank: the orbits of all moves but one, the program's and the reference's. Up to 400 flags. -/
import Derived.Test.YtebdfhkimnlglaaDoorRun
import Derived.Test.YtebdfhkimnlglaaDoorOrbN
import Derived.Deep.RegionLaw
import Derived.Lib.SliceRun
namespace Go.Proofs.YtebdfhkimnlglaaDoor
open Go.RowKit
set_option linter.unusedVariables false
set_option maxRecDepth 100000
theorem sysOf_erase {xss : List (List Int)} {n : Nat} (h : SysOf xss n) (i : Nat) : SysOf (xss.eraseIdx i) n := fun p hp => h p (List.mem_of_mem_eraseIdx hp)
theorem rowsAt_erase {w : World} {lo hi : Nat} {vs : List Value} {xss : List (List Int)} (h : RowsAt w lo hi vs xss) (i : Nat) : RowsAt w lo hi (vs.eraseIdx i) (xss.eraseIdx i) := by
  refine ⟨by rw [List.length_eraseIdx, List.length_eraseIdx, h.1], fun k v xs h1 h2 => ?_⟩
  rw [List.getElem?_eraseIdx] at h1 h2
  by_cases hk : k < i
  · rw [if_pos hk] at h1 h2; exact h.2 k v xs h1 h2
  · rw [if_neg hk] at h1 h2; exact h.2 (k + 1) v xs h1 h2
theorem rowsAt_one {w : World} {lo hi : Nat} {vs : List Value} {xss : List (List Int)} (h : RowsAt w lo hi vs xss) : ∀ v ∈ vs, v.oneCell' = true := by
  intro v hv
  obtain ⟨k, hk⟩ := List.mem_iff_getElem?.1 hv
  have hlt := (List.getElem?_eq_some_iff.1 hk).1
  obtain ⟨A, n, c, rfl, _⟩ := h.2 k v _ hk (List.getElem?_eq_getElem (by have := h.1; omega))
  rfl
theorem rowsAt_snoc {w : World} {lo hi n c : Nat} {A : Option Addr} {vs : List Value} {xss : List (List Int)} {xs : List Int} (h : RowsAt w lo hi vs xss) (hr : RI w lo hi A n xs) : RowsAt w lo hi (vs ++ [.slice A n c]) (xss ++ [xs]) := by
  refine ⟨by simp [h.1], fun k v ys h1 h2 => ?_⟩
  by_cases hk : k < vs.length
  · rw [List.getElem?_append_left hk] at h1
    rw [List.getElem?_append_left (by have := h.1; omega)] at h2
    exact h.2 k v ys h1 h2
  · have hk2 := (List.getElem?_eq_some_iff.1 h1).1
    simp at hk2
    have e : k = vs.length := by omega
    subst e
    rw [List.getElem?_append_right (Nat.le_refl _)] at h1
    rw [List.getElem?_append_right (by have := h.1; omega)] at h2
    have hl := h.1
    simp at h1
    simp [hl] at h2
    subst h1; subst h2
    exact ⟨A, n, c, rfl, hr⟩
theorem below_cells {B b : Nat} {a : World} (hb : B ≤ b) : ∀ (vs : List Value) (o : Nat) (w : World), Below B a w → Below B a (w.setCells b o vs) := by
  intro vs
  induction vs with
  | nil => intro o w h; exact h
  | cons v t ih => intro o w h; exact ih _ _ (h.setCell (p := ⟨b, o, none⟩) hb v)
/-- the first index of x, or -1 -/
def idxI (xs : List Int) (x : Int) : Int := if x ∈ xs then (xs.idxOf x : Int) else -1
theorem idx_first {xs : List Int} {k : Nat} {x : Int} (h : xs[k]? = some x) (hn : x ∉ xs.take k) : xs.idxOf x = k := by
  have hk := (List.getElem?_eq_some_iff.1 h).1
  have hm := mem_of_get? h
  have h1 := get?_idxOf hm
  have hle : ¬ xs.idxOf x < k := by
    intro hlt
    refine hn ?_
    have : (xs.take k)[xs.idxOf x]? = some x := by rw [List.getElem?_take_of_lt hlt]; exact h1
    exact mem_of_get? this
  have hge : ¬ k < xs.idxOf x := by
    intro hlt
    have e := List.take_append_drop k xs
    have hl : (xs.take k).length = k := by simp; omega
    have e2 : xs.idxOf x = ((xs.take k) ++ (xs.drop k)).idxOf x := by rw [e]
    rw [List.idxOf_append, if_neg hn, hl] at e2
    have e3 : xs.drop k = x :: xs.drop (k + 1) := by
      rw [List.drop_eq_getElem_cons hk]
      congr 1
      have := (List.getElem?_eq_some_iff.1 h).2
      exact this
    rw [e3, List.idxOf_cons_self] at e2
    omega
  omega
theorem l01Index_any (A : Option Addr) (n c : Nat) (xs : List Int) (x : Int) (w : World) {lo hi : Nat} (h : RI w lo hi A n xs) :
    Calls Tryd.prog 49 #[.slice A n c, .int .i64 x] w fun e w' => e = .returned (.int .i64 (idxI xs x)) ∧ w = w' := by
  have hm := h.max
  have hl := Lib.hid h.len
  go_enter Tryd.func49, Tryd.ntmps49
  go_wp2_with fail
  go_loopw [5] (fun kv wq => ∃ k : Nat, k ≤ n ∧ kv = .int .i64 k ∧ Hid (x ∉ xs.take k) ∧ w = wq) (fun kv _ => n - (intOf kv).toNat)
  case atStart => exact ⟨0, by omega, rfl, Lib.hid (by simp), by first | rfl | trivial⟩
  case round =>
    obtain ⟨k, hk, rfl, hnx, rfl⟩ := hrel
    by_cases hlt : k < n
    · obtain ⟨b, o, v, rfl, _, _, hv, hcv⟩ := h.at_ hlt
      have htk := take_succ_of hv
      by_cases hvx : v = x
      · subst hvx
        have hix : idxI xs v = k := by unfold idxI; rw [if_pos (mem_of_get? hv), idx_first hv hnx.out]
        replace hv := Lib.hid hv
        replace htk := Lib.hid htk
        replace hix := Lib.hid hix
        go_wp2_with fail
        go_ret
        exact ⟨ret_int hix.out.symm, rfl⟩
      · have hbq : (v == x) = false := by simpa using hvx
        have hn2 : x ∉ xs.take (k + 1) := by rw [htk]; simp only [List.mem_append, List.mem_singleton]; rintro (hh | hh); exact hnx.out hh; exact hvx hh.symm
        replace hn2 := Lib.hid hn2
        replace hv := Lib.hid hv
        replace htk := Lib.hid htk
        go_wp2_with fail
        go_roundw
        case measure => simp [intOf]; omega
        case rel => exact ⟨k + 1, by omega, by go_num, hn2, by first | rfl | trivial⟩
    · have hkn : k = n := by omega
      subst hkn
      have hix : idxI xs x = -1 := by unfold idxI; rw [if_neg]; have := hnx.out; rwa [List.take_of_length_le (by have := hl.out; omega)] at this
      replace hix := Lib.hid hix
      go_wp2_with fail
      go_ret
      exact ⟨ret_int hix.out.symm, rfl⟩
theorem l01Has_any (A : Option Addr) (n c : Nat) (xs : List Int) (x : Int) (w : World) {lo hi : Nat} (h : RI w lo hi A n xs) :
    Calls Tryd.prog 37 #[.slice A n c, .int .i64 x] w fun e w' => e = .returned (.bool (decide (x ∈ xs))) ∧ w = w' := by
  have hix : decide (idxI xs x ≥ 0) = decide (x ∈ xs) := by
    unfold idxI
    by_cases hx : x ∈ xs
    · rw [if_pos hx]; simp [hx]
    · rw [if_neg hx]; simp [hx]
  replace hix := Lib.hid hix
  go_enter Tryd.func37, Tryd.ntmps37
  go_wp2_with fail
  ((with_reducible refine (l01Index_any A n c xs x _ h).mono ?_); rintro e w' ⟨rfl, rfl⟩)
  go_wp2_with fail
  go_ret
  exact ⟨ret_bool (by first | exact hix.out | (rw [← hix.out])), rfl⟩
end Go.Proofs.YtebdfhkimnlglaaDoor
