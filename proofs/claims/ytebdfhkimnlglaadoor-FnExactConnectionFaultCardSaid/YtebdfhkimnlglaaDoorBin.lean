/- Walks: is a list sorted, and the search in a sorted list. No condition but the sizes of memory. -/
import Derived.Test.YtebdfhkimnlglaaDoorWord
import Derived.Test.YtebdfhkimnlglaaDoorManS
namespace Go.Proofs.YtebdfhkimnlglaaDoor
open Go.RowKit
set_option linter.unusedVariables false
set_option maxRecDepth 100000
def srtB (xs : List Int) : Bool := (List.range (xs.length - 1)).all fun k => decide (xs.getD k 0 ≤ xs.getD (k + 1) 0)
theorem srtB_iff {xs : List Int} : srtB xs = true ↔ ∀ k, k + 1 < xs.length → xs.getD k 0 ≤ xs.getD (k + 1) 0 := by
  unfold srtB
  rw [List.all_eq_true]
  constructor
  · intro h k hk
    exact of_decide_eq_true (h k (by simp; omega))
  · intro h k hk
    simp at hk
    exact decide_eq_true (h k (by omega))
theorem srt_le {xs : List Int} (h : ∀ k, k + 1 < xs.length → xs.getD k 0 ≤ xs.getD (k + 1) 0) : ∀ d i, i + d < xs.length → xs.getD i 0 ≤ xs.getD (i + d) 0 := by
  intro d
  induction d with
  | zero => intro i _; exact Int.le_refl _
  | succ d ih => intro i hi; exact Int.le_trans (ih i (by omega)) (h (i + d) (by omega))
theorem srt_mono {xs : List Int} (h : ∀ k, k + 1 < xs.length → xs.getD k 0 ≤ xs.getD (k + 1) 0) {i j : Nat} (hij : i ≤ j) (hj : j < xs.length) : xs.getD i 0 ≤ xs.getD j 0 := by
  have := srt_le h (j - i) i (by omega)
  rwa [show i + (j - i) = j by omega] at this
theorem bin_mem {xs : List Int} {x : Int} {p : Nat} (hp : p ≤ xs.length) (h1 : ∀ t, t < p → xs.getD t 0 < x) (h2 : ∀ t, p ≤ t → t < xs.length → x ≤ xs.getD t 0) (hs : ∀ k, k + 1 < xs.length → xs.getD k 0 ≤ xs.getD (k + 1) 0) : decide (x ∈ xs) = (decide (p < xs.length) && decide (xs.getD p 0 = x)) := by
  by_cases hx : x ∈ xs
  · obtain ⟨k, hk, hkx⟩ := List.getElem_of_mem hx
    have hd : xs.getD k 0 = x := getD_some (by rw [List.getElem?_eq_getElem hk, hkx])
    have hpk : p ≤ k := by
      rcases Nat.lt_or_ge k p with h | h
      · have := h1 k h; omega
      · exact h
    have ha := srt_mono hs hpk hk
    have hb := h2 p (Nat.le_refl _) (by omega)
    have hc : xs.getD p 0 = x := by omega
    rw [hc, decide_eq_true hx, decide_eq_true (show p < xs.length by omega)]
    simp
  · rw [decide_eq_false hx]
    by_cases hpl : p < xs.length
    · have hne : xs.getD p 0 ≠ x := fun e => hx (by rw [← e]; exact mem_of_get? (get?_getD 0 hpl))
      rw [decide_eq_false hne, Bool.and_false]
    · rw [decide_eq_false hpl, Bool.false_and]
theorem cmpNaN_any (x : Int) (w : World) : Calls Tryd.prog 58 #[.int .i64 x] w fun e w' => e = .returned (.bool false) ∧ w = w' := by
  go_enter Tryd.func58, Tryd.ntmps58
  go_wp2
  go_ret
  exact ⟨by simp, rfl⟩
theorem slNaN_any (x : Int) (w : World) : Calls Tryd.prog 54 #[.int .i64 x] w fun e w' => e = .returned (.bool false) ∧ w = w' := by
  go_enter Tryd.func54, Tryd.ntmps54
  go_wp2
  go_ret
  exact ⟨by simp, rfl⟩
theorem less_any (x y : Int) (w : World) : Calls Tryd.prog 53 #[.int .i64 x, .int .i64 y] w fun e w' => e = .returned (.bool (decide (x < y))) ∧ w = w' := by
  go_enter Tryd.func53, Tryd.ntmps53
  go_wp2_with fail
  ((with_reducible refine (cmpNaN_any _ _).mono ?_); rintro e w' ⟨rfl, rfl⟩)
  go_wp2_with fail
  go_ret
  exact ⟨rfl, rfl⟩
set_option maxHeartbeats 2000000 in
theorem isSorted_any (A : Option Addr) (n c : Nat) (xs : List Int) (w : World) {lo hi : Nat} (h : RI w lo hi A n xs) (hhi : hi ≤ w.heap.size) :
    Calls Tryd.prog 43 #[.slice A n c] w fun e w' => e = .returned (.bool (srtB xs)) ∧ Below w.heap.size w w' := by
  have hm := h.max
  have hl := h.len
  cases n with
  | zero =>
    have hF : srtB xs = true := srtB_iff.2 (fun k hk => by omega)
    replace hF := Lib.hid hF
    replace hl := Lib.hid hl
    go_enter Tryd.func43, Tryd.ntmps43
    go_wp2_with fail
    go_loopw [3] (fun kv wq => kv = .int .i64 (-1) ∧ w = wq) (fun kv _ => 0)
    case atStart => exact ⟨by go_num, rfl⟩
    case round =>
      obtain ⟨rfl, rfl⟩ := hrel
      go_wp2_with fail
      go_ret
      exact ⟨ret_bool hF.out.symm, Below.refl _ _⟩
  | succ N =>
    have hwr : IntKind.i64.wrap (N : Int) = (N : Int) := by rw [IntKind.wrap_i64]; omega
    replace hl := Lib.hid hl
    go_enter Tryd.func43, Tryd.ntmps43
    go_wp2_with fail
    clear hwr
    go_loopw [3] (fun kv wq => ∃ m : Nat, m ≤ N ∧ kv = .int .i64 m ∧ Hid (∀ j, m < j + 1 → j + 1 < N + 1 → xs.getD j 0 ≤ xs.getD (j + 1) 0) ∧ Below w.heap.size w wq) (fun kv _ => (intOf kv).toNat)
    case atStart => exact ⟨N, Nat.le_refl _, by go_num, Lib.hid (fun j h1 h2 => by omega), Below.refl _ _⟩
    case round =>
      obtain ⟨m, hmN, rfl, hall, hb⟩ := hrel
      cases m with
      | zero =>
        have hF : srtB xs = true := srtB_iff.2 (fun k hk => hall.out k (by omega) (by have := hl.out; omega))
        replace hF := Lib.hid hF
        go_wp2_with fail
        go_ret
        exact ⟨ret_bool hF.out.symm, hb⟩
      | succ q =>
        obtain ⟨b, o, x, rfl, _, _, hx, hcx⟩ := (h.below hb hhi).at_ (k := q + 1) (by omega)
        obtain ⟨b', o', y, e', _, _, hy, hcy⟩ := (h.below hb hhi).at_ (k := q) (by omega)
        injection e' with e'
        injection e' with e1 e2 _
        subst e1; subst e2
        have hgx : xs.getD (q + 1) 0 = x := getD_some hx
        have hgy : xs.getD q 0 = y := getD_some hy
        have hwr : IntKind.i64.wrap (q : Int) = (q : Int) := by rw [IntKind.wrap_i64]; omega
        by_cases hlt : x < y
        · have hF : srtB xs = false := by
            refine Bool.eq_false_iff.2 (fun hh => ?_)
            have := srtB_iff.1 hh q (by have := hl.out; omega)
            rw [hgx, hgy] at this
            omega
          have hd : decide (x < y) = true := decide_eq_true hlt
          replace hF := Lib.hid hF
          replace hx := Lib.hid hx
          replace hy := Lib.hid hy
          replace hgx := Lib.hid hgx
          replace hgy := Lib.hid hgy
          replace hlt := Lib.hid hlt
          go_wp2_with fail
          go_quiet ((go_at_call 53; exact quiet_left (hd ▸ less_any _ _ _)))
          go_wp2_with fail
          go_ret
          exact ⟨ret_bool hF.out.symm, below_dn hb _⟩
        · have hd : decide (x < y) = false := decide_eq_false hlt
          have hall2 : ∀ j, q < j + 1 → j + 1 < N + 1 → xs.getD j 0 ≤ xs.getD (j + 1) 0 := fun j h1 h2 => by
            by_cases e : j = q
            · subst e; rw [hgx, hgy]; omega
            · exact hall.out j (by omega) h2
          replace hall2 := Lib.hid hall2
          replace hx := Lib.hid hx
          replace hy := Lib.hid hy
          replace hgx := Lib.hid hgx
          replace hgy := Lib.hid hgy
          replace hlt := Lib.hid hlt
          go_wp2_with fail
          go_quiet ((go_at_call 53; exact quiet_left (hd ▸ less_any _ _ _)))
          go_wp2_with fail
          go_roundw
          case measure => first | (simp [intOf]; done) | (simp [intOf]; omega)
          case rel => exact ⟨q, by omega, by go_num, hall2, below_dn hb _⟩
set_option maxHeartbeats 2000000 in
theorem bin_any (A : Option Addr) (n c : Nat) (xs : List Int) (x : Int) (w : World) {lo hi : Nat} (h : RI w lo hi A n xs) (hbig : n ≤ 1048576) (hs : ∀ k, k + 1 < xs.length → xs.getD k 0 ≤ xs.getD (k + 1) 0) :
    Calls Tryd.prog 44 #[.slice A n c, .int .i64 x] w fun e w' => ∃ p : Int, e = .returned (.tuple #[.int .i64 p, .bool (decide (x ∈ xs))]) ∧ w = w' := by
  have hl := Lib.hid h.len
  replace hs := Lib.hid hs
  go_enter Tryd.func44, Tryd.ntmps44
  go_wp2_with fail
  go_loopw [7, 8] (fun kv lv wq => ∃ p q : Nat, kv = .int .i64 p ∧ lv = .int .i64 q ∧ p ≤ q ∧ q ≤ n ∧ w = wq ∧ Hid (∀ t, t < p → xs.getD t 0 < x) ∧ Hid (∀ t, q ≤ t → t < n → x ≤ xs.getD t 0)) (fun kv lv _ => (intOf lv).toNat - (intOf kv).toNat)
  case atStart => exact ⟨0, n, by go_num, rfl, by omega, by omega, rfl, Lib.hid (fun t ht => by omega), Lib.hid (fun t h1 h2 => by omega)⟩
  case round =>
    obtain ⟨p, q, rfl, rfl, hpq, hqn, rfl, h1, h2⟩ := hrel
    by_cases hlt : p < q
    · obtain ⟨b, o, y, rfl, _, _, hy, hcy⟩ := h.at_ (k := (p + q) / 2) (by omega)
      have hgy : xs.getD ((p + q) / 2) 0 = y := getD_some hy
      replace hy := Lib.hid hy
      replace hgy := Lib.hid hgy
      by_cases hyx : y < x
      · have hd : decide (y < x) = true := decide_eq_true hyx
        go_wp2_with ((go_at_call 53; (with_reducible refine (less_any _ _ _).mono ?_); rintro e w' ⟨rfl, rfl⟩))
        go_roundw
        case measure => simp [intOf]; omega
        case rel =>
          refine ⟨(p + q) / 2 + 1, q, by rw [show ((p : Int) + (q : Int)) / 2 + 1 = (((p + q) / 2 + 1 : Nat) : Int) by omega], rfl, by omega, hqn, by first | rfl | trivial, Lib.hid (fun t ht => ?_), h2⟩
          have := srt_mono hs.out (i := t) (j := (p + q) / 2) (by omega) (by have := hl.out; omega)
          rw [hgy.out] at this
          omega
      · have hd : decide (y < x) = false := decide_eq_false hyx
        go_wp2_with ((go_at_call 53; (with_reducible refine (less_any _ _ _).mono ?_); rintro e w' ⟨rfl, rfl⟩))
        go_roundw
        case measure => simp [intOf]; omega
        case rel =>
          refine ⟨p, (p + q) / 2, rfl, by rw [show ((p : Int) + (q : Int)) / 2 = (((p + q) / 2 : Nat) : Int) by omega], by omega, by omega, by first | rfl | trivial, h1, Lib.hid (fun t ht htn => ?_)⟩
          have := srt_mono hs.out (i := (p + q) / 2) (j := t) ht (by have := hl.out; omega)
          rw [hgy.out] at this
          omega
    · have hpq2 : p = q := by omega
      subst hpq2
      have hmem := bin_mem (x := x) (p := p) (xs := xs) (by have := hl.out; omega) h1.out (fun t a b => h2.out t a (by have := hl.out; omega)) hs.out
      rw [hl.out] at hmem
      by_cases hpn : p < n
      · obtain ⟨b, o, y, rfl, _, _, hy, hcy⟩ := h.at_ hpn
        rw [getD_some hy] at hmem
        have e1 : decide (p < n) = true := decide_eq_true hpn
        rw [e1, Bool.true_and] at hmem
        clear e1
        replace hy := Lib.hid hy
        by_cases hyx : y = x
        · subst hyx
          have hF : decide (y ∈ xs) = true := by rw [hmem]; simp
          replace hmem := Lib.hid hmem
          replace hF := Lib.hid hF
          go_wp2_with ((go_at_call 54; (with_reducible refine (slNaN_any _ _).mono ?_); rintro e w' ⟨rfl, rfl⟩))
          go_ret2
          first | refine ⟨(p : Int), ?_, rfl⟩ | refine ⟨⟨(p : Int), ?_⟩, rfl⟩
          rw [hF.out]
          rfl
        · have hF : decide (x ∈ xs) = false := by rw [hmem]; exact decide_eq_false hyx
          have hne : (y == x) = false := by simpa using hyx
          replace hmem := Lib.hid hmem
          replace hF := Lib.hid hF
          replace hyx := Lib.hid hyx
          go_wp2_with ((go_at_call 54; (with_reducible refine (slNaN_any _ _).mono ?_); rintro e w' ⟨rfl, rfl⟩))
          go_ret2
          first | refine ⟨(p : Int), ?_, rfl⟩ | refine ⟨⟨(p : Int), ?_⟩, rfl⟩
          rw [hF.out]
          rfl
      · have hF : decide (x ∈ xs) = false := by rw [hmem, decide_eq_false hpn]; rfl
        have hdp : decide ((p : Int) < (n : Int)) = false := by simp; omega
        replace hmem := Lib.hid hmem
        replace hF := Lib.hid hF
        go_wp2_with ((go_at_call 54; (with_reducible refine (slNaN_any _ _).mono ?_); rintro e w' ⟨rfl, rfl⟩))
        go_ret2
        first | refine ⟨(p : Int), ?_, rfl⟩ | refine ⟨⟨(p : Int), ?_⟩, rfl⟩
        rw [hF.out]
        rfl
end Go.Proofs.YtebdfhkimnlglaaDoor
