/- Merged texts, part 2: walks and plain lemmas of the functions that the statements reach (Word .. Dic). No condition but those that each lemma names. -/
import Derived.Deep.RegionWith
import Derived.ProofKit
import Derived.OpenShut
import Derived.ShutString
import Derived.ChangeOld
import Derived.Below
import Derived.Deep.Matrix
import Derived.Lib.SmallJoins
import Derived.Laws.Rows
import Derived.Laws.ResultCell
import Derived.BigRegion
import Derived.Deep.Cut
import Derived.Deep.CutRange
import Derived.Deep.OwnRows
import Derived.WalkKit
import Derived.Test.YtdaljeghdiknpaaProg
import Derived.Outline
import Derived.Lib.EndianBits
import Derived.Deep.RegionLaw
import Derived.Deep.AppendLies
import Derived.Test.YtdaljeghdiknpaaGa
/- Word -/
namespace Go.Proofs.Ytdaljeghdiknpaa
open Go.RowKit
set_option linter.unusedVariables false
set_option maxRecDepth 100000

/-- low to high -/
def inR (lo hi x : Int) : Bool := decide (lo ≤ x) && decide (x ≤ hi)
theorem inR_iff {lo hi x : Int} : inR lo hi x = true ↔ lo ≤ x ∧ x ≤ hi := by simp [inR]
def allIn (lo hi : Int) (xs : List Int) : Bool := xs.all (inR lo hi)
/-- a word applied to a point -/
def runW (list : List (List Int)) (word : List Int) (x : Int) : Int := word.foldl (fun x g => (list.getD g.toNat []).getD x.toNat 0) x
theorem runW_snoc (list : List (List Int)) (word : List Int) (g x : Int) : runW list (word ++ [g]) x = (list.getD g.toNat []).getD (runW list word x).toNat 0 := by simp [runW]
def applyF (n : Int) (list : List (List Int)) (word : List Int) (x : Int) : Int × Int :=
  if isSysB n list = true then (if inR 0 (n - 1) x = true ∧ word.length ≤ 64 ∧ allIn 0 ((list.length : Int) - 1) word = true then (runW list word x, 0) else (0, 2)) else (0, 1)
set_option maxHeartbeats 400000 in
theorem withinClosure_any (x : Int) (b1 b2 : Nat) (l h : Int) (w : World) (h1 : w.cell? ⟨b1, 0, none⟩ = some (.int .i64 l)) (h2 : w.cell? ⟨b2, 0, none⟩ = some (.int .i64 h)) :
    Calls Try.prog 132 #[.int .i64 x, .pointer (some ⟨b1, 0, none⟩), .pointer (some ⟨b2, 0, none⟩)] w fun e w' => e = .returned (.bool (!(inR l h x))) ∧ w = w' := by
  go_enter Try.func132, Try.ntmps132
  go_wp2_with fail
  ((with_reducible refine (within_any _ _ _ _).mono ?_); rintro e w' ⟨rfl, rfl⟩)
  go_wp2_with fail
  go_ret
  exact ⟨ret_bool (by simp [inR]), rfl⟩
set_option maxHeartbeats 400000 in
theorem withinIndex_any (A : Option Addr) (m c : Nat) (xs : List Int) (b1 b2 : Nat) (l u : Int) (w : World) {lo hi : Nat} (h : RI w lo hi A m xs) (h1 : w.cell? ⟨b1, 0, none⟩ = some (.int .i64 l)) (h2 : w.cell? ⟨b2, 0, none⟩ = some (.int .i64 u)) :
    Calls Try.prog 156 #[.slice A m c, .func (.func 132) #[] #[.pointer (some ⟨b1, 0, none⟩), .pointer (some ⟨b2, 0, none⟩)]] w fun e w' => ∃ r : Int, e = .returned (.int .i64 r) ∧ -1 ≤ r ∧ Hid ((!(decide (0 ≤ r))) = allIn l u xs) ∧ w = w' := by
  have hm := h.max
  have hl := Lib.hid h.len
  go_enter Try.func156, Try.ntmps156
  go_wp2_with fail
  go_loop [8] (fun iv => ∃ k : Nat, k ≤ m ∧ iv = .int .i64 k ∧ Hid (allIn l u (xs.take k) = true)) (fun iv => m - (intOf iv).toNat)
  case atStart => exact ⟨0, by omega, rfl, Lib.hid (by simp [allIn])⟩
  case round =>
    obtain ⟨k, hk, rfl, hall⟩ := hrel
    by_cases hlt : k < m
    · obtain ⟨b, o, x, rfl, _, _, hx, hc⟩ := h.at_ hlt
      replace hx := Lib.hid hx
      cases hbd : inR l u x with
      | false =>
        replace hbd := Lib.hid hbd
        go_wp2_with fail
        ((with_reducible refine (withinClosure_any x b1 b2 l u _ h1 h2).mono ?_); rintro e w2 ⟨rfl, rfl⟩)
        rw [hbd.out, show (!false) = true from rfl]
        go_wp2_with fail
        go_ret
        refine ⟨_, rfl, by omega, Lib.hid ?_, rfl⟩
        rw [decide_eq_true (by omega)]
        symm
        have hm' := mem_of_get? hx.out
        cases hq : allIn l u xs with
        | false => rfl
        | true => have := List.all_eq_true.1 hq x hm'; rw [hbd.out] at this; cases this
      | true =>
        replace hbd := Lib.hid hbd
        go_wp2_with fail
        ((with_reducible refine (withinClosure_any x b1 b2 l u _ h1 h2).mono ?_); rintro e w2 ⟨rfl, rfl⟩)
        rw [hbd.out, show (!true) = false from rfl]
        go_wp2_with fail
        go_round
        case rel => exact ⟨k + 1, by omega, by go_num, Lib.hid (by have h0 := hall.out; unfold allIn at *; rw [take_succ_of hx.out, List.all_append, h0]; simp [hbd.out])⟩
        case measure => simp [intOf]; omega
    · go_wp2_with fail
      go_ret
      have hkn : k = m := by omega
      subst hkn
      refine ⟨_, rfl, by omega, Lib.hid ?_, rfl⟩
      have hall := hall.out
      rw [List.take_of_length_le (by have := hl.out; omega)] at hall
      rw [hall]
      rfl
set_option maxHeartbeats 400000 in
theorem areWithin_any (A : Option Addr) (m c : Nat) (xs : List Int) (l u : Int) (w : World) {lo hi : Nat} (h : RI w lo hi A m xs) (hhi : hi ≤ w.heap.size) :
    Calls Try.prog 71 #[.slice A m c, .int .i64 l, .int .i64 u] w fun e w' => e = .returned (.bool (allIn l u xs)) ∧ Below w.heap.size w w' := by
  have hr : RI ((w.alloc (.cells #[.int .i64 l] 2)).alloc (.cells #[.int .i64 u] 2)) lo hi A m xs := (h.keep (same_alloc w _ _ _ hhi)).keep (same_alloc _ _ _ _ (by simp; omega))
  have c1 : ((w.alloc (.cells #[.int .i64 l] 2)).alloc (.cells #[.int .i64 u] 2)).cell? ⟨w.heap.size, 0, none⟩ = some (.int .i64 l) := by simp
  have c2 : ((w.alloc (.cells #[.int .i64 l] 2)).alloc (.cells #[.int .i64 u] 2)).cell? ⟨w.heap.size + 1, 0, none⟩ = some (.int .i64 u) := by
    simp
  replace c1 := Lib.hid c1
  replace c2 := Lib.hid c2
  go_enter Try.func71, Try.ntmps71
  go_wp2_with fail
  refine Calls.mono (R := fun e w' => e = .returned (.bool (!(allIn l u xs))) ∧ w' = ((w.alloc (.cells #[.int .i64 l] 2)).alloc (.cells #[.int .i64 u] 2))) ?_ ?_
  · go_enter Try.func131, Try.ntmps131
    go_wp2_with fail
    ((with_reducible refine (withinIndex_any _ _ _ xs _ _ l u _ hr c1.out c2.out).mono ?_); rintro e w2 ⟨r, rfl, hr1, hr2, rfl⟩)
    go_wp2_with fail
    go_ret
    exact ⟨ret_bool (by rw [← hr2.out]; simp), rfl⟩
  · rintro e w2 ⟨rfl, rfl⟩
    go_wp2_with fail
    go_ret
    exact ⟨ret_bool (by simp), ((Below.refl _ _).alloc (Nat.le_refl _) _).alloc (by simp) _⟩
theorem sizeS_any (A : Option Addr) (n c : Nat) (w : World) (hn : n ≤ 9223372036854775807) :
    Calls Try.prog 72 #[.slice A n c] w fun e w' => e = .returned (.int .i64 n) ∧ w = w' := by
  go_enter Try.func72, Try.ntmps72
  go_wp2
  go_ret
  exact ⟨rfl, rfl⟩
set_option maxHeartbeats 1000000 in
theorem l01System_any (n : Int) (A : Option Addr) (m c : Nat) (xss : List (List Int)) (w : World) {lo hi : Nat} (h : RS w lo hi A m xss) (hhi : hi ≤ w.heap.size) :
    Calls Try.prog 67 #[.int .i64 n, .slice A m c] w fun e w' => e = .returned (.int .i64 (code01 (isSysB n xss))) ∧ Below w.heap.size w w' := by
  have hm := h.max
  have hl := h.len
  by_cases hn : 0 ≤ n ∧ n ≤ 400
  · have hw : (decide ((0 : Int) ≤ n) && decide (n ≤ (400 : Int))) = true := by simp; omega
    by_cases h16 : m ≤ 16
    · have hB := isSysB_eq hn.1 hn.2 (show xss.length ≤ 16 by omega)
      have h16d : decide ((16 : Int) < (m : Int)) = false := by simp; omega
      replace hl := Lib.hid hl
      replace hB := Lib.hid hB
      replace hn := Lib.hid hn
      go_enter Try.func67, Try.ntmps67
      go_wp2_with fail
      ((with_reducible refine (in_any _ _ _ _).mono ?_); rintro e w' ⟨rfl, rfl⟩)
      rw [hw]
      go_wp2_with fail
      go_loopw [5] (fun iv wr => ∃ k : Nat, k ≤ m ∧ iv = .int .i64 k ∧ Hid ((xss.take k).any (badFor n) = false) ∧ Below w.heap.size w wr) (fun iv _ => m - (intOf iv).toNat)
      case atStart => exact ⟨0, by omega, rfl, Lib.hid (by simp), Below.refl _ _⟩
      case round =>
        obtain ⟨k, hk, rfl, hbad, hb⟩ := hrel
        by_cases hlt : k < m
        · obtain ⟨b, o, Ak, nk, ck, ys, rfl, _, _, hys, hcell, hrow⟩ := (h.below hb hhi).at_ hlt
          have hbs := hb.size
          have hyl := hrow.len
          have hnm := hrow.max
          replace hys := Lib.hid hys
          by_cases hlen : (nk : Int) = n
          · have hd : ((nk : Int) != n) = false := by simpa using hlen
            cases hp : isPermB ys with
            | true =>
              have hbd : badFor n ys = false := by unfold badFor; rw [hp, hyl, hlen]; simp
              replace hbd := Lib.hid hbd
              replace hp := Lib.hid hp
              replace hyl := Lib.hid hyl
              replace hlen := Lib.hid hlen
              go_wp2_with fail
              ((with_reducible refine (l01Perm_any _ _ _ ys _ _ _ hrow (by omega)).mono ?_); rintro e w2 ⟨rfl, hb2⟩)
              rw [hp.out]
              go_wp2_with fail
              go_roundw
              case rel => exact ⟨k + 1, by omega, by go_num, Lib.hid (by rw [take_succ_of hys.out, List.any_append, hbad.out]; simp [hbd.out]), below_then hb hb2 hbs⟩
              case measure => simp [intOf]; omega
            | false =>
              have hbd : badFor n ys = true := by unfold badFor; rw [hp]; rfl
              replace hbd := Lib.hid hbd
              replace hp := Lib.hid hp
              replace hyl := Lib.hid hyl
              replace hlen := Lib.hid hlen
              go_wp2_with fail
              ((with_reducible refine (l01Perm_any _ _ _ ys _ _ _ hrow (by omega)).mono ?_); rintro e w2 ⟨rfl, hb2⟩)
              rw [hp.out]
              go_wp2_with fail
              go_ret
              refine ⟨ret_int ?_, below_then hb hb2 hbs⟩
              rw [hB.out, List.any_eq_true.2 ⟨ys, mem_of_get? hys.out, hbd.out⟩]
              rfl
          · have hd : ((nk : Int) != n) = true := by simpa using hlen
            have hbd : badFor n ys = true := by unfold badFor; rw [hyl, decide_eq_false hlen]; simp
            replace hbd := Lib.hid hbd
            replace hyl := Lib.hid hyl
            replace hlen := Lib.hid hlen
            go_wp2_with fail
            go_ret
            refine ⟨ret_int ?_, hb⟩
            rw [hB.out, List.any_eq_true.2 ⟨ys, mem_of_get? hys.out, hbd.out⟩]
            rfl
        · go_wp2_with fail
          go_ret
          have hkn : k = m := by omega
          subst hkn
          refine ⟨ret_int ?_, hb⟩
          have hbad := hbad.out
          rw [List.take_of_length_le (by have := hl.out; omega)] at hbad
          rw [hB.out, hbad]
          rfl
    · have hB : isSysB n xss = false := isSysB_false (by rintro ⟨_, _, h3, _⟩; omega)
      have h16d : decide ((16 : Int) < (m : Int)) = true := by simp; omega
      replace hl := Lib.hid hl
      replace hB := Lib.hid hB
      replace hn := Lib.hid hn
      go_enter Try.func67, Try.ntmps67
      go_wp2_with fail
      ((with_reducible refine (in_any _ _ _ _).mono ?_); rintro e w' ⟨rfl, rfl⟩)
      rw [hw]
      go_wp2_with fail
      go_ret
      exact ⟨ret_int (by rw [hB.out]; rfl), Below.refl _ _⟩
  · have hw : (decide ((0 : Int) ≤ n) && decide (n ≤ (400 : Int))) = false := by simp; omega
    have hB : isSysB n xss = false := isSysB_false (by rintro ⟨h1, h2, _⟩; exact hn ⟨h1, h2⟩)
    replace hl := Lib.hid hl
    replace hB := Lib.hid hB
    clear hn
    go_enter Try.func67, Try.ntmps67
    go_wp2_with fail
    ((with_reducible refine (in_any _ _ _ _).mono ?_); rintro e w' ⟨rfl, rfl⟩)
    rw [hw]
    go_wp2_with fail
    go_ret
    exact ⟨ret_int (by rw [hB.out]; rfl), Below.refl _ _⟩
/-- what a word does to a point stays a point -/
theorem runW_in {list : List (List Int)} {n : Nat} (hr : ∀ p ∈ list, ∀ x ∈ p, 0 ≤ x ∧ x < n) (hl : ∀ p ∈ list, p.length = n) : ∀ (word : List Int) (x : Int), (∀ g ∈ word, 0 ≤ g ∧ g < list.length) → 0 ≤ x → x < n → 0 ≤ runW list word x ∧ runW list word x < n := by
  intro word
  induction word with
  | nil => intro x _ h0 h1; exact ⟨h0, h1⟩
  | cons g t ih =>
    intro x hw h0 h1
    obtain ⟨hg0, hg1⟩ := hw g (by simp)
    have hp := get?_getD (xs := list) (k := g.toNat) [] (by omega)
    have hpm := mem_of_get? hp
    have hpl := hl _ hpm
    have hy := get?_getD (xs := list.getD g.toNat []) (k := x.toNat) 0 (by omega)
    have hyr := hr _ hpm _ (mem_of_get? hy)
    exact ih _ (fun q hq => hw q (by simp [hq])) hyr.1 hyr.2
set_option maxHeartbeats 1000000 in
theorem applied_any (A : Option Addr) (m c : Nat) (xss : List (List Int)) (A' : Option Addr) (m' c' : Nat) (word : List Int) (x : Int) (n : Nat) (w : World) {lo hi lo' hi' : Nat} (h : RS w lo hi A m xss) (h' : RI w lo' hi' A' m' word)
    (hr : ∀ p ∈ xss, ∀ x ∈ p, 0 ≤ x ∧ x < n) (hl : ∀ p ∈ xss, p.length = n) (hw : ∀ g ∈ word, 0 ≤ g ∧ g < m) (h0 : 0 ≤ x) (h1 : x < n) :
    Calls Try.prog 73 #[.slice A m c, .slice A' m' c', .int .i64 x] w fun e w' => e = .returned (.int .i64 (runW xss word x)) ∧ w = w' := by
  have hm := h.max
  have hm' := h'.max
  have hxl := h.len
  have hwl := Lib.hid h'.len
  have hin := runW_in hr hl
  rw [hxl] at hin
  replace hr := Lib.hid hr
  replace hl := Lib.hid hl
  replace hw := Lib.hid hw
  replace hin := Lib.hid hin
  replace hxl := Lib.hid hxl
  go_enter Try.func73, Try.ntmps73
  go_wp2_with fail
  go_loop [2, 11] (fun xv iv => ∃ (k : Nat) (y : Int), k ≤ m' ∧ iv = .int .i64 k ∧ xv = .int .i64 y ∧ Hid (y = runW xss (word.take k) x) ∧ 0 ≤ y ∧ y < n) (fun _ iv => m' - (intOf iv).toNat)
  case atStart => exact ⟨0, x, by omega, rfl, rfl, Lib.hid (by simp [runW]), h0, h1⟩
  case round =>
    obtain ⟨k, y, hk, rfl, rfl, hy, hy0, hy1⟩ := hrel
    by_cases hlt : k < m'
    · obtain ⟨b, o, g, rfl, _, _, hg, hc⟩ := h'.at_ hlt
      obtain ⟨hg0, hg1⟩ := hw.out g (mem_of_get? hg)
      obtain ⟨b2, o2, Ak, nk, ck, p, rfl, _, _, hp, hcell, hrow⟩ := h.at_ (k := g.toNat) (by omega)
      have hnk : nk = n := by rw [← hrow.len]; exact hl.out p (mem_of_get? hp)
      subst hnk
      obtain ⟨b3, o3, z, rfl, _, _, hz, hcz⟩ := hrow.at_ (k := y.toNat) (by omega)
      obtain ⟨hz0, hz1⟩ := hr.out p (mem_of_get? hp) z (mem_of_get? hz)
      have hnk := hrow.max
      replace hg := Lib.hid hg
      replace hp := Lib.hid hp
      replace hz := Lib.hid hz
      go_wp2_with fail
      go_round
      case rel => exact ⟨k + 1, z, by omega, by go_num, rfl, Lib.hid (by rw [take_succ_of hg.out, runW_snoc, ← hy.out, getD_some hp.out, getD_some hz.out]), hz0, hz1⟩
      case measure => simp [intOf]; omega
    · go_wp2_with fail
      go_ret
      have hkn : k = m' := by omega
      subst hkn
      have hy := hy.out
      rw [List.take_of_length_le (by have := hwl.out; omega)] at hy
      exact ⟨ret_int hy, rfl⟩
theorem rng_of' {p : List Int} {n : Nat} (h : isPermP p) (hl : p.length = n) : ∀ x ∈ p, 0 ≤ x ∧ x < n := by
  have := h.rng; rw [hl] at this; exact this
set_option maxHeartbeats 2000000 in
theorem i_ApplyWord_any (w : World) (n : Int) (hn : -9223372036854775808 ≤ n ∧ n ≤ 9223372036854775807) (A : Option Addr) (m c : Nat) (xss : List (List Int)) {lo hi : Nat} (h : RS w lo hi A m xss) (hhi : hi ≤ w.heap.size) (A' : Option Addr) (m' c' : Nat) (word : List Int) {lo' hi' : Nat} (h' : RI w lo' hi' A' m' word) (hhi' : hi' ≤ w.heap.size) (x : Int) (hx : -9223372036854775808 ≤ x ∧ x ≤ 9223372036854775807) :
    Calls Try.prog 19 #[.int .i64 n, .slice A m c, .slice A' m' c', .int .i64 x] w fun e w' => ∃ (y code : Int), e = .returned (.tuple #[.int .i64 y, .int .i64 code]) ∧ Hid ((y, code) = applyF n xss word x) ∧ Below w.heap.size w w' := by
  have hm := h.max
  have hm' := h'.max
  have hl := h.len
  have hl' := h'.len
  obtain ⟨hx0, hx1⟩ := hx
  by_cases hs : isSysB n xss = true
  · have hS := isSysB_iff.1 hs
    have hn0 : 0 ≤ n := hS.1
    have hn4 : n ≤ 400 := hS.2.1
    obtain ⟨n, rfl⟩ : ∃ q : Nat, n = (q : Int) := ⟨n.toNat, by omega⟩
    have hrl : ∀ p ∈ xss, p.length = n := fun p hp => by have := (hS.2.2.2 p hp).2; omega
    have hrr : ∀ p ∈ xss, ∀ x ∈ p, 0 ≤ x ∧ x < n := fun p hp => rng_of' (hS.2.2.2 p hp).1 (hrl p hp)
    have hm16 : m ≤ 16 := by have := hS.2.2.1; omega
    have hF : applyF n xss word x = (if inR 0 ((n : Int) - 1) x = true ∧ word.length ≤ 64 ∧ allIn 0 ((xss.length : Int) - 1) word = true then (runW xss word x, 0) else (0, 2)) := by unfold applyF; rw [if_pos hs]
    rw [hl, hl'] at hF
    clear hS
    replace hs := Lib.hid hs
    replace hl := Lib.hid hl
    replace hl' := Lib.hid hl'
    replace hrl := Lib.hid hrl
    replace hrr := Lib.hid hrr
    cases hin : inR 0 ((n : Int) - 1) x with
    | false =>
      rw [hin] at hF
      replace hF : applyF n xss word x = (0, 2) := by rw [hF]; simp
      have hin' : (decide ((0 : Int) ≤ x) && decide (x ≤ (n : Int) - 1)) = false := hin
      replace hF := Lib.hid hF
      replace hin := Lib.hid hin
      go_enter Try.func19, Try.ntmps19
      go_wp2_with fail
      ((with_reducible refine (isSys_any _ _ _ _ xss _ h hhi).mono ?_); rintro e w1 ⟨rfl, hb1⟩)
      rw [hs.out]
      go_wp2_with fail
      ((with_reducible refine (within_any _ _ _ _).mono ?_); rintro e w' ⟨rfl, rfl⟩)
      rw [hin']
      go_wp2_with fail
      go_ret2
      exact ⟨_, _, rfl, Lib.hid hF.out.symm, hb1⟩
    | true =>
      have hin' : (decide ((0 : Int) ≤ x) && decide (x ≤ (n : Int) - 1)) = true := hin
      obtain ⟨hxa, hxb⟩ := inR_iff.1 hin
      rw [hin] at hF
      replace hin := Lib.hid hin
      by_cases hw64 : m' ≤ 64
      · have hwd : decide ((64 : Int) < (m' : Int)) = false := by simp; omega
        cases hall : allIn 0 ((m : Int) - 1) word with
        | false =>
          rw [hall] at hF
          replace hF : applyF n xss word x = (0, 2) := by rw [hF]; simp
          replace hF := Lib.hid hF
          replace hall := Lib.hid hall
          go_enter Try.func19, Try.ntmps19
          go_wp2_with fail
          ((with_reducible refine (isSys_any _ _ _ _ xss _ h hhi).mono ?_); rintro e w1 ⟨rfl, hb1⟩)
          have hs1 := hb1.size
          rw [hs.out]
          go_wp2_with fail
          ((with_reducible refine (within_any _ _ _ _).mono ?_); rintro e w' ⟨rfl, rfl⟩)
          rw [hin']
          go_wp2_with fail
          ((with_reducible refine (sizeS_any _ _ _ _ (by omega)).mono ?_); rintro e w' ⟨rfl, rfl⟩)
          go_wp2_with fail
          ((with_reducible refine (areWithin_any _ _ _ word _ _ _ (h'.below hb1 hhi') (by omega)).mono ?_); rintro e w2 ⟨rfl, hb2⟩)
          rw [hall.out]
          go_wp2_with fail
          go_ret2
          exact ⟨_, _, rfl, Lib.hid hF.out.symm, below_then hb1 hb2 hs1⟩
        | true =>
          rw [hall] at hF
          replace hF : applyF n xss word x = (runW xss word x, 0) := by rw [hF]; simp [hw64]
          have hwr : ∀ g ∈ word, 0 ≤ g ∧ g < m := fun g hg => by have := inR_iff.1 (List.all_eq_true.1 hall g hg); omega
          replace hF := Lib.hid hF
          replace hall := Lib.hid hall
          replace hwr := Lib.hid hwr
          go_enter Try.func19, Try.ntmps19
          go_wp2_with fail
          ((with_reducible refine (isSys_any _ _ _ _ xss _ h hhi).mono ?_); rintro e w1 ⟨rfl, hb1⟩)
          have hs1 := hb1.size
          rw [hs.out]
          go_wp2_with fail
          ((with_reducible refine (within_any _ _ _ _).mono ?_); rintro e w' ⟨rfl, rfl⟩)
          rw [hin']
          go_wp2_with fail
          ((with_reducible refine (sizeS_any _ _ _ _ (by omega)).mono ?_); rintro e w' ⟨rfl, rfl⟩)
          go_wp2_with fail
          ((with_reducible refine (areWithin_any _ _ _ word _ _ _ (h'.below hb1 hhi') (by omega)).mono ?_); rintro e w2 ⟨rfl, hb2⟩)
          rw [hall.out]
          have hB := below_then hb1 hb2 hs1
          go_wp2_with fail
          ((with_reducible refine (applied_any _ _ _ xss _ _ _ word x n _ (h.below hB hhi) (h'.below hB hhi') hrr.out hrl.out hwr.out hxa (by omega)).mono ?_); rintro e w' ⟨rfl, rfl⟩)
          go_wp2_with fail
          go_ret2
          exact ⟨_, _, rfl, Lib.hid hF.out.symm, hB⟩
      · have hwd : decide ((64 : Int) < (m' : Int)) = true := by simp; omega
        replace hF : applyF n xss word x = (0, 2) := by rw [hF]; simp [hw64]
        replace hF := Lib.hid hF
        go_enter Try.func19, Try.ntmps19
        go_wp2_with fail
        ((with_reducible refine (isSys_any _ _ _ _ xss _ h hhi).mono ?_); rintro e w1 ⟨rfl, hb1⟩)
        rw [hs.out]
        go_wp2_with fail
        ((with_reducible refine (within_any _ _ _ _).mono ?_); rintro e w' ⟨rfl, rfl⟩)
        rw [hin']
        go_wp2_with fail
        go_ret2
        exact ⟨_, _, rfl, Lib.hid hF.out.symm, hb1⟩
  · have hs : isSysB n xss = false := by simpa using hs
    have hF : applyF n xss word x = (0, 1) := by unfold applyF; rw [hs]; rfl
    replace hF := Lib.hid hF
    replace hs := Lib.hid hs
    replace hl := Lib.hid hl
    replace hl' := Lib.hid hl'
    go_enter Try.func19, Try.ntmps19
    go_wp2_with fail
    ((with_reducible refine (isSys_any _ _ _ _ xss _ h hhi).mono ?_); rintro e w1 ⟨rfl, hb1⟩)
    rw [hs.out]
    go_wp2_with fail
    go_ret2
    exact ⟨_, _, rfl, Lib.hid hF.out.symm, hb1⟩
end Go.Proofs.Ytdaljeghdiknpaa
/- OrbO -/
namespace Go.Proofs.Ytdaljeghdiknpaa
open Go.RowKit
set_option linter.unusedVariables false
set_option maxRecDepth 100000
/-- the first k places, those with x -/
def plc (xs : List Int) (x : Int) (k : Nat) : List Int := ((List.range k).filter fun j => decide (x = xs.getD j 0)).map Int.ofNat
theorem plc_succ (xs : List Int) (x : Int) (k : Nat) : plc xs x (k + 1) = plc xs x k ++ (if x = xs.getD k 0 then [(k : Int)] else []) := by
  unfold plc
  rw [List.range_succ, List.filter_append, List.map_append]
  congr 1
  split <;> simp_all
theorem plc_le (xs : List Int) (x : Int) (k : Nat) : (plc xs x k).length ≤ k := by
  unfold plc
  have := List.length_filter_le (fun j => decide (x = xs.getD j 0)) (List.range k)
  simpa using this
theorem plc_sorted (xs : List Int) (x : Int) (k : Nat) : Sorted (plc xs x k) := by
  unfold Sorted plc
  rw [List.pairwise_map]
  refine (List.Pairwise.filter _ List.pairwise_lt_range).imp ?_
  intro a b h
  have : a < b := h
  show (a : Int) ≤ b
  omega
theorem plc_nodup (xs : List Int) (x : Int) (k : Nat) : (plc xs x k).Nodup := by
  unfold plc
  rw [List.nodup_iff_pairwise_ne, List.pairwise_map]
  refine (List.Pairwise.filter _ List.pairwise_lt_range).imp ?_
  intro a b h
  have : a < b := h
  show (a : Int) ≠ b
  omega
theorem plc_mem {xs : List Int} {x : Int} {k : Nat} {z : Int} : z ∈ plc xs x k ↔ 0 ≤ z ∧ z < k ∧ x = xs.getD z.toNat 0 := by
  unfold plc
  simp only [List.mem_map, List.mem_filter, List.mem_range]
  constructor
  · rintro ⟨j, ⟨h1, h2⟩, rfl⟩
    have h2 := of_decide_eq_true h2
    refine ⟨by simp, by simpa using h1, ?_⟩
    simpa using h2
  · rintro ⟨h1, h2, h3⟩
    exact ⟨z.toNat, ⟨by omega, by simpa using h3⟩, by simp; omega⟩
theorem perm_of_mem {l₁ l₂ : List Int} (h1 : l₁.Nodup) (h2 : l₂.Nodup) (h : ∀ a, a ∈ l₁ ↔ a ∈ l₂) : l₁.Perm l₂ := by
  rw [List.perm_iff_count]
  intro a
  rw [h1.count, h2.count]
  simp only [h a]
theorem cntR_mono (list : List (List Int)) {a b : Nat} (h : a ≤ b) : cntR list a ≤ cntR list b := by
  induction b with
  | zero => have : a = 0 := by omega
            subst this; exact Nat.le_refl _
  | succ b ih =>
    by_cases e : a = b + 1
    · subst e; exact Nat.le_refl _
    · have := ih (by omega)
      rw [cntR_succ]; omega
theorem rootB_rootOf {list : List (List Int)} {n x : Nat} (hs : SysOf list n) (hx : x < n) : rootB list (rootOf list x) = true := by
  obtain ⟨h1, h2⟩ := rootOf_spec list x
  rw [root_iff]
  rintro ⟨j, hj, hr⟩
  exact h2 j hj (hr.trans h1)
theorem rootOf_le (list : List (List Int)) (x : Nat) : rootOf list x ≤ x := by
  obtain ⟨h1, h2⟩ := rootOf_spec list x
  by_cases h : rootOf list x ≤ x
  · exact h
  · exact absurd Rch.refl (h2 x (by omega))
theorem cntR_lt {list : List (List Int)} {a b : Nat} (ha : rootB list a = true) (h : a < b) : cntR list a < cntR list b := by
  have h1 := cntR_mono list (show a + 1 ≤ b by omega)
  rw [cntR_succ, if_pos ha] at h1
  omega
theorem labOf_eq_iff {list : List (List Int)} {n x y : Nat} (hs : SysOf list n) (hx : x < n) (hy : y < n) : labOf list x = labOf list y ↔ Rch list x y := by
  have hrx := (rootOf_spec list x).1
  have hry := (rootOf_spec list y).1
  have hlx := rootOf_le list x
  have hly := rootOf_le list y
  constructor
  · intro h
    unfold labOf at h
    have e : rootOf list x = rootOf list y := by
      rcases Nat.lt_trichotomy (rootOf list x) (rootOf list y) with h3 | h3 | h3
      · have := cntR_lt (rootB_rootOf hs hx) h3; omega
      · exact h3
      · have := cntR_lt (rootB_rootOf hs hy) h3; omega
    rw [e] at hrx
    exact (hrx.symm hs (by omega) (by omega)).trans hry
  · intro h
    unfold labOf
    rw [show rootOf list x = rootOf list y from (rootOf_eq (hrx.trans h) (fun j hj hr => (rootOf_spec list x).2 j hj (hr.trans (h.symm hs (by omega) (by omega))))).symm]
theorem places_eq {list : List (List Int)} {n p : Nat} (hs : SysOf list n) (hp : p < n) : plc (labL list n) (labOf list p) n = sortL (bfs list n p) := by
  have hm := bfs_met hs (show (0 : Int) ≤ p by omega) (show (p : Int) < n by omega)
  refine sortL_eq (perm_of_mem (plc_nodup _ _ _) hm.nd fun a => ?_) (plc_sorted _ _ _)
  rw [plc_mem, bfs_mem hs (by omega) (by omega)]
  constructor
  · rintro ⟨h1, h2, h3⟩
    rw [getD_some (labL_get (show a.toNat < n by omega))] at h3
    have := (labOf_eq_iff hs hp (by omega)).1 h3
    rwa [Int.toNat_of_nonneg h1] at this
  · intro h
    obtain ⟨h1, h2⟩ := h.rng hs (by omega) (by omega)
    refine ⟨h1, h2, ?_⟩
    rw [getD_some (labL_get (show a.toNat < n by omega))]
    exact (labOf_eq_iff hs hp (by omega)).2 (by rwa [Int.toNat_of_nonneg h1])
theorem sysOf {n : Nat} {xss : List (List Int)} (h : isSysB n xss = true) : SysOf xss n ∧ n ≤ 400 := by
  obtain ⟨h1, h2, h3, h4⟩ := isSysB_iff.1 h
  refine ⟨fun p hp => ?_, by omega⟩
  obtain ⟨g1, g2⟩ := h4 p hp
  have hl : p.length = n := by omega
  refine ⟨fun x hx => ?_, g1.nd, hl⟩
  have := g1.rng x hx
  rw [hl] at this
  exact this
noncomputable def orbLF (n : Int) (xss : List (List Int)) : List Int × Int := if isSysB n xss = true then (labL xss n.toNat, 0) else ([], 1)
def orbOF (n : Int) (xss : List (List Int)) (x : Int) : List Int × Int := if isSysB n xss = true then (if inR 0 (n - 1) x = true then (sortL (bfs xss n.toNat x), 0) else ([], 2)) else ([], 1)
set_option maxHeartbeats 1000000 in
theorem placesOf_any (A : Option Addr) (n c : Nat) (xs : List Int) (x : Int) (w : World) {lo hi : Nat} (h : RI w lo hi A n xs) (hhi : hi ≤ w.heap.size) (h4 : n ≤ 1048576) :
    Calls Try.prog 70 #[.slice A n c, .int .i64 x] w fun e w' => ∃ (A1 : Option Addr) (n1 c1 : Nat), e = .returned (.slice A1 n1 c1) ∧ Own w' w.heap.size w'.heap.size 2 A1 n1 c1 ((plc xs x n).map (Value.int .i64)) ∧ Below w.heap.size w w' := by
  obtain ⟨j0, hj0, hy0, hy1, hy2⟩ := info_parts infoI
  have hl := Lib.hid h.len
  go_enter Try.func70, Try.ntmps70
  go_wp2_with fail
  go_loopw [5, 10] (fun ov iv wr => ∃ (k : Nat) (A1 : Option Addr) (n1 c1 : Nat), k ≤ n ∧ n1 ≤ k ∧ ov = .slice A1 n1 c1 ∧ iv = .int .i64 k ∧ wr.ownsRow w.heap.size 2 1 (.slice A1 n1 c1) n1 ((plc xs x k).map (Value.int .i64)) ∧ Below w.heap.size w wr) (fun _ iv _ => n - (intOf iv).toNat)
  case atStart => exact ⟨0, none, 0, 0, by omega, by omega, rfl, rfl, World.ownsRow_nil _ _ _ _, Below.refl _ _⟩
  case round =>
    obtain ⟨k, A1, n1, c1, hk, hnk, rfl, rfl, ho, hb⟩ := hrel
    have hsize := hb.size
    by_cases hlt : k < n
    · obtain ⟨b, o, y, rfl, _, _, hy, hc⟩ := (h.below hb hhi).at_ hlt
      have hg := getD_some (d := (0 : Int)) hy
      have hps := plc_succ xs x k
      rw [hg] at hps
      by_cases e : x = y
      · have e' : (x == y) = true := by simpa using e
        rw [if_pos e] at hps
        replace hps := Lib.hid hps
        replace hy := Lib.hid hy
        replace hg := Lib.hid hg
        clear e
        go_wp2_with (at_builtin; refine wpList_append1 wr rfl (.tmp 18) (.tmp 20) 27 rfl w.heap.size 2 j0 (.int .i64 0) 8 Try.underlying27 hj0 hy0 hy1 hy2 rfl (by omega) _ n1 c1 _ (.int .i64 k) rfl ho _ rfl rfl rfl (by omega) (by omega) ?_)
        intro g4 c4 w2 ho2 hg2 hlo2 hlt2 hor2
        have hb4 : Below w.heap.size w w2 := hb.grown hg2 hsize (fun q hq => by have := (ho.lt q hq).1; omega)
        clear ho hb hg2 hc
        go_wp2_with fail
        go_roundw
        case measure => simp [intOf]; omega
        case rel => exact ⟨k + 1, _, n1 + 1, c4, by omega, by omega, rfl, by go_num, by rw [hps.out]; simpa using ho2, hb4⟩
      · have e' : (x == y) = false := by simpa using e
        rw [if_neg e, List.append_nil] at hps
        replace hps := Lib.hid hps
        replace hy := Lib.hid hy
        replace hg := Lib.hid hg
        clear e
        go_wp2_with fail
        go_roundw
        case measure => simp [intOf]; omega
        case rel => exact ⟨k + 1, A1, n1, c1, by omega, by omega, rfl, by go_num, by rw [hps.out]; exact ho, hb⟩
    · go_wp2_with fail
      go_ret
      have hkn : k = n := by omega
      subst hkn
      exact ⟨A1, n1, c1, rfl, Own.of_row ho, hb⟩
set_option maxHeartbeats 1000000 in
theorem i_OrbitLabels_any (w : World) (n : Int) (hn : -9223372036854775808 ≤ n ∧ n ≤ 9223372036854775807) (A : Option Addr) (m c : Nat) (xss : List (List Int)) {lo hi : Nat} (h : RS w lo hi A m xss) (hhi : hi ≤ w.heap.size) :
    Calls Try.prog 13 #[.int .i64 n, .slice A m c] w fun e w' => ∃ (A1 : Option Addr) (n1 c1 : Nat) (zs : List Int) (code : Int), e = .returned (.tuple #[.slice A1 n1 c1, .int .i64 code]) ∧ Hid ((zs, code) = orbLF n xss) ∧ Own w' w.heap.size w'.heap.size 2 A1 n1 c1 (zs.map (Value.int .i64)) ∧ n1 ≤ 1048576 ∧ Below w.heap.size w w' := by
  cases hs : isSysB n xss with
  | false =>
    have hF : orbLF n xss = ([], 1) := by unfold orbLF; rw [hs]; rfl
    replace hF := Lib.hid hF
    replace hs := Lib.hid hs
    go_enter Try.func13, Try.ntmps13
    go_wp2_with fail
    ((with_reducible refine (isSys_any _ _ _ _ xss _ h hhi).mono ?_); rintro e w1 ⟨rfl, hb1⟩)
    rw [hs.out]
    go_wp2_with fail
    go_ret2
    exact ⟨_, 0, _, [], _, rfl, Lib.hid hF.out.symm, Own.nil, by omega, hb1⟩
  | true =>
    have hF : orbLF n xss = (labL xss n.toNat, 0) := by unfold orbLF; rw [if_pos hs]
    have h0 := (isSysB_iff.1 hs).1
    obtain ⟨n, rfl⟩ : ∃ q : Nat, n = (q : Int) := ⟨n.toNat, by omega⟩
    obtain ⟨hS, h4⟩ := sysOf hs
    replace hF := Lib.hid hF
    replace hS := Lib.hid hS
    replace hs := Lib.hid hs
    go_enter Try.func13, Try.ntmps13
    go_wp2_with fail
    ((with_reducible refine (isSys_any _ _ _ _ xss _ h hhi).mono ?_); rintro e w1 ⟨rfl, hb1⟩)
    have hs1 := hb1.size
    rw [hs.out]
    go_wp2_with fail
    ((with_reducible refine (orbitLabels_any n A m c xss _ (h.below hb1 hhi) (by omega) h4 hS.out).mono ?_); rintro e w2 ⟨A1, rfl, ho2, hb2⟩)
    go_wp2_with fail
    go_ret2
    exact ⟨A1, n, n, _, _, rfl, Lib.hid (by rw [hF.out, Int.toNat_natCast]), ho2.more hs1 (Nat.le_refl _), by omega, below_then hb1 hb2 hs1⟩
set_option maxHeartbeats 1000000 in
theorem s_OrbitLabels_any (w : World) (n : Int) (hn : -9223372036854775808 ≤ n ∧ n ≤ 9223372036854775807) (A : Option Addr) (m c : Nat) (xss : List (List Int)) {lo hi : Nat} (h : RS w lo hi A m xss) (hhi : hi ≤ w.heap.size) :
    Calls Try.prog 14 #[.int .i64 n, .slice A m c] w fun e w' => ∃ (A1 : Option Addr) (n1 c1 : Nat) (zs : List Int) (code : Int), e = .returned (.tuple #[.slice A1 n1 c1, .int .i64 code]) ∧ Hid ((zs, code) = orbLF n xss) ∧ Own w' w.heap.size w'.heap.size 2 A1 n1 c1 (zs.map (Value.int .i64)) ∧ n1 ≤ 1048576 ∧ Below w.heap.size w w' := by
  cases hs : isSysB n xss with
  | false =>
    have hF : orbLF n xss = ([], 1) := by unfold orbLF; rw [hs]; rfl
    replace hF := Lib.hid hF
    replace hs := Lib.hid hs
    go_enter Try.func14, Try.ntmps14
    go_wp2_with fail
    ((with_reducible refine (l01System_any _ _ _ _ xss _ h hhi).mono ?_); rintro e w1 ⟨rfl, hb1⟩)
    rw [hs.out, show code01 false = 1 from rfl]
    go_wp2_with fail
    go_ret2
    exact ⟨_, 0, _, [], _, rfl, Lib.hid hF.out.symm, Own.nil, by omega, hb1⟩
  | true =>
    have hF : orbLF n xss = (labL xss n.toNat, 0) := by unfold orbLF; rw [if_pos hs]
    have h0 := (isSysB_iff.1 hs).1
    obtain ⟨n, rfl⟩ : ∃ q : Nat, n = (q : Int) := ⟨n.toNat, by omega⟩
    obtain ⟨hS, h4⟩ := sysOf hs
    replace hF := Lib.hid hF
    replace hS := Lib.hid hS
    replace hs := Lib.hid hs
    go_enter Try.func14, Try.ntmps14
    go_wp2_with fail
    ((with_reducible refine (l01System_any _ _ _ _ xss _ h hhi).mono ?_); rintro e w1 ⟨rfl, hb1⟩)
    have hs1 := hb1.size
    rw [hs.out, show code01 true = 0 from rfl]
    go_wp2_with fail
    ((with_reducible refine (l01Orbits_any n A m c xss _ (h.below hb1 hhi) (by omega) h4 hS.out).mono ?_); rintro e w2 ⟨A1, c1, rfl, ho2, hb2⟩)
    go_wp2_with fail
    go_ret2
    exact ⟨A1, n, c1, _, _, rfl, Lib.hid (by rw [hF.out, Int.toNat_natCast]), ho2.more hs1 (Nat.le_refl _), by omega, below_then hb1 hb2 hs1⟩
set_option maxHeartbeats 1000000 in
theorem i_OrbitOf_any (w : World) (n : Int) (hn : -9223372036854775808 ≤ n ∧ n ≤ 9223372036854775807) (A : Option Addr) (m c : Nat) (xss : List (List Int)) {lo hi : Nat} (h : RS w lo hi A m xss) (hhi : hi ≤ w.heap.size) (x : Int) (hx : -9223372036854775808 ≤ x ∧ x ≤ 9223372036854775807) :
    Calls Try.prog 18 #[.int .i64 n, .slice A m c, .int .i64 x] w fun e w' => ∃ (A1 : Option Addr) (n1 c1 : Nat) (zs : List Int) (code : Int), e = .returned (.tuple #[.slice A1 n1 c1, .int .i64 code]) ∧ Hid ((zs, code) = orbOF n xss x) ∧ Own w' w.heap.size w'.heap.size 2 A1 n1 c1 (zs.map (Value.int .i64)) ∧ n1 ≤ 1048576 ∧ Below w.heap.size w w' := by
  obtain ⟨hx0, hx1⟩ := hx
  cases hs : isSysB n xss with
  | false =>
    have hF : orbOF n xss x = ([], 1) := by unfold orbOF; rw [hs]; rfl
    replace hF := Lib.hid hF
    replace hs := Lib.hid hs
    go_enter Try.func18, Try.ntmps18
    go_wp2_with fail
    ((with_reducible refine (isSys_any _ _ _ _ xss _ h hhi).mono ?_); rintro e w1 ⟨rfl, hb1⟩)
    rw [hs.out]
    go_wp2_with fail
    go_ret2
    exact ⟨_, 0, _, [], _, rfl, Lib.hid hF.out.symm, Own.nil, by omega, hb1⟩
  | true =>
    have h0 := (isSysB_iff.1 hs).1
    obtain ⟨n, rfl⟩ : ∃ q : Nat, n = (q : Int) := ⟨n.toNat, by omega⟩
    obtain ⟨hS, h4⟩ := sysOf hs
    cases hin : inR 0 ((n : Int) - 1) x with
    | false =>
      have hF : orbOF n xss x = ([], 2) := by unfold orbOF; rw [if_pos hs, hin]; rfl
      have hin' : (decide ((0 : Int) ≤ x) && decide (x ≤ (n : Int) - 1)) = false := hin
      replace hF := Lib.hid hF
      replace hS := Lib.hid hS
      replace hs := Lib.hid hs
      replace hin := Lib.hid hin
      go_enter Try.func18, Try.ntmps18
      go_wp2_with fail
      ((with_reducible refine (isSys_any _ _ _ _ xss _ h hhi).mono ?_); rintro e w1 ⟨rfl, hb1⟩)
      rw [hs.out]
      go_wp2_with fail
      ((with_reducible refine (within_any _ _ _ _).mono ?_); rintro e w' ⟨rfl, rfl⟩)
      rw [hin']
      go_wp2_with fail
      go_ret2
      exact ⟨_, 0, _, [], _, rfl, Lib.hid hF.out.symm, Own.nil, by omega, hb1⟩
    | true =>
      have hF : orbOF n xss x = (sortL (bfs xss n x), 0) := by unfold orbOF; rw [if_pos hs, if_pos hin, Int.toNat_natCast]
      have hin' : (decide ((0 : Int) ≤ x) && decide (x ≤ (n : Int) - 1)) = true := hin
      obtain ⟨hxa, hxb⟩ := inR_iff.1 hin
      obtain ⟨x, rfl⟩ : ∃ q : Nat, x = (q : Int) := ⟨x.toNat, by omega⟩
      have hpl := places_eq hS (show x < n by omega)
      replace hpl := Lib.hid hpl
      replace hF := Lib.hid hF
      replace hS := Lib.hid hS
      replace hs := Lib.hid hs
      replace hin := Lib.hid hin
      go_enter Try.func18, Try.ntmps18
      go_wp2_with fail
      ((with_reducible refine (isSys_any _ _ _ _ xss _ h hhi).mono ?_); rintro e w1 ⟨rfl, hb1⟩)
      have hs1 := hb1.size
      rw [hs.out]
      go_wp2_with fail
      ((with_reducible refine (within_any _ _ _ _).mono ?_); rintro e w' ⟨rfl, rfl⟩)
      rw [hin']
      go_wp2_with fail
      ((with_reducible refine (orbitLabels_any n A m c xss _ (h.below hb1 hhi) (by omega) h4 hS.out).mono ?_); rintro e w2 ⟨A1, rfl, ho2, hb2⟩)
      have hs2 := hb2.size
      obtain ⟨b, y, rfl, _, _, _, hy, hyc, _⟩ := ho2.atI (k := x) (by omega)
      rw [labL_get (by omega)] at hy
      injection hy with hy
      subst hy
      go_wp2_with fail
      ((with_reducible refine (placesOf_any _ n n (labL xss n) (labOf xss x) _ ho2.ri (Nat.le_refl _) (by omega)).mono ?_); rintro e w3 ⟨A3, n3, c3, rfl, ho3, hb3⟩)
      have hl3 := ho3.lenI
      have hple := plc_le (labL xss n) (labOf xss x) n
      go_wp2_with fail
      go_ret2
      exact ⟨A3, n3, c3, _, _, rfl, Lib.hid (by rw [hF.out, hpl.out]), ho3.more (by omega) (Nat.le_refl _), by omega, below_then (below_then hb1 hb2 hs1) hb3 (by omega)⟩
end Go.Proofs.Ytdaljeghdiknpaa
/- ManP -/
namespace Go.Proofs.Ytdaljeghdiknpaa
set_option linter.unusedVariables false
set_option maxRecDepth 100000
open Classical
/-- the number of flags -/
def flg (xss : List (List Int)) : Nat := (xss.getD 0 []).length
/-- a free involution of as many points as there are flags -/
def mvB (n : Nat) (p : List Int) : Bool := isPermB p && freeB p && decide (p.length = n)
/-- two moves at a flag -/
def comB (a b : List Int) (f : Nat) : Bool := decide (a.getD f 0 ≠ b.getD f 0) && decide (b.getD (a.getD f 0).toNat 0 = a.getD (b.getD f 0).toNat 0)
/-- two moves -/
def parB (n : Nat) (a b : List Int) : Bool := (List.range n).all (comB a b)
structure ManP (xss : List (List Int)) : Prop where
  r1 : 1 ≤ xss.length
  r5 : xss.length ≤ 5
  f2 : 2 ≤ flg xss
  f4 : flg xss ≤ 400
  mv : ∀ p ∈ xss, mvB (flg xss) p = true
  com : ∀ i k a b, i + 2 ≤ k → xss[i]? = some a → xss[k]? = some b → parB (flg xss) a b = true
  con : cntR xss (flg xss) = 1
noncomputable def isManB (xss : List (List Int)) : Bool := decide (ManP xss)
theorem isManB_iff {xss : List (List Int)} : isManB xss = true ↔ ManP xss := by unfold isManB; simp
theorem isManB_false {xss : List (List Int)} (h : ¬ ManP xss) : isManB xss = false := by unfold isManB; simp [h]
theorem mvB_iff {n : Nat} {p : List Int} : mvB n p = true ↔ isPermP p ∧ freeB p = true ∧ p.length = n := by
  unfold mvB
  simp [isPermB_iff, and_assoc]
theorem sysOf_mv {xss : List (List Int)} {n : Nat} (h : ∀ p ∈ xss, mvB n p = true) : SysOf xss n := by
  intro p hp
  obtain ⟨h1, _, h3⟩ := mvB_iff.1 (h p hp)
  refine ⟨fun x hx => ?_, h1.nd, h3⟩
  have := h1.rng x hx
  rw [h3] at this
  exact this
theorem ManP.sys {xss : List (List Int)} (h : ManP xss) : SysOf xss (flg xss) := sysOf_mv h.mv
theorem rootB_zero (list : List (List Int)) : rootB list 0 = true := by rw [root_iff]; rintro ⟨j, hj, _⟩; omega
/-- one orbit, exactly if the orbit of point 0 has all -/
theorem conn_iff {list : List (List Int)} {n : Nat} (hs : SysOf list n) (hn : 1 ≤ n) : cntR list n = 1 ↔ (bfs list n 0).length = n := by
  have hm := bfs_met hs (show (0 : Int) ≤ (0 : Int) by omega) (show (0 : Int) < n by omega)
  have hmem : ∀ z : Int, z ∈ bfs list n 0 ↔ Rch list 0 z := fun z => bfs_mem hs (by omega) (by omega)
  have hz1 : cntR list 1 = 1 := by
    have := cntR_succ list 0
    rw [if_pos (rootB_zero list)] at this
    simpa [cntR] using this
  constructor
  · intro h
    have hall : ∀ x : Nat, x < n → Rch list ((0 : Nat) : Int) x := by
      intro x hx
      have hr := rootB_rootOf hs hx
      have hle := rootOf_le list x
      have h0 : rootOf list x = 0 := by
        by_cases h0 : rootOf list x = 0
        · exact h0
        · have h1 := cntR_mono list (show 1 ≤ rootOf list x by omega)
          have h2 := cntR_mono list (show rootOf list x + 1 ≤ n by omega)
          rw [cntR_succ, if_pos hr] at h2
          omega
      have := (rootOf_spec list x).1
      rwa [h0] at this
    have h1 := nodup_sub_len ((List.range n).map Int.ofNat) (bfs list n 0) (by
      rw [List.nodup_iff_pairwise_ne, List.pairwise_map]
      refine List.pairwise_lt_range.imp ?_
      intro a b h e
      have e : (a : Int) = b := e
      have : a < b := h
      omega) (fun a ha => by
      obtain ⟨g1, g2⟩ := mem_ints.1 ha
      have := hall a.toNat (by omega)
      rw [Int.toNat_of_nonneg g1] at this
      exact (hmem a).2 this)
    have := hm.len
    simp at h1
    omega
  · intro h
    have hall : ∀ x : Nat, x < n → Rch list ((0 : Nat) : Int) x := by
      intro x hx
      refine (hmem x).1 (mem_of_full hm.nd (fun a ha => mem_ints.2 (hm.rng a ha)) (by simp [h]) (mem_ints.2 ⟨by omega, by omega⟩))
    have key : ∀ i : Nat, 1 ≤ i → i ≤ n → cntR list i = 1 := by
      intro i h1 h2
      induction i with
      | zero => omega
      | succ i ih =>
        by_cases e : i = 0
        · subst e; exact hz1
        · rw [cntR_succ, ih (by omega) (by omega), if_neg]
          intro hr
          exact root_iff.1 hr ⟨0, by omega, hall i (by omega)⟩
    exact key n hn (Nat.le_refl _)
theorem all_range_succ {f : Nat → Bool} {k : Nat} (h : (List.range k).all f = true) (hk : f k = true) : (List.range (k + 1)).all f = true := by
  rw [List.range_succ, List.all_append, h]; simp [hk]
/-- what is checked of the pairs before the i-th move, and with the i-th before the k-th -/
def PairsTo (xss : List (List Int)) (i k : Nat) : Prop := ∀ i' k' a b, (i' < i ∨ (i' = i ∧ k' < k)) → i' + 2 ≤ k' → xss[i']? = some a → xss[k']? = some b → parB (flg xss) a b = true
theorem PairsTo.zero (xss : List (List Int)) : PairsTo xss 0 2 := by
  intro i' k' a b h1 h2
  omega
theorem PairsTo.step {xss : List (List Int)} {i k : Nat} {a b : List Int} (h : PairsTo xss i k) (ha : xss[i]? = some a) (hb : xss[k]? = some b) (hp : parB (flg xss) a b = true) : PairsTo xss i (k + 1) := by
  intro i' k' a' b' h1 h2 h3 h4
  by_cases e : i' = i ∧ k' = k
  · obtain ⟨rfl, rfl⟩ := e
    rw [ha] at h3; rw [hb] at h4
    injection h3 with h3; injection h4 with h4
    subst h3; subst h4
    exact hp
  · exact h i' k' a' b' (by omega) h2 h3 h4
theorem PairsTo.next {xss : List (List Int)} {i k : Nat} (h : PairsTo xss i k) (hk : xss.length ≤ k) : PairsTo xss (i + 1) (i + 3) := by
  intro i' k' a' b' h1 h2 h3 h4
  have := (List.getElem?_eq_some_iff.1 h4).1
  exact h i' k' a' b' (by omega) h2 h3 h4
theorem PairsTo.done {xss : List (List Int)} {i k : Nat} (h : PairsTo xss i k) (hi : xss.length ≤ i) : ∀ i k a b, i + 2 ≤ k → xss[i]? = some a → xss[k]? = some b → parB (flg xss) a b = true := by
  intro i' k' a' b' h2 h3 h4
  have := (List.getElem?_eq_some_iff.1 h3).1
  exact h i' k' a' b' (by omega) h2 h3 h4
theorem isManB_all {xss : List (List Int)} (h1 : 1 ≤ xss.length) (h5 : xss.length ≤ 5) (f2 : 2 ≤ flg xss) (f4 : flg xss ≤ 400) (mv : ∀ p ∈ xss, mvB (flg xss) p = true)
    (com : ∀ i k a b, i + 2 ≤ k → xss[i]? = some a → xss[k]? = some b → parB (flg xss) a b = true) : isManB xss = decide (cntR xss (flg xss) = 1) ∧ isManB xss = decide ((bfs xss (flg xss) 0).length = flg xss) := by
  have h := conn_iff (sysOf_mv mv) (show 1 ≤ flg xss by omega)
  have e : isManB xss = decide (cntR xss (flg xss) = 1) := by
    by_cases hc : cntR xss (flg xss) = 1
    · rw [isManB_iff.2 ⟨h1, h5, f2, f4, mv, com, hc⟩, decide_eq_true hc]
    · rw [isManB_false (fun hh => hc hh.con), decide_eq_false hc]
  refine ⟨e, ?_⟩
  rw [e]
  by_cases hc : cntR xss (flg xss) = 1
  · rw [decide_eq_true hc, decide_eq_true (h.1 hc)]
  · rw [decide_eq_false hc, decide_eq_false (fun hh => hc (h.2 hh))]
theorem isManB_mv {xss : List (List Int)} {p : List Int} (hp : p ∈ xss) (h : mvB (flg xss) p = false) : isManB xss = false :=
  isManB_false fun hh => by have := hh.mv p hp; rw [h] at this; cases this
theorem isManB_com {xss : List (List Int)} {i k f : Nat} {a b : List Int} (hik : i + 2 ≤ k) (ha : xss[i]? = some a) (hb : xss[k]? = some b) (hf : f < flg xss) (h : comB a b f = false) : isManB xss = false :=
  isManB_false fun hh => by
    have := List.all_eq_true.1 (hh.com i k a b hik ha hb) f (by simpa using hf)
    rw [h] at this
    cases this
end Go.Proofs.Ytdaljeghdiknpaa
/- LawS -/
namespace Go.Proofs.Ytdaljeghdiknpaa
open Go.RowKit
set_option linter.unusedVariables false
set_option maxRecDepth 100000

/-- rows and numbers together -/
def numsIn : List (List Int) → Nat
  | [] => 0
  | r :: t => r.length + numsIn t
theorem numsIn_append (a b : List (List Int)) : numsIn (a ++ b) = numsIn a + numsIn b := by
  induction a with
  | nil => simp [numsIn]
  | cons r t ih => simp [numsIn, ih]; omega
theorem numsIn_take_succ {xss : List (List Int)} {k : Nat} {r : List Int} (h : xss[k]? = some r) : numsIn (xss.take (k + 1)) = numsIn (xss.take k) + r.length := by
  rw [take_succ_of h, numsIn_append]; simp [numsIn]
theorem numsIn_take_le (xss : List (List Int)) (k : Nat) : numsIn (xss.take k) ≤ numsIn xss := by
  have := numsIn_append (xss.take k) (xss.drop k)
  rw [List.take_append_drop] at this
  omega
theorem numsIn_mem_le {xss : List (List Int)} {k : Nat} {r : List Int} (h : xss[k]? = some r) : r.length ≤ numsIn xss := by
  have := numsIn_take_le xss (k + 1)
  rw [numsIn_take_succ h] at this
  omega
/-- what is left of a bound, or -1 -/
def leftOf (left need : Nat) : Int := if need ≤ left then (left : Int) - need else -1

theorem infoSS : (Try.prog.info? 27).map (fun i => (i.zero, i.size, i.bytes)) = some (some (.slice none 0 0), 1, 24) := by kernel_rfl
end Go.Proofs.Ytdaljeghdiknpaa
/- FormP -/
namespace Go.Proofs.Ytdaljeghdiknpaa
set_option linter.unusedVariables false
set_option maxRecDepth 100000
/-- the move p, the flags numbered as ord has them -/
def ixF (ord p : List Int) : List Int := ord.map fun f => (ord.idxOf (at' p f) : Int)
def formL (xss : List (List Int)) (n : Nat) (x : Int) : List (List Int) := xss.map (ixF (bfs xss n x))
theorem ixF_length (ord p : List Int) : (ixF ord p).length = ord.length := by simp [ixF]
theorem formL_length (xss : List (List Int)) (n : Nat) (x : Int) : (formL xss n x).length = xss.length := by simp [formL]
/-- the numbers of the first k of the flags -/
def NumI (ord : List Int) (n k : Nat) (ns : List Int) : Prop := ns.length = n ∧ ∀ z : Nat, z < n → ns[z]? = some (if (z : Int) ∈ ord.take k then (ord.idxOf (z : Int) : Int) else 0)
theorem NumI.zero (ord : List Int) (n : Nat) : NumI ord n 0 (List.replicate n 0) := ⟨by simp, fun z hz => by simp [hz]⟩
theorem NumI.step {ord : List Int} {n k f : Nat} {ns : List Int} (h : NumI ord n k ns) (hnd : ord.Nodup) (hf : ord[k]? = some (f : Int)) : NumI ord n (k + 1) (ns.set f (k : Int)) := by
  refine ⟨by simp [h.1], fun z hz => ?_⟩
  rw [take_succ_of hf]
  by_cases e : z = f
  · subst e
    rw [if_pos (by simp), idxOf_of_get? hnd hf]
    simp [h.1, hz]
  · rw [List.getElem?_set_ne (by omega), h.2 z hz]
    have : ¬ (z : Int) = (f : Int) := by omega
    simp [this]
theorem NumI.get {ord : List Int} {n z : Nat} {ns : List Int} (h : NumI ord n ord.length ns) (hz : z < n) (hm : (z : Int) ∈ ord) : ns[z]? = some (ord.idxOf (z : Int) : Int) := by
  rw [h.2 z hz, List.take_length, if_pos hm]
theorem numsIn_le {xss : List (List Int)} {n : Nat} (h : ∀ p ∈ xss, p.length ≤ n) : numsIn xss ≤ xss.length * n := by
  induction xss with
  | nil => simp [numsIn]
  | cons p t ih =>
    have h1 := h p (by simp)
    have h2 := ih (fun q hq => h q (by simp [hq]))
    have e : numsIn (p :: t) = p.length + numsIn t := by simp [numsIn]
    rw [e, List.length_cons, Nat.add_mul, Nat.one_mul]
    omega
theorem bfs_closed {list : List (List Int)} {n : Nat} {x y : Int} {p : List Int} (hs : SysOf list n) (h0 : 0 ≤ x) (h1 : x < n) (hy : y ∈ bfs list n x) (hp : p ∈ list) : at' p y ∈ bfs list n x :=
  (bfs_mem hs h0 h1).2 (((bfs_mem hs h0 h1).1 hy).step hp)
theorem formL_nums {xss : List (List Int)} {n : Nat} {x : Int} (hs : SysOf xss n) (h0 : 0 ≤ x) (h1 : x < n) (hn : n ≤ 400) (hl : xss.length ≤ 20) : (formL xss n x).length + numsIn (formL xss n x) ≤ 1048576 := by
  have hlen := (bfs_met hs h0 h1).len
  have := numsIn_le (xss := formL xss n x) (n := 400) (fun p hp => by
    obtain ⟨q, _, rfl⟩ := List.mem_map.1 hp
    rw [ixF_length]; omega)
  rw [formL_length] at *
  omega
end Go.Proofs.Ytdaljeghdiknpaa
/- DistP -/
namespace Go.Proofs.Ytdaljeghdiknpaa
set_option linter.unusedVariables false
set_option maxRecDepth 100000
/-- d at z -/
def dat (d : List Int) (z : Int) : Int := d.getD z.toNat 0
/-- what the move p adds at the point y -/
def dMove (y : Int) (s : List Int × List Int) (p : List Int) : List Int × List Int := if dat s.1 (at' p y) < 0 then (s.1.set (at' p y).toNat (dat s.1 y + 1), s.2 ++ [at' p y]) else s
def dStep (list : List (List Int)) (y : Int) (s : List Int × List Int) : List Int × List Int := list.foldl (dMove y) s
def dGo (list : List (List Int)) : Nat → List Int × List Int → Nat → List Int × List Int
  | 0, s, _ => s
  | f + 1, s, i => match s.2[i]? with
    | none => s
    | some y => dGo list f (dStep list y s) (i + 1)
def dstart (n : Nat) (x : Int) : List Int × List Int := ((List.replicate n (-1)).set x.toNat 0, [x])
def dist (list : List (List Int)) (n : Nat) (x : Int) : List Int := (dGo list (n + 1) (dstart n x) 0).1
theorem dStep_snoc (list : List (List Int)) (p : List Int) (y : Int) (s : List Int × List Int) : dStep (list ++ [p]) y s = dMove y (dStep list y s) p := by
  unfold dStep; rw [List.foldl_append]; rfl
theorem dGo_stop {list : List (List Int)} {f i : Nat} {s : List Int × List Int} (h : s.2.length ≤ i) : dGo list f s i = s := by
  cases f with
  | zero => rfl
  | succ f => simp [dGo, List.getElem?_eq_none h]
theorem dGo_step {list : List (List Int)} {f i : Nat} {s : List Int × List Int} {y : Int} (h : s.2[i]? = some y) : dGo list (f + 1) s i = dGo list f (dStep list y s) (i + 1) := by
  simp [dGo, h]
theorem dat_set_eq {d : List Int} {g : Int} {u : Int} {n : Nat} (hl : d.length = n) (h0 : 0 ≤ g) (h1 : g < n) : dat (d.set g.toNat u) g = u := by
  unfold dat; simp [List.getD, show g.toNat < d.length by omega]
theorem dat_set_ne {d : List Int} {g z : Int} {u : Int} (h0 : 0 ≤ g) (h1 : 0 ≤ z) (h : z ≠ g) : dat (d.set g.toNat u) z = dat d z := by
  unfold dat; simp [List.getD, List.getElem?_set_ne (show g.toNat ≠ z.toNat by omega)]
/-- what holds of the distances while the i-th of the points met is gone through -/
structure DMet (list : List (List Int)) (n : Nat) (x : Int) (d out : List Int) (i : Nat) : Prop where
  met : Met list n x out
  dl : d.length = n
  pos : ∀ z : Int, 0 ≤ z → z < n → (0 ≤ dat d z ↔ z ∈ out)
  neg : ∀ z : Int, 0 ≤ z → z < n → z ∉ out → dat d z = -1
  le : ∀ (j : Nat) z, out[j]? = some z → dat d z ≤ j
  mono : ∀ (j k : Nat) y z, j ≤ k → out[j]? = some y → out[k]? = some z → dat d y ≤ dat d z
  top : ∀ y z, out[i]? = some y → z ∈ out → dat d z ≤ dat d y + 1
  lip : ∀ (j : Nat) y p, j < i → out[j]? = some y → p ∈ list → at' p y ∈ out ∧ dat d (at' p y) ≤ dat d y + 1
  par : ∀ z ∈ out, z = x ∨ ∃ y p, p ∈ list ∧ y ∈ out ∧ z = at' p y ∧ dat d z = dat d y + 1
  zero : dat d x = 0
theorem DMet.start {list : List (List Int)} {n : Nat} {x : Int} (h0 : 0 ≤ x) (h1 : x < n) : DMet list n x (dstart n x).1 (dstart n x).2 0 := by
  have hz : dat (dstart n x).1 x = 0 := by unfold dstart; exact dat_set_eq (n := n) (by simp) h0 h1
  have hneg : ∀ z : Int, 0 ≤ z → z < n → z ≠ x → dat (dstart n x).1 z = -1 := by
    intro z g0 g1 hne
    unfold dstart
    rw [dat_set_ne h0 g0 hne]
    unfold dat
    simp [List.getD, show z.toNat < n by omega]
  have h1x : ∀ (j : Nat) (z : Int), (dstart n x).2[j]? = some z → j = 0 ∧ z = x := by
    intro j z h
    have h : ([x] : List Int)[j]? = some z := h
    have := (List.getElem?_eq_some_iff.1 h).1
    simp at this
    subst this
    simp at h
    exact ⟨rfl, h.symm⟩
  refine ⟨Met.one h0 h1, by simp [dstart], ?_, ?_, ?_, ?_, ?_, ?_, ?_, hz⟩
  · intro z g0 g1
    show _ ↔ z ∈ [x]
    by_cases e : z = x
    · subst e; simp [hz]
    · rw [hneg z g0 g1 e]; simp [e]
  · intro z g0 g1 hm
    exact hneg z g0 g1 (fun e => hm (by subst e; show z ∈ [z]; simp))
  · intro j z h
    obtain ⟨rfl, rfl⟩ := h1x j z h
    omega
  · intro j k y z _ hy hz'
    obtain ⟨_, rfl⟩ := h1x j y hy
    obtain ⟨_, rfl⟩ := h1x k z hz'
    exact Int.le_refl _
  · intro y z hy hz'
    obtain ⟨_, rfl⟩ := h1x 0 y hy
    have hz' : z ∈ [y] := hz'
    simp at hz'
    subst hz'
    omega
  · intro j y p hj
    omega
  · intro z hz'
    have hz' : z ∈ [x] := hz'
    simp at hz'
    exact .inl hz'
theorem DMet.datn {list : List (List Int)} {n : Nat} {x : Int} {d out : List Int} {i : Nat} (h : DMet list n x d out i) {z : Int} (hz : z ∈ out) : 0 ≤ dat d z ∧ dat d z < n := by
  have hr := h.met.rng z hz
  obtain ⟨j, hj⟩ := List.mem_iff_getElem?.1 hz
  have := h.le j z hj
  have := (List.getElem?_eq_some_iff.1 hj).1
  have := h.met.len
  exact ⟨(h.pos z hr.1 hr.2).2 hz, by omega⟩
theorem DMet.datr {list : List (List Int)} {n : Nat} {x : Int} {d out : List Int} {i : Nat} (h : DMet list n x d out i) {z : Int} (g0 : 0 ≤ z) (g1 : z < n) : -1 ≤ dat d z ∧ dat d z < n := by
  by_cases hz : z ∈ out
  · have := h.datn hz; omega
  · have := h.neg z g0 g1 hz; omega
theorem DMet.add {list : List (List Int)} {n : Nat} {x y : Int} {p : List Int} {d out : List Int} {i : Nat} (hs : SysOf list n) (h : DMet list n x d out i) (hy : out[i]? = some y) (hp : p ∈ list) (hn : dat d (at' p y) < 0) :
    DMet list n x (d.set (at' p y).toNat (dat d y + 1)) (out ++ [at' p y]) i := by
  have hym := mem_of_get? hy
  have hyr := h.met.rng y hym
  obtain ⟨g0, g1⟩ := at'_rng (hs p hp).1 (hs p hp).2.2 hyr.1 hyr.2
  have hgo : at' p y ∉ out := fun hm => by have := (h.pos _ g0 g1).2 hm; omega
  have hmet := h.met.add hs hym hp hgo
  generalize hg : at' p y = g at *
  have hdy := h.datn hym
  have hil := (List.getElem?_eq_some_iff.1 hy).1
  have hgg : dat (d.set g.toNat (dat d y + 1)) g = dat d y + 1 := dat_set_eq h.dl g0 g1
  have hold : ∀ z ∈ out, dat (d.set g.toNat (dat d y + 1)) z = dat d z := fun z hz => dat_set_ne g0 (h.met.rng z hz).1 (fun e => hgo (e ▸ hz))
  have hne : ∀ z : Int, 0 ≤ z → z ≠ g → dat (d.set g.toNat (dat d y + 1)) z = dat d z := fun z hz e => dat_set_ne g0 hz e
  have hget : ∀ (j : Nat) z, (out ++ [g])[j]? = some z → (out[j]? = some z ∧ j < out.length) ∨ (j = out.length ∧ z = g) := by
    intro j z hj
    by_cases hlt : j < out.length
    · rw [List.getElem?_append_left hlt] at hj; exact .inl ⟨hj, hlt⟩
    · have := (List.getElem?_eq_some_iff.1 hj).1
      simp at this
      have e : j = out.length := by omega
      subst e
      simp at hj
      exact .inr ⟨rfl, hj.symm⟩
  refine ⟨hmet, by simp [h.dl], ?_, ?_, ?_, ?_, ?_, ?_, ?_, ?_⟩
  · intro z k0 k1
    by_cases e : z = g
    · subst e; rw [hgg]; simp; omega
    · rw [hne z k0 e, h.pos z k0 k1]; simp [e]
  · intro z k0 k1 hm
    rw [List.mem_append] at hm
    have e : z ≠ g := fun e => hm (.inr (by simp [e]))
    rw [hne z k0 e]
    exact h.neg z k0 k1 (fun hz => hm (.inl hz))
  · intro j z hj
    rcases hget j z hj with ⟨hj, _⟩ | ⟨rfl, rfl⟩
    · rw [hold z (mem_of_get? hj)]; exact h.le j z hj
    · rw [hgg]; have := h.le i y hy; omega
  · intro j k y' z hjk hj hk
    rcases hget j y' hj with ⟨hj2, hjl⟩ | ⟨rfl, rfl⟩
    · rw [hold y' (mem_of_get? hj2)]
      rcases hget k z hk with ⟨hk2, _⟩ | ⟨rfl, rfl⟩
      · rw [hold z (mem_of_get? hk2)]; exact h.mono j k y' z hjk hj2 hk2
      · rw [hgg]; exact h.top y y' hy (mem_of_get? hj2)
    · rcases hget k z hk with ⟨hk, _⟩ | ⟨rfl, rfl⟩
      · have := (List.getElem?_eq_some_iff.1 hk).1; omega
      · exact Int.le_refl _
  · intro y' z hy' hz
    rw [List.getElem?_append_left hil, hy] at hy'
    obtain rfl := Option.some.inj hy'
    rw [hold y hym]
    rcases List.mem_append.1 hz with hz | hz
    · rw [hold z hz]; exact h.top y z hy hz
    · simp at hz; subst hz; rw [hgg]; exact Int.le_refl _
  · intro j y' q hj hjy hq
    rw [List.getElem?_append_left (by omega)] at hjy
    obtain ⟨k1, k2⟩ := h.lip j y' q hj hjy hq
    rw [hold _ k1, hold _ (mem_of_get? hjy)]
    exact ⟨List.mem_append_left _ k1, k2⟩
  · intro z hz
    rcases List.mem_append.1 hz with hz | hz
    · rcases h.par z hz with e | ⟨y', q, h1, h2, h3, h4⟩
      · exact .inl e
      · exact .inr ⟨y', q, h1, List.mem_append_left _ h2, h3, by rw [hold z hz, hold y' h2]; exact h4⟩
    · simp at hz
      subst hz
      exact .inr ⟨y, p, hp, List.mem_append_left _ hym, hg.symm, by rw [hgg, hold y hym]⟩
  · rw [hold x h.met.start]; exact h.zero
/-- all moves of the i-th point are done -/
theorem DMet.next {list : List (List Int)} {n : Nat} {x y : Int} {d out : List Int} {i : Nat} (h : DMet list n x d out i) (hy : out[i]? = some y) (hall : ∀ p ∈ list, at' p y ∈ out) : DMet list n x d out (i + 1) := by
  refine ⟨h.met, h.dl, h.pos, h.neg, h.le, h.mono, ?_, ?_, h.par, h.zero⟩
  · intro y' z hy' hz
    have := h.top y z hy hz
    have := h.mono i (i + 1) y y' (by omega) hy hy'
    omega
  · intro j y' p hj hjy hp
    by_cases e : j = i
    · subst e
      rw [hy] at hjy
      obtain rfl := Option.some.inj hjy
      exact ⟨hall p hp, h.top y _ hy (hall p hp)⟩
    · exact h.lip j y' p (by omega) hjy hp
theorem dMove_spec {list : List (List Int)} {n : Nat} {x y : Int} {p : List Int} {s : List Int × List Int} {i : Nat} (hs : SysOf list n) (h : DMet list n x s.1 s.2 i) (hy : s.2[i]? = some y) (hp : p ∈ list) :
    DMet list n x (dMove y s p).1 (dMove y s p).2 i ∧ (dMove y s p).2[i]? = some y ∧ at' p y ∈ (dMove y s p).2 ∧ ∀ z ∈ s.2, z ∈ (dMove y s p).2 := by
  have hil := (List.getElem?_eq_some_iff.1 hy).1
  have hyr := h.met.rng y (mem_of_get? hy)
  obtain ⟨g0, g1⟩ := at'_rng (hs p hp).1 (hs p hp).2.2 hyr.1 hyr.2
  unfold dMove
  by_cases hn : dat s.1 (at' p y) < 0
  · rw [if_pos hn]
    exact ⟨h.add hs hy hp hn, by rw [List.getElem?_append_left hil]; exact hy, by simp, fun z hz => List.mem_append_left _ hz⟩
  · rw [if_neg hn]
    exact ⟨h, hy, (h.pos _ g0 g1).1 (by omega), fun z hz => hz⟩
theorem dStep_spec {list : List (List Int)} {n : Nat} {x y : Int} {i : Nat} (hs : SysOf list n) : ∀ (ps : List (List Int)) (s : List Int × List Int), (∀ p ∈ ps, p ∈ list) → DMet list n x s.1 s.2 i → s.2[i]? = some y →
    DMet list n x (dStep ps y s).1 (dStep ps y s).2 i ∧ (dStep ps y s).2[i]? = some y ∧ (∀ p ∈ ps, at' p y ∈ (dStep ps y s).2) ∧ ∀ z ∈ s.2, z ∈ (dStep ps y s).2 := by
  intro ps
  induction ps with
  | nil => intro s _ h hy; exact ⟨h, hy, by simp, fun z hz => hz⟩
  | cons p t ih =>
    intro s hps h hy
    obtain ⟨h1, h2, h3, h4⟩ := dMove_spec hs h hy (hps p (by simp))
    obtain ⟨k1, k2, k3, k4⟩ := ih (dMove y s p) (fun q hq => hps q (by simp [hq])) h1 h2
    refine ⟨k1, k2, fun q hq => ?_, fun z hz => k4 z (h4 z hz)⟩
    rcases List.mem_cons.1 hq with rfl | hq
    · exact k4 _ h3
    · exact k3 q hq
theorem dStep_next {list : List (List Int)} {n : Nat} {x y : Int} {i : Nat} {s : List Int × List Int} (hs : SysOf list n) (h : DMet list n x s.1 s.2 i) (hy : s.2[i]? = some y) : DMet list n x (dStep list y s).1 (dStep list y s).2 (i + 1) := by
  obtain ⟨h1, h2, h3, _⟩ := dStep_spec hs list s (fun _ h => h) h hy
  exact h1.next h2 h3
theorem dGo_spec {list : List (List Int)} {n : Nat} {x : Int} (hs : SysOf list n) : ∀ (f : Nat) (s : List Int × List Int) (i : Nat), DMet list n x s.1 s.2 i → n < f + i →
    ∃ i', (dGo list f s i).2.length ≤ i' ∧ DMet list n x (dGo list f s i).1 (dGo list f s i).2 i' := by
  intro f
  induction f with
  | zero =>
    intro s i h hf
    have := h.met.len
    exact ⟨i, by show s.2.length ≤ i; omega, h⟩
  | succ f ih =>
    intro s i h hf
    cases hx : s.2[i]? with
    | none =>
      have := List.getElem?_eq_none_iff.1 hx
      rw [dGo_stop this]
      exact ⟨i, this, h⟩
    | some y =>
      rw [dGo_step hx]
      exact ih _ _ (dStep_next hs h hx) (by omega)
/-- what holds of the distances of a connected system -/
structure DFin (list : List (List Int)) (n : Nat) (x : Int) (d : List Int) : Prop where
  dl : d.length = n
  rng : ∀ z : Int, 0 ≤ z → z < n → 0 ≤ dat d z ∧ dat d z < n
  lip : ∀ (z : Int) p, 0 ≤ z → z < n → p ∈ list → dat d (at' p z) ≤ dat d z + 1
  par : ∀ z : Int, 0 ≤ z → z < n → z ≠ x → ∃ (y : Int) (p : List Int), p ∈ list ∧ 0 ≤ y ∧ y < n ∧ z = at' p y ∧ dat d z = dat d y + 1
  zero : dat d x = 0
/-- all points are met from each point -/
def Conn (list : List (List Int)) (n : Nat) : Prop := ∀ x z : Int, 0 ≤ x → x < n → 0 ≤ z → z < n → Rch list x z
theorem dGo_closed {list : List (List Int)} {n : Nat} {x : Int} {d out : List Int} {i : Nat} (h : DMet list n x d out i) (hl : out.length ≤ i) {z : Int} (hz : Rch list x z) : z ∈ out := by
  induction hz with
  | refl => exact h.met.start
  | step _ hp ih =>
    obtain ⟨j, hj⟩ := List.mem_iff_getElem?.1 ih
    exact (h.lip j _ _ (by have := (List.getElem?_eq_some_iff.1 hj).1; omega) hj hp).1
theorem dist_fin {list : List (List Int)} {n : Nat} {x : Int} (hs : SysOf list n) (hc : Conn list n) (h0 : 0 ≤ x) (h1 : x < n) : DFin list n x (dist list n x) := by
  obtain ⟨i, hi, h⟩ := dGo_spec hs (n + 1) (dstart n x) 0 (DMet.start h0 h1) (by omega)
  unfold dist
  generalize dGo list (n + 1) (dstart n x) 0 = s at *
  have hall : ∀ z : Int, 0 ≤ z → z < n → z ∈ s.2 := fun z g0 g1 => dGo_closed h hi (hc x z h0 h1 g0 g1)
  refine ⟨h.dl, fun z g0 g1 => h.datn (hall z g0 g1), fun z p g0 g1 hp => ?_, fun z g0 g1 hne => ?_, h.zero⟩
  · obtain ⟨j, hj⟩ := List.mem_iff_getElem?.1 (hall z g0 g1)
    exact (h.lip j z p (by have := (List.getElem?_eq_some_iff.1 hj).1; omega) hj hp).2
  · rcases h.par z (hall z g0 g1) with e | ⟨y, p, h2, h3, h4, h5⟩
    · exact absurd e hne
    · have := h.met.rng y h3
      exact ⟨y, p, h2, this.1, this.2, h4, h5⟩
theorem dist_length {list : List (List Int)} {n : Nat} {x : Int} (hs : SysOf list n) (h0 : 0 ≤ x) (h1 : x < n) : (dist list n x).length = n := by
  obtain ⟨i, hi, h⟩ := dGo_spec hs (n + 1) (dstart n x) 0 (DMet.start h0 h1) (by omega)
  exact h.dl
theorem dist_rng {list : List (List Int)} {n : Nat} {x : Int} (hs : SysOf list n) (h0 : 0 ≤ x) (h1 : x < n) : ∀ u ∈ dist list n x, -1 ≤ u ∧ u < n := by
  obtain ⟨i, hi, h⟩ := dGo_spec hs (n + 1) (dstart n x) 0 (DMet.start h0 h1) (by omega)
  intro u hu
  obtain ⟨j, hj⟩ := List.mem_iff_getElem?.1 hu
  have hlt := (List.getElem?_eq_some_iff.1 hj).1
  have := h.dl
  have e : dat (dist list n x) (j : Int) = u := by unfold dat; rw [Int.toNat_natCast]; exact getD_some hj
  have := h.datr (z := (j : Int)) (by omega) (by unfold dist at hlt; omega)
  unfold dist at e
  rw [e] at this
  exact this
theorem ManP.conn {xss : List (List Int)} (h : ManP xss) : Conn xss (flg xss) := by
  have h1 := h.f2
  have hs := h.sys
  have hlen := (conn_iff hs (by omega)).1 h.con
  have hm := bfs_met hs (show (0 : Int) ≤ 0 by omega) (show (0 : Int) < flg xss by omega)
  have hz : ∀ z : Int, 0 ≤ z → z < flg xss → Rch xss 0 z := by
    intro z g0 g1
    have : z ∈ bfs xss (flg xss) 0 := mem_of_full hm.nd (fun a ha => mem_ints.2 (hm.rng a ha)) (by simp [hlen]) (mem_ints.2 ⟨g0, g1⟩)
    exact hm.rch z this
  intro x z x0 x1 z0 z1
  exact ((hz x x0 x1).symm hs (by omega) (by omega)).trans (hz z z0 z1)
end Go.Proofs.Ytdaljeghdiknpaa
/- RenP -/
namespace Go.Proofs.Ytdaljeghdiknpaa
set_option linter.unusedVariables false
set_option maxRecDepth 100000
/-- the move M when the flag i has become the flag p[i] -/
def renL (p M : List Int) : List Int := thenL (thenL (invL p) M) p
theorem renL_length (p M : List Int) : (renL p M).length = p.length := by simp [renL, thenL_length, invL_length]
theorem renL_get {p M : List Int} {z : Nat} (hz : z < p.length) : (renL p M)[z]? = some (at' p (at' M (p.idxOf (z : Int) : Int))) := by
  unfold renL
  rw [thenL_get (thenL_get (invL_get hz))]
  rfl
/-- the first f flags are laid -/
def RenI (p M : List Int) (n f : Nat) (mv : List Int) : Prop := mv.length = n ∧ ∀ z : Nat, z < n → mv[z]? = some (if p.idxOf (z : Int) < f then at' p (at' M (p.idxOf (z : Int) : Int)) else 0)
theorem RenI.zero (p M : List Int) (n : Nat) : RenI p M n 0 (List.replicate n 0) := ⟨by simp, fun z hz => by simp [hz]⟩
theorem RenI.step {p M mv : List Int} {n f g : Nat} (h : RenI p M n f mv) (hnd : p.Nodup) (hmem : ∀ z : Nat, z < n → (z : Int) ∈ p) (hg : p[f]? = some (g : Int)) (hgn : g < n) : RenI p M n (f + 1) (mv.set g (at' p (at' M (f : Int)))) := by
  have hix := idxOf_of_get? hnd hg
  refine ⟨by simp [h.1], fun z hz => ?_⟩
  by_cases e : z = g
  · subst e
    rw [hix, if_pos (by omega)]
    simp [h.1, hz]
  · rw [List.getElem?_set_ne (by omega), h.2 z hz]
    have hne : p.idxOf (z : Int) ≠ f := by
      intro e2
      have h1 := get?_idxOf (hmem z hz)
      rw [e2, hg] at h1
      have := Option.some.inj h1
      omega
    by_cases hlt : p.idxOf (z : Int) < f
    · rw [if_pos hlt, if_pos (by omega)]
    · rw [if_neg hlt, if_neg (by omega)]
theorem RenI.end_ {p M mv : List Int} {n : Nat} (h : RenI p M n n mv) (hl : p.length = n) (hmem : ∀ z : Nat, z < n → (z : Int) ∈ p) : mv = renL p M := by
  refine List.ext_getElem? fun z => ?_
  by_cases hz : z < n
  · rw [h.2 z hz, renL_get (by omega), if_pos]
    have := List.idxOf_lt_length_of_mem (hmem z hz)
    omega
  · rw [List.getElem?_eq_none (by have := h.1; omega), List.getElem?_eq_none (by rw [renL_length]; omega)]
/-- an order of all flags -/
theorem ren_ix {ord M : List Int} {n : Nat} (hp : isPermP ord) (hl : ord.length = n) (hM : M.length = n) (hr : ∀ x ∈ M, 0 ≤ x ∧ x < n) : renL (invL ord) M = ixF ord M := by
  have hip := invL_perm hp
  have hil : (invL ord).length = n := by rw [invL_length]; exact hl
  refine List.ext_getElem? fun z => ?_
  by_cases hz : z < n
  · have hoz := get?_getD (xs := ord) (k := z) 0 (by omega)
    have hor := hp.get (k := z) (by omega)
    generalize ord.getD z 0 = y at *
    obtain ⟨y, rfl⟩ : ∃ q : Nat, y = q := ⟨y.toNat, by omega⟩
    have hinv : (invL ord)[y]? = some (z : Int) := by rw [invL_get (by omega), idxOf_of_get? hp.nd hoz]
    have hix := idxOf_of_get? hip.nd hinv
    rw [renL_get (by omega), hix]
    unfold ixF
    rw [List.getElem?_map, hoz]
    show some _ = some (ord.idxOf (at' M (y : Int)) : Int)
    have hv := hr (at' M (y : Int)) (mem_of_get? (get?_getD 0 (by rw [Int.toNat_natCast]; omega)))
    generalize at' M (y : Int) = v at *
    obtain ⟨v, rfl⟩ : ∃ q : Nat, v = q := ⟨v.toNat, by omega⟩
    unfold at'
    rw [Int.toNat_natCast, getD_some (invL_get (p := ord) (j := v) (by omega))]
  · rw [List.getElem?_eq_none (by rw [renL_length]; omega), List.getElem?_eq_none (by rw [ixF_length]; omega)]
theorem ord_perm {list : List (List Int)} {n : Nat} {x : Int} (hs : SysOf list n) (hc : Conn list n) (hn : n ≤ 400) (h0 : 0 ≤ x) (h1 : x < n) : isPermP (bfs list n x) ∧ (bfs list n x).length = n := by
  have hm := bfs_met hs h0 h1
  have hle := hm.len
  have hge : n ≤ (bfs list n x).length := by
    have := nodup_sub_len ((List.range n).map Int.ofNat) (bfs list n x) (by
      rw [List.nodup_iff_pairwise_ne, List.pairwise_map]
      refine List.pairwise_lt_range.imp ?_
      intro a b h e
      have e : (a : Int) = b := e
      have : a < b := h
      omega) (fun a ha => by obtain ⟨g1, g2⟩ := mem_ints.1 ha; exact (bfs_mem hs h0 h1).2 (hc x a h0 h1 g1 g2))
    simpa using this
  have hl : (bfs list n x).length = n := by omega
  exact ⟨⟨by omega, fun y hy => by rw [hl]; exact hm.rng y hy, hm.nd⟩, hl⟩
theorem perm_nums {p : List Int} {n : Nat} (hp : isPermP p) (hl : p.length = n) : ∀ z : Nat, z < n → (z : Int) ∈ p :=
  fun z hz => perm_mem hl (by have := hp.rng; rwa [hl] at this) hp.nd (by omega) (by omega)
/-- the form is the renumbered maniplex -/
theorem form_ren {xss : List (List Int)} {n : Nat} {x : Int} (hs : SysOf xss n) (hc : Conn xss n) (hn : n ≤ 400) (h0 : 0 ≤ x) (h1 : x < n) : formL xss n x = xss.map (renL (invL (bfs xss n x))) := by
  obtain ⟨h2, h3⟩ := ord_perm hs hc hn h0 h1
  unfold formL
  refine List.map_congr_left fun p hp => ?_
  rw [ren_ix h2 h3 (hs p hp).2.2 (hs p hp).1]
end Go.Proofs.Ytdaljeghdiknpaa
/- Man -/
namespace Go.Proofs.Ytdaljeghdiknpaa
open Go.RowKit
set_option linter.unusedVariables false
set_option maxRecDepth 100000
theorem rs_drew {w : World} {lo hi n : Nat} {A : Option Addr} {xss : List (List Int)} (h : RS w lo hi A n xss) : RS w.drew lo hi A n xss := h.keep fun _ _ _ => rfl
theorem below_drew {B : Nat} {w w' : World} (h : Below B w w') : Below B w w'.drew := ⟨h.os, h.tape, h.output, h.size, h.block⟩
theorem flg_of {xss : List (List Int)} {ys : List Int} (h : xss[0]? = some ys) : flg xss = ys.length := by
  unfold flg
  rw [getD_some h]
theorem rank_any (b : Nat) (A : Option Addr) (n c : Nat) (w : World) (hc : w.cell? ⟨b, 0, none⟩ = some (.slice A n c)) (hn : n ≤ 9223372036854775807) :
    Calls Try.prog 113 #[.pointer (some ⟨b, 0, none⟩)] w fun e w' => e = .returned (.int .i64 n) ∧ w = w' := by
  go_enter Try.func113, Try.ntmps113
  go_wp2_with fail
  ((with_reducible refine (sizeS_any _ _ _ _ hn).mono ?_); rintro e w' ⟨rfl, rfl⟩)
  go_wp2_with fail
  go_ret
  exact ⟨rfl, rfl⟩
theorem flags_any (b : Nat) (A : Option Addr) (n c : Nat) (xss : List (List Int)) (w : World) (hc : w.cell? ⟨b, 0, none⟩ = some (.slice A n c)) {lo hi : Nat} (h : RS w lo hi A n xss) (hn : 0 < n) :
    Calls Try.prog 94 #[.pointer (some ⟨b, 0, none⟩)] w fun e w' => e = .returned (.int .i64 (flg xss : Nat)) ∧ w = w' := by
  obtain ⟨b0, o0, A0, n0, c0, p0, rfl, _, _, hp0, hc0, hr0⟩ := h.at_ (k := 0) hn
  rw [Nat.add_zero] at hc0
  have hm := h.max
  have hm0 := hr0.max
  have hf : flg xss = n0 := by rw [flg_of hp0]; exact hr0.len
  replace hf := Lib.hid hf
  clear hp0
  go_enter Try.func94, Try.ntmps94
  go_wp2_with fail
  ((with_reducible refine (sizeI_any _ _ _ _ hm0).mono ?_); rintro e w' ⟨rfl, rfl⟩)
  go_wp2_with fail
  go_ret
  exact ⟨ret_int (by rw [hf.out]), rfl⟩
set_option maxHeartbeats 8000000 in
theorem isMan_any (A : Option Addr) (n c : Nat) (xss : List (List Int)) (w : World) {lo hi : Nat} (h : RS w lo hi A n xss) (hhi : hi ≤ w.heap.size) (hnc : n ≤ c) :
    Calls Try.prog 75 #[.agg #[.slice A n c]] w fun e w' => e = .returned (.bool (isManB xss)) ∧ Below w.heap.size w w' := by
  have hm := h.max
  have hl := h.len
  have hR : RS (w.alloc (.cells #[.slice A n c] 40)) lo hi A n xss := h.keep (same_alloc w _ _ _ hhi)
  have hC : (w.alloc (.cells #[.slice A n c] 40)).cell? ⟨w.heap.size, 0, none⟩ = some (.slice A n c) := by simp
  have hB : Below w.heap.size w (w.alloc (.cells #[.slice A n c] 40)) := (Below.refl _ _).alloc (Nat.le_refl _) _
  by_cases hrk : 1 ≤ n ∧ n ≤ 5
  · have hrk' : (decide ((1 : Int) ≤ (n : Int)) && decide ((n : Int) ≤ 5)) = true := by simp; omega
    by_cases hfl : 2 ≤ flg xss ∧ flg xss ≤ 400
    · have hfl' : (decide ((2 : Int) ≤ (flg xss : Nat)) && decide (((flg xss : Nat) : Int) ≤ 400)) = true := by simp; omega
      replace hl := Lib.hid hl
      go_enter Try.func75, Try.ntmps75
      go_wp2_with fail
      ((with_reducible refine (rank_any _ A n c _ hC hm).mono ?_); rintro e w' ⟨rfl, rfl⟩)
      go_wp2_with fail
      ((with_reducible refine (within_any _ _ _ _).mono ?_); rintro e w' ⟨rfl, rfl⟩)
      rw [hrk']
      go_wp2_with fail
      ((with_reducible refine (flags_any _ A n c xss _ hC hR (by omega)).mono ?_); rintro e w' ⟨rfl, rfl⟩)
      go_wp2_with fail
      ((with_reducible refine (within_any _ _ _ _).mono ?_); rintro e w' ⟨rfl, rfl⟩)
      rw [hfl']
      go_wp2_with fail
      obtain ⟨W1, hW⟩ : ∃ W1 : World, w.alloc (.cells #[.slice A n c] 40) = W1 := ⟨_, rfl⟩
      have hz1 : W1.heap.size = w.heap.size + 1 := by rw [← hW]; simp
      rw [hW] at hR hC hB ⊢
      clear hW h
      go_loopw [23] (fun kv wr => ∃ k : Nat, k ≤ n ∧ kv = .int .i64 k ∧ Hid (∀ p ∈ xss.take k, mvB (flg xss) p = true) ∧ Below W1.heap.size W1 wr) (fun kv _ => n - (intOf kv).toNat)
      case atStart => exact ⟨0, by omega, rfl, Lib.hid (by simp), Below.refl _ _⟩
      case round =>
        obtain ⟨k, hk, rfl, hmv, hb⟩ := hrel
        have hbz := hb.size
        have hCk : wr.cell? ⟨w.heap.size, 0, none⟩ = some (.slice A n c) := (hb.cell (p := ⟨w.heap.size, 0, none⟩) (by simp; omega)).trans hC
        have hRk := hR.below hb (by omega)
        by_cases hlt : k < n
        · obtain ⟨b, o, Ak, nk, ck, ys, rfl, _, _, hys, hcell, hrow⟩ := hRk.at_ hlt
          have hyl := hrow.len
          have hnm := hrow.max
          cases hpf : (isPermB ys && freeB ys) with
          | false =>
            have hF : isManB xss = false := isManB_mv (mem_of_get? hys) (by unfold mvB; rw [hpf]; rfl)
            replace hF := Lib.hid hF
            replace hpf := Lib.hid hpf
            replace hys := Lib.hid hys
            go_wp2_with fail
            ((with_reducible refine (isFree_any _ _ _ ys _ _ _ hrow (by omega)).mono ?_); rintro e w2 ⟨rfl, hb2⟩)
            rw [hpf.out]
            go_wp2_with fail
            go_ret
            exact ⟨ret_bool hF.out.symm, (hB.trans (hb.mono (by omega))).trans (hb2.mono (by omega))⟩
          | true =>
            by_cases hlen : nk = flg xss
            · subst hlen
              have hd : (((flg xss : Nat) : Int) != ((flg xss : Nat) : Int)) = false := by simp
              have hmy : mvB (flg xss) ys = true := by unfold mvB; rw [hpf, hyl]; simp
              have htk := take_succ_of hys
              replace htk := Lib.hid htk
              replace hmy := Lib.hid hmy
              replace hpf := Lib.hid hpf
              replace hys := Lib.hid hys
              go_wp2_with fail
              ((with_reducible refine (isFree_any _ _ _ ys _ _ _ hrow (by omega)).mono ?_); rintro e w2 ⟨rfl, hb2⟩)
              rw [hpf.out]
              have hB2 : Below W1.heap.size W1 w2 := hb.trans (hb2.mono hbz)
              have hC2 : w2.cell? ⟨w.heap.size, 0, none⟩ = some (.slice (some ⟨b, o, none⟩) n c) := (hB2.cell (p := ⟨w.heap.size, 0, none⟩) (by simp; omega)).trans hC
              go_wp2_with fail
              ((with_reducible refine (sizeI_any _ _ _ _ hnm).mono ?_); rintro e w' ⟨rfl, rfl⟩)
              go_wp2_with fail
              ((with_reducible refine (flags_any _ _ n c xss _ hC2 (hR.below hB2 (by omega)) (by omega)).mono ?_); rintro e w' ⟨rfl, rfl⟩)
              go_wp2_with fail
              go_roundw
              case measure => simp [intOf]; omega
              case rel =>
                refine ⟨k + 1, by omega, by go_num, Lib.hid fun p hp => ?_, hB2⟩
                rw [htk.out] at hp
                rcases List.mem_append.1 hp with hp | hp
                · exact hmv.out p hp
                · simp at hp; subst hp; exact hmy.out
            · have hd : ((nk : Int) != ((flg xss : Nat) : Int)) = true := by simp; omega
              have hF : isManB xss = false := isManB_mv (mem_of_get? hys) (by unfold mvB; rw [hpf, hyl, decide_eq_false hlen]; rfl)
              replace hF := Lib.hid hF
              replace hpf := Lib.hid hpf
              replace hys := Lib.hid hys
              go_wp2_with fail
              ((with_reducible refine (isFree_any _ _ _ ys _ _ _ hrow (by omega)).mono ?_); rintro e w2 ⟨rfl, hb2⟩)
              rw [hpf.out]
              have hB2 : Below W1.heap.size W1 w2 := hb.trans (hb2.mono hbz)
              have hC2 : w2.cell? ⟨w.heap.size, 0, none⟩ = some (.slice (some ⟨b, o, none⟩) n c) := (hB2.cell (p := ⟨w.heap.size, 0, none⟩) (by simp; omega)).trans hC
              go_wp2_with fail
              ((with_reducible refine (sizeI_any _ _ _ _ hnm).mono ?_); rintro e w' ⟨rfl, rfl⟩)
              go_wp2_with fail
              ((with_reducible refine (flags_any _ _ n c xss _ hC2 (hR.below hB2 (by omega)) (by omega)).mono ?_); rintro e w' ⟨rfl, rfl⟩)
              go_wp2_with fail
              go_ret
              exact ⟨ret_bool hF.out.symm, hB.trans (hB2.mono (by omega))⟩
        · have hkn : k = n := by omega
          subst hkn
          have hmvA : ∀ p ∈ xss, mvB (flg xss) p = true := by
            have := hmv.out
            rwa [List.take_of_length_le (by have := hl.out; omega)] at this
          have hS := sysOf_mv hmvA
          replace hmvA := Lib.hid hmvA
          clear hmv
          replace hS := Lib.hid hS
          go_wp2_with fail
          clear hCk hRk hbz
          go_loopw [40] (fun iv wq => ∃ i : Nat, i ≤ k ∧ iv = .int .i64 i ∧ Hid (PairsTo xss i (i + 2)) ∧ Below W1.heap.size W1 wq) (fun iv _ => k - (intOf iv).toNat)
          case atStart => exact ⟨0, by omega, rfl, Lib.hid (PairsTo.zero xss), hb⟩
          case round =>
            clear hb
            obtain ⟨i, hi, rfl, hpt, hb⟩ := hrel
            have hbz := hb.size
            have hCk : wr.cell? ⟨w.heap.size, 0, none⟩ = some (.slice A k c) := (hb.cell (p := ⟨w.heap.size, 0, none⟩) (by simp; omega)).trans hC
            have hRk := hR.below hb (by omega)
            by_cases hlt : i < k
            · obtain ⟨b, o, Aa, na, ca, pa, rfl, _, hbb, hpa, hcaW, hra⟩ := hR.at_ hlt
              have hca := (hb.cell (p := ⟨b, o + i, none⟩) (by simp; omega)).trans hcaW
              have hna : na = flg xss := by rw [← hra.len]; exact (hS.out _ (mem_of_get? hpa)).2.2
              subst hna
              have hpaS := (hS.out _ (mem_of_get? hpa)).1
              replace hpaS := Lib.hid hpaS
              by_cases hs2 : i + 2 < k
              · replace hpa := Lib.hid hpa
                go_wp2_with fail
                go_loopw [55] (fun tv wq => ∃ t : Nat, t ≤ k - (i + 2) ∧ tv = .int .i64 t ∧ Hid (PairsTo xss i (i + 2 + t)) ∧ Below W1.heap.size W1 wq) (fun tv _ => (k - (i + 2)) - (intOf tv).toNat)
                case atStart => exact ⟨0, by omega, rfl, hpt, hb⟩
                case round =>
                  clear hb hca hCk hRk hpt hbz
                  obtain ⟨t, ht, rfl, hpt, hb⟩ := hrel
                  have hbz := hb.size
                  by_cases htk : t < k - (i + 2)
                  · obtain ⟨b', o', Ab, nb, cb, pb, hA, _, _, hpb, hcbW, hrb⟩ := hR.at_ (k := i + 2 + t) (by omega)
                    injection hA with hA
                    injection hA with hA1 hA2 _
                    subst hA1; subst hA2
                    have hnb : nb = flg xss := by rw [← hrb.len]; exact (hS.out _ (mem_of_get? hpb)).2.2
                    subst hnb
                    have hpbS := (hS.out _ (mem_of_get? hpb)).1
                    replace hpbS := Lib.hid hpbS
                    have hcb : wr.cell? ⟨b, o + (i + 2) + t, none⟩ = some (.slice Ab (flg xss) cb) := by
                      rw [Nat.add_assoc]
                      exact (hb.cell (p := ⟨b, o + (i + 2 + t), none⟩) (by simp; omega)).trans hcbW
                    have hCk : wr.cell? ⟨w.heap.size, 0, none⟩ = some (.slice (some ⟨b, o, none⟩) k c) := (hb.cell (p := ⟨w.heap.size, 0, none⟩) (by simp; omega)).trans hC
                    have hRk := hR.below hb (by omega)
                    replace hpb := Lib.hid hpb
                    go_wp2_with fail
                    ((with_reducible refine (flags_any _ _ k c xss _ hCk hRk (by omega)).mono ?_); rintro e w' ⟨rfl, rfl⟩)
                    go_wp2_with fail
                    go_loopw [60] (fun fv wq => ∃ f : Nat, f ≤ flg xss ∧ fv = .int .i64 f ∧ Hid ((List.range f).all (comB pa pb) = true) ∧ Below W1.heap.size W1 wq) (fun fv _ => flg xss - (intOf fv).toNat)
                    case atStart => exact ⟨0, by omega, rfl, Lib.hid (by simp), hb⟩
                    case round =>
                      clear hb hcb hCk hRk hbz
                      obtain ⟨f, hf, rfl, hall, hb⟩ := hrel
                      have hbz := hb.size
                      by_cases hfn : f < flg xss
                      · obtain ⟨ba, oa, x, rfl, _, _, hx, hxc⟩ := (hra.below hb (by omega)).at_ hfn
                        obtain ⟨bb, ob, y, rfl, _, _, hy, hyc⟩ := (hrb.below hb (by omega)).at_ hfn
                        obtain ⟨hx0, hx1⟩ := hpaS.out x (mem_of_get? hx)
                        obtain ⟨hy0, hy1⟩ := hpbS.out y (mem_of_get? hy)
                        obtain ⟨x, rfl⟩ : ∃ q : Nat, x = q := ⟨x.toNat, by omega⟩
                        obtain ⟨y, rfl⟩ : ∃ q : Nat, y = q := ⟨y.toNat, by omega⟩
                        obtain ⟨_, _, u, hu1, _, _, hu, huc⟩ := (hrb.below hb (by omega)).at_ (k := x) (by omega)
                        injection hu1 with hu1
                        injection hu1 with hu1 hu2 _
                        subst hu1; subst hu2
                        obtain ⟨_, _, v, hv1, _, _, hv, hvc⟩ := (hra.below hb (by omega)).at_ (k := y) (by omega)
                        injection hv1 with hv1
                        injection hv1 with hv1 hv2 _
                        subst hv1; subst hv2
                        have hcm : comB pa pb f = (decide ((x : Int) ≠ y) && decide (u = v)) := by
                          unfold comB
                          rw [getD_some hx, getD_some hy, Int.toNat_natCast, Int.toNat_natCast, getD_some hu, getD_some hv]
                        have hxN : x < flg xss := by omega
                        have hyN : y < flg xss := by omega
                        replace hx := Lib.hid hx
                        replace hy := Lib.hid hy
                        replace hu := Lib.hid hu
                        replace hv := Lib.hid hv
                        by_cases hxy : (x : Int) = y
                        · have hd1 : ((x : Int) == (y : Int)) = true := by simpa using hxy
                          have hF : isManB xss = false := isManB_com (by omega) hpa.out hpb.out hfn (by rw [hcm]; simp [hxy])
                          replace hF := Lib.hid hF
                          clear hcm hxy
                          go_wp2_with fail
                          go_quiet (fail)
                          go_wp2_with fail
                          go_ret
                          exact ⟨ret_bool hF.out.symm, hB.trans ((below_dn hb _).mono (by omega))⟩
                        · have hd1 : ((x : Int) == (y : Int)) = false := by simpa using hxy
                          by_cases huv : u = v
                          · have hd2 : (u != v) = false := by simpa using huv
                            have hok : comB pa pb f = true := by rw [hcm]; simp [hxy, huv]
                            replace hok := Lib.hid hok
                            clear hcm hxy huv
                            go_wp2_with fail
                            go_quiet (fail)
                            go_wp2_with fail
                            go_roundw
                            case measure => simp [intOf]; omega
                            case rel => exact ⟨f + 1, by omega, by go_num, Lib.hid (all_range_succ hall.out hok.out), below_dn hb _⟩
                          · have hd2 : (u != v) = true := by simpa using huv
                            have hF : isManB xss = false := isManB_com (by omega) hpa.out hpb.out hfn (by rw [hcm]; simp [huv])
                            replace hF := Lib.hid hF
                            clear hcm hxy huv
                            go_wp2_with fail
                            go_quiet (fail)
                            go_wp2_with fail
                            go_ret
                            exact ⟨ret_bool hF.out.symm, hB.trans ((below_dn hb _).mono (by omega))⟩
                      · have hfe : f = flg xss := by omega
                        have hpar : parB (flg xss) pa pb = true := by unfold parB; rw [← hfe]; exact hall.out
                        replace hpar := Lib.hid hpar
                        go_wp2_with fail
                        go_roundw
                        case measure => simp [intOf]; omega
                        case rel => exact ⟨t + 1, by omega, by go_num, Lib.hid (hpt.out.step hpa.out hpb.out hpar.out), hb⟩
                  · have hte : i + 2 + t = k := by omega
                    have hnx := hpt.out.next (by have := hl.out; omega)
                    replace hnx := Lib.hid hnx
                    go_wp2_with fail
                    go_roundw
                    case measure => simp [intOf]; omega
                    case rel => exact ⟨i + 1, by omega, by go_num, hnx, hb⟩
              · have hkc : k = c ∨ k < c := by omega
                replace hpa := Lib.hid hpa
                rcases hkc with hkc | hkc
                all_goals
                  (try subst hkc)
                  go_wp2_with fail
                all_goals
                  go_loopw [55] (fun tv wq => tv = .int .i64 0 ∧ wq = wr) (fun _ _ => 0)
                  case atStart => exact ⟨rfl, rfl⟩
                  case round =>
                    obtain ⟨rfl, rfl⟩ := hrel
                    go_wp2_with fail
                    go_roundw
                    case measure => simp [intOf]; omega
                    case rel => exact ⟨i + 1, by omega, by go_num, Lib.hid (hpt.out.next (by have := hl.out; omega)), hb⟩
            · have hik : i = k := by omega
              subst hik
              have hfin := (isManB_all (by have := hl.out; omega) (by have := hl.out; omega) hfl.1 hfl.2 hmvA.out (hpt.out.done (by have := hl.out; omega))).1
              replace hfin := Lib.hid hfin
              go_wp2_with fail
              have hRd := rs_drew hRk
              have hbd := below_drew hb
              have hi0 : 0 < i := by omega
              have hF1 := flags_any w.heap.size A i c xss wr.drew hCk hRd hi0
              have hF2 := orbitLabels_any (flg xss) A i c xss wr.drew hRd (show _ ≤ wr.heap.size by omega) hfl.2 hS.out
              go_region_with (first
                | (go_at_call 94; refine hF1.mono ?_; rintro e w' ⟨rfl, rfl⟩)
                | (go_at_call 66; refine hF2.mono ?_; rintro e w2 ⟨A2, rfl, ho2, hb2⟩))
              all_goals
                go_wp2_with fail
                go_ret
                refine ⟨ret_bool ?_, hB.trans ((hbd.mono (by omega)).trans (hb2.mono (by simp; omega)))⟩
                rw [hfin.out]
                by_cases hq : cntR xss (flg xss) = 1
                · simp [hq]
                · have : ¬ ((cntR xss (flg xss) : Nat) : Int) = 1 := by omega
                  simp [hq, this]
    · have hfl' : (decide ((2 : Int) ≤ (flg xss : Nat)) && decide (((flg xss : Nat) : Int) ≤ 400)) = false := by simp; omega
      have hF : isManB xss = false := isManB_false fun hh => hfl ⟨hh.f2, hh.f4⟩
      replace hF := Lib.hid hF
      replace hl := Lib.hid hl
      clear hfl
      go_enter Try.func75, Try.ntmps75
      go_wp2_with fail
      ((with_reducible refine (rank_any _ A n c _ hC hm).mono ?_); rintro e w' ⟨rfl, rfl⟩)
      go_wp2_with fail
      ((with_reducible refine (within_any _ _ _ _).mono ?_); rintro e w' ⟨rfl, rfl⟩)
      rw [hrk']
      go_wp2_with fail
      ((with_reducible refine (flags_any _ A n c xss _ hC hR (by omega)).mono ?_); rintro e w' ⟨rfl, rfl⟩)
      go_wp2_with fail
      ((with_reducible refine (within_any _ _ _ _).mono ?_); rintro e w' ⟨rfl, rfl⟩)
      rw [hfl']
      go_wp2_with fail
      go_ret
      exact ⟨ret_bool hF.out.symm, hB⟩
  · have hrk' : (decide ((1 : Int) ≤ (n : Int)) && decide ((n : Int) ≤ 5)) = false := by simp; omega
    have hF : isManB xss = false := isManB_false fun hh => hrk ⟨by have := hh.r1; omega, by have := hh.r5; omega⟩
    replace hF := Lib.hid hF
    replace hl := Lib.hid hl
    clear hrk
    go_enter Try.func75, Try.ntmps75
    go_wp2_with fail
    ((with_reducible refine (rank_any _ A n c _ hC hm).mono ?_); rintro e w' ⟨rfl, rfl⟩)
    go_wp2_with fail
    ((with_reducible refine (within_any _ _ _ _).mono ?_); rintro e w' ⟨rfl, rfl⟩)
    rw [hrk']
    go_wp2_with fail
    go_ret
    exact ⟨ret_bool hF.out.symm, hB⟩
end Go.Proofs.Ytdaljeghdiknpaa
/- Open -/
namespace Go.Proofs.Ytdaljeghdiknpaa
open Go.ChangeShapes Go.WideShapes Go.ChangeAt Go.RowKit
set_option linter.unusedVariables false
set_option maxRecDepth 100000

/-- a 64-bit integer -/
def I64 (x : Int) : Prop := -9223372036854775808 ≤ x ∧ x ≤ 9223372036854775807

theorem rd_of_cells {w : World} {a : Addr} {len : Nat} {vs : List Value} (hl : vs.length = len) (hm : len ≤ 9223372036854775807) (hc : ∀ i v, vs[i]? = some v → w.cell? (a.add i) = some v) : Rd w 0 w.heap.size (some a) len vs := by
  refine ⟨hl, hm, fun hn => ?_⟩
  have h0 := hc 0 vs[0] (List.getElem?_eq_getElem (by omega))
  have hs := World.cell?_spot h0
  have hb := World.block_lt_of_cell? _ _ h0
  obtain ⟨b, o, s⟩ := a
  have hs' : s = none := by simpa [Addr.add] using hs
  subst hs'
  refine ⟨b, o, rfl, Nat.zero_le _, by simpa [Addr.add_lit] using hb, fun k v hv => ?_⟩
  have := hc k v hv
  simpa [Addr.add_lit] using this

theorem open_RI {H : Type} {enc : TypeId × Value → H} {P : Program} {w : World} {t e : TypeId} {a : Option Addr} {len cap : Nat} {d : DataW H} {p : List MemPlace}
    (ht : P.underlying t = some (.slice e)) (he : P.underlying e = some (.int .i64)) (hc : P.cellsOf e = 1)
    (h : DataW.Trod enc P w 0 (fun _ => true) true t (.slice a len cap) d p) : ∃ xs, RI w 0 w.heap.size a len xs ∧ ∀ x ∈ xs, I64 x := by
  obtain ⟨fuel, hf⟩ := h
  rcases open_ints ht he hc hf with ⟨hcs, _⟩ | ⟨x, l, c, zs, hcs, _, hl, hm, hz, _, hcell, hwz⟩
  · simp [Value.cells] at hcs
    obtain ⟨rfl, rfl, rfl⟩ := hcs
    exact ⟨[], RI.nil, by simp⟩
  · simp [Value.cells] at hcs
    obtain ⟨rfl, rfl, rfl⟩ := hcs
    have hz' : zs.length = cap := by simpa using hz
    simp only [maxLen] at hm
    refine ⟨zs.take len, rd_of_cells (by simp; omega) (by omega) fun i v hv => ?_, fun y hy => bounds_i64 (hwz y (List.mem_of_mem_take hy))⟩
    have hi : i < len := by have := (List.getElem?_eq_some_iff.1 hv).1; simp at this; omega
    rw [hcell i (by omega)]
    simp [hi, List.getD] at hv ⊢
    obtain ⟨y, hy, rfl⟩ := hv
    simp [hy]
end Go.Proofs.Ytdaljeghdiknpaa
/- OpenS -/
namespace Go.Proofs.Ytdaljeghdiknpaa
open Go.ChangeShapes Go.WideShapes Go.ChangeAt Go.RowKit Go.Deep
set_option linter.unusedVariables false
set_option maxRecDepth 100000

theorem rows_open {H : Type} {enc : TypeId × Value → H} {P : Program} {w : World} {t e q : TypeId} {a : Option Addr} {len cap fuel : Nat} {x : DataW H × List MemPlace}
    (ht : P.underlying t = some (.slice e)) (he : P.underlying e = some (.slice q)) (hq : P.underlying q = some (.int .i64)) (ce : P.cellsOf e = 1) (cq : P.cellsOf q = 1)
    (hf : DataW.trod enc P w 0 (fun _ => true) true fuel t [.slice a len cap] = some x) : ∃ xss, RS w 0 w.heap.size a len xss ∧ ∀ xs ∈ xss, ∀ x ∈ xs, I64 x := by
  rcases open_int_rows ht he hq ce cq hf with ⟨hcs, _⟩ | ⟨ad, l, c, A, L, C, Z, hcs, _, hl, hm, _, hrow⟩
  · simp at hcs
    obtain ⟨rfl, rfl, rfl⟩ := hcs
    exact ⟨[], RS.nil, by simp⟩
  · simp at hcs
    obtain ⟨rfl, rfl, rfl⟩ := hcs
    simp only [maxLen] at hm
    refine ⟨(List.range len).map fun r => (Z r).take (L r), ⟨(List.range len).map fun r => .slice (A r) (L r) (C r), ?_, ?_⟩, ?_⟩
    · refine rd_of_cells (by simp) (by omega) fun i v hv => ?_
      have hi : i < len := by have := (List.getElem?_eq_some_iff.1 hv).1; simp at this; omega
      simp [hi] at hv
      subst hv
      exact (hrow i (by omega)).1
    · refine ⟨by simp, fun k v xs h1 h2 => ?_⟩
      have hk : k < len := by have := (List.getElem?_eq_some_iff.1 h1).1; simp at this; omega
      simp [hk] at h1 h2
      subst h1; subst h2
      obtain ⟨_, r1, r2, r3, _, r5, r6⟩ := hrow k (by omega)
      simp only [maxLen] at r2
      refine ⟨_, _, _, rfl, ?_⟩
      cases hA : A k with
      | none =>
        have h0 := r5 hA
        have hL : L k = 0 := by omega
        rw [hL, List.take_zero]
        exact RI.nil
      | some a' =>
        obtain ⟨_, hc⟩ := r6 a' hA
        refine rd_of_cells (by simp; omega) (by omega) fun i v hv => ?_
        have hi : i < L k := by have := (List.getElem?_eq_some_iff.1 hv).1; simp at this; omega
        rw [hc i (by omega)]
        simp [hi] at hv
        obtain ⟨y, hy, rfl⟩ := hv
        simp [List.getD, hy]
    · intro xs hxs x hx
      simp only [List.mem_map, List.mem_range] at hxs
      obtain ⟨r, hr, rfl⟩ := hxs
      exact bounds_i64 ((hrow r (by omega)).2.2.2.2.1 x (List.mem_of_mem_take hx))

theorem open_RS {H : Type} {enc : TypeId × Value → H} {P : Program} {w : World} {t e q : TypeId} {a : Option Addr} {len cap : Nat} {d : DataW H} {p : List MemPlace}
    (ht : P.underlying t = some (.slice e)) (he : P.underlying e = some (.slice q)) (hq : P.underlying q = some (.int .i64)) (ce : P.cellsOf e = 1) (cq : P.cellsOf q = 1)
    (h : DataW.Trod enc P w 0 (fun _ => true) true t (.slice a len cap) d p) : ∃ xss, RS w 0 w.heap.size a len xss ∧ ∀ xs ∈ xss, ∀ x ∈ xs, I64 x := by
  obtain ⟨fuel, hf⟩ := h
  exact rows_open ht he hq ce cq (by simpa [Value.cells] using hf)
end Go.Proofs.Ytdaljeghdiknpaa
/- LawM -/
namespace Go.Proofs.Ytdaljeghdiknpaa
open Go.RowKit
set_option linter.unusedVariables false
set_option maxRecDepth 100000
theorem leftOf_neg {left k : Nat} (h : ¬ k ≤ left) : leftOf left k = -1 := by unfold leftOf; rw [if_neg h]
theorem leftOf_pos {left k : Nat} (h : k ≤ left) : leftOf left k = ((left - k : Nat) : Int) := by unfold leftOf; rw [if_pos h]; omega
theorem al_new (w : World) (v : Value) (T : TypeId) (k : Nat) (hk : k = w.heap.size) : (w.alloc (.cells #[v] T)).cell? ⟨k, 0, none⟩ = some v := by subst hk; simp
theorem fr_new (w : World) (v : Value) (T : TypeId) (k : Nat) (hk : k = w.heap.size) : (w.alloc (.cells #[v] T)).frozen? ⟨k, 0, none⟩ = false := by subst hk; simp
theorem al_old (w : World) (o : Obj) (k j : Nat) (hk : k < w.heap.size) : (w.alloc o).cell? ⟨k, j, none⟩ = w.cell? ⟨k, j, none⟩ := ((Below.refl w.heap.size w).alloc (Nat.le_refl _) o).cell (p := ⟨k, j, none⟩) hk
theorem fr_old (w : World) (o : Obj) (k j : Nat) (hk : k < w.heap.size) : (w.alloc o).frozen? ⟨k, j, none⟩ = w.frozen? ⟨k, j, none⟩ := ((Below.refl w.heap.size w).alloc (Nat.le_refl _) o).frozen (p := ⟨k, j, none⟩) hk
theorem heap_new (w : World) (o : Obj) (k : Nat) (hk : k = w.heap.size) : (w.alloc o).heap[k]? = some o := by subst hk; exact Array.getElem?_push_size
theorem rs_alloc {w : World} {lo hi n : Nat} {A : Option Addr} {xss : List (List Int)} (h : RS w lo hi A n xss) (hhi : hi ≤ w.heap.size) (o : Obj) : RS (w.alloc o) lo hi A n xss := h.keep (same_alloc w o _ _ hhi)
section
open Go.ChangeShapes Go.WideShapes Go.ChangeAt Go.RowKit Go.Deep
theorem open_RM {H : Type} {enc : TypeId × Value → H} {P : Program} {w : World} {r : Reach} {b0 : Nat} {m t e q : TypeId} {v : Value} {d : DataW H} {p : List MemPlace} {f : Field} (hs : P.underlying m = some (.struct #[f])) (hone : oneCellFields P #[f] = true) (hC : P.cellsOf m = 1) (hft : f.type = t)
    (ht : P.underlying t = some (.slice e)) (he : P.underlying e = some (.slice q)) (hq : P.underlying q = some (.int .i64)) (ce : P.cellsOf e = 1) (cq : P.cellsOf q = 1)
    (hv : Value.okWide P w r b0 m v) (h : DataW.Trod enc P w 0 (fun _ => true) true m v d p) :
    ∃ a len cap xss, v = .agg #[.slice a len cap] ∧ RS w 0 w.heap.size a len xss ∧ ∀ xs ∈ xss, ∀ x ∈ xs, I64 x := by
  obtain ⟨cs, rfl, hsz⟩ := okWide_struct hs hv
  obtain ⟨l⟩ := cs
  match l, hsz.trans hC with
  | [c0], _ =>
    obtain ⟨fuel, hf⟩ := h
    obtain ⟨xs, n, _, hx, _, hlen, hg⟩ := DataW.trod_struct hs hf
    obtain ⟨o0, k0⟩ := hone_of hone 0 f rfl
    match xs, hlen with
    | [y0], _ =>
      have h0 : DataW.trod enc P w 0 (fun _ => true) true n f.type [c0] = some y0 := by simpa [Value.cells, o0, k0] using hg 0 f rfl
      rw [hft] at h0
      rcases open_slice ht h0 with ⟨hcs, _⟩ | ⟨a, len, cap, _, _, _, _, hcs, _⟩
      · simp at hcs; subst hcs
        obtain ⟨xss, g1, g2⟩ := rows_open ht he hq ce cq h0
        exact ⟨_, _, _, xss, rfl, g1, g2⟩
      · simp at hcs; subst hcs
        obtain ⟨xss, g1, g2⟩ := rows_open ht he hq ce cq h0
        exact ⟨_, _, _, xss, rfl, g1, g2⟩
end
end Go.Proofs.Ytdaljeghdiknpaa
/- Form -/
namespace Go.Proofs.Ytdaljeghdiknpaa
open Go.RowKit
set_option linter.unusedVariables false
set_option maxRecDepth 100000
set_option maxHeartbeats 4000000 in
theorem numberedFrom_any (n : Nat) (A : Option Addr) (m c : Nat) (xss : List (List Int)) (x : Int) (w : World) {lo hi : Nat} (h : RS w lo hi A m xss) (hhi : hi ≤ w.heap.size) (hm0 : 0 < m) (hn : n ≤ 400) (hs : SysOf xss n) (hx0 : 0 ≤ x) (hx1 : x < n) :
    Calls Try.prog 147 #[.slice A m c, .int .i64 x] w fun e w' => ∃ (A1 : Option Addr) (n1 c1 : Nat), e = .returned (.slice A1 n1 c1) ∧ Own w' w.heap.size w'.heap.size 2 A1 n1 c1 ((bfs xss n x).map (Value.int .i64)) ∧ Below w.heap.size w w' := by
  obtain ⟨i0, hi0, hz0, hz1, hz2⟩ := info_parts infoB
  obtain ⟨j0, hj0, hy0, hy1, hy2⟩ := info_parts infoI
  have hm := h.max
  have hl := h.len
  obtain ⟨x, rfl⟩ : ∃ q : Nat, x = q := ⟨x.toNat, by omega⟩
  obtain ⟨b0, o0, A0, n0, c0, p0, hA0, _, hb0, hp0, hc0, hr0⟩ := h.at_ (k := 0) (by omega)
  rw [Nat.add_zero] at hc0
  have hn0 : n0 = n := by rw [← hr0.len]; exact (hs p0 (mem_of_get? hp0)).2.2
  subst hn0
  subst hA0
  clear hp0 hr0
  replace hs := Lib.hid hs
  replace hl := Lib.hid hl
  go_enter Try.func147, Try.ntmps147
  go_wp2_with (at_make; refine wpList_make_full _ rfl _ _ 131 rfl w.heap.size 4 i0 (.bool false) 1 Try.underlying131 hi0 hz0 hz1 _ _ _ _ n0 rfl rfl (by simp) (by simp) ?c1 ?c2 (by simp) ?_)
  case c1 => rw [hz2]; omega
  case c2 => simp only [maxLen]; omega
  intro w1 hown hg
  have hb1 : Below w.heap.size w w1 := (Below.refl _ _).grown hg (by simp) (by simp)
  have hs1 := hb1.size
  have hfr := hown.frozenAt x
  have hcx : w1.cell? ⟨w.heap.size, x, none⟩ = some (.bool false) := by rw [hown.cellAt x (by omega)]; simp [toList_madeCells_one, List.getElem?_replicate]; try omega
  go_wp2_with fail
  have hset := hown.stored x (.bool true)
  have ho2 := (own_lit1 (w1.setCell ⟨w.heap.size, x, none⟩ (.bool true)) 2 (x : Int) (lo := w.heap.size) (by simp; omega)).1
  rw [World.size_setCell] at ho2
  have hb2 : Below w.heap.size w ((w1.setCell ⟨w.heap.size, x, none⟩ (.bool true)).alloc (.cells #[.int .i64 (x : Int)] 2)) := (hb1.setCell (by simp) _).alloc (by simp; omega) _
  have hset1 : ((w1.setCell ⟨w.heap.size, x, none⟩ (.bool true)).alloc (.cells #[.int .i64 (x : Int)] 2)).ownsRow w.heap.size 4 1 (.slice (some ⟨w.heap.size, 0, none⟩) n0 n0) n0 (((List.replicate n0 false).set x true).map Value.bool) := by
    have := hset.1.alloc (.cells #[.int .i64 (x : Int)] 2)
    rw [List.map_set]
    simpa [toList_madeCells_one, Value.cells] using this
  clear hset hown hg hb1 hcx hfr hc0
  go_loopw [6, 7] (fun ov jv wr => ∃ (j : Nat) (ys : List Int) (A1 : Option Addr) (c1 : Nat) (bs : List Bool), j ≤ ys.length ∧ ys.length ≤ n0 ∧ ov = .slice A1 ys.length c1 ∧ jv = .int .i64 j ∧ Hid (bfsGo xss (n0 + 1 - j) ys j = bfs xss n0 x) ∧ Hid (Met xss n0 x ys) ∧ Hid (∀ z : Nat, z < n0 → bs[z]? = some (decide ((z : Int) ∈ ys))) ∧
      wr.ownsRow w.heap.size 4 1 (.slice (some ⟨w.heap.size, 0, none⟩) n0 n0) n0 (bs.map Value.bool) ∧ wr.ownsRow w.heap.size 2 1 (.slice A1 ys.length c1) ys.length (ys.map (Value.int .i64)) ∧ Below w.heap.size w wr) (fun _ jv _ => n0 - (intOf jv).toNat)
  case atStart =>
    refine ⟨0, [(x : Int)], _, 1, _, by simp, by simp; omega, rfl, rfl, Lib.hid rfl, Lib.hid (Met.one hx0 hx1), Lib.hid fun z hz => ?_, hset1, ho2, hb2⟩
    by_cases e : x = z
    · subst e; simp [show x < n0 by omega]
    · have hne : ¬ (z : Int) = x := by omega
      rw [List.getElem?_set_ne e]; simp [hz, hne]
  case round =>
    clear hset1 ho2 hb2
    obtain ⟨j, ys, A1, c1, bs, hj, hyn, rfl, rfl, heq, hmet, hbs, hsn, ho, hb⟩ := hrel
    have hmq := hb.size
    by_cases hlt : j < ys.length
    · obtain ⟨g, y, rfl, _, _, _, hy, _, _⟩ := (Own.of_row ho).atI hlt
      have hyr := hmet.out.rng y (mem_of_get? hy)
      obtain ⟨y, rfl⟩ : ∃ q : Nat, y = q := ⟨y.toNat, by omega⟩
      replace hy := Lib.hid hy
      go_wp2_with fail
      obtain ⟨wo, hwo⟩ : ∃ wo : World, wo = wr := ⟨_, rfl⟩
      go_loopw [6, 29] (fun ov kv wq => ∃ (k : Nat) (zs : List Int) (A2 : Option Addr) (c2 : Nat) (bs : List Bool), k ≤ m ∧ zs.length ≤ n0 ∧ ov = .slice A2 zs.length c2 ∧ kv = .int .i64 k ∧ Hid (zs = bfsStep (xss.take k) y ys) ∧ Hid (Met xss n0 x zs) ∧ Hid (zs[j]? = some (y : Int)) ∧ Hid (∀ z : Nat, z < n0 → bs[z]? = some (decide ((z : Int) ∈ zs))) ∧
          wq.ownsRow w.heap.size 4 1 (.slice (some ⟨w.heap.size, 0, none⟩) n0 n0) n0 (bs.map Value.bool) ∧ wq.ownsRow w.heap.size 2 1 (.slice A2 zs.length c2) zs.length (zs.map (Value.int .i64)) ∧ Below w.heap.size w wq) (fun _ kv _ => m - (intOf kv).toNat)
      case atStart => exact ⟨0, ys, _, c1, bs, by omega, hyn, rfl, rfl, Lib.hid rfl, hmet, hy, hbs, hsn, ho, hb⟩
      case round =>
        clear hsn ho hb hbs hwo
        obtain ⟨k, zs, A2, c2, bs, hk, hzn, rfl, rfl, hzs, hmz, hzy, hbs, hsn, ho, hb⟩ := hrel
        have hjz : j < zs.length := (List.getElem?_eq_some_iff.1 hzy.out).1
        by_cases hkm : k < m
        · obtain ⟨bb, oo, Ak, nk, ck, p, hA, _, hbb, hp, hpc, hpr⟩ := (h.below hb hhi).at_ hkm
          injection hA with hA
          injection hA with hA1 hA2 _
          subst hA1; subst hA2
          have hpm := mem_of_get? hp
          obtain ⟨hpr0, hpn, hpl⟩ := hs.out p hpm
          have hnk := hpr.len
          have hynk : y < nk := by omega
          obtain ⟨bp, oq, v, rfl, _, hbp, hv, hvc⟩ := hpr.at_ hynk
          have hva : at' p y = v := by unfold at'; rw [Int.toNat_natCast]; exact getD_some hv
          obtain ⟨hv0, hv1⟩ := hpr0 v (mem_of_get? hv)
          obtain ⟨v, rfl⟩ : ∃ q : Nat, v = q := ⟨v.toNat, by omega⟩
          obtain ⟨gz, y', rfl, hgz1, hgz2, hgz3, hy', hyc, _⟩ := (Own.of_row ho).atI hjz
          have e : y' = y := by rw [hzy.out] at hy'; exact (Option.some.inj hy').symm
          subst e
          clear hy'
          have htk := take_succ_of hp
          have hbv := hbs.out v (by omega)
          have hsc : wr.cell? ⟨w.heap.size, v, none⟩ = some (.bool (decide ((v : Int) ∈ zs))) := by
            rw [hsn.cellAt v (by omega), List.getElem?_map, hbv]; rfl
          have hsf := hsn.frozenAt v
          replace hbv := Lib.hid hbv
          replace hp := Lib.hid hp
          replace hv := Lib.hid hv
          replace hpr0 := Lib.hid hpr0
          have hvn : v < n0 := by omega
          by_cases hmem : (v : Int) ∈ zs
          · have hst : zs = bfsStep (xss.take (k + 1)) y ys := by
              rw [htk, bfsStep_snoc, hva, ← hzs.out, if_pos hmem]
            replace hst := Lib.hid hst
            rw [decide_eq_true hmem] at hsc
            replace htk := Lib.hid htk
            replace hva := Lib.hid hva
            replace hmem := Lib.hid hmem
            replace hpl := Lib.hid hpl
            go_wp2_with fail
            go_roundw
            case measure => simp [intOf]; omega
            case rel => exact ⟨k + 1, zs, _, c2, bs, by omega, hzn, rfl, by go_num, hst, hmz, hzy, hbs, hsn, ho, hb⟩
          · have hst : zs ++ [(v : Int)] = bfsStep (xss.take (k + 1)) y ys := by
              rw [htk, bfsStep_snoc, hva, ← hzs.out, if_neg hmem]
            replace hst := Lib.hid hst
            have hmz2 : Met xss n0 x (zs ++ [(v : Int)]) := by
              have := hmz.out.add hs.out (mem_of_get? hzy.out) hpm (by rw [hva]; exact hmem)
              rwa [hva] at this
            have hzn2 := hmz2.len
            rw [List.length_append, List.length_singleton] at hzn2
            replace hmz2 := Lib.hid hmz2
            rw [decide_eq_false hmem] at hsc
            replace htk := Lib.hid htk
            replace hva := Lib.hid hva
            replace hmem := Lib.hid hmem
            replace hpl := Lib.hid hpl
            have hset := hsn.stored v (.bool true)
            have ho' := own_kept_ty ho hsn (by decide) hset.2
            have hss : (wr.setCell ⟨w.heap.size, v, none⟩ (.bool true)).heap.size = wr.heap.size := World.size_setCell _ _ _
            have hsize := hb.size
            replace hss := Lib.hid hss
            go_wp2_with (at_builtin; refine wpList_append1 (wr.setCell ⟨w.heap.size, v, none⟩ (.bool true)) rfl (.tmp 48) (.tmp 50) 27 rfl w.heap.size 2 j0 (.int .i64 0) 8 Try.underlying27 hj0 hy0 hy1 hy2 rfl (by omega) _ zs.length c2 _ (.int .i64 v) rfl ho' _ rfl (World.size_setCell _ _ _).symm rfl (by omega) (by rw [hss.out]; exact hsize) ?_)
            intro g4 c4 w2 ho2 hg2 hlo2 hlt2 hor2
            have hb4 : Below w.heap.size w w2 := (hb.setCell (p := ⟨w.heap.size, v, none⟩) (by simp) (.bool true)).grown hg2 (by rw [hss.out]; exact hsize) (fun q hq => by have := (ho.lt q hq).1; omega)
            have hsn4 : w2.ownsRow w.heap.size 4 1 (.slice (some ⟨w.heap.size, 0, none⟩) n0 n0) n0 ((bs.set v true).map Value.bool) :=
              own_kept_ty (by rw [List.map_set]; exact hset.1) ho' (by decide) hg2
            clear hset ho' ho hsn hb hpc hvc hyc hsc hsf hpr hg2
            go_wp2_with fail
            go_roundw
            case measure => simp [intOf]; omega
            case rel =>
              refine ⟨k + 1, zs ++ [(v : Int)], _, c4, bs.set v true, by omega, by simp; omega, by rw [List.length_append]; rfl, by go_num, hst, hmz2, Lib.hid ?_, Lib.hid fun z hz => ?_, hsn4, by simpa using ho2, hb4⟩
              · rw [List.getElem?_append_left hjz]; exact hzy.out
              · by_cases e : v = z
                · subst e
                  have := (List.getElem?_eq_some_iff.1 hbv.out).1
                  simp [this]
                · rw [List.getElem?_set_ne e, hbs.out z hz]
                  have : ¬ (z : Int) = v := by omega
                  simp [this]
        · have hkm' : k = m := by omega
          subst hkm'
          go_wp2_with fail
          go_roundw
          case measure => simp [intOf]; omega
          case rel =>
            refine ⟨j + 1, zs, A2, c2, bs, by omega, hzn, rfl, by go_num, Lib.hid ?_, hmz, hbs, hsn, ho, hb⟩
            have h1 := heq.out
            rw [show n0 + 1 - j = (n0 - j) + 1 by omega, bfsGo_step hy.out] at h1
            have h2 := hzs.out
            rw [List.take_of_length_le (by have := hl.out; omega)] at h2
            rw [← h1, h2, show n0 + 1 - (j + 1) = n0 - j by omega]
    · go_wp2_with fail
      go_ret
      refine ⟨A1, ys.length, c1, rfl, ?_, hb⟩
      have h1 := heq.out
      rw [bfsGo_stop (by omega)] at h1
      rw [← h1]
      exact Own.of_row ho
set_option maxHeartbeats 8000000 in
theorem formFrom_any (n : Nat) (A : Option Addr) (m c : Nat) (xss : List (List Int)) (x : Int) (w : World) {lo hi : Nat} (h : RS w lo hi A m xss) (hhi : hi ≤ w.heap.size) (hm0 : 0 < m) (hm5 : m ≤ 20) (hn : n ≤ 400) (hs : SysOf xss n) (hx0 : 0 ≤ x) (hx1 : x < n) :
    Calls Try.prog 109 #[.slice A m c, .int .i64 x] w fun e w' => ∃ (A1 : Option Addr) (c1 : Nat), e = .returned (.agg #[.slice A1 m c1]) ∧ OwnS w' w.heap.size w'.heap.size 27 2 A1 m c1 (formL xss n x) ∧ Below w.heap.size w w' := by
  obtain ⟨j0, hj0, hy0, hy1, hy2⟩ := info_parts infoI
  obtain ⟨s0, hs0, hu0, hu1, hu2⟩ := info_parts infoS
  have hl := h.len
  have hnf := numberedFrom_any n A m c xss x (w.alloc (.cells #[.slice none 0 0] 40)) (rs_alloc h hhi _) (by simp; omega) hm0 hn hs hx0 hx1
  have hmet := bfs_met hs hx0 hx1
  have hclo : ∀ y ∈ bfs xss n x, ∀ p ∈ xss, at' p y ∈ bfs xss n x := fun y hy p hp => bfs_closed hs hx0 hx1 hy hp
  have hfl : formL xss n x = xss.map (ixF (bfs xss n x)) := rfl
  rw [hfl]
  generalize bfs xss n x = ord at *
  have hol := hmet.len
  replace hfl := Lib.hid hfl
  replace hmet := Lib.hid hmet
  replace hclo := Lib.hid hclo
  replace hs := Lib.hid hs
  go_enter Try.func109, Try.ntmps109
  go_wp2_with fail
  ((with_reducible refine hnf.mono ?_); rintro e w1 ⟨A5, n5, c5, rfl, o5, f1⟩)
  have B1 : Below w.heap.size w w1 := ((Below.refl _ _).alloc (Nat.le_refl _) _).trans (f1.mono (by simp))
  have g4 : w1.heap[w.heap.size]? = some (.cells #[.slice none 0 0] 40 (0, 0)) := (f1.block _ (by simp)).trans (heap_new _ _ _ rfl)
  have z1 : w.heap.size + 1 ≤ w1.heap.size := by have := f1.size; simpa using this
  have e5 := o5.lenI
  subst e5
  clear f1 hnf
  obtain ⟨b0, o0, A0, n0, c0, p0, rfl, _, _, hp0, hc0, hr0⟩ := (h.below B1 hhi).at_ hm0
  rw [Nat.add_zero] at hc0
  have hn0 : n0 = n := by rw [← hr0.len]; exact (hs.out p0 (mem_of_get? hp0)).2.2
  subst hn0
  clear hp0 hr0
  go_wp2_with (at_make; refine wpList_make_full _ rfl _ _ 27 rfl w1.heap.size 2 j0 (.int .i64 0) 1 Try.underlying27 hj0 hy0 hy1 _ _ _ _ n0 rfl rfl rfl rfl ?c1 ?c2 (Nat.le_refl _) ?_)
  case c1 => rw [hy2]; omega
  case c2 => simp only [maxLen]; omega
  intro w2 hown hg
  have B2 : Below w1.heap.size w1 w2 := (Below.refl _ _).grown hg (Nat.le_refl _) (by simp)
  have z2 : w1.heap.size < w2.heap.size := (hown.lt w1.heap.size (by simp [Value.ownBlock])).2
  have o6 : Own w2 w1.heap.size w2.heap.size 2 (some ⟨w1.heap.size, 0, none⟩) n0 n0 ((List.replicate n0 0).map (Value.int .i64)) := by
    have := Own.of_row hown
    simpa [toList_madeCells_one, Value.cells] using this
  clear hown hg hc0
  go_wp2_with fail
  go_loopw [25] (fun kv wq => ∃ (k : Nat) (ns : List Int), k ≤ ord.length ∧ kv = .int .i64 k ∧ Hid (NumI ord n0 k ns) ∧ Own wq w1.heap.size w2.heap.size 2 (some ⟨w1.heap.size, 0, none⟩) n0 n0 (ns.map (Value.int .i64)) ∧ w2.heap.size ≤ wq.heap.size ∧ Below w1.heap.size w1 wq) (fun kv _ => ord.length - (intOf kv).toNat)
  case atStart => exact ⟨0, _, by omega, rfl, Lib.hid (NumI.zero ord n0), o6, Nat.le_refl _, B2⟩
  case round =>
    clear o6 B2
    obtain ⟨k, ns, hk, rfl, hns, ho, hz, hb⟩ := hrel
    by_cases hlt : k < ord.length
    · obtain ⟨b5, f, rfl, _, _, _, hf, hcf, _⟩ := (o5.below hb (Nat.le_refl _)).atI hlt
      obtain ⟨hf0, hf1⟩ := hmet.out.rng f (mem_of_get? hf)
      obtain ⟨f, rfl⟩ : ∃ q : Nat, f = q := ⟨f.toNat, by omega⟩
      have hcn := ho.cellI (hns.out.2 f (by omega))
      have hfr := ho.frz f
      have hfn : f < n0 := by omega
      have hst := hns.out.step hmet.out.nd hf
      replace hst := Lib.hid hst
      replace hf := Lib.hid hf
      generalize (if (f : Int) ∈ ord.take k then (ord.idxOf (f : Int) : Int) else 0) = old at *
      go_wp2_with fail
      go_roundw
      case measure => simp [intOf]; omega
      case rel => exact ⟨k + 1, ns.set f (k : Int), by omega, by go_num, hst, ho.setI (k : Int), by simp; omega, hb.setCell (by simp) _⟩
    · have hko : k = ord.length := by omega
      subst hko
      have hnum : ∀ z : Nat, z < n0 → (z : Int) ∈ ord → ns[z]? = some (ord.idxOf (z : Int) : Int) := fun z hz' hm => hns.out.get hz' hm
      replace hnum := Lib.hid hnum
      go_wp2_with fail
      obtain ⟨w3, rfl⟩ : ∃ w3 : World, w3 = wr := ⟨_, rfl⟩
      have g9 : (w3.alloc (.cells #[.slice none 0 0] 40)).heap[w3.heap.size]? = some (.cells #[.slice none 0 0] 40 (0, 0)) := heap_new _ _ _ rfl
      go_loopw [37] (fun kv wq => ∃ (k : Nat) (vs : List Value) (A2 : Option Addr) (c2 : Nat), k ≤ m ∧ vs.length = k ∧ kv = .int .i64 k ∧ wq.heap[w3.heap.size]? = some (.cells #[.slice A2 k c2] 40 (0, 0)) ∧
          Own wq (w3.heap.size + 1) wq.heap.size 27 A2 k c2 vs ∧ RowsOwn wq (w3.heap.size + 1) wq.heap.size 2 vs ((xss.take k).map (ixF ord)) ∧ w3.heap.size + 1 ≤ wq.heap.size ∧ Below w3.heap.size w3 wq) (fun kv _ => m - (intOf kv).toNat)
      case atStart => exact ⟨0, [], none, 0, by omega, rfl, rfl, g9, Own.nil, by simpa using RowsOwn.nil, by simp, (Below.refl _ _).alloc (Nat.le_refl _) _⟩
      case round =>
        clear g9
        obtain ⟨k, vs, A2, c2, hk, hvk, rfl, g9, ho9, hrows, hz9, hb9⟩ := hrel
        have C9 : wr.cell? ⟨w3.heap.size, 0, none⟩ = some (.slice A2 k c2) := by rw [cell_of_row _ _ _ _ _ _ g9]; rfl
        have F9 : wr.frozen? ⟨w3.heap.size, 0, none⟩ = false := frozen_of_row _ _ _ _ _ g9
        have hbw : Below w1.heap.size w1 wr := hb.trans (hb9.mono (by omega))
        have ho6 := ho.below hb9 hz
        by_cases hkm : k < m
        · obtain ⟨bb, oo, Ak, nk, ck, p, e, _, _, hp, hpc, hpr⟩ := ((h.below B1 hhi).below hbw (by omega)).at_ hkm
          injection e with e
          injection e with e1 e2 _
          subst e1; subst e2
          have hpm := mem_of_get? hp
          obtain ⟨hpr0, hpn, hpl⟩ := hs.out p hpm
          have hnk := hpr.len
          have hkk : nk = n0 := by omega
          subst hkk
          have htk := take_succ_of hp
          replace hp := Lib.hid hp
          replace htk := Lib.hid htk
          replace hpr0 := Lib.hid hpr0
          replace hpl := Lib.hid hpl
          replace g9 := Lib.hid g9
          have hnk1 := hpr.max
          go_wp2_with fail
          obtain ⟨wo, rfl⟩ : ∃ wo : World, wo = wr := ⟨_, rfl⟩
          go_loopw [12, 43] (fun lv kv wq => ∃ (j : Nat) (ys : List Int) (A3 : Option Addr) (c3 : Nat), j ≤ ord.length ∧ ys.length = j ∧ lv = .slice A3 j c3 ∧ kv = .int .i64 j ∧ Hid (ys = (ixF ord p).take j) ∧ Own wq wo.heap.size wq.heap.size 2 A3 j c3 (ys.map (Value.int .i64)) ∧ wo.heap.size ≤ wq.heap.size ∧ Below wo.heap.size wo wq) (fun _ kv _ => ord.length - (intOf kv).toNat)
          case atStart => exact ⟨0, [], none, 0, by omega, rfl, rfl, rfl, Lib.hid rfl, Own.nil, Nat.le_refl _, Below.refl _ _⟩
          case round =>
            obtain ⟨j, ys, A3, c3, hj, hyl, rfl, rfl, hys, ho3, hz3, hb3⟩ := hrel
            by_cases hjo : j < ord.length
            · obtain ⟨b5, f, hA5, _, _, _, hf, hcf, _⟩ := ((o5.below hbw (Nat.le_refl _)).below hb3 (by omega)).atI hjo
              subst hA5
              have hfm := mem_of_get? hf
              obtain ⟨hf0, hf1⟩ := hmet.out.rng f hfm
              obtain ⟨f, rfl⟩ : ∃ q : Nat, f = q := ⟨f.toNat, by omega⟩
              have hfn : f < nk := by omega
              obtain ⟨bp, oq, v, rfl, _, _, hv, hvc⟩ := (hpr.below hb3 (by omega)).at_ hfn
              have hva : at' p f = v := by unfold at'; rw [Int.toNat_natCast]; exact getD_some hv
              have hvo := hclo.out _ hfm p hpm
              rw [hva] at hvo
              obtain ⟨hv0, hv1⟩ := hpr0.out v (mem_of_get? hv)
              obtain ⟨v, rfl⟩ : ∃ q : Nat, v = q := ⟨v.toNat, by omega⟩
              have hvn : v < nk := by omega
              have hcn := (ho6.below hb3 (by omega)).cellI (hnum.out v hvn hvo)
              have hst : ys ++ [(ord.idxOf (v : Int) : Int)] = (ixF ord p).take (j + 1) := by
                rw [take_succ_of (x := (ord.idxOf (v : Int) : Int)) (by simp [ixF, hf, hva]), ← hys.out]
              replace hst := Lib.hid hst
              replace hf := Lib.hid hf
              replace hfm := Lib.hid hfm
              replace hv := Lib.hid hv
              replace hva := Lib.hid hva
              replace hvo := Lib.hid hvo
              generalize (ord.idxOf (v : Int) : Int) = u at *
              go_wp2_with (at_builtin; refine wpList_append1 wr rfl (.tmp 47) (.tmp 55) 27 rfl wo.heap.size 2 j0 (.int .i64 0) 8 Try.underlying27 hj0 hy0 hy1 hy2 rfl (by omega) A3 j c3 _ (.int .i64 u) rfl ho3.1 _ rfl rfl rfl (by omega) hz3 ?_)
              intro g4 c4 w5 ho5 hg5 hlo5 hlt5 hor5
              have hb5 : Below wo.heap.size wo w5 := hb3.grown hg5 hz3 (fun q hq => by have := (ho3.1.lt q hq).1; omega)
              have hz5 := hg5.size
              clear hcf hvc hcn ho3 hb3 hg5
              go_wp2_with fail
              go_roundw
              case measure => simp [intOf]; omega
              case rel => exact ⟨j + 1, ys ++ [u], _, c4, by omega, by simp; omega, rfl, by go_num, hst, by simpa using Own.of_row ho5, by omega, hb5⟩
            · have hjo' : j = ord.length := by omega
              subst hjo'
              have hyf : ys = ixF ord p := by have := hys.out; rwa [List.take_of_length_le (by rw [ixF_length]; exact Nat.le_refl _)] at this
              have ho9' := ho9.below hb3 (Nat.le_refl _)
              have hrows' := hrows.keep (Same.of_below hb3 (Nat.le_refl _))
              have g9' := (hb3.block w3.heap.size (by omega)).trans g9.out
              have C9' : wr.cell? ⟨w3.heap.size, 0, none⟩ = some (.slice A2 k c2) := by rw [cell_of_row _ _ _ _ _ _ g9']; rfl
              have F9' : wr.frozen? ⟨w3.heap.size, 0, none⟩ = false := frozen_of_row _ _ _ _ _ g9'
              replace g9' := Lib.hid g9'
              replace hyf := Lib.hid hyf
              replace hyl := Lib.hid hyl
              go_wp2_with (at_builtin; refine wpList_append1 wr rfl (.tmp 59) (.tmp 61) 24 rfl (w3.heap.size + 1) 27 s0 (.slice none 0 0) 24 Try.underlying24 hs0 hu0 hu1 hu2 rfl (by omega) A2 k c2 _ (.slice A3 ord.length c3) rfl ho9'.1 _ rfl rfl rfl (by omega) (by omega) ?_)
              intro g4 c4 w5 ho5 hg5 hlo5 hlt5 hor5
              have g5 := (hg5.block w3.heap.size (by omega) (fun e => by have := (ho9'.1.lt _ e.symm).1; omega)).trans g9'.out
              have C5 : w5.cell? ⟨w3.heap.size, 0, none⟩ = some (.slice A2 k c2) := by rw [cell_of_row _ _ _ _ _ _ g5]; rfl
              have F5 : w5.frozen? ⟨w3.heap.size, 0, none⟩ = false := frozen_of_row _ _ _ _ _ g5
              have hrw5 := (hrows'.kept_ty ho9'.1 (by decide) hg5).snoc (ho3.kept_ty ho9'.1 (by decide) hg5) (by omega) hz3
              have hz5 := hg5.size
              have hb5 : Below w3.heap.size w3 w5 := (hb9.trans (hb3.mono (by omega))).grown hg5 (by omega) (fun q hq => by have := (ho9'.1.lt q hq).1; omega)
              have ho5' := Own.of_row ho5
              replace g5 := Lib.hid g5
              clear C9 F9 C9' F9' ho9 ho9' hrows hrows' ho3 hg5 ho5
              go_wp2_with fail
              go_roundw
              case measure => simp [intOf]; omega
              case rel =>
                refine ⟨k + 1, vs ++ [.slice A3 ord.length c3], _, c4, by omega, by simp; omega, by go_num, ?_, (ho5'.far (.inl (by simp)) _).more (Nat.le_refl _) (by simp), ?_, by simp; omega, hb5.setCell (by simp) _⟩
                · have := heap_setCell_same _ _ 0 _ _ (Value.slice (some ⟨g4, 0, none⟩) (k + 1) c4) g5.out
                  simpa using this
                · rw [htk.out, List.map_append, List.map_singleton, ← hyf.out]
                  exact (hrw5.keep (same_set _ _ _ _ _ (.inl (by simp)))).more (Nat.le_refl _) (by simp; omega)
        · have hkm' : k = m := by omega
          subst hkm'
          have g4' := (hbw.block w.heap.size (by omega)).trans g4
          have C4 : wr.cell? ⟨w.heap.size, 0, none⟩ = some (.slice none 0 0) := by rw [cell_of_row _ _ _ _ _ _ g4']; rfl
          have F4 : wr.frozen? ⟨w.heap.size, 0, none⟩ = false := frozen_of_row _ _ _ _ _ g4'
          replace g4' := Lib.hid g4'
          replace g9 := Lib.hid g9
          replace g4 := Lib.hid g4
          go_wp2_with fail
          have g2 := heap_setCell_same _ _ 0 _ _ (Value.slice A2 k c2) g4'.out
          (try simp only [Exit.inBlock, Exit.then])
          refine bodyPost_ret (v := .agg #[.slice A2 k c2]) ?_ rfl ?_
          · exact results_cell_row rfl _ _ w.heap.size 40 #[.slice A2 k c2] (0, 0) _ rfl (by simpa using g2) Try.underlying40 rfl (by kernel_rfl)
          · have e : xss.take k = xss := List.take_of_length_le (by omega)
            rw [e] at hrows
            refine ⟨A2, c2, rfl, ⟨vs, ?_, ?_⟩, (B1.trans (hbw.mono (by omega))).setCell (by simp) _⟩
            · exact (ho9.keep (same_set _ _ _ _ _ (.inl (by simp; omega)))).more (by omega) (by simp)
            · exact (hrows.keep (same_set _ _ _ _ _ (.inl (by simp; omega)))).more (by omega) (by simp)
end Go.Proofs.Ytdaljeghdiknpaa
/- FormS -/
namespace Go.Proofs.Ytdaljeghdiknpaa
open Go.RowKit
set_option linter.unusedVariables false
set_option maxRecDepth 100000
theorem results_cell_row2 {P : Program} {fn : Func} {p u : Tmp} {ty : TypeId} (h : fn.results = #[.cell p ty, .tmp u]) (tmps : Array Value) (w : World) (g : Nat) (t : TypeId) (cs : Array Value) (fr : Nat × Nat) (d : TypeDesc)
    (hp : tmps.getD p undef = .pointer (some ⟨g, 0, none⟩)) (hg : w.heap[g]? = some (.cells cs t fr))
    (hu : P.underlying ty = some d) (hd : (match d with | .struct _ | .array _ _ => true | _ => false) = true) (hi : (P.info? ty).map (·.size) = some cs.size) (v : Value) (hv : tmps.getD u undef = v) :
    (results fn tmps).run P w = .ok (.tuple #[.agg cs, v]) w := by
  rw [results_cell_tmp h, hp, hv]
  simp [asAddr, run_loadVar_row w g t ty cs fr d hg hu hd hi, Result.andThen]
set_option maxHeartbeats 8000000 in
theorem l02Renumber_any (A : Option Addr) (m c : Nat) (xss : List (List Int)) (A' : Option Addr) (n c' : Nat) (p : List Int) (w : World) {lo hi lo' hi' : Nat} (h : RS w lo hi A m xss) (hhi : hi ≤ w.heap.size) (h' : RI w lo' hi' A' n p) (hhi' : hi' ≤ w.heap.size) (hm5 : m ≤ 20) (hs : SysOf xss n) (hp : isPermP p) :
    Calls Try.prog 158 #[.agg #[.slice A m c], .slice A' n c'] w fun e w' => ∃ (A1 : Option Addr) (c1 : Nat), e = .returned (.agg #[.slice A1 m c1]) ∧ OwnS w' w.heap.size w'.heap.size 27 2 A1 m c1 (xss.map (renL p)) ∧ Below w.heap.size w w' := by
  obtain ⟨j0, hj0, hy0, hy1, hy2⟩ := info_parts infoI
  obtain ⟨s0, hs0, hu0, hu1, hu2⟩ := info_parts infoS
  have hl := h.len
  have hpl := h'.len
  have hnums := perm_nums hp hpl
  have hn4 := hp.le
  rw [hpl] at hn4
  replace hnums := Lib.hid hnums
  replace hp := Lib.hid hp
  replace hs := Lib.hid hs
  replace hpl := Lib.hid hpl
  go_enter Try.func158, Try.ntmps158
  go_wp2_with fail
  go_loopw [6] (fun kv wq => ∃ (k : Nat) (vs : List Value) (A2 : Option Addr) (c2 : Nat), k ≤ m ∧ vs.length = k ∧ kv = .int .i64 k ∧ wq.heap[w.heap.size]? = some (.cells #[.slice A m c] 40 (0, 0)) ∧ wq.heap[w.heap.size + 1]? = some (.cells #[.slice none 0 0] 40 (0, 0)) ∧ wq.heap[w.heap.size + 1 + 1]? = some (.cells #[.slice A2 k c2] 40 (0, 0)) ∧
      Own wq (w.heap.size + 3) wq.heap.size 27 A2 k c2 vs ∧ RowsOwn wq (w.heap.size + 3) wq.heap.size 2 vs ((xss.take k).map (renL p)) ∧ w.heap.size + 3 ≤ wq.heap.size ∧ Below w.heap.size w wq) (fun kv _ => m - (intOf kv).toNat)
  case atStart =>
    refine ⟨0, [], none, 0, by omega, rfl, rfl, ?_, ?_, ?_, Own.nil, by simpa using RowsOwn.nil, by simp, ?_⟩
    · exact ((Below.heap_alloc _ _ _ (by simp; omega)).trans (Below.heap_alloc _ _ _ (by simp))).trans (heap_new _ _ _ rfl)
    · exact (Below.heap_alloc _ _ _ (by simp)).trans (heap_new _ _ _ (by simp))
    · exact heap_new _ _ _ (by simp)
    · exact (((Below.refl _ _).alloc (Nat.le_refl _) _).alloc (by simp) _).alloc (by simp; omega) _
  case round =>
    obtain ⟨k, vs, A2, c2, hk, hvk, rfl, g0, g1, g9, ho9, hrows, hz9, hb9⟩ := hrel
    have C0 : wr.cell? ⟨w.heap.size, 0, none⟩ = some (.slice A m c) := by rw [cell_of_row _ _ _ _ _ _ g0]; rfl
    have C9 : wr.cell? ⟨w.heap.size + 1 + 1, 0, none⟩ = some (.slice A2 k c2) := by rw [cell_of_row _ _ _ _ _ _ g9]; rfl
    have F9 : wr.frozen? ⟨w.heap.size + 1 + 1, 0, none⟩ = false := frozen_of_row _ _ _ _ _ g9
    have hm1 := h.max
    have hn1 := h'.max
    by_cases hkm : k < m
    · obtain ⟨bb, oo, Ak, nk, ck, M, rfl, _, _, hM, hMc, hMr⟩ := (h.below hb9 hhi).at_ hkm
      have hMm := mem_of_get? hM
      obtain ⟨hM0, hMn, hMl⟩ := hs.out M hMm
      have hnk := hMr.len
      have hkk : nk = n := by omega
      subst hkk
      have htk := take_succ_of hM
      replace hM := Lib.hid hM
      replace htk := Lib.hid htk
      replace hM0 := Lib.hid hM0
      replace hMl := Lib.hid hMl
      replace g0 := Lib.hid g0
      replace g1 := Lib.hid g1
      replace g9 := Lib.hid g9
      obtain ⟨wo, rfl⟩ : ∃ wo : World, wo = wr := ⟨_, rfl⟩
      go_wp2_with (at_make; refine wpList_make_full _ rfl _ _ 27 rfl wo.heap.size 2 j0 (.int .i64 0) 1 Try.underlying27 hj0 hy0 hy1 _ _ _ _ nk rfl rfl rfl rfl ?c1 ?c2 (Nat.le_refl _) ?_)
      case c1 => rw [hy2]; omega
      case c2 => simp only [maxLen]; omega
      intro w2 hown hg
      have B2 : Below wo.heap.size wo w2 := (Below.refl _ _).grown hg (Nat.le_refl _) (by simp)
      have z2 : wo.heap.size < w2.heap.size := (hown.lt wo.heap.size (by simp [Value.ownBlock])).2
      have o6 : Own w2 wo.heap.size w2.heap.size 2 (some ⟨wo.heap.size, 0, none⟩) nk nk ((List.replicate nk 0).map (Value.int .i64)) := by
        have := Own.of_row hown
        simpa [toList_madeCells_one, Value.cells] using this
      clear hown hg
      go_wp2_with fail
      go_loopw [8] (fun kv wq => ∃ (f : Nat) (mv : List Int), f ≤ nk ∧ kv = .int .i64 f ∧ Hid (RenI p M nk f mv) ∧ Own wq wo.heap.size w2.heap.size 2 (some ⟨wo.heap.size, 0, none⟩) nk nk (mv.map (Value.int .i64)) ∧ w2.heap.size ≤ wq.heap.size ∧ Below wo.heap.size wo wq) (fun kv _ => nk - (intOf kv).toNat)
      case atStart => exact ⟨0, _, by omega, rfl, Lib.hid (RenI.zero p M nk), o6, Nat.le_refl _, B2⟩
      case round =>
        clear o6 B2
        obtain ⟨f, mv, hf, rfl, hmv, ho6, hz6, hb6⟩ := hrel
        have hbw := hb9.trans (hb6.mono (by omega))
        by_cases hlt : f < nk
        · have C0' := (hb6.cell (p := ⟨w.heap.size, 0, none⟩) (by simp; omega)).trans C0
          have hMc' := (hb6.cell (p := ⟨bb, oo + k, none⟩) (by simp; omega)).trans hMc
          obtain ⟨bp, oq, v, rfl, _, _, hv, hvc⟩ := (hMr.below hb6 (by omega)).at_ hlt
          have hva : at' M f = v := by unfold at'; rw [Int.toNat_natCast]; exact getD_some hv
          obtain ⟨hv0, hv1⟩ := hM0.out v (mem_of_get? hv)
          obtain ⟨v, rfl⟩ : ∃ q : Nat, v = q := ⟨v.toNat, by omega⟩
          have hvn : v < nk := by omega
          obtain ⟨b7, o7, g, rfl, _, _, hg, hgc⟩ := (h'.below hbw hhi').at_ hlt
          have hgr := hp.out.rng g (mem_of_get? hg)
          rw [hpl.out] at hgr
          obtain ⟨g, rfl⟩ : ∃ q : Nat, g = q := ⟨g.toNat, by omega⟩
          have hgn : g < nk := by omega
          obtain ⟨b8, o8, u, e8, _, _, hu, huc⟩ := (h'.below hbw hhi').at_ hvn
          injection e8 with e8
          injection e8 with e1 e2 _
          subst e1; subst e2
          have hua : at' p v = u := by unfold at'; rw [Int.toNat_natCast]; exact getD_some hu
          have hst := hmv.out.step hp.out.nd hnums.out hg hgn
          rw [hva, hua] at hst
          have hcm := ho6.cellI (hmv.out.2 g hgn)
          have hfm := ho6.frz g
          replace hst := Lib.hid hst
          replace hg := Lib.hid hg
          replace hv := Lib.hid hv
          replace hu := Lib.hid hu
          replace hva := Lib.hid hva
          replace hua := Lib.hid hua
          generalize (if p.idxOf (g : Int) < f then at' p (at' M (p.idxOf (g : Int) : Int)) else 0) = old at *
          go_wp2_with fail
          go_region
          go_wp2_with fail
          go_roundw
          case measure => simp [intOf]; omega
          case rel => exact ⟨f + 1, mv.set g u, by omega, by go_num, hst, (ho6.setI u).keep (fun _ _ _ => rfl), by simp; omega, below_drew (hb6.setCell (p := ⟨wo.heap.size, g, none⟩) (by simp) _)⟩
        · have hfn : f = nk := by omega
          subst hfn
          have hmf := hmv.out.end_ hpl.out hnums.out
          have g9' := (hb6.block (w.heap.size + 1 + 1) (by omega)).trans g9.out
          have C9' : wr.cell? ⟨w.heap.size + 1 + 1, 0, none⟩ = some (.slice A2 k c2) := by rw [cell_of_row _ _ _ _ _ _ g9']; rfl
          have F9' : wr.frozen? ⟨w.heap.size + 1 + 1, 0, none⟩ = false := frozen_of_row _ _ _ _ _ g9'
          have ho9' := ho9.below hb6 (Nat.le_refl _)
          have hrows' := hrows.keep (Same.of_below hb6 (Nat.le_refl _))
          replace g9' := Lib.hid g9'
          replace hmf := Lib.hid hmf
          go_wp2_with (at_builtin; refine wpList_append1 wr rfl (.tmp 44) (.tmp 46) 24 rfl (w.heap.size + 3) 27 s0 (.slice none 0 0) 24 Try.underlying24 hs0 hu0 hu1 hu2 rfl (by omega) A2 k c2 _ (.slice (some ⟨wo.heap.size, 0, none⟩) f f) rfl ho9'.1 _ rfl rfl rfl (by omega) (by omega) ?_)
          intro g4 c4 w5 ho5 hg5 hlo5 hlt5 hor5
          have g5 := (hg5.block (w.heap.size + 1 + 1) (by omega) (fun e => by have := (ho9'.1.lt _ e.symm).1; omega)).trans g9'.out
          have C5 : w5.cell? ⟨w.heap.size + 1 + 1, 0, none⟩ = some (.slice A2 k c2) := by rw [cell_of_row _ _ _ _ _ _ g5]; rfl
          have F5 : w5.frozen? ⟨w.heap.size + 1 + 1, 0, none⟩ = false := frozen_of_row _ _ _ _ _ g5
          have hrw5 := (hrows'.kept_ty ho9'.1 (by decide) hg5).snoc (ho6.kept_ty ho9'.1 (by decide) hg5) (by omega) (by omega)
          have hz5 := hg5.size
          have hb5 : Below w.heap.size w w5 := hbw.grown hg5 (by omega) (fun q hq => by have := (ho9'.1.lt q hq).1; omega)
          have g05 := (hg5.block w.heap.size (by omega) (fun e => by have := (ho9'.1.lt _ e.symm).1; omega)).trans ((hb6.block w.heap.size (by omega)).trans g0.out)
          have g15 := (hg5.block (w.heap.size + 1) (by omega) (fun e => by have := (ho9'.1.lt _ e.symm).1; omega)).trans ((hb6.block (w.heap.size + 1) (by omega)).trans g1.out)
          have ho5' := Own.of_row ho5
          replace g5 := Lib.hid g5
          replace g05 := Lib.hid g05
          replace g15 := Lib.hid g15
          clear C9 F9 C9' F9' ho9 ho9' hrows hrows' hg5 ho5
          go_wp2_with fail
          go_roundw
          case measure => simp [intOf]; omega
          case rel =>
            refine ⟨k + 1, vs ++ [.slice (some ⟨wo.heap.size, 0, none⟩) f f], _, c4, by omega, by simp; omega, by go_num, ?_, ?_, ?_, (ho5'.far (.inl (by simp)) _).more (Nat.le_refl _) (by simp), ?_, by simp; omega, hb5.setCell (by simp; omega) _⟩
            · exact (heap_setCell_other _ _ _ _ (by simp; omega)).trans g05.out
            · exact (heap_setCell_other _ _ _ _ (by simp)).trans g15.out
            · have := heap_setCell_same _ _ 0 _ _ (Value.slice (some ⟨g4, 0, none⟩) (k + 1) c4) g5.out
              simpa using this
            · rw [htk.out, List.map_append, List.map_singleton, ← hmf.out]
              exact (hrw5.keep (same_set _ _ _ _ _ (.inl (by simp)))).more (Nat.le_refl _) (by simp; omega)
    · have hkm' : k = m := by omega
      subst hkm'
      have C1 : wr.cell? ⟨w.heap.size + 1, 0, none⟩ = some (.slice none 0 0) := by rw [cell_of_row _ _ _ _ _ _ g1]; rfl
      have F1 : wr.frozen? ⟨w.heap.size + 1, 0, none⟩ = false := frozen_of_row _ _ _ _ _ g1
      replace g1 := Lib.hid g1
      replace g9 := Lib.hid g9
      replace g0 := Lib.hid g0
      go_wp2_with fail
      have g2 := heap_setCell_same _ _ 0 _ _ (Value.slice A2 k c2) g1.out
      (try simp only [Exit.inBlock, Exit.then])
      refine bodyPost_ret (v := .agg #[.slice A2 k c2]) ?_ rfl ?_
      · exact results_cell_row rfl _ _ (w.heap.size + 1) 40 #[.slice A2 k c2] (0, 0) _ rfl (by simpa using g2) Try.underlying40 rfl (by kernel_rfl)
      · have e : xss.take k = xss := List.take_of_length_le (by omega)
        rw [e] at hrows
        refine ⟨A2, c2, rfl, ⟨vs, ?_, ?_⟩, hb9.setCell (by simp) _⟩
        · exact (ho9.keep (same_set _ _ _ _ _ (.inl (by simp)))).more (by omega) (by simp)
        · exact (hrows.keep (same_set _ _ _ _ _ (.inl (by simp)))).more (by omega) (by simp)
end Go.Proofs.Ytdaljeghdiknpaa
/- Row -/
namespace Go.Proofs.Ytdaljeghdiknpaa
open Go.RowKit
set_option linter.unusedVariables false
set_option maxRecDepth 100000
/-- one row has got one more -/
theorem RowsOwn.app {w w' : World} {lo hi i n c g c' : Nat} {T : TypeId} {A : Option Addr} {vs : List Value} {xss : List (List Int)} {ys : List Int} {x : Int} (h : RowsOwn w lo hi T vs xss) (hv : vs[i]? = some (.slice A n c)) (hy : xss[i]? = some ys)
    (ho : w'.ownsRow lo T 1 (.slice (some ⟨g, 0, none⟩) (n + 1) c') (n + 1) ((ys ++ [x]).map (Value.int .i64))) (hg : w.grownBy w' (Value.slice A n c).ownBlock) (hor : (Value.slice A n c).ownBlock = some g ∨ hi ≤ g) (hh : hi ≤ w'.heap.size) :
    RowsOwn w' lo w'.heap.size T (vs.set i (.slice (some ⟨g, 0, none⟩) (n + 1) c')) (xss.set i (ys ++ [x])) := by
  have hil : i < vs.length := (List.getElem?_eq_some_iff.1 hv).1
  have hix : i < xss.length := by have := h.1; omega
  have hblk : ∀ (k : Nat) (v : Value), vs[k]? = some v → ∀ q, v.ownBlock = some q → lo ≤ q ∧ q < hi := by
    intro k v hk q hq
    have hkl : k < xss.length := by have := (List.getElem?_eq_some_iff.1 hk).1; have := h.1; omega
    obtain ⟨A1, n1, c1, rfl, hr⟩ := h.2.2 k v _ hk (List.getElem?_eq_getElem hkl)
    refine ⟨(hr.1.lt q hq).1, ?_⟩
    rcases A1 with _ | ad
    · simp [Value.ownBlock] at hq
    · have := hr.2 ad rfl; simp [Value.ownBlock] at hq; omega
  have hfar : ∀ (k : Nat) (v : Value), vs[k]? = some v → k ≠ i → v.ownBlock ≠ some g := by
    intro k v hk hne hq
    rcases hor with hA | hge
    · obtain ⟨hkl, hkv⟩ := List.getElem?_eq_some_iff.1 hk
      obtain ⟨_, hiv⟩ := List.getElem?_eq_some_iff.1 hv
      have hp := List.pairwise_iff_getElem.1 h.2.1
      rcases Nat.lt_or_gt_of_ne hne with hlt | hlt
      · have := hp k i hkl hil hlt
        rw [hkv, hiv] at this
        exact this g hq hA
      · have := hp i k hil hkl hlt
        rw [hkv, hiv] at this
        exact this g hA hq
    · have := hblk k v hk g hq; omega
  refine ⟨by simp [h.1], ?_, fun k v xs h1 h2 => ?_⟩
  · rw [List.pairwise_iff_getElem]
    intro a b ha hb hab
    simp at ha hb
    have hp := List.pairwise_iff_getElem.1 h.2.1
    rw [List.getElem_set, List.getElem_set]
    by_cases e1 : i = a
    · rw [if_pos e1, if_neg (by omega)]
      intro q hq hq2
      simp [Value.ownBlock] at hq
      subst hq
      exact hfar b _ (List.getElem?_eq_getElem hb) (by omega) hq2
    · rw [if_neg e1]
      by_cases e2 : i = b
      · rw [if_pos e2]
        intro q hq hq2
        simp [Value.ownBlock] at hq2
        subst hq2
        exact hfar a _ (List.getElem?_eq_getElem ha) (by omega) hq
      · rw [if_neg e2]
        exact hp a b ha hb hab
  · rw [List.getElem?_set] at h1 h2
    by_cases e : i = k
    · subst e
      rw [if_pos rfl, if_pos hil] at h1
      rw [if_pos rfl, if_pos hix] at h2
      have e1 := Option.some.inj h1
      have e2 := Option.some.inj h2
      subst e1; subst e2
      refine ⟨_, _, _, rfl, ho, fun a ha => ?_⟩
      injection ha with ha
      subst ha
      exact (ho.lt g (by simp [Value.ownBlock])).2
    · rw [if_neg e] at h1 h2
      obtain ⟨A1, n1, c1, rfl, hr⟩ := h.2.2 k v xs h1 h2
      refine ⟨A1, n1, c1, rfl, hr.1.kept hg ?_, fun a ha => by have := hr.2 a ha; omega⟩
      cases hq : (Value.slice A1 n1 c1).ownBlock with
      | none => exact .inl rfl
      | some q =>
        refine .inr fun hx => ?_
        obtain ⟨hkl, hkv⟩ := List.getElem?_eq_some_iff.1 h1
        obtain ⟨_, hiv⟩ := List.getElem?_eq_some_iff.1 hv
        have hp := List.pairwise_iff_getElem.1 h.2.1
        rcases Nat.lt_or_gt_of_ne e with hlt | hlt
        · have := hp i k hil hkl hlt
          rw [hiv, hkv] at this
          exact this q hx.symm hq
        · have := hp k i hkl hil hlt
          rw [hiv, hkv] at this
          exact this q hq hx.symm
theorem a3_0 (W : World) (a b c : Obj) (N : Nat) (h : N = W.heap.size) : (((W.alloc a).alloc b).alloc c).drew.heap[N]? = some a :=
  ((Below.heap_alloc ((W.alloc a).alloc b) c N (by simp; omega)).trans (Below.heap_alloc (W.alloc a) b N (by simp; omega))).trans (heap_new W a N h)
theorem a3_1 (W : World) (a b c : Obj) (N : Nat) (h : N = W.heap.size) : (((W.alloc a).alloc b).alloc c).drew.heap[N + 1]? = some b :=
  (Below.heap_alloc ((W.alloc a).alloc b) c (N + 1) (by simp; omega)).trans (heap_new (W.alloc a) b (N + 1) (by simp; omega))
theorem a3_2 (W : World) (a b c : Obj) (N : Nat) (h : N = W.heap.size) : (((W.alloc a).alloc b).alloc c).drew.heap[N + 1 + 1]? = some c :=
  heap_new ((W.alloc a).alloc b) c (N + 1 + 1) (by simp; omega)
theorem made_own {w : World} {base g n : Nat} {e : TypeId} {z : Value} (hz : z.cells = #[z]) (h : w.heap[g]? = some (.cells (madeCells #[z] n) e (0, 0))) (hb : base ≤ g) (hn : n ≤ maxLen) : w.ownsRow base e 1 (.slice (some ⟨g, 0, none⟩) n n) n (List.replicate n z) := by
  refine blk_own (vs := List.replicate n z) ?_ (by simp) hb hn
  have : madeCells #[z] n = (List.replicate n z).toArray := by
    have := toList_madeCells_one z n
    rw [← this]
  rw [h, this]
theorem cell_far_set (w : World) (p : Addr) (v : Value) (a : Addr) (h : a.block ≠ p.block) : (w.setCell p v).cell? a = w.cell? a := World.cell?_of_block (Below.heap_setCell w p v a.block h)
theorem RowsOwn.nils (w : World) (lo hi : Nat) (T : TypeId) (n : Nat) {f : Nat → List Int} (h : ∀ j, j < n → f j = []) : RowsOwn w lo hi T (List.replicate n (.slice none 0 0)) ((List.range n).map f) := by
  refine ⟨by simp, ?_, fun k v xs h1 h2 => ?_⟩
  · rw [List.pairwise_iff_getElem]
    intro a b ha hb hab
    simp only [List.getElem_replicate]
    intro q hq
    simp [Value.ownBlock] at hq
  · obtain ⟨hk, e1⟩ := List.getElem?_eq_some_iff.1 h1
    simp at hk e1
    simp [hk] at h2
    subst e1
    rw [← h2, h k hk]
    exact ⟨_, _, _, rfl, Own.nil⟩
theorem own_lit0 (w : World) (T : TypeId) {lo : Nat} (hlo : lo ≤ w.heap.size) : Own (w.alloc (.cells #[] T)) lo (w.heap.size + 1) T (some ⟨w.heap.size, 0, none⟩) 0 0 [] := by
  have h0 := World.ownsRow_lit (e := T) (base := lo) (size := 1) w #[] 0 hlo (by omega) rfl
  have h1 := Own.of_row h0
  simpa using h1
theorem RowsOwn.kept_apart {w w' : World} {lo hi : Nat} {T : TypeId} {vs : List Value} {xss : List (List Int)} {row : Option Nat} (h : RowsOwn w lo hi T vs xss) (hg : w.grownBy w' row) (ha : ∀ v ∈ vs, ∀ z, row = some z → v.ownBlock ≠ some z) : RowsOwn w' lo hi T vs xss := by
  refine ⟨h.1, h.2.1, fun k v xs h1 h2 => ?_⟩
  obtain ⟨A, n, c, rfl, hr⟩ := h.2.2 k v xs h1 h2
  refine ⟨A, n, c, rfl, hr.1.kept hg ?_, hr.2⟩
  cases hv : (Value.slice A n c).ownBlock with
  | none => exact .inl rfl
  | some z => exact .inr (fun hx => ha _ (mem_of_get? h1) z hx.symm hv)
theorem RowsOwn.block_lt {w : World} {lo hi : Nat} {T : TypeId} {vs : List Value} {xss : List (List Int)} (h : RowsOwn w lo hi T vs xss) {v : Value} (hv : v ∈ vs) {z : Nat} (hz : v.ownBlock = some z) : z < hi := by
  obtain ⟨k, hk⟩ := List.mem_iff_getElem?.1 hv
  have hkl : k < xss.length := by have := (List.getElem?_eq_some_iff.1 hk).1; have := h.1; omega
  obtain ⟨A, n, c, rfl, hr⟩ := h.2.2 k v _ hk (List.getElem?_eq_getElem hkl)
  rcases A with _ | ad
  · simp [Value.ownBlock] at hz
  · have := hr.2 ad rfl; simp [Value.ownBlock] at hz; omega
theorem own_lit3 (w : World) (T : TypeId) (x y z : Int) {lo : Nat} (hlo : lo ≤ w.heap.size) : Own (w.alloc (.cells #[.int .i64 x, .int .i64 y, .int .i64 z] T)) lo (w.heap.size + 1) T (some ⟨w.heap.size, 0, none⟩) 3 3 ([x, y, z].map (Value.int .i64)) := by
  have h0 := World.ownsRow_lit (e := T) (base := lo) (size := 1) w #[.int .i64 x, .int .i64 y, .int .i64 z] 3 hlo (by simp only [maxLen]; omega) rfl
  have h1 := Own.of_row h0
  simpa using h1
end Go.Proofs.Ytdaljeghdiknpaa
/- Ply -/
namespace Go.Proofs.Ytdaljeghdiknpaa
open Go.RowKit
set_option linter.unusedVariables false
set_option maxRecDepth 100000
/-- a row that is being filled -/
def fillL (g : Nat → Int) (N k : Nat) : List Int := (List.range N).map fun f => if f < k then g f else 0
theorem fillL_length (g : Nat → Int) (N k : Nat) : (fillL g N k).length = N := by simp [fillL]
theorem fillL_zero (g : Nat → Int) (N : Nat) : fillL g N 0 = List.replicate N 0 := by
  apply List.ext_getElem
  · simp [fillL]
  · intro i h1 h2; simp [fillL]
theorem fillL_get (g : Nat → Int) {N k j : Nat} (h : j < N) : (fillL g N k)[j]? = some (if j < k then g j else 0) := by simp [fillL, h]
theorem fillL_set (g : Nat → Int) {N k : Nat} (h : k < N) : (fillL g N k).set k (g k) = fillL g N (k + 1) := by
  apply List.ext_getElem?
  intro i
  rw [List.getElem?_set]
  by_cases e : k = i
  · subst e
    rw [if_pos rfl, if_pos (by rw [fillL_length]; exact h), fillL_get g h, if_pos (by omega)]
  · rw [if_neg e]
    by_cases hi : i < N
    · rw [fillL_get g hi, fillL_get g hi]
      by_cases hk : i < k
      · rw [if_pos hk, if_pos (by omega)]
      · rw [if_neg hk, if_neg (by omega)]
    · rw [List.getElem?_eq_none (by rw [fillL_length]; omega), List.getElem?_eq_none (by rw [fillL_length]; omega)]
theorem fillL_full (g : Nat → Int) (N : Nat) : fillL g N N = (List.range N).map g := by
  unfold fillL
  apply List.map_congr_left
  intro j hj
  rw [if_pos (List.mem_range.1 hj)]
/-- the two rows of a polygon of N flags -/
def plyA (f : Nat) : Int := if f % 2 = 0 then (f : Int) + 1 else (f : Int) - 1
def plyB (N f : Nat) : Int := if f % 2 = 0 then (((f + N - 1) % N : Nat) : Int) else (((f + 1) % N : Nat) : Int)
theorem fun_perm {N : Nat} {g : Nat → Int} (hr : ∀ f, f < N → 0 ≤ g f ∧ g f < N) (hi : ∀ f h, f < N → h < N → g f = g h → f = h) : (∀ x ∈ (List.range N).map g, 0 ≤ x ∧ x < N) ∧ ((List.range N).map g).Nodup ∧ ((List.range N).map g).length = N := by
  refine ⟨?_, ?_, by simp⟩
  · intro x hx
    obtain ⟨f, hf, rfl⟩ := List.mem_map.1 hx
    exact hr f (List.mem_range.1 hf)
  · rw [List.nodup_iff_pairwise_ne, List.pairwise_map]
    refine List.Pairwise.imp_of_mem ?_ List.pairwise_lt_range
    intro a b ha hb hab e
    have := hi a b (List.mem_range.1 ha) (List.mem_range.1 hb) e
    omega
theorem mod_cases {a N : Nat} (hN : 0 < N) (h : a < 2 * N) : (a < N ∧ a % N = a) ∨ (N ≤ a ∧ a % N = a - N) := by
  rcases Nat.lt_or_ge a N with g | g
  · exact .inl ⟨g, Nat.mod_eq_of_lt g⟩
  · exact .inr ⟨g, by rw [Nat.mod_eq_sub_mod g, Nat.mod_eq_of_lt (by omega)]⟩
theorem ply_sys {k : Nat} (hk : 1 ≤ k) : SysOf [(List.range (2 * k)).map plyA, (List.range (2 * k)).map (plyB (2 * k))] (2 * k) := by
  intro p hp
  simp only [List.mem_cons, List.not_mem_nil, or_false] at hp
  rcases hp with rfl | rfl
  · refine fun_perm (fun f hf => ?_) (fun f h hf hh e => ?_)
    · unfold plyA
      by_cases g : f % 2 = 0
      · rw [if_pos g]; omega
      · rw [if_neg g]; omega
    · unfold plyA at e
      by_cases g : f % 2 = 0
      · rw [if_pos g] at e
        by_cases g2 : h % 2 = 0
        · rw [if_pos g2] at e; omega
        · rw [if_neg g2] at e; omega
      · rw [if_neg g] at e
        by_cases g2 : h % 2 = 0
        · rw [if_pos g2] at e; omega
        · rw [if_neg g2] at e; omega
  · refine fun_perm (fun f hf => ?_) (fun f h hf hh e => ?_)
    · unfold plyB
      have h1 := Nat.mod_lt (f + 2 * k - 1) (show 0 < 2 * k by omega)
      have h2 := Nat.mod_lt (f + 1) (show 0 < 2 * k by omega)
      by_cases g : f % 2 = 0
      · rw [if_pos g]; omega
      · rw [if_neg g]; omega
    · unfold plyB at e
      have a1 := mod_cases (a := f + 2 * k - 1) (N := 2 * k) (by omega) (by omega)
      have a2 := mod_cases (a := h + 2 * k - 1) (N := 2 * k) (by omega) (by omega)
      have a3 := mod_cases (a := f + 1) (N := 2 * k) (by omega) (by omega)
      have a4 := mod_cases (a := h + 1) (N := 2 * k) (by omega) (by omega)
      generalize (f + 2 * k - 1) % (2 * k) = u1 at *
      generalize (h + 2 * k - 1) % (2 * k) = u2 at *
      generalize (f + 1) % (2 * k) = u3 at *
      generalize (h + 1) % (2 * k) = u4 at *
      by_cases g : f % 2 = 0
      · rw [if_pos g] at e
        by_cases g2 : h % 2 = 0
        · rw [if_pos g2] at e; omega
        · rw [if_neg g2] at e; omega
      · rw [if_neg g] at e
        by_cases g2 : h % 2 = 0
        · rw [if_pos g2] at e; omega
        · rw [if_neg g2] at e; omega
theorem a2_0 (W : World) (a b : Obj) (N : Nat) (h : N = W.heap.size) : ((W.alloc a).alloc b).drew.heap[N]? = some a :=
  (Below.heap_alloc (W.alloc a) b N (by simp; omega)).trans (heap_new W a N h)
theorem a2_1 (W : World) (a b : Obj) (N : Nat) (h : N = W.heap.size) : ((W.alloc a).alloc b).drew.heap[N + 1]? = some b :=
  heap_new (W.alloc a) b (N + 1) (by simp; omega)
set_option maxHeartbeats 4000000 in
theorem l02Polygon_any (k : Nat) (hk : 1 ≤ k) (hk4 : 2 * k ≤ 400) (w : World) :
    Calls Try.prog 88 #[.int .i64 k] w fun e w' => ∃ (A1 : Option Addr) (c1 : Nat), e = .returned (.agg #[.slice A1 2 c1]) ∧ OwnS w' w.heap.size w'.heap.size 27 2 A1 2 c1 [(List.range (2 * k)).map plyA, (List.range (2 * k)).map (plyB (2 * k))] ∧ Below w.heap.size w w' := by
  obtain ⟨N, hN⟩ : ∃ N, 2 * k = N := ⟨_, rfl⟩
  rw [hN]
  have hk2 : (2 : Int) * (k : Int) = (N : Int) := by omega
  have mk1 := run_make_row' (P := Try.prog) 27 2 (.int .i64 0) 8 Try.underlying27 infoI rfl .i64 .i64 N (by omega) (by omega)
  go_enter Try.func88, Try.ntmps88
  go_wp2_with fail
  go_cut [4, 5] from 9 to 12 (fun s4 s5 wx => ∃ gA gB : Nat, s4 = .slice (some ⟨gA, 0, none⟩) N N ∧ s5 = .slice (some ⟨gB, 0, none⟩) N N ∧ gA ≠ gB ∧ w.heap.size + 1 ≤ gA ∧ w.heap.size + 1 ≤ gB ∧ Own wx gA (gA + 1) 2 (some ⟨gA, 0, none⟩) N N ((List.replicate N 0).map (Value.int .i64)) ∧ Own wx gB (gB + 1) 2 (some ⟨gB, 0, none⟩) N N ((List.replicate N 0).map (Value.int .i64)) ∧
    wx.heap[w.heap.size]? = some (.cells #[.slice none 0 0] 40 (0, 0)) ∧ Below w.heap.size w wx ∧ wx.heap.size = w.heap.size + 3)
  case first =>
    obtain ⟨W1, hW⟩ : ∃ W1 : World, w.alloc (.cells #[.slice none 0 0] 40) = W1 := ⟨_, rfl⟩
    have hz1 : W1.heap.size = w.heap.size + 1 := by rw [← hW]; simp
    have hB1 : Below w.heap.size w W1 := by rw [← hW]; exact (Below.refl _ _).alloc (Nat.le_refl _) _
    have p0 : W1.heap[w.heap.size]? = some (.cells #[.slice none 0 0] 40 (0, 0)) := by rw [← hW]; exact heap_new _ _ _ rfl
    rw [hW]
    clear hW
    go_region
    all_goals (go_wp2_with fail; go_meet)
    all_goals
      have hNN : w.heap.size + 1 = W1.heap.size := hz1.symm
      have hbb : ∀ a b : Obj, Below w.heap.size w ((W1.alloc a).alloc b).drew := fun a b => below_drew ((hB1.alloc (by omega) _).alloc (by simp; omega) _)
      have hpp : ∀ a b : Obj, ((W1.alloc a).alloc b).drew.heap[w.heap.size]? = some (.cells #[.slice none 0 0] 40 (0, 0)) := fun a b => ((Below.heap_alloc (W1.alloc a) b _ (by simp; omega)).trans (Below.heap_alloc W1 a _ (by omega))).trans p0
      have hml : N ≤ maxLen := by simp only [maxLen]; omega
      have q0 : ∀ b : Obj, Own ((W1.alloc (.cells (madeCells #[.int .i64 0] N) 2)).alloc b).drew (w.heap.size + 1) (w.heap.size + 1 + 1) 2 (some ⟨w.heap.size + 1, 0, none⟩) N N ((List.replicate N 0).map (Value.int .i64)) := fun b => ⟨by simpa using made_own rfl (a2_0 _ _ _ _ hNN) (Nat.le_refl _) hml, fun ad e => by injection e with e; subst e; simp⟩
      have q1 : ∀ a : Obj, Own ((W1.alloc a).alloc (.cells (madeCells #[.int .i64 0] N) 2)).drew (w.heap.size + 1 + 1) (w.heap.size + 1 + 1 + 1) 2 (some ⟨w.heap.size + 1 + 1, 0, none⟩) N N ((List.replicate N 0).map (Value.int .i64)) := fun b => ⟨by simpa using made_own rfl (a2_1 _ _ _ _ hNN) (Nat.le_refl _) hml, fun ad e => by injection e with e; subst e; simp⟩
      first
        | exact ⟨w.heap.size + 1, w.heap.size + 1 + 1, rfl, rfl, by omega, by omega, by omega, q0 _, q1 _, hpp _ _, hbb _ _, by simp; omega⟩
        | exact ⟨w.heap.size + 1 + 1, w.heap.size + 1, rfl, rfl, by omega, by omega, by omega, q1 _, q0 _, hpp _ _, hbb _ _, by simp; omega⟩
        | trace_state
  case rest =>
    obtain ⟨gA, gB, rfl, rfl, hAB, hA1, hB1, oA, oB, hO, hb, hsz⟩ := hcut
    clear mk1
    replace hO := Lib.hid hO
    go_wp2_with fail
    go_loopw [6] (fun fv wq => ∃ f : Nat, f ≤ N ∧ fv = .int .i64 f ∧ Hid (wq.heap[w.heap.size]? = some (.cells #[.slice none 0 0] 40 (0, 0))) ∧ Own wq gA (gA + 1) 2 (some ⟨gA, 0, none⟩) N N ((fillL plyA N f).map (Value.int .i64)) ∧ Own wq gB (gB + 1) 2 (some ⟨gB, 0, none⟩) N N ((fillL (plyB N) N f).map (Value.int .i64)) ∧ Below w.heap.size w wq ∧ wq.heap.size = w.heap.size + 3) (fun fv _ => N - (intOf fv).toNat)
    case atStart => exact ⟨0, by omega, rfl, hO, by rw [fillL_zero]; exact oA, by rw [fillL_zero]; exact oB, hb, hsz⟩
    case round =>
      clear oA oB hO hb hsz
      obtain ⟨f, hf, rfl, hO, oA, oB, hb, hsz⟩ := hrel
      by_cases hlt : f < N
      · have hcA := oA.cellI (fillL_get plyA hlt)
        have hcB := oB.cellI (fillL_get (plyB N) hlt)
        rw [if_neg (by omega)] at hcA hcB
        have hfA := oA.frz f
        have hfB := oB.frz f
        have hsA := fillL_set plyA hlt
        have hsB := fillL_set (plyB N) hlt
        have hpos : (0 : Int) < (N : Int) := by omega
        have hN0 : ¬ N = 0 := by omega
        have hcB2 : ∀ u, (wr.setCell ⟨gA, f, none⟩ u).cell? ⟨gB, f, none⟩ = some (.int .i64 0) := fun u => (cell_far_set _ _ _ _ (by simp; omega)).trans hcB
        by_cases he : f % 2 = 0
        · have hi0 : ¬ f % 2 = 1 := by omega
          have htm : Int.tmod (f : Int) 2 = ((f % 2 : Nat) : Int) := rfl
          rw [he] at htm
          have hpa : plyA f = (f : Int) + 1 := by unfold plyA; rw [if_pos he]
          obtain ⟨r, hrr, htb⟩ : ∃ r : Nat, plyB N f = (r : Int) ∧ Int.tmod ((f : Int) + (N : Int) - 1) (N : Int) = (r : Int) := ⟨(f + N - 1) % N, by unfold plyB; rw [if_pos he], by rw [show ((f : Int) + (N : Int) - 1 : Int) = (((f + N - 1) : Nat) : Int) by omega]; rfl⟩
          rw [hpa] at hsA
          rw [hrr] at hsB
          replace hsA := Lib.hid hsA
          replace hsB := Lib.hid hsB
          replace hpa := Lib.hid hpa
          replace hrr := Lib.hid hrr
          go_wp2_with fail
          go_roundw
          case measure => simp [intOf]; omega
          case rel =>
            refine ⟨f + 1, by omega, by go_num, Lib.hid ?_, ?_, ?_, (hb.setCell (by simp; omega) _).setCell (by simp; omega) _, by simp; omega⟩
            · exact ((Below.heap_setCell _ _ _ _ (by simp; omega)).trans (Below.heap_setCell _ _ _ _ (by simp; omega))).trans hO.out
            · rw [← hsA.out]
              exact (oA.setI _).far (by simp; omega) _
            · rw [← hsB.out]
              exact (oB.far (by simp; omega) _).setI _
        · have he1 : f % 2 = 1 := by omega
          have htm : Int.tmod (f : Int) 2 = ((f % 2 : Nat) : Int) := rfl
          rw [he1] at htm
          have hpa : plyA f = (f : Int) - 1 := by unfold plyA; rw [if_neg he]
          obtain ⟨r, hrr, htb⟩ : ∃ r : Nat, plyB N f = (r : Int) ∧ Int.tmod ((f : Int) + 1) (N : Int) = (r : Int) := ⟨(f + 1) % N, by unfold plyB; rw [if_neg he], by rw [show ((f : Int) + 1 : Int) = (((f + 1) : Nat) : Int) by omega]; rfl⟩
          rw [hpa] at hsA
          rw [hrr] at hsB
          replace hsA := Lib.hid hsA
          replace hsB := Lib.hid hsB
          replace hpa := Lib.hid hpa
          replace hrr := Lib.hid hrr
          go_wp2_with fail
          go_roundw
          case measure => simp [intOf]; omega
          case rel =>
            refine ⟨f + 1, by omega, by go_num, Lib.hid ?_, ?_, ?_, (hb.setCell (by simp; omega) _).setCell (by simp; omega) _, by simp; omega⟩
            · exact ((Below.heap_setCell _ _ _ _ (by simp; omega)).trans (Below.heap_setCell _ _ _ _ (by simp; omega))).trans hO.out
            · rw [← hsA.out]
              exact (oA.setI _).far (by simp; omega) _
            · rw [← hsB.out]
              exact (oB.far (by simp; omega) _).setI _
      · have hfN : f = N := by omega
        subst hfN
        rw [fillL_full] at oA oB
        have C1 : wr.cell? ⟨w.heap.size, 0, none⟩ = some (.slice none 0 0) := by rw [cell_of_row _ _ _ _ _ _ hO.out]; rfl
        have F1 : wr.frozen? ⟨w.heap.size, 0, none⟩ = false := frozen_of_row _ _ _ _ _ hO.out
        go_wp2_with fail
        have zw : (wr.setCell ⟨w.heap.size, 0, none⟩ (.slice (some ⟨w.heap.size + 3, 0, none⟩) 2 2)).heap.size = w.heap.size + 3 := by simp; omega
        have h0 := World.ownsRow_lit (e := 27) (base := w.heap.size) (size := 1) (wr.setCell ⟨w.heap.size, 0, none⟩ (.slice (some ⟨w.heap.size + 3, 0, none⟩) 2 2)) #[.slice (some ⟨gA, 0, none⟩) f f, .slice (some ⟨gB, 0, none⟩) f f] 2 (by rw [zw]; omega) (by simp only [maxLen]; omega) rfl
        rw [zw] at h0
        have oA2 := (oA.keep (same_set wr ⟨w.heap.size, 0, none⟩ (.slice (some ⟨w.heap.size + 3, 0, none⟩) 2 2) _ _ (.inl (by simp; omega)))).keep (same_alloc _ (.cells #[.slice (some ⟨gA, 0, none⟩) f f, .slice (some ⟨gB, 0, none⟩) f f] 27) _ _ (by rw [zw]; have := oA.1.lt gA (by simp [Value.ownBlock]); omega))
        have oB2 := (oB.keep (same_set wr ⟨w.heap.size, 0, none⟩ (.slice (some ⟨w.heap.size + 3, 0, none⟩) 2 2) _ _ (.inl (by simp; omega)))).keep (same_alloc _ (.cells #[.slice (some ⟨gA, 0, none⟩) f f, .slice (some ⟨gB, 0, none⟩) f f] 27) _ _ (by rw [zw]; have := oB.1.lt gB (by simp [Value.ownBlock]); omega))
        have lA := oA.1.lt gA (by simp [Value.ownBlock])
        have lB := oB.1.lt gB (by simp [Value.ownBlock])
        have g1 := heap_setCell_same _ _ 0 _ _ (Value.slice (some ⟨w.heap.size + 3, 0, none⟩) 2 2) hO.out
        have g2 := (Below.heap_alloc (wr.setCell ⟨w.heap.size, 0, none⟩ (.slice (some ⟨w.heap.size + 3, 0, none⟩) 2 2)) (.cells #[.slice (some ⟨gA, 0, none⟩) f f, .slice (some ⟨gB, 0, none⟩) f f] 27) w.heap.size (by rw [zw]; omega)).trans g1
        (try simp only [Exit.inBlock, Exit.then])
        refine bodyPost_ret (v := .agg #[.slice (some ⟨w.heap.size + 3, 0, none⟩) 2 2]) ?_ rfl ?_
        · exact results_cell_row rfl _ _ w.heap.size 40 #[.slice (some ⟨w.heap.size + 3, 0, none⟩) 2 2] (0, 0) _ rfl (by simpa using g2) Try.underlying40 rfl (by kernel_rfl)
        · refine ⟨_, 2, rfl, ⟨[.slice (some ⟨gA, 0, none⟩) f f, .slice (some ⟨gB, 0, none⟩) f f], ⟨h0, fun ad e => by injection e with e; subst e; simp; omega⟩, by simp, ?_, ?_⟩, (hb.setCell (by simp) _).alloc (by rw [zw]; omega) _⟩
          · simp only [List.pairwise_cons, List.mem_singleton, forall_eq, List.not_mem_nil, false_implies, implies_true, List.Pairwise.nil, and_true]
            intro g e1 e2
            simp [Value.ownBlock] at e1 e2
            omega
          · intro j v xs h1 h2
            match j, h1, h2 with
            | 0, h1, h2 =>
              simp at h1 h2
              subst h1; subst h2
              exact ⟨_, _, _, rfl, oA2.more (by omega) (by simp; omega)⟩
            | 1, h1, h2 =>
              simp at h1 h2
              subst h1; subst h2
              exact ⟨_, _, _, rfl, oB2.more (by omega) (by simp; omega)⟩
            | j + 2, h1, h2 => simp at h1
end Go.Proofs.Ytdaljeghdiknpaa
/- LcgP -/
namespace Go.Proofs.Ytdaljeghdiknpaa
set_option linter.unusedVariables false
set_option maxRecDepth 100000
def lcgA : Nat := 6364136223846793005
def lcgC : Nat := 1442695040888963407
def lcg (h : Nat) : Nat := (h * lcgA + lcgC) % 18446744073709551616
def lcgN : Nat → Nat → Nat
  | 0, h => h
  | d + 1, h => lcg (lcgN d h)
/-- 1 + a + .. + a^(d-1) -/
def geo : Nat → Nat
  | 0 => 0
  | d + 1 => lcgA * geo d + 1
theorem geo_pow (d : Nat) : (lcgA - 1) * geo d + 1 = lcgA ^ d := by
  induction d with
  | zero => rfl
  | succ d ih =>
    rw [Nat.pow_succ, ← ih]
    have : lcgA = (lcgA - 1) + 1 := rfl
    generalize lcgA - 1 = b at *
    rw [show geo (d + 1) = lcgA * geo d + 1 from rfl, this]
    generalize geo d = g
    rw [Nat.mul_add, Nat.add_mul, Nat.add_mul, Nat.mul_add, Nat.mul_add]
    simp only [Nat.one_mul, Nat.mul_one]
    rw [Nat.mul_comm (b * g) b, ]
    omega
theorem geo_add (d e : Nat) : geo (d + e) = lcgA ^ e * geo d + geo e := by
  induction e with
  | zero => simp [geo]
  | succ e ih =>
    rw [show d + (e + 1) = (d + e) + 1 by omega, show geo (d + e + 1) = lcgA * geo (d + e) + 1 from rfl, ih, show geo (e + 1) = lcgA * geo e + 1 from rfl, Nat.pow_succ, Nat.mul_add]
    rw [← Nat.mul_assoc, Nat.mul_comm lcgA (lcgA ^ e)]
    omega
theorem geo_double (e : Nat) : geo (2 * e) = geo e * (lcgA ^ e + 1) := by
  rw [show 2 * e = e + e by omega, geo_add, Nat.mul_add, Nat.mul_one, Nat.mul_comm]
theorem pow_mod4 (e : Nat) : lcgA ^ e % 4 = 1 := by
  induction e with
  | zero => rfl
  | succ e ih => rw [Nat.pow_succ, Nat.mul_mod, ih]; rfl
theorem geo_mod2 (d : Nat) : geo d % 2 = d % 2 := by
  induction d with
  | zero => rfl
  | succ d ih =>
    rw [show geo (d + 1) = lcgA * geo d + 1 from rfl]
    have : lcgA % 2 = 1 := rfl
    have h2 : (lcgA * geo d) % 2 = geo d % 2 := by rw [Nat.mul_mod, this, Nat.one_mul, Nat.mod_mod]
    omega
theorem dvd_odd (k x y : Nat) (hy : y % 2 = 1) (h : 2 ^ k ∣ x * y) : 2 ^ k ∣ x := by
  have hc : Nat.Coprime (2 ^ k) y := by
    apply Nat.Coprime.pow_left
    unfold Nat.Coprime
    have h1 : Nat.gcd 2 y ∣ 2 := Nat.gcd_dvd_left 2 y
    have h2 : Nat.gcd 2 y ∣ y := Nat.gcd_dvd_right 2 y
    have h3 : Nat.gcd 2 y ≤ 2 := Nat.le_of_dvd (by omega) h1
    have h4 : Nat.gcd 2 y ≠ 0 := fun e => by rw [e] at h1; simp at h1
    have h5 : Nat.gcd 2 y ≠ 2 := fun e => by rw [e] at h2; omega
    omega
  exact hc.dvd_of_dvd_mul_right h
theorem geo_dvd : ∀ (k d : Nat), 2 ^ k ∣ geo d → 2 ^ k ∣ d := by
  intro k
  induction k with
  | zero => intro d _; exact ⟨d, by simp⟩
  | succ k ih =>
    intro d h
    have h2 : 2 ∣ geo d := Nat.dvd_trans ⟨2 ^ k, by rw [Nat.pow_succ, Nat.mul_comm]⟩ h
    have hd : d % 2 = 0 := by rw [← geo_mod2]; omega
    obtain ⟨e, rfl⟩ : ∃ e, d = 2 * e := ⟨d / 2, by omega⟩
    rw [geo_double] at h
    have hm := pow_mod4 e
    obtain ⟨q, hq⟩ : ∃ q, lcgA ^ e + 1 = 2 * q ∧ q % 2 = 1 := ⟨(lcgA ^ e + 1) / 2, by omega, by omega⟩
    rw [hq.1] at h
    obtain ⟨t, ht⟩ := h
    have h3 : 2 ^ k ∣ geo e * q := ⟨t, by
      have : 2 * (geo e * q) = 2 * (2 ^ k * t) := by
        rw [show 2 * (geo e * q) = geo e * (2 * q) by rw [Nat.mul_left_comm], ht, Nat.pow_succ, Nat.mul_comm (2 ^ k) 2, Nat.mul_assoc]
      omega⟩
    obtain ⟨s, hs⟩ := ih e (dvd_odd k _ _ hq.2 h3)
    exact ⟨s, by rw [hs, Nat.pow_succ, Nat.mul_comm (2 ^ k) 2, Nat.mul_assoc]⟩
theorem lcg_lt (h : Nat) : lcg h < 18446744073709551616 := Nat.mod_lt _ (by omega)
theorem lcgN_lt {h : Nat} (hh : h < 18446744073709551616) (d : Nat) : lcgN d h < 18446744073709551616 := by
  cases d with
  | zero => exact hh
  | succ d => exact lcg_lt _
theorem lcgN_succ (d h : Nat) : lcgN (d + 1) h = lcg (lcgN d h) := rfl
theorem geo_succ (d : Nat) : geo (d + 1) = lcgA * geo d + 1 := rfl
theorem lin_mod (a c x y M : Nat) (hx : x = y % M) : (x * a + c) % M = (y * a + c) % M := by
  subst hx
  rw [Nat.add_mod, Nat.mul_mod, Nat.mod_mod, ← Nat.mul_mod, ← Nat.add_mod]
theorem lcgN_eq (d h : Nat) (hh : h < 18446744073709551616) : lcgN d h = (lcgA ^ d * h + lcgC * geo d) % 18446744073709551616 := by
  induction d with
  | zero => simp [lcgN, geo, Nat.mod_eq_of_lt hh]
  | succ d ih =>
    rw [lcgN_succ, geo_succ, Nat.pow_succ]
    unfold lcg
    generalize 18446744073709551616 = M at *
    generalize lcgA ^ d = p at *
    generalize geo d = g at *
    generalize lcgA = a at *
    generalize lcgC = c at *
    rw [lin_mod a c _ _ M ih]
    congr 1
    rw [Nat.mul_add, Nat.mul_one, Nat.add_mul, Nat.mul_right_comm, Nat.mul_assoc c, Nat.mul_comm g a]
    omega
theorem lcgN_add (d e h : Nat) : lcgN (d + e) h = lcgN d (lcgN e h) := by
  induction d with
  | zero => simp [lcgN]
  | succ d ih => rw [show d + 1 + e = (d + e) + 1 by omega]; show lcg (lcgN (d + e) h) = lcg (lcgN d (lcgN e h)); rw [ih]
theorem lcgN_back {d h : Nat} (hh : h < 18446744073709551616) (e : lcgN d h = h) : 18446744073709551616 ∣ d := by
  rw [lcgN_eq d h hh, ← geo_pow d] at e
  have h1 : ((lcgA - 1) * geo d + 1) * h + lcgC * geo d = geo d * ((lcgA - 1) * h + lcgC) + h := by
    rw [Nat.add_mul, Nat.one_mul, Nat.mul_add, Nat.mul_comm lcgC, Nat.mul_comm (lcgA - 1) (geo d), Nat.mul_assoc]
    omega
  rw [h1] at e
  have hd : 18446744073709551616 ∣ geo d * ((lcgA - 1) * h + lcgC) := by
    generalize geo d * ((lcgA - 1) * h + lcgC) = t at *
    have := Nat.div_add_mod (t + h) 18446744073709551616
    rw [e] at this
    exact ⟨(t + h) / 18446744073709551616, by omega⟩
  have ho : ((lcgA - 1) * h + lcgC) % 2 = 1 := by
    rw [Nat.add_mod, Nat.mul_mod, show (lcgA - 1) % 2 = 0 from rfl, show lcgC % 2 = 1 from rfl]
    simp
  have := geo_dvd 64 d (by exact dvd_odd 64 _ _ ho (by exact hd))
  exact this
/-- of two times less than 2^64 steps apart -/
theorem lcgN_inj {h a b : Nat} (hh : h < 18446744073709551616) (hab : a < b) (hb : b - a < 18446744073709551616) : lcgN a h ≠ lcgN b h := by
  intro e
  have e2 : lcgN (b - a) (lcgN a h) = lcgN a h := by rw [← lcgN_add, Nat.sub_add_cancel (by omega)]; exact e.symm
  obtain ⟨t, ht⟩ := lcgN_back (lcgN_lt hh a) e2
  rcases t with _ | t
  · omega
  · have : 18446744073709551616 ≤ 18446744073709551616 * (t + 1) := Nat.le_mul_of_pos_right _ (by omega)
    omega
theorem lcg_mod2 (h : Nat) : lcg h % 2 = (h + 1) % 2 := by
  unfold lcg
  have h1 : (h * lcgA + lcgC) % 18446744073709551616 % 2 = (h * lcgA + lcgC) % 2 := Nat.mod_mod_of_dvd _ (by decide)
  rw [h1, Nat.add_mod, Nat.mul_mod, show lcgA % 2 = 1 from rfl, show lcgC % 2 = 1 from rfl]
  omega
theorem lcgN_mod2 (d h : Nat) : lcgN d h % 2 = (h + d) % 2 := by
  induction d with
  | zero => rfl
  | succ d ih => show lcg (lcgN d h) % 2 = _; rw [lcg_mod2]; omega
/-- what a state hands out -/
def lcgX (h : Nat) : Nat := h / 8589934592 % 16777216
/-- a number of its own for each state with a parity that hands out a multiple of three -/
def lcgCode (h : Nat) : Nat := lcgX h / 3 * 549755813888 + (h / 8589934592 / 16777216 * 4294967296 + h % 8589934592 / 2)
theorem lcgCode_lt {h : Nat} (hh : h < 18446744073709551616) : lcgCode h < 5592406 * 549755813888 := by unfold lcgCode lcgX; omega
theorem lcgCode_inj {h g : Nat} (hh : h < 18446744073709551616) (hg : g < 18446744073709551616) (hp : h % 2 = g % 2) (h3 : lcgX h % 3 = 0) (g3 : lcgX g % 3 = 0) (e : lcgCode h = lcgCode g) : h = g := by
  unfold lcgCode lcgX at *
  omega
theorem nodup_lt : ∀ (N : Nat) {l : List Nat}, l.Nodup → (∀ x ∈ l, x < N) → l.length ≤ N := by
  intro N
  induction N with
  | zero =>
    intro l _ h
    cases l with
    | nil => simp
    | cons a l => have := h a (by simp); omega
  | succ N ih =>
    intro l hn h
    by_cases hm : N ∈ l
    · have h1 := ih (hn.erase N) (fun x hx => by
        have h2 := (hn.mem_erase_iff).1 hx
        have := h x h2.2
        have := h2.1
        omega)
      rw [List.length_erase_of_mem hm] at h1
      omega
    · have := ih hn (fun x hx => by
        have h1 := h x hx
        have h2 : x ≠ N := fun e => hm (e ▸ hx)
        omega)
      omega
end Go.Proofs.Ytdaljeghdiknpaa
/- Drw -/
namespace Go.Proofs.Ytdaljeghdiknpaa
open Go.RowKit
set_option linter.unusedVariables false
set_option maxRecDepth 100000

/-- The source at block g: the code (a slice of bytes below lo), how many of its bytes are used, the state. -/
structure Src (w : World) (lo g : Nat) (T : TypeId) (A : Option Addr) (n c : Nat) (bs : List Int) (i h : Nat) : Prop where
  blk : w.heap[g]? = some (.cells #[.slice A n c, .int .i64 i, .int .u64 h] T (0, 0))
  above : lo ≤ g
  code : Rd w 0 lo A n (bs.map (Value.int .u8))
  byte : ∀ x ∈ bs, 0 ≤ x ∧ x < 256
  le : i ≤ n
  st : h < 18446744073709551616

section
variable {w w' : World} {lo g : Nat} {T : TypeId} {A : Option Addr} {n c : Nat} {bs : List Int} {i h : Nat}
theorem Src.cell0 (s : Src w lo g T A n c bs i h) : w.cell? ⟨g, 0, none⟩ = some (.slice A n c) := by simp [World.cell?, s.blk]
theorem Src.cell1 (s : Src w lo g T A n c bs i h) : w.cell? ⟨g, 1, none⟩ = some (.int .i64 i) := by simp [World.cell?, s.blk]
theorem Src.cell2 (s : Src w lo g T A n c bs i h) : w.cell? ⟨g, 2, none⟩ = some (.int .u64 h) := by simp [World.cell?, s.blk]
theorem Src.frozen (s : Src w lo g T A n c bs i h) (k : Nat) : w.frozen? ⟨g, k, none⟩ = false := by simp [World.frozen?, s.blk]
theorem Src.lt (s : Src w lo g T A n c bs i h) : g < w.heap.size := (Array.getElem?_eq_some_iff.1 s.blk).1
theorem Src.below {B : Nat} (s : Src w lo g T A n c bs i h) (hb : Below B w w') (hB : g < B) : Src w' lo g T A n c bs i h :=
  ⟨(hb.block g hB).trans s.blk, s.above, s.code.below hb (by have := s.above; omega), s.byte, s.le, s.st⟩
theorem Src.setH (s : Src w lo g T A n c bs i h) {H : Nat} (hH : H < 18446744073709551616) : Src (w.setCell ⟨g, 2, none⟩ (.int .u64 H)) lo g T A n c bs i H := by
  refine ⟨?_, s.above, s.code.keep fun k _ hk => Below.heap_setCell _ _ _ _ (by have := s.above; simp; omega), s.byte, s.le, hH⟩
  exact heap_setCell_same _ _ _ _ _ _ s.blk
theorem Src.setI (s : Src w lo g T A n c bs i h) {I : Nat} (hI : I ≤ n) : Src (w.setCell ⟨g, 1, none⟩ (.int .i64 I)) lo g T A n c bs I h := by
  refine ⟨?_, s.above, s.code.keep fun k _ hk => Below.heap_setCell _ _ _ _ (by have := s.above; simp; omega), s.byte, hI, s.st⟩
  exact heap_setCell_same _ _ _ _ _ _ s.blk
theorem Src.byteAt (s : Src w lo g T A n c bs i h) (hi : i < n) : ∃ b o y, A = some ⟨b, o, none⟩ ∧ b < lo ∧ w.cell? ⟨b, o + i, none⟩ = some (.int .u8 y) ∧ 0 ≤ y ∧ y < 256 := by
  obtain ⟨b, o, v, e, _, h2, hv, hc⟩ := s.code.at_ hi
  simp only [List.getElem?_map, Option.map_eq_some_iff] at hv
  obtain ⟨y, hy, rfl⟩ := hv
  have := s.byte y (List.mem_of_getElem? hy)
  exact ⟨b, o, y, e, h2, hc, this.1, this.2⟩
theorem lcg_wrap (h : Nat) (u : Nat) (hu : (h * 6364136223846793005) % 18446744073709551616 = u) :
    IntKind.u64.wrap ((h : Int) * 6364136223846793005) = (u : Int) ∧ IntKind.u64.wrap ((u : Int) + 1442695040888963407) = ((lcg h : Nat) : Int) := by
  rw [IntKind.wrap_u64, IntKind.wrap_u64]
  unfold lcg lcgA lcgC
  exact ⟨by omega, by omega⟩
theorem lcg_bits (H : Nat) (hH : H < 18446744073709551616) : bits BinOp.and IntKind.u64 ((H : Int) / 8589934592) 16777215 = ((H / 8589934592 % 16777216 : Nat) : Int) := by
  have e := bits_and_u64_nat (H / 8589934592) 16777215 (by omega) (by omega)
  rw [show ((H : Int) / 8589934592) = ((H / 8589934592 : Nat) : Int) by simp]
  refine e.trans ?_
  rw [show (16777215 : Nat) = 2 ^ 24 - 1 by rfl, Nat.and_two_pow_sub_one_eq_mod]
theorem Src.drewN (s : Src w lo g T A n c bs i h) (k : Nat) : Src (w.drewN k) lo g T A n c bs i h := ⟨s.blk, s.above, s.code, s.byte, s.le, s.st⟩
theorem Chg.drewN {lo hi : Nat} {a w : World} (h : Chg lo hi a w) (k : Nat) : Chg lo hi a (w.drewN k) := ⟨h.os, h.tape, h.output, h.size, h.block⟩
/-- what l01Next leaves: a number below x, the source with its next state -/
structure NextP (w w' : World) (lo g : Nat) (T : TypeId) (A : Option Addr) (n c : Nat) (bs : List Int) (i H q : Nat) (x v : Int) (i' : Nat) : Prop where
  ge : 0 ≤ v
  lt : v < x
  src : Src w' lo g T A n c bs i' H
  chg : Chg g (g + 1) w w'
  size : w'.heap.size = w.heap.size
  step : i < n → i' = i + 1
  done : ¬ i < n → i' = i ∧ v = (q : Int) % x
end
theorem next_core (w : World) (lo g : Nat) (A : Option Addr) (n c : Nat) (bs : List Int) (i h H u q : Nat) (s : Src w lo g 122 A n c bs i h) (x : Int) (h1 : 1 ≤ x) (hx : x ≤ 1099511627776)
    (e1 : IntKind.u64.wrap ((h : Int) * 6364136223846793005) = (u : Int)) (e2 : IntKind.u64.wrap ((u : Int) + 1442695040888963407) = (H : Int)) (e3 : bits BinOp.and IntKind.u64 ((H : Int) / 8589934592) 16777215 = (q : Int)) (hH : H < 18446744073709551616) (hq2 : q < 16777216) :
    Calls Try.prog 87 #[.pointer (some ⟨g, 0, none⟩), .int .i64 x] w fun e w' => ∃ (v : Int) (i' : Nat), e = .returned (.int .i64 v) ∧ NextP w w' lo g 122 A n c bs i H q x v i' := by
  have hst := s.st
  have c2 := s.cell2
  have f2 := s.frozen 2
  have s1 := s.setH hH
  have d0 := s1.cell0
  have d1 := s1.cell1
  have d2 := s1.cell2
  have g1 := s1.frozen 1
  have hn := s.code.2.1
  have hin := s.le
  have hB1 : Chg g (g + 1) w (w.setCell ⟨g, 2, none⟩ (.int .u64 H)) := (Chg.refl _ _ _).setCell (by simp) (by simp) _
  by_cases hlt : i < n
  · obtain ⟨b, o, y, rfl, hb, hy, y0, y1⟩ := s1.byteAt hlt
    have hd : decide ((i : Int) < (n : Int)) = true := by simp; omega
    have k1 : (0 : Int) ≤ (i : Int) := by omega
    have k2 : (i : Int) < (n : Int) := by omega
    go_enter Try.func87, Try.ntmps87
    go_wp2_with fail
    go_quiet (fail)
    go_wp2_with fail
    go_quiet (fail)
    go_wp2_with fail
    go_ret
    refine ⟨((q : Int) + y) % x, i + 1, rfl, ?_⟩
    constructor
    · exact Int.emod_nonneg _ (by omega)
    · exact Int.emod_lt_of_pos _ (by omega)
    · exact (s1.drewN _).setI (I := i + 1) hlt
    · exact (hB1.drewN _).setCell (by simp) (by simp) _
    · simp
    · exact fun _ => rfl
    · exact fun hh => absurd hlt hh
  · have hd : decide ((i : Int) < (n : Int)) = false := by simp; omega
    go_enter Try.func87, Try.ntmps87
    go_wp2_with fail
    go_quiet (fail)
    go_wp2_with fail
    go_ret
    refine ⟨(q : Int) % x, i, rfl, ?_⟩
    constructor
    · exact Int.emod_nonneg _ (by omega)
    · exact Int.emod_lt_of_pos _ (by omega)
    · exact s1.drewN _
    · exact hB1.drewN _
    · simp
    · exact fun hh => absurd hh hlt
    · exact fun _ => ⟨rfl, rfl⟩
theorem next_any (w : World) (lo g : Nat) (A : Option Addr) (n c : Nat) (bs : List Int) (i h : Nat) (s : Src w lo g 122 A n c bs i h) (x : Int) (h1 : 1 ≤ x) (hx : x ≤ 1099511627776) :
    Calls Try.prog 87 #[.pointer (some ⟨g, 0, none⟩), .int .i64 x] w fun e w' => ∃ (v : Int) (i' : Nat), e = .returned (.int .i64 v) ∧ NextP w w' lo g 122 A n c bs i (lcg h) (lcg h / 8589934592 % 16777216) x v i' := by
  obtain ⟨u, hu⟩ : ∃ u, (h * 6364136223846793005) % 18446744073709551616 = u := ⟨_, rfl⟩
  obtain ⟨e1, e2⟩ := lcg_wrap h u hu
  have hH : lcg h < 18446744073709551616 := by unfold lcg; omega
  exact next_core w lo g A n c bs i h (lcg h) u _ s x h1 hx e1 e2 (lcg_bits (lcg h) hH) hH (by omega)
/-- below 1: it returns 0 and the source stays -/
theorem next_zero (w : World) (g : Nat) (x : Int) (hx : x < 1) :
    Calls Try.prog 87 #[.pointer (some ⟨g, 0, none⟩), .int .i64 x] w fun e w' => e = .returned (.int .i64 0) ∧ w = w' := by
  go_enter Try.func87, Try.ntmps87
  go_wp2_with fail
  go_ret
  exact ⟨rfl, rfl⟩
end Go.Proofs.Ytdaljeghdiknpaa
/- DrwF -/
namespace Go.Proofs.Ytdaljeghdiknpaa
open Go.RowKit
set_option linter.unusedVariables false
set_option maxRecDepth 100000
theorem u64_nat (z : Int) : ∃ H : Nat, H < 18446744073709551616 ∧ IntKind.u64.wrap z = (H : Int) := by
  rw [IntKind.wrap_u64]
  exact ⟨(z % 18446744073709551616).toNat, by omega, by omega⟩
theorem heap_newest (w : World) (o : Obj) : (w.alloc o).heap[w.heap.size]? = some o := by unfold World.alloc; exact Array.getElem?_push_size
theorem Src.drew {w : World} {lo g : Nat} {T : TypeId} {A : Option Addr} {n c : Nat} {bs : List Int} {i h : Nat} (s : Src w lo g T A n c bs i h) : Src w.drew lo g T A n c bs i h := ⟨s.blk, s.above, s.code, s.byte, s.le, s.st⟩
theorem from_any (w : World) (A : Option Addr) (n c : Nat) (bs : List Int) (h : Rd w 0 w.heap.size A n (bs.map (Value.int .u8))) (hb : ∀ x ∈ bs, 0 ≤ x ∧ x < 256) (hn : n ≤ 1048576) :
    Calls Try.prog 64 #[.slice A n c] w fun e w' => ∃ H : Nat, e = .returned (.pointer (some ⟨w.heap.size, 0, none⟩)) ∧ Src w' w.heap.size w.heap.size 122 A n c bs 0 H ∧ Below w.heap.size w w' := by
  have hsrc : Src (w.alloc (.cells #[.slice A n c, .int .i64 0, .int .u64 ((8191 + n : Nat) : Int)] 122)) w.heap.size w.heap.size 122 A n c bs 0 (8191 + n) :=
    ⟨heap_newest w _, Nat.le_refl _, h.below ((Below.refl _ _).alloc (Nat.le_refl _) _) (Nat.le_refl _), hb, Nat.zero_le _, by omega⟩
  have e0 : IntKind.u64.wrap (8191 + (n : Int)) = ((8191 + n : Nat) : Int) := by rw [IntKind.wrap_u64]; omega
  replace hsrc := Lib.hid hsrc
  replace hb := Lib.hid hb
  go_enter Try.func64, Try.ntmps64
  go_wp2_with fail
  go_loopw [4] (fun iv wr => ∃ (k H : Nat), iv = .int .i64 k ∧ k ≤ n ∧ Hid (Src wr w.heap.size w.heap.size 122 A n c bs 0 H) ∧ Below w.heap.size w wr) (fun iv _ => n - (intOf iv).toNat)
  case atStart => exact ⟨0, 8191 + n, rfl, Nat.zero_le _, hsrc, (Below.refl _ _).alloc (Nat.le_refl _) _⟩
  case round =>
    obtain ⟨k, H, rfl, hk, hS, hB⟩ := hrel
    by_cases hlt : k < n
    · by_cases h4 : k < 4096
      · have S := hS.out
        have c2 := S.cell2
        have f2 := S.frozen 2
        obtain ⟨b, o, v, rfl, _, hb2, hv, hc⟩ := S.code.at_ hlt
        simp only [List.getElem?_map, Option.map_eq_some_iff] at hv
        obtain ⟨y, hy, rfl⟩ := hv
        obtain ⟨y0, y1⟩ := S.byte y (List.mem_of_getElem? hy)
        obtain ⟨H1, g1, e1⟩ := u64_nat ((H : Int) * 1099511628211)
        obtain ⟨H2, g2, e2⟩ := u64_nat ((H1 : Int) + y)
        obtain ⟨H3, g3, e3⟩ := u64_nat ((H2 : Int) + 11)
        have S3 := Lib.hid (S.setH g3)
        have k1 : (0 : Int) ≤ (k : Int) := by omega
        have k2 : (k : Int) < (n : Int) := by omega
        clear hy S
        go_wp2_with fail
        go_region
        go_wp2_with fail
        go_roundw
        case rel =>
          have hB2 := hB.setCell (p := ⟨w.heap.size, 2, none⟩) (Nat.le_refl _) (.int .u64 H3)
          exact ⟨k + 1, H3, by go_num, by omega, Lib.hid S3.out.drew, ⟨hB2.os, hB2.tape, hB2.output, hB2.size, hB2.block⟩⟩
        case measure => simp [intOf]; omega
      · go_wp2_with fail
        go_ret
        exact ⟨H, rfl, hS.out, hB⟩
    · go_wp2_with fail
      go_ret
      exact ⟨H, rfl, hS.out, hB⟩
end Go.Proofs.Ytdaljeghdiknpaa
/- Pow -/
namespace Go.Proofs.Ytdaljeghdiknpaa
open Go.RowKit
set_option linter.unusedVariables false
set_option maxRecDepth 100000
set_option maxHeartbeats 400000 in
theorem identity_any (n : Nat) (w : World) (h4 : n ≤ 1048576) :
    Calls Try.prog 151 #[.int .i64 n] w fun e w' => ∃ A1, e = .returned (.slice A1 n n) ∧ Own w' w.heap.size w'.heap.size 2 A1 n n ((idL n).map (Value.int .i64)) ∧ Below w.heap.size w w' := by
  obtain ⟨i0, hi0, hz0, hz1, hz2⟩ := info_parts infoI
  go_enter Try.func151, Try.ntmps151
  go_wp2_with (at_make; refine wpList_make_full _ rfl _ _ 27 rfl w.heap.size 2 i0 (.int .i64 0) 1 Try.underlying27 hi0 hz0 hz1 _ _ _ _ n rfl rfl rfl rfl ?c1 ?c2 (Nat.le_refl _) ?_)
  case c1 => rw [hz2]; omega
  case c2 => simp only [maxLen]; omega
  intro w1 hown hg
  have hb1 : Below w.heap.size w w1 := below_of_grown hg (Nat.le_refl _) (by simp)
  go_wp2_with fail
  go_loopw [9] (fun i wr => ∃ (k : Nat) (ys : List Int), k ≤ n ∧ i = .int .i64 k ∧ Hid (∀ j, j < k → ys[j]? = some (j : Int)) ∧ wr.ownsRow w.heap.size 2 1 (.slice (some ⟨w.heap.size, 0, none⟩) n n) n (ys.map (Value.int .i64)) ∧ Below w.heap.size w wr) (fun i wr => n - (intOf i).toNat)
  case atStart =>
    refine ⟨0, List.replicate n 0, by omega, rfl, Lib.hid (fun j hj => absurd hj (by omega)), ?_, hb1⟩
    simpa [toList_madeCells_one, Value.cells] using hown
  case round =>
    obtain ⟨k, ys, hk, rfl, hys, ho, hb⟩ := hrel
    by_cases hlt : k < n
    · have hyl : ys.length = n := by have := ho.1; simpa using this
      replace hyl := Lib.hid hyl
      have hc3 : wr.cell? ⟨w.heap.size, k, none⟩ = some (.int .i64 (ys.getD k 0)) := by
        have hyl := hyl.out
        rw [ho.cellAt k (by omega)]; simp [List.getD, hyl, hlt]
      have hfr := ho.frozenAt k
      go_wp2_with fail
      go_roundw
      case rel =>
        refine ⟨k + 1, ys.set k (k : Int), by omega, by go_num, Lib.hid (fun j hj => ?_), ?_, hb.setCell (by simp) _⟩
        · have hyl := hyl.out
          rw [List.getElem?_set]
          by_cases e : k = j
          · subst e; rw [if_pos rfl, if_pos (by omega)]
          · rw [if_neg e]; exact hys.out j (by omega)
        · rw [List.map_set]; exact (ho.stored k (.int .i64 k)).1
      case measure => simp [intOf]; omega
    · go_wp2_with fail
      go_ret
      have hkn : k = n := by omega
      subst hkn
      have hyl : ys.length = k := by have := ho.1; simpa using this
      have e : ys = idL k := list_ext_upto k (by omega) (by rw [idL_length]; omega) fun j hj => by rw [hys.out j hj, idL_get hj]
      exact ⟨_, rfl, Own.of_row (e ▸ ho), hb⟩
set_option maxHeartbeats 400000 in
theorem unit_any (n : Nat) (w : World) (h4 : n ≤ 1048576) :
    Calls Try.prog 125 #[.int .i64 n] w fun e w' => ∃ A1 c1, e = .returned (.slice A1 n c1) ∧ Own w' w.heap.size w'.heap.size 2 A1 n c1 ((idL n).map (Value.int .i64)) ∧ Below w.heap.size w w' := by
  obtain ⟨j0, hj0, hy0, hy1, hy2⟩ := info_parts infoI
  have h0 := World.ownsRow_lit (e := 2) (base := w.heap.size) (size := 1) w #[] 0 (Nat.le_refl _) (by omega) rfl
  go_enter Try.func125, Try.ntmps125
  go_wp2_with fail
  go_loopw [3, 4] (fun v i wr => ∃ (k : Nat) (A2 : Option Addr) (c2 : Nat), k ≤ n ∧ v = .slice A2 k c2 ∧ i = .int .i64 k ∧ wr.ownsRow w.heap.size 2 1 (.slice A2 k c2) k (((idL n).take k).map (Value.int .i64)) ∧ Below w.heap.size w wr) (fun _ i wr => n - (intOf i).toNat)
  case atStart => exact ⟨0, _, 0, by omega, rfl, rfl, by simpa using h0, (Below.refl _ _).alloc (Nat.le_refl _) _⟩
  case round =>
    obtain ⟨k, A2, c2, hk, rfl, rfl, ho, hb⟩ := hrel
    by_cases hlt : k < n
    · have hbs := hb.size
      go_wp2_with (at_builtin; refine wpList_append1 wr rfl (.tmp 11) (.tmp 13) 27 rfl w.heap.size 2 j0 (.int .i64 0) 8 Try.underlying27 hj0 hy0 hy1 hy2 rfl (by omega) _ k c2 _ (.int .i64 k) rfl ho _ rfl rfl rfl (by omega) hbs ?_)
      intro g c3 w2 ho2 hg2 hlo2 hlt2 hor2
      have hb2 : Below w.heap.size w w2 := hb.grown hg2 hbs (fun q hq => (ho.lt q hq).1)
      go_wp2_with fail
      go_roundw
      case rel =>
        refine ⟨k + 1, _, c3, by omega, rfl, by go_num, ?_, hb2⟩
        rw [take_succ_of (idL_get hlt), List.map_append]
        simpa using ho2
      case measure => simp [intOf]; omega
    · go_wp2_with fail
      go_ret
      have hkn : k = n := by omega
      subst hkn
      rw [List.take_of_length_le (by rw [idL_length]; omega)] at ho
      exact ⟨_, _, rfl, Own.of_row ho, hb⟩
theorem rng_of {p : List Int} {n : Nat} (h : isPermP p) (hl : p.length = n) : ∀ x ∈ p, 0 ≤ x ∧ x < n := by
  have := h.rng; rw [hl] at this; exact this
set_option maxHeartbeats 1000000 in
theorem power_any (A : Option Addr) (n c : Nat) (xs : List Int) (k : Int) (w : World) {lo hi : Nat} (h : RI w lo hi A n xs) (hhi : hi ≤ w.heap.size) (hP : isPermP xs) (hk1 : -1000000000 ≤ k) (hk2 : k ≤ 1000000000) :
    Calls Try.prog 120 #[.slice A n c, .int .i64 k] w fun e w' => ∃ A1 c1, e = .returned (.slice A1 n c1) ∧ Own w' w.heap.size w'.heap.size 2 A1 n c1 ((powL xs k).map (Value.int .i64)) ∧ Below w.heap.size w w' := by
  have hl := h.len
  have h4 := hP.le
  rw [hl] at h4
  have hR := rng_of hP hl
  have hN := hP.nd
  have hid := idL_perm h4
  by_cases hneg : k < 0
  · obtain ⟨mo, rfl⟩ : ∃ mo : Nat, k = -(mo : Int) := ⟨k.natAbs, by omega⟩
    have hpow : powGo 40 (invL xs) (idL n) mo = powL xs (-(mo : Int)) := by unfold powL; rw [if_pos hneg, hl]; simp
    have hI := invL_perm hP
    have hm0 : 0 < mo := by omega
    replace hI := Lib.hid hI
    replace hpow := Lib.hid hpow
    replace hl := Lib.hid hl
    replace hR := Lib.hid hR
    replace hN := Lib.hid hN
    replace hid := Lib.hid hid
    replace hP := Lib.hid hP
    go_enter Try.func120, Try.ntmps120
    go_wp2_with fail
    ((with_reducible refine (inverse_any _ _ _ xs _ _ _ h hhi (by omega) hR.out hN.out).mono ?_); rintro e w1 ⟨A1, rfl, ho1, hb1⟩)
    have hs1 := hb1.size
    go_wp2_with (go_at_call 105; refine (sizeI_any _ _ _ _ (by omega)).mono ?_; rintro e w' ⟨rfl, rfl⟩)
    ((with_reducible refine (identity_any n _ (by omega)).mono ?_); rintro e w2 ⟨A2, rfl, ho2, hb2⟩)
    have hs2 := hb2.size
    have hB2 := below_then hb1 hb2 hs1
    go_wp2_with fail
    go_loopg [0, 1, 5] 40 (fun f pv kv ov wr => ∃ (q : List Int) (Aq : Option Addr) (cq : Nat) (m : Nat) (out : List Int) (Ao : Option Addr) (co : Nat), pv = .slice Aq n cq ∧ kv = .int .i64 m ∧ ov = .slice Ao n co ∧ m < 2 ^ f ∧ m ≤ 1000000000 ∧
        Hid (powGo f q out m = powL xs (-(mo : Int))) ∧ Hid (isPermP q) ∧ Hid (isPermP out) ∧ RI wr 0 wr.heap.size Aq n q ∧ Own wr w.heap.size wr.heap.size 2 Ao n co (out.map (Value.int .i64)) ∧ Below w.heap.size w wr)
    case atStart => exact ⟨_, _, _, mo, _, _, _, rfl, by simp, rfl, by omega, by omega, hpow, hI, hid, ((ho1.ri.below hb2 (Nat.le_refl _)).more (Nat.zero_le _) (by omega)), ho2.more (by omega) (Nat.le_refl _), hB2⟩
    case round =>
      obtain ⟨q, Aq, cq, m, out, Ao, co, rfl, rfl, rfl, hmf, hmx, hpow, hq, hout, hri, ho, hb⟩ := hrel
      have hmq := hri.max
      have hbs := hb.size
      by_cases hm0 : m = 0
      · subst hm0
        go_wp2_with fail
        go_ret
        refine ⟨_, _, rfl, ?_, hb⟩
        have hpow := hpow.out
        rw [powGo_stop] at hpow
        rw [← hpow]
        exact ho
      · obtain ⟨f, rfl⟩ : ∃ f, gk = f + 1 := ⟨gk - 1, by have : gk ≠ 0 := (fun e => by subst e; simp at hmf; omega); omega⟩
        have hmf2 : m / 2 < 2 ^ f := by rw [Nat.pow_succ] at hmf; omega
        replace hmf := Lib.hid hmf
        replace hmf2 := Lib.hid hmf2
        have hql := hri.len
        have hol := ho.ri.len
        have hqR := rng_of hq.out hql
        have hoR := rng_of hout.out hol
        have hqq := thenL_perm hq.out hq.out rfl
        have hoq := thenL_perm hout.out hq.out (by omega)
        replace hql := Lib.hid hql
        replace hol := Lib.hid hol
        replace hqR := Lib.hid hqR
        replace hoR := Lib.hid hoR
        replace hqq := Lib.hid hqq
        replace hoq := Lib.hid hoq
        have hpos : (0 : Int) < (m : Int) := by omega
        have hdv : (m : Int) / 2 = ((m / 2 : Nat) : Int) := by omega
        replace hdv := Lib.hid hdv
        by_cases hodd : m % 2 = 1
        · have hob : ((m : Int) % 2 == 1) = true := by simp; omega
          have hnx := powGo_odd (f := f) (p := q) (out := out) (by omega : 0 < m) hodd
          replace hnx := Lib.hid hnx
          replace hodd := Lib.hid hodd
          go_wp2_with fail
          ((with_reducible refine (then_any _ _ _ out _ _ _ q _ ho.ri (Nat.le_refl _) hri (Nat.le_refl _) (by omega) hoR.out).mono ?_); rintro e w5 ⟨A5, rfl, ho5, hb5⟩)
          have hs5 := hb5.size
          have hri5 := hri.below hb5 (Nat.le_refl _)
          go_wp2_with fail
          ((with_reducible refine (then_any _ _ _ q _ _ _ q _ hri5 (by omega) hri5 (by omega) (by omega) hqR.out).mono ?_); rintro e w6 ⟨A6, rfl, ho6, hb6⟩)
          have hs6 := hb6.size
          have hB := below_then (below_then hb hb5 hbs) hb6 (by omega)
          go_wp2_with fail
          go_roundg f
          case measure => omega
          case rel =>
            refine ⟨_, _, _, m / 2, _, _, _, rfl, by rw [hdv.out], rfl, hmf2.out, by omega, Lib.hid (by rw [← hpow.out, hnx.out]), hqq, hoq, ho6.ri.more (Nat.zero_le _) (Nat.le_refl _), (ho5.more hbs (Nat.le_refl _)).below hb6 (Nat.le_refl _) |>.more (Nat.le_refl _) hs6, hB⟩
        · have hob : ((m : Int) % 2 == 1) = false := by simp; omega
          have hnx := powGo_even (f := f) (p := q) (out := out) (by omega : 0 < m) (by omega)
          replace hnx := Lib.hid hnx
          replace hodd := Lib.hid hodd
          go_wp2_with fail
          ((with_reducible refine (then_any _ _ _ q _ _ _ q _ hri (Nat.le_refl _) hri (Nat.le_refl _) (by omega) hqR.out).mono ?_); rintro e w6 ⟨A6, rfl, ho6, hb6⟩)
          have hs6 := hb6.size
          have hB := below_then hb hb6 hbs
          go_wp2_with fail
          go_roundg f
          case measure => omega
          case rel =>
            refine ⟨_, _, _, m / 2, _, _, _, rfl, by rw [hdv.out], rfl, hmf2.out, by omega, Lib.hid (by rw [← hpow.out, hnx.out]), hqq, hout, ho6.ri.more (Nat.zero_le _) (Nat.le_refl _), (ho.below hb6 (Nat.le_refl _)).more (Nat.le_refl _) hs6, hB⟩
  · obtain ⟨mo, rfl⟩ : ∃ mo : Nat, k = (mo : Int) := ⟨k.natAbs, by omega⟩
    have hpow : powGo 40 xs (idL n) mo = powL xs (mo : Int) := by unfold powL; rw [if_neg hneg, hl]; simp
    replace hpow := Lib.hid hpow
    replace hl := Lib.hid hl
    replace hR := Lib.hid hR
    replace hN := Lib.hid hN
    replace hid := Lib.hid hid
    replace hP := Lib.hid hP
    go_enter Try.func120, Try.ntmps120
    go_wp2_with (go_at_call 105; refine (sizeI_any _ _ _ _ (by omega)).mono ?_; rintro e w' ⟨rfl, rfl⟩)
    ((with_reducible refine (identity_any n _ (by omega)).mono ?_); rintro e w2 ⟨A2, rfl, ho2, hb2⟩)
    have hs2 := hb2.size
    have hB2 := hb2
    go_wp2_with fail
    go_loopg [0, 1, 5] 40 (fun f pv kv ov wr => ∃ (q : List Int) (Aq : Option Addr) (cq : Nat) (m : Nat) (out : List Int) (Ao : Option Addr) (co : Nat), pv = .slice Aq n cq ∧ kv = .int .i64 m ∧ ov = .slice Ao n co ∧ m < 2 ^ f ∧ m ≤ 1000000000 ∧
        Hid (powGo f q out m = powL xs (mo : Int)) ∧ Hid (isPermP q) ∧ Hid (isPermP out) ∧ RI wr 0 wr.heap.size Aq n q ∧ Own wr w.heap.size wr.heap.size 2 Ao n co (out.map (Value.int .i64)) ∧ Below w.heap.size w wr)
    case atStart => exact ⟨_, _, _, mo, _, _, _, rfl, rfl, rfl, by omega, by omega, hpow, hP, hid, ((h.below hb2 (by omega)).more (Nat.zero_le _) (by omega)), ho2, hB2⟩
    case round =>
      obtain ⟨q, Aq, cq, m, out, Ao, co, rfl, rfl, rfl, hmf, hmx, hpow, hq, hout, hri, ho, hb⟩ := hrel
      have hmq := hri.max
      have hbs := hb.size
      by_cases hm0 : m = 0
      · subst hm0
        go_wp2_with fail
        go_ret
        refine ⟨_, _, rfl, ?_, hb⟩
        have hpow := hpow.out
        rw [powGo_stop] at hpow
        rw [← hpow]
        exact ho
      · obtain ⟨f, rfl⟩ : ∃ f, gk = f + 1 := ⟨gk - 1, by have : gk ≠ 0 := (fun e => by subst e; simp at hmf; omega); omega⟩
        have hmf2 : m / 2 < 2 ^ f := by rw [Nat.pow_succ] at hmf; omega
        replace hmf := Lib.hid hmf
        replace hmf2 := Lib.hid hmf2
        have hql := hri.len
        have hol := ho.ri.len
        have hqR := rng_of hq.out hql
        have hoR := rng_of hout.out hol
        have hqq := thenL_perm hq.out hq.out rfl
        have hoq := thenL_perm hout.out hq.out (by omega)
        replace hql := Lib.hid hql
        replace hol := Lib.hid hol
        replace hqR := Lib.hid hqR
        replace hoR := Lib.hid hoR
        replace hqq := Lib.hid hqq
        replace hoq := Lib.hid hoq
        have hpos : (0 : Int) < (m : Int) := by omega
        have hdv : (m : Int) / 2 = ((m / 2 : Nat) : Int) := by omega
        replace hdv := Lib.hid hdv
        by_cases hodd : m % 2 = 1
        · have hob : ((m : Int) % 2 == 1) = true := by simp; omega
          have hnx := powGo_odd (f := f) (p := q) (out := out) (by omega : 0 < m) hodd
          replace hnx := Lib.hid hnx
          replace hodd := Lib.hid hodd
          go_wp2_with fail
          ((with_reducible refine (then_any _ _ _ out _ _ _ q _ ho.ri (Nat.le_refl _) hri (Nat.le_refl _) (by omega) hoR.out).mono ?_); rintro e w5 ⟨A5, rfl, ho5, hb5⟩)
          have hs5 := hb5.size
          have hri5 := hri.below hb5 (Nat.le_refl _)
          go_wp2_with fail
          ((with_reducible refine (then_any _ _ _ q _ _ _ q _ hri5 (by omega) hri5 (by omega) (by omega) hqR.out).mono ?_); rintro e w6 ⟨A6, rfl, ho6, hb6⟩)
          have hs6 := hb6.size
          have hB := below_then (below_then hb hb5 hbs) hb6 (by omega)
          go_wp2_with fail
          go_roundg f
          case measure => omega
          case rel =>
            refine ⟨_, _, _, m / 2, _, _, _, rfl, by rw [hdv.out], rfl, hmf2.out, by omega, Lib.hid (by rw [← hpow.out, hnx.out]), hqq, hoq, ho6.ri.more (Nat.zero_le _) (Nat.le_refl _), (ho5.more hbs (Nat.le_refl _)).below hb6 (Nat.le_refl _) |>.more (Nat.le_refl _) hs6, hB⟩
        · have hob : ((m : Int) % 2 == 1) = false := by simp; omega
          have hnx := powGo_even (f := f) (p := q) (out := out) (by omega : 0 < m) (by omega)
          replace hnx := Lib.hid hnx
          replace hodd := Lib.hid hodd
          go_wp2_with fail
          ((with_reducible refine (then_any _ _ _ q _ _ _ q _ hri (Nat.le_refl _) hri (Nat.le_refl _) (by omega) hqR.out).mono ?_); rintro e w6 ⟨A6, rfl, ho6, hb6⟩)
          have hs6 := hb6.size
          have hB := below_then hb hb6 hbs
          go_wp2_with fail
          go_roundg f
          case measure => omega
          case rel =>
            refine ⟨_, _, _, m / 2, _, _, _, rfl, by rw [hdv.out], rfl, hmf2.out, by omega, Lib.hid (by rw [← hpow.out, hnx.out]), hqq, hout, ho6.ri.more (Nat.zero_le _) (Nat.le_refl _), (ho.below hb6 (Nat.le_refl _)).more (Nat.le_refl _) hs6, hB⟩
set_option maxHeartbeats 1000000 in
theorem i_PowerPermutation_any (w : World) (A : Option Addr) (n c : Nat) (xs : List Int) {lo hi : Nat} (h : RI w lo hi A n xs) (hhi : hi ≤ w.heap.size) (k : Int) (hk : -9223372036854775808 ≤ k ∧ k ≤ 9223372036854775807) :
    Calls Try.prog 56 #[.slice A n c, .int .i64 k] w fun e w' => ∃ (A1 : Option Addr) (n1 c1 : Nat) (zs : List Int) (code : Int), e = .returned (.tuple #[.slice A1 n1 c1, .int .i64 code]) ∧ Hid ((zs, code) = powF xs k) ∧ Own w' w.heap.size w'.heap.size 2 A1 n1 c1 (zs.map (Value.int .i64)) ∧ n1 ≤ 1048576 ∧ Below w.heap.size w w' := by
  have hl := h.len
  obtain ⟨hk1, hk2⟩ := hk
  by_cases hp : isPermB xs = true
  · have hP := isPermB_iff.1 hp
    have h4 := hP.le
    rw [hl] at h4
    by_cases hr : -1000000000 ≤ k ∧ k ≤ 1000000000
    · have hF : (powL xs k, (0 : Int)) = powF xs k := by unfold powF; rw [if_pos hp, if_pos hr]
      obtain ⟨hr1, hr2⟩ := hr
      have hrb : (decide ((-1000000000 : Int) ≤ k) && decide (k ≤ (1000000000 : Int))) = true := by simp; omega
      replace hF := Lib.hid hF
      replace hl := Lib.hid hl
      replace hp := Lib.hid hp
      replace hP := Lib.hid hP
      go_enter Try.func56, Try.ntmps56
      go_wp2_with fail
      ((with_reducible refine (isPerm_any _ _ _ xs _ _ _ h hhi).mono ?_); rintro e w1 ⟨rfl, hb1⟩)
      rw [hp.out]
      have hs1 := hb1.size
      go_wp2_with fail
      ((with_reducible refine (within_any _ _ _ _).mono ?_); rintro e w' ⟨rfl, rfl⟩)
      rw [hrb]
      go_wp2_with fail
      ((with_reducible refine (power_any _ _ _ xs _ _ (h.below hb1 hhi) (by omega) hP.out hr1 hr2).mono ?_); rintro e w2 ⟨A2, c2, rfl, ho2, hb2⟩)
      go_wp2_with fail
      go_ret2
      exact ⟨_, _, _, _, _, rfl, hF, ho2.more hs1 (Nat.le_refl _), by omega, below_then hb1 hb2 hs1⟩
    · have hF : (([] : List Int), (2 : Int)) = powF xs k := by unfold powF; rw [if_pos hp, if_neg hr]
      have hrb : (decide ((-1000000000 : Int) ≤ k) && decide (k ≤ (1000000000 : Int))) = false := by simp; omega
      replace hF := Lib.hid hF
      replace hl := Lib.hid hl
      replace hp := Lib.hid hp
      replace hP := Lib.hid hP
      clear hr
      go_enter Try.func56, Try.ntmps56
      go_wp2_with fail
      ((with_reducible refine (isPerm_any _ _ _ xs _ _ _ h hhi).mono ?_); rintro e w1 ⟨rfl, hb1⟩)
      rw [hp.out]
      go_wp2_with fail
      ((with_reducible refine (within_any _ _ _ _).mono ?_); rintro e w' ⟨rfl, rfl⟩)
      rw [hrb]
      go_wp2_with fail
      go_ret2
      exact ⟨_, _, _, _, _, rfl, hF, Own.nil, by omega, hb1⟩
  · have hp : isPermB xs = false := by simpa using hp
    have hF : (([] : List Int), (1 : Int)) = powF xs k := by simp [powF, hp]
    replace hF := Lib.hid hF
    replace hp := Lib.hid hp
    replace hl := Lib.hid hl
    go_enter Try.func56, Try.ntmps56
    go_wp2_with fail
    ((with_reducible refine (isPerm_any _ _ _ xs _ _ _ h hhi).mono ?_); rintro e w1 ⟨rfl, hb1⟩)
    rw [hp.out]
    go_wp2_with fail
    go_ret2
    exact ⟨_, _, _, _, _, rfl, hF, Own.nil, by omega, hb1⟩
end Go.Proofs.Ytdaljeghdiknpaa
/- DrwD -/
namespace Go.Proofs.Ytdaljeghdiknpaa
open Go.RowKit
set_option linter.unusedVariables false
set_option maxRecDepth 100000
theorem Src.far {w : World} {lo g : Nat} {T : TypeId} {A : Option Addr} {n c : Nat} {bs : List Int} {i h : Nat} (s : Src w lo g T A n c bs i h) {p : Addr} (h1 : p.block ≠ g) (h2 : lo ≤ p.block) (u : Value) : Src (w.setCell p u) lo g T A n c bs i h :=
  ⟨(Below.heap_setCell _ _ _ _ (fun e => h1 e.symm)).trans s.blk, s.above, s.code.keep fun k _ hk => Below.heap_setCell _ _ _ _ (by omega), s.byte, s.le, s.st⟩
theorem Chg.setNew {lo hi : Nat} {a w : World} (h : Chg lo hi a w) {p : Addr} (h1 : a.heap.size ≤ p.block) (u : Value) : Chg lo hi a (w.setCell p u) :=
  ⟨h.os, h.tape, h.output, by have := h.size; simp only [World.size_setCell]; omega, fun k hk g => (Below.heap_setCell _ _ _ _ (by omega)).trans (h.block k hk g)⟩
/-- what l01Draw leaves: a permutation of m points in a row of its own, the source with another state -/
def DrawnP (w w' : World) (lo g : Nat) (T T1 : TypeId) (A : Option Addr) (n c : Nat) (bs : List Int) (A1 : Option Addr) (m c1 : Nat) : Prop :=
  ∃ (i' h' : Nat) (xs : List Int), Own w' w.heap.size w'.heap.size T1 A1 m c1 (xs.map (Value.int .i64)) ∧ xs.Perm (idL m) ∧ Src w' lo g T A n c bs i' h' ∧ Chg g (g + 1) w w'
theorem pick_any (w : World) (lo g : Nat) (A : Option Addr) (n c : Nat) (bs : List Int) (i h : Nat) (s : Src w lo g 122 A n c bs i h) (A1 : Option Addr) (m c1 : Nat) (xs : List Int) {lo1 hi1 : Nat} (hx : RI w lo1 hi1 A1 m xs) (hg : hi1 ≤ g ∨ g < lo1) (hhi : hi1 ≤ w.heap.size) (h1 : 1 ≤ m) (hm : m ≤ 1048576) :
    Calls Try.prog 81 #[.pointer (some ⟨g, 0, none⟩), .slice A1 m c1] w fun e w' => ∃ (v i' h' : Nat) (y : Int), e = .returned (.int .i64 y) ∧ xs[v]? = some y ∧ Src w' lo g 122 A n c bs i' h' ∧ Chg g (g + 1) w w' ∧ w'.heap.size = w.heap.size := by
  have hn := next_any w lo g A n c bs i h s (m : Int) (by omega) (by omega)
  go_enter Try.func81, Try.ntmps81
  go_wp2_with fail
  ((with_reducible refine hn.mono ?_); rintro e w2 ⟨v, i', rfl, P⟩)
  have p1 := P.ge
  have p2 := P.lt
  obtain ⟨V, rfl⟩ := Int.eq_ofNat_of_zero_le p1
  have hx2 := hx.keep (Same.of_chg P.chg hhi (by omega))
  obtain ⟨b, o, y, rfl, _, _, hy, hc⟩ := hx2.at_ (k := V) (by omega)
  have hs := P.src
  have hc2 := P.chg
  have hz := P.size
  replace hy := Lib.hid hy
  clear P hn
  go_wp2_with fail
  go_ret
  exact ⟨V, i', _, y, rfl, hy.out, hs, hc2, hz⟩
set_option maxHeartbeats 1000000 in
theorem draw_any (w : World) (lo g : Nat) (A : Option Addr) (n c : Nat) (bs : List Int) (i h : Nat) (s : Src w lo g 122 A n c bs i h) (m : Nat) (hm : m ≤ 1048576) :
    Calls Try.prog 124 #[.pointer (some ⟨g, 0, none⟩), .int .i64 m] w fun e w' => ∃ (A1 : Option Addr) (c1 : Nat), e = .returned (.slice A1 m c1) ∧ DrawnP w w' lo g 122 2 A n c bs A1 m c1 := by
  have hgl := s.lt
  go_enter Try.func124, Try.ntmps124
  go_wp2_with fail
  ((with_reducible refine (unit_any m w (by omega)).mono ?_); rintro e w1 ⟨A1, c1, rfl, ho1, hb1⟩)
  have hs1 := hb1.size
  have s1 := s.below hb1 hgl
  have C1 : Chg g (g + 1) w w1 := Chg.of_below _ _ hb1
  go_wp2_with fail
  go_loopw [6] (fun iv wr => ∃ (j : Int) (ys : List Int) (i' h' : Nat), iv = .int .i64 j ∧ -1 ≤ j ∧ j < m ∧ ys.Perm (idL m) ∧ Own wr w.heap.size w1.heap.size 2 A1 m c1 (ys.map (Value.int .i64)) ∧ Src wr lo g 122 A n c bs i' h' ∧ Chg g (g + 1) w wr ∧ w1.heap.size ≤ wr.heap.size) (fun iv _ => (intOf iv).toNat)
  case atStart => exact ⟨(m : Int) - 1, idL m, i, h, by go_num, by omega, by omega, List.Perm.refl _, ho1, s1, C1, Nat.le_refl _⟩
  case round =>
    obtain ⟨j, ys, i', h', rfl, j1, j2, hP, hO, hS, hC, hz⟩ := hrel
    by_cases hj : 0 < j
    · obtain ⟨J, rfl⟩ := Int.eq_ofNat_of_zero_le (show 0 ≤ j by omega)
      have hn := next_any wr lo g A n c bs i' h' hS ((J : Int) + 1) (by omega) (by omega)
      replace hP := Lib.hid hP
      have d1 : decide ((0 : Int) < (J : Int)) = true := by simp; omega
      go_wp2_with fail
      ((with_reducible refine hn.mono ?_); rintro e w2 ⟨v, i2, rfl, P⟩)
      have p1 := P.ge
      have p2 := P.lt
      obtain ⟨V, rfl⟩ := Int.eq_ofNat_of_zero_le p1
      have hs2 := P.src
      have hc2 := P.chg
      have hz2 := P.size
      have hO2 := hO.keep (Same.of_chg hc2 hz (by omega))
      clear P hn
      obtain ⟨b, x, rfl, hb0, hb2, hb3, hx, -, -, hf⟩ := hO2.at_ (k := J) (by omega)
      simp only [List.getElem?_map, Option.map_eq_some_iff] at hx
      obtain ⟨x, hx, rfl⟩ := hx
      obtain ⟨y, hy⟩ : ∃ y, ys[V]? = some y := ⟨_, List.getElem?_eq_getElem (by rw [hO2.lenI]; omega)⟩
      have cJ := hO2.cellI hx
      have cV := hO2.cellI hy
      have fJ := hf J
      have fV := hf V
      clear hf
      have hVy : (ys.set J y)[V]? = some y := by
        rw [List.getElem?_set]
        split
        · split
          · rfl
          · rename_i h3 h4; subst h3; rw [List.getElem?_eq_none (by omega)] at hy; cases hy
        · exact hy
      have cV2 := (hO2.setI (k := J) y).cellI hVy
      have fV2 := (hO2.setI (k := J) y).frz V
      clear hVy
      have k0 : (0 : Int) ≤ (J : Int) := by omega
      have k1 : (J : Int) < (m : Int) := by omega
      have k2 : (V : Int) < (m : Int) := by omega
      replace hx := Lib.hid hx
      replace hy := Lib.hid hy
      go_wp2_with fail
      go_roundw
      case rel =>
        refine ⟨(J : Int) - 1, (ys.set J y).set V x, i2, lcg h', by go_num, by omega, by omega, ?_, ?_, ?_, ?_, ?_⟩
        · refine List.Perm.trans ?_ hP.out
          obtain ⟨q1, e1⟩ := List.getElem?_eq_some_iff.1 hx.out
          obtain ⟨q2, e2⟩ := List.getElem?_eq_some_iff.1 hy.out
          subst e1; subst e2
          exact List.set_set_perm q1 q2
        · exact (hO2.setI y).setI x
        · exact (hs2.far (p := ⟨b, J, none⟩) (by simp; omega) (by simp; have := hs2.above; omega) _).far (by simp; omega) (by simp; have := hs2.above; omega) _
        · exact ((hC.trans hc2 ⟨Nat.le_refl _, Nat.le_refl _⟩ ⟨Nat.le_refl _, Nat.le_refl _⟩).setNew hb0 _).setNew hb0 _
        · simp; omega
      case measure => simp [intOf]; omega
    · have d1 : decide ((0 : Int) < j) = false := by simp; omega
      go_wp2_with fail
      go_ret
      exact ⟨A1, c1, rfl, i', h', ys, hO.more (Nat.le_refl _) hz, hP, hS, hC⟩
end Go.Proofs.Ytdaljeghdiknpaa
/- Step -/
namespace Go.Proofs.Ytdaljeghdiknpaa
open Go.RowKit
set_option linter.unusedVariables false
theorem step_call {P : Program} {w : World} {ops : Array Oper} {o : Oper} {a : Act} {K : Act → World → Prop} {Q : Exit → Act → World → Prop} {E : Prop} (hgd : o.guard = none) (f : FuncId) (vs : Array Value)
    (hrun : (execOp a.eval o).run P w = .ok (.enter f vs) w) {R : Ending → World → Prop} (h : Calls P f vs w R)
    (hK : ∀ e w', R e w' → ∃ u, e = .returned u ∧ K (a.put o.dst u) w') :
    if Region.wanted o (yielded ops a.tmps) = true then Oper.wp P o a w K Q else E := by
  have hw : Region.wanted o (yielded ops a.tmps) = true := by simp [Region.wanted, hgd]
  rw [if_pos hw]
  unfold Oper.wp
  rw [hrun, Oper.upon_enter]
  refine h.mono fun e w' hr => ?_
  obtain ⟨u, rfl, hk⟩ := hK e w' hr
  exact hk
/-- 'append(s, xs...)': whole slices, inside a region that draws -/
theorem step_appendL {P : Program} (w : World) {ops : Array Oper} {o : Oper} {a : Act} {K : Act → World → Prop} {Q : Exit → Act → World → Prop} {E : Prop} (hgd : o.guard = none) (s x : Operand) (t : TypeId)
    (ho : o.op = .call { callee := .builtin .append, args := #[s, x], argTypes := #[t, t] })
    (lo : Nat) (e : TypeId) (i : TypeInfo) (z : Value) (bytes : Nat) (ht : P.underlying t = some (.slice e)) (hi : P.info? e = some i) (hz : i.zero = some z)
    (hsize : i.size = 1) (hby : i.bytes = bytes) (hzs : z.cells.size = 1) (hbs : bytes ≤ 64)
    (A : Option Addr) (n c : Nat) (vs : List Value) (hs : a.eval s = .slice A n c) (hown : w.ownsRow lo e 1 (.slice A n c) n vs)
    (A' : Option Addr) (m c' : Nat) (us : List Value) (l1 l2 : Nat) (hx : a.eval x = .slice A' m c') (hr : Rd w l1 l2 A' m us) (h1 : ∀ u ∈ us, u.oneCell' = true) (h63 : n + m ≤ 1099511627776) (hlo : lo ≤ w.heap.size)
    (h : ∀ A2 c2 w', w'.ownsRow lo e 1 (.slice A2 (n + m) c2) (n + m) (vs ++ us) → w.grownBy w' (Value.slice A n c).ownBlock →
      ((Value.slice A2 (n + m) c2).ownBlock = (Value.slice A n c).ownBlock ∨ (Value.slice A2 (n + m) c2).ownBlock = some w.heap.size) → K (a.put o.dst (.slice A2 (n + m) c2)) w') :
    if Region.wanted o (yielded ops a.tmps) = true then Oper.wp P o a w K Q else E := by
  have hl : us.length = m := hr.1
  have key : ∃ v' w', (Builtin.append_ #[t, t] o.type #[.slice A n c, .slice A' m c']).run P w = .ok v' w' ∧ w'.ownsRow lo e 1 v' (n + m) (vs ++ us) ∧ w.grownBy w' (Value.slice A n c).ownBlock ∧
      (v'.ownBlock = (Value.slice A n c).ownBlock ∨ v'.ownBlock = some w.heap.size) := by
    have hb : (n + m) * bytes ≤ 140737488355328 := by have := Nat.mul_le_mul h63 hbs; omega
    rcases Nat.eq_zero_or_pos m with h0 | h0
    · subst h0
      have hn : us = [] := List.eq_nil_of_length_eq_zero hl
      subst hn
      rcases A' with _ | ad
      · refine ⟨_, w, ?_, by simpa using hown, World.grownBy.refl w _, .inl rfl⟩
        rcases hown.2 with ⟨hv, hn⟩ | ⟨g, cap, cur, hv, _, _, hnc, _⟩
        · subst hn
          injection hv with h1 _ h3
          subst h1; subst h3
          simp [Builtin.append_, run_underlying ht, sizeOf, typeInfo, hi, Builtin.lenOf, Builtin.firstCells]
        · injection hv with h1 _ h3
          subst h1; subst h3
          simp [Builtin.append_, run_underlying ht, sizeOf, typeInfo, hi, Builtin.lenOf, Builtin.firstCells, hnc, storeCells]
      · obtain ⟨v', w', q1, q2, q3, _, q5⟩ := run_append_own_at (P := P) w lo t o.type e i z 1 bytes ht hi hz hsize hby hzs (by omega) (.slice A n c) n vs hown ad 0 c' [] rfl (by simp) (by simp) (by simp only [maxLen]; omega) hb hlo
        exact ⟨v', w', q1, q2, q3, q5⟩
    · obtain ⟨b, off, rfl, _, _, hc⟩ := hr.2.2 h0
      obtain ⟨v', w', q1, q2, q3, _, q5⟩ := run_append_own_at (P := P) w lo t o.type e i z 1 bytes ht hi hz hsize hby hzs (by omega) (.slice A n c) n vs hown ⟨b, off, none⟩ m c' us (by omega) (fun j u hu => by rw [Addr.add_lit]; exact hc j u hu) h1 (by simp only [maxLen]; omega) hb hlo
      exact ⟨v', w', q1, q2, q3, q5⟩
  obtain ⟨v', w', hrun, r1, r2, r3⟩ := key
  obtain ⟨A2, c2, rfl⟩ := slice_of_own' r1
  have hw : Region.wanted o (yielded ops a.tmps) = true := by simp [Region.wanted, hgd]
  rw [if_pos hw]
  unfold Oper.wp execOp
  simp only [ho, resolve, invoke, builtin, Sem.run_bind, Sem.run_pure, Result.andThen_ok, List.map_toArray, List.map_cons, List.map_nil, hs, hx, hrun]
  exact h A2 c2 w' r1 r2 r3
end Go.Proofs.Ytdaljeghdiknpaa
/- Dic -/
namespace Go.Proofs.Ytdaljeghdiknpaa
open Go.RowKit
set_option linter.unusedVariables false
set_option maxRecDepth 100000
theorem below_core (w : World) (lo g : Nat) (A : Option Addr) (n c : Nat) (bs : List Int) (i h H u q : Nat) (s : Src w lo g 79 A n c bs i h) (x : Int) (h1 : 1 ≤ x) (hx : x ≤ 1099511627776)
    (e1 : IntKind.u64.wrap ((h : Int) * 6364136223846793005) = (u : Int)) (e2 : IntKind.u64.wrap ((u : Int) + 1442695040888963407) = (H : Int)) (e3 : bits BinOp.and IntKind.u64 ((H : Int) / 8589934592) 16777215 = (q : Int)) (hH : H < 18446744073709551616) (hq2 : q < 16777216) :
    Calls Try.prog 17 #[.pointer (some ⟨g, 0, none⟩), .int .i64 x] w fun e w' => ∃ (v : Int) (i' : Nat), e = .returned (.int .i64 v) ∧ NextP w w' lo g 79 A n c bs i H q x v i' := by
  have hst := s.st
  have c2 := s.cell2
  have f2 := s.frozen 2
  have s1 := s.setH hH
  have d0 := s1.cell0
  have d1 := s1.cell1
  have d2 := s1.cell2
  have g1 := s1.frozen 1
  have hn := s.code.2.1
  have hin := s.le
  have hB1 : Chg g (g + 1) w (w.setCell ⟨g, 2, none⟩ (.int .u64 H)) := (Chg.refl _ _ _).setCell (by simp) (by simp) _
  by_cases hlt : i < n
  · obtain ⟨b, o, y, rfl, hb, hy, y0, y1⟩ := s1.byteAt hlt
    have hd : decide ((i : Int) < (n : Int)) = true := by simp; omega
    have k1 : (0 : Int) ≤ (i : Int) := by omega
    have k2 : (i : Int) < (n : Int) := by omega
    go_enter Try.func17, Try.ntmps17
    go_wp2_with fail
    go_quiet (fail)
    go_wp2_with fail
    go_quiet (fail)
    go_wp2_with fail
    go_ret
    refine ⟨((q : Int) + y) % x, i + 1, rfl, ?_⟩
    constructor
    · exact Int.emod_nonneg _ (by omega)
    · exact Int.emod_lt_of_pos _ (by omega)
    · exact (s1.drewN _).setI (I := i + 1) hlt
    · exact (hB1.drewN _).setCell (by simp) (by simp) _
    · simp
    · exact fun _ => rfl
    · exact fun hh => absurd hlt hh
  · have hd : decide ((i : Int) < (n : Int)) = false := by simp; omega
    go_enter Try.func17, Try.ntmps17
    go_wp2_with fail
    go_quiet (fail)
    go_wp2_with fail
    go_ret
    refine ⟨(q : Int) % x, i, rfl, ?_⟩
    constructor
    · exact Int.emod_nonneg _ (by omega)
    · exact Int.emod_lt_of_pos _ (by omega)
    · exact s1.drewN _
    · exact hB1.drewN _
    · simp
    · exact fun hh => absurd hh hlt
    · exact fun _ => ⟨rfl, rfl⟩
theorem below_any (w : World) (lo g : Nat) (A : Option Addr) (n c : Nat) (bs : List Int) (i h : Nat) (s : Src w lo g 79 A n c bs i h) (x : Int) (h1 : 1 ≤ x) (hx : x ≤ 1099511627776) :
    Calls Try.prog 17 #[.pointer (some ⟨g, 0, none⟩), .int .i64 x] w fun e w' => ∃ (v : Int) (i' : Nat), e = .returned (.int .i64 v) ∧ NextP w w' lo g 79 A n c bs i (lcg h) (lcg h / 8589934592 % 16777216) x v i' := by
  obtain ⟨u, hu⟩ : ∃ u, (h * 6364136223846793005) % 18446744073709551616 = u := ⟨_, rfl⟩
  obtain ⟨e1, e2⟩ := lcg_wrap h u hu
  have hH : lcg h < 18446744073709551616 := by unfold lcg; omega
  exact below_core w lo g A n c bs i h (lcg h) u _ s x h1 hx e1 e2 (lcg_bits (lcg h) hH) hH (by omega)
/-- below 1: it returns 0 and the source stays -/
theorem below_zero (w : World) (g : Nat) (x : Int) (hx : x < 1) :
    Calls Try.prog 17 #[.pointer (some ⟨g, 0, none⟩), .int .i64 x] w fun e w' => e = .returned (.int .i64 0) ∧ w = w' := by
  go_enter Try.func17, Try.ntmps17
  go_wp2_with fail
  go_ret
  exact ⟨rfl, rfl⟩
theorem roll_any (w : World) (A : Option Addr) (n c : Nat) (bs : List Int) (h : Rd w 0 w.heap.size A n (bs.map (Value.int .u8))) (hb : ∀ x ∈ bs, 0 ≤ x ∧ x < 256) (hn : n ≤ 1048576) (sd : Nat) (hsd : sd ≤ 1048576) :
    Calls Try.prog 16 #[.slice A n c, .int .u64 sd] w fun e w' => ∃ H : Nat, e = .returned (.pointer (some ⟨w.heap.size, 0, none⟩)) ∧ Src w' w.heap.size w.heap.size 79 A n c bs 0 H ∧ Below w.heap.size w w' := by
  have hsrc : Src (w.alloc (.cells #[.slice A n c, .int .i64 0, .int .u64 ((sd * 7681 + n : Nat) : Int)] 79)) w.heap.size w.heap.size 79 A n c bs 0 (sd * 7681 + n) :=
    ⟨heap_newest w _, Nat.le_refl _, h.below ((Below.refl _ _).alloc (Nat.le_refl _) _) (Nat.le_refl _), hb, Nat.zero_le _, by omega⟩
  have e0 : IntKind.u64.wrap ((sd : Int) * 7681) = ((sd * 7681 : Nat) : Int) := by rw [IntKind.wrap_u64]; omega
  have e4 : IntKind.u64.wrap (((sd * 7681 : Nat) : Int) + (n : Int)) = ((sd * 7681 + n : Nat) : Int) := by rw [IntKind.wrap_u64]; omega
  replace hsrc := Lib.hid hsrc
  replace hb := Lib.hid hb
  go_enter Try.func16, Try.ntmps16
  go_wp2_with fail
  go_loopw [6] (fun iv wr => ∃ (k H : Nat), iv = .int .i64 k ∧ k ≤ n ∧ Hid (Src wr w.heap.size w.heap.size 79 A n c bs 0 H) ∧ Below w.heap.size w wr) (fun iv _ => n - (intOf iv).toNat)
  case atStart => exact ⟨0, sd * 7681 + n, rfl, Nat.zero_le _, hsrc, (Below.refl _ _).alloc (Nat.le_refl _) _⟩
  case round =>
    obtain ⟨k, H, rfl, hk, hS, hB⟩ := hrel
    by_cases hlt : k < n
    · have h4 : True := trivial
      · have S := hS.out
        have c2 := S.cell2
        have f2 := S.frozen 2
        obtain ⟨b, o, v, rfl, _, hb2, hv, hc⟩ := S.code.at_ hlt
        simp only [List.getElem?_map, Option.map_eq_some_iff] at hv
        obtain ⟨y, hy, rfl⟩ := hv
        obtain ⟨y0, y1⟩ := S.byte y (List.mem_of_getElem? hy)
        obtain ⟨H1, g1, e1⟩ := u64_nat ((H : Int) * 1099511628211)
        obtain ⟨H2, g2, e2⟩ := u64_nat ((H1 : Int) + y)
        obtain ⟨H3, g3, e3⟩ := u64_nat ((H2 : Int) + 5)
        have S3 := Lib.hid (S.setH g3)
        have k1 : (0 : Int) ≤ (k : Int) := by omega
        have k2 : (k : Int) < (n : Int) := by omega
        clear hy S
        go_wp2_with fail
        go_region
        go_wp2_with fail
        go_roundw
        case rel =>
          have hB2 := hB.setCell (p := ⟨w.heap.size, 2, none⟩) (Nat.le_refl _) (.int .u64 H3)
          exact ⟨k + 1, H3, by go_num, by omega, Lib.hid S3.out.drew, ⟨hB2.os, hB2.tape, hB2.output, hB2.size, hB2.block⟩⟩
        case measure => simp [intOf]; omega
    · go_wp2_with fail
      go_ret
      exact ⟨H, rfl, hS.out, hB⟩
end Go.Proofs.Ytdaljeghdiknpaa
