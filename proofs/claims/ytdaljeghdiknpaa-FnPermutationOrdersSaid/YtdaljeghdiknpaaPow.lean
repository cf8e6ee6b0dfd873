/- Walks: identities, powers of permutations. Permutations of at most 400 points, exponents up to 10^9. -/
import Derived.Test.YtdaljeghdiknpaaOrd
namespace Go.Proofs.Ytdaljeghdiknpaa
open Go.RowKit
set_option linter.unusedVariables false
set_option maxRecDepth 100000
set_option maxHeartbeats 400000 in
theorem identity_any (n : Nat) (w : World) (h4 : n ≤ 1048576) :
    Calls Try.prog 151 #[.int .i64 n] w fun e w' => ∃ A1, e = .returned (.slice A1 n n) ∧ Own w' w.heap.size w'.heap.size 2 A1 n n ((idL n).map (Value.int .i64)) ∧ Below w.heap.size w w' := by
  obtain ⟨i0, hi0, hz0, hz1, hz2⟩ := info_parts infoI
  go_enter Try.func151, Try.ntmps151
  go_wp2_with (at_make; refine wpList_make_full _ rfl _ _ 27 rfl w.heap.size 2 i0 (.int .i64 0) 1 Try.underlying27 hi0 hz0 hz1 _ _ _ _ n rfl rfl rfl rfl ?c1 ?c2 (Nat.le_refl _) ?_)
  case c1 => rw [hz2]; omega
  case c2 => simp only [maxLen]; omega
  intro w1 hown hg
  have hb1 : Below w.heap.size w w1 := below_of_grown hg (Nat.le_refl _) (by simp)
  go_wp2_with fail
  go_loopw [9] (fun i wr => ∃ (k : Nat) (ys : List Int), k ≤ n ∧ i = .int .i64 k ∧ Hid (∀ j, j < k → ys[j]? = some (j : Int)) ∧ wr.ownsRow w.heap.size 2 1 (.slice (some ⟨w.heap.size, 0, none⟩) n n) n (ys.map (Value.int .i64)) ∧ Below w.heap.size w wr) (fun i wr => n - (intOf i).toNat)
  case atStart =>
    refine ⟨0, List.replicate n 0, by omega, rfl, Lib.hid (fun j hj => absurd hj (by omega)), ?_, hb1⟩
    simpa [toList_madeCells_one, Value.cells] using hown
  case round =>
    obtain ⟨k, ys, hk, rfl, hys, ho, hb⟩ := hrel
    by_cases hlt : k < n
    · have hyl : ys.length = n := by have := ho.1; simpa using this
      replace hyl := Lib.hid hyl
      have hc3 : wr.cell? ⟨w.heap.size, k, none⟩ = some (.int .i64 (ys.getD k 0)) := by
        have hyl := hyl.out
        rw [ho.cellAt k (by omega)]; simp [List.getD, hyl, hlt]
      have hfr := ho.frozenAt k
      go_wp2_with fail
      go_roundw
      case rel =>
        refine ⟨k + 1, ys.set k (k : Int), by omega, by go_num, Lib.hid (fun j hj => ?_), ?_, hb.setCell (by simp) _⟩
        · have hyl := hyl.out
          rw [List.getElem?_set]
          by_cases e : k = j
          · subst e; rw [if_pos rfl, if_pos (by omega)]
          · rw [if_neg e]; exact hys.out j (by omega)
        · rw [List.map_set]; exact (ho.stored k (.int .i64 k)).1
      case measure => simp [intOf]; omega
    · go_wp2_with fail
      go_ret
      have hkn : k = n := by omega
      subst hkn
      have hyl : ys.length = k := by have := ho.1; simpa using this
      have e : ys = idL k := list_ext_upto k (by omega) (by rw [idL_length]; omega) fun j hj => by rw [hys.out j hj, idL_get hj]
      exact ⟨_, rfl, Own.of_row (e ▸ ho), hb⟩
set_option maxHeartbeats 400000 in
theorem unit_any (n : Nat) (w : World) (h4 : n ≤ 1048576) :
    Calls Try.prog 125 #[.int .i64 n] w fun e w' => ∃ A1 c1, e = .returned (.slice A1 n c1) ∧ Own w' w.heap.size w'.heap.size 2 A1 n c1 ((idL n).map (Value.int .i64)) ∧ Below w.heap.size w w' := by
  obtain ⟨j0, hj0, hy0, hy1, hy2⟩ := info_parts infoI
  have h0 := World.ownsRow_lit (e := 2) (base := w.heap.size) (size := 1) w #[] 0 (Nat.le_refl _) (by omega) rfl
  go_enter Try.func125, Try.ntmps125
  go_wp2_with fail
  go_loopw [3, 4] (fun v i wr => ∃ (k : Nat) (A2 : Option Addr) (c2 : Nat), k ≤ n ∧ v = .slice A2 k c2 ∧ i = .int .i64 k ∧ wr.ownsRow w.heap.size 2 1 (.slice A2 k c2) k (((idL n).take k).map (Value.int .i64)) ∧ Below w.heap.size w wr) (fun _ i wr => n - (intOf i).toNat)
  case atStart => exact ⟨0, _, 0, by omega, rfl, rfl, by simpa using h0, (Below.refl _ _).alloc (Nat.le_refl _) _⟩
  case round =>
    obtain ⟨k, A2, c2, hk, rfl, rfl, ho, hb⟩ := hrel
    by_cases hlt : k < n
    · have hbs := hb.size
      go_wp2_with (at_builtin; refine wpList_append1 wr rfl (.tmp 11) (.tmp 13) 27 rfl w.heap.size 2 j0 (.int .i64 0) 8 Try.underlying27 hj0 hy0 hy1 hy2 rfl (by omega) _ k c2 _ (.int .i64 k) rfl ho _ rfl rfl rfl (by omega) hbs ?_)
      intro g c3 w2 ho2 hg2 hlo2 hlt2 hor2
      have hb2 : Below w.heap.size w w2 := hb.grown hg2 hbs (fun q hq => (ho.lt q hq).1)
      go_wp2_with fail
      go_roundw
      case rel =>
        refine ⟨k + 1, _, c3, by omega, rfl, by go_num, ?_, hb2⟩
        rw [take_succ_of (idL_get hlt), List.map_append]
        simpa using ho2
      case measure => simp [intOf]; omega
    · go_wp2_with fail
      go_ret
      have hkn : k = n := by omega
      subst hkn
      rw [List.take_of_length_le (by rw [idL_length]; omega)] at ho
      exact ⟨_, _, rfl, Own.of_row ho, hb⟩
theorem rng_of {p : List Int} {n : Nat} (h : isPermP p) (hl : p.length = n) : ∀ x ∈ p, 0 ≤ x ∧ x < n := by
  have := h.rng; rw [hl] at this; exact this
set_option maxHeartbeats 1000000 in
theorem power_any (A : Option Addr) (n c : Nat) (xs : List Int) (k : Int) (w : World) {lo hi : Nat} (h : RI w lo hi A n xs) (hhi : hi ≤ w.heap.size) (hP : isPermP xs) (hk1 : -1000000000 ≤ k) (hk2 : k ≤ 1000000000) :
    Calls Try.prog 120 #[.slice A n c, .int .i64 k] w fun e w' => ∃ A1 c1, e = .returned (.slice A1 n c1) ∧ Own w' w.heap.size w'.heap.size 2 A1 n c1 ((powL xs k).map (Value.int .i64)) ∧ Below w.heap.size w w' := by
  have hl := h.len
  have h4 := hP.le
  rw [hl] at h4
  have hR := rng_of hP hl
  have hN := hP.nd
  have hid := idL_perm h4
  by_cases hneg : k < 0
  · obtain ⟨mo, rfl⟩ : ∃ mo : Nat, k = -(mo : Int) := ⟨k.natAbs, by omega⟩
    have hpow : powGo 40 (invL xs) (idL n) mo = powL xs (-(mo : Int)) := by unfold powL; rw [if_pos hneg, hl]; simp
    have hI := invL_perm hP
    have hm0 : 0 < mo := by omega
    replace hI := Lib.hid hI
    replace hpow := Lib.hid hpow
    replace hl := Lib.hid hl
    replace hR := Lib.hid hR
    replace hN := Lib.hid hN
    replace hid := Lib.hid hid
    replace hP := Lib.hid hP
    go_enter Try.func120, Try.ntmps120
    go_wp2_with fail
    ((with_reducible refine (inverse_any _ _ _ xs _ _ _ h hhi (by omega) hR.out hN.out).mono ?_); rintro e w1 ⟨A1, rfl, ho1, hb1⟩)
    have hs1 := hb1.size
    go_wp2_with (go_at_call 105; refine (sizeI_any _ _ _ _ (by omega)).mono ?_; rintro e w' ⟨rfl, rfl⟩)
    ((with_reducible refine (identity_any n _ (by omega)).mono ?_); rintro e w2 ⟨A2, rfl, ho2, hb2⟩)
    have hs2 := hb2.size
    have hB2 := below_then hb1 hb2 hs1
    go_wp2_with fail
    go_loopg [0, 1, 5] 40 (fun f pv kv ov wr => ∃ (q : List Int) (Aq : Option Addr) (cq : Nat) (m : Nat) (out : List Int) (Ao : Option Addr) (co : Nat), pv = .slice Aq n cq ∧ kv = .int .i64 m ∧ ov = .slice Ao n co ∧ m < 2 ^ f ∧ m ≤ 1000000000 ∧
        Hid (powGo f q out m = powL xs (-(mo : Int))) ∧ Hid (isPermP q) ∧ Hid (isPermP out) ∧ RI wr 0 wr.heap.size Aq n q ∧ Own wr w.heap.size wr.heap.size 2 Ao n co (out.map (Value.int .i64)) ∧ Below w.heap.size w wr)
    case atStart => exact ⟨_, _, _, mo, _, _, _, rfl, by simp, rfl, by omega, by omega, hpow, hI, hid, ((ho1.ri.below hb2 (Nat.le_refl _)).more (Nat.zero_le _) (by omega)), ho2.more (by omega) (Nat.le_refl _), hB2⟩
    case round =>
      obtain ⟨q, Aq, cq, m, out, Ao, co, rfl, rfl, rfl, hmf, hmx, hpow, hq, hout, hri, ho, hb⟩ := hrel
      have hmq := hri.max
      have hbs := hb.size
      by_cases hm0 : m = 0
      · subst hm0
        go_wp2_with fail
        go_ret
        refine ⟨_, _, rfl, ?_, hb⟩
        have hpow := hpow.out
        rw [powGo_stop] at hpow
        rw [← hpow]
        exact ho
      · obtain ⟨f, rfl⟩ : ∃ f, gk = f + 1 := ⟨gk - 1, by have : gk ≠ 0 := (fun e => by subst e; simp at hmf; omega); omega⟩
        have hmf2 : m / 2 < 2 ^ f := by rw [Nat.pow_succ] at hmf; omega
        replace hmf := Lib.hid hmf
        replace hmf2 := Lib.hid hmf2
        have hql := hri.len
        have hol := ho.ri.len
        have hqR := rng_of hq.out hql
        have hoR := rng_of hout.out hol
        have hqq := thenL_perm hq.out hq.out rfl
        have hoq := thenL_perm hout.out hq.out (by omega)
        replace hql := Lib.hid hql
        replace hol := Lib.hid hol
        replace hqR := Lib.hid hqR
        replace hoR := Lib.hid hoR
        replace hqq := Lib.hid hqq
        replace hoq := Lib.hid hoq
        have hpos : (0 : Int) < (m : Int) := by omega
        have hdv : (m : Int) / 2 = ((m / 2 : Nat) : Int) := by omega
        replace hdv := Lib.hid hdv
        by_cases hodd : m % 2 = 1
        · have hob : ((m : Int) % 2 == 1) = true := by simp; omega
          have hnx := powGo_odd (f := f) (p := q) (out := out) (by omega : 0 < m) hodd
          replace hnx := Lib.hid hnx
          replace hodd := Lib.hid hodd
          go_wp2_with fail
          ((with_reducible refine (then_any _ _ _ out _ _ _ q _ ho.ri (Nat.le_refl _) hri (Nat.le_refl _) (by omega) hoR.out).mono ?_); rintro e w5 ⟨A5, rfl, ho5, hb5⟩)
          have hs5 := hb5.size
          have hri5 := hri.below hb5 (Nat.le_refl _)
          go_wp2_with fail
          ((with_reducible refine (then_any _ _ _ q _ _ _ q _ hri5 (by omega) hri5 (by omega) (by omega) hqR.out).mono ?_); rintro e w6 ⟨A6, rfl, ho6, hb6⟩)
          have hs6 := hb6.size
          have hB := below_then (below_then hb hb5 hbs) hb6 (by omega)
          go_wp2_with fail
          go_roundg f
          case measure => omega
          case rel =>
            refine ⟨_, _, _, m / 2, _, _, _, rfl, by rw [hdv.out], rfl, hmf2.out, by omega, Lib.hid (by rw [← hpow.out, hnx.out]), hqq, hoq, ho6.ri.more (Nat.zero_le _) (Nat.le_refl _), (ho5.more hbs (Nat.le_refl _)).below hb6 (Nat.le_refl _) |>.more (Nat.le_refl _) hs6, hB⟩
        · have hob : ((m : Int) % 2 == 1) = false := by simp; omega
          have hnx := powGo_even (f := f) (p := q) (out := out) (by omega : 0 < m) (by omega)
          replace hnx := Lib.hid hnx
          replace hodd := Lib.hid hodd
          go_wp2_with fail
          ((with_reducible refine (then_any _ _ _ q _ _ _ q _ hri (Nat.le_refl _) hri (Nat.le_refl _) (by omega) hqR.out).mono ?_); rintro e w6 ⟨A6, rfl, ho6, hb6⟩)
          have hs6 := hb6.size
          have hB := below_then hb hb6 hbs
          go_wp2_with fail
          go_roundg f
          case measure => omega
          case rel =>
            refine ⟨_, _, _, m / 2, _, _, _, rfl, by rw [hdv.out], rfl, hmf2.out, by omega, Lib.hid (by rw [← hpow.out, hnx.out]), hqq, hout, ho6.ri.more (Nat.zero_le _) (Nat.le_refl _), (ho.below hb6 (Nat.le_refl _)).more (Nat.le_refl _) hs6, hB⟩
  · obtain ⟨mo, rfl⟩ : ∃ mo : Nat, k = (mo : Int) := ⟨k.natAbs, by omega⟩
    have hpow : powGo 40 xs (idL n) mo = powL xs (mo : Int) := by unfold powL; rw [if_neg hneg, hl]; simp
    replace hpow := Lib.hid hpow
    replace hl := Lib.hid hl
    replace hR := Lib.hid hR
    replace hN := Lib.hid hN
    replace hid := Lib.hid hid
    replace hP := Lib.hid hP
    go_enter Try.func120, Try.ntmps120
    go_wp2_with (go_at_call 105; refine (sizeI_any _ _ _ _ (by omega)).mono ?_; rintro e w' ⟨rfl, rfl⟩)
    ((with_reducible refine (identity_any n _ (by omega)).mono ?_); rintro e w2 ⟨A2, rfl, ho2, hb2⟩)
    have hs2 := hb2.size
    have hB2 := hb2
    go_wp2_with fail
    go_loopg [0, 1, 5] 40 (fun f pv kv ov wr => ∃ (q : List Int) (Aq : Option Addr) (cq : Nat) (m : Nat) (out : List Int) (Ao : Option Addr) (co : Nat), pv = .slice Aq n cq ∧ kv = .int .i64 m ∧ ov = .slice Ao n co ∧ m < 2 ^ f ∧ m ≤ 1000000000 ∧
        Hid (powGo f q out m = powL xs (mo : Int)) ∧ Hid (isPermP q) ∧ Hid (isPermP out) ∧ RI wr 0 wr.heap.size Aq n q ∧ Own wr w.heap.size wr.heap.size 2 Ao n co (out.map (Value.int .i64)) ∧ Below w.heap.size w wr)
    case atStart => exact ⟨_, _, _, mo, _, _, _, rfl, rfl, rfl, by omega, by omega, hpow, hP, hid, ((h.below hb2 (by omega)).more (Nat.zero_le _) (by omega)), ho2, hB2⟩
    case round =>
      obtain ⟨q, Aq, cq, m, out, Ao, co, rfl, rfl, rfl, hmf, hmx, hpow, hq, hout, hri, ho, hb⟩ := hrel
      have hmq := hri.max
      have hbs := hb.size
      by_cases hm0 : m = 0
      · subst hm0
        go_wp2_with fail
        go_ret
        refine ⟨_, _, rfl, ?_, hb⟩
        have hpow := hpow.out
        rw [powGo_stop] at hpow
        rw [← hpow]
        exact ho
      · obtain ⟨f, rfl⟩ : ∃ f, gk = f + 1 := ⟨gk - 1, by have : gk ≠ 0 := (fun e => by subst e; simp at hmf; omega); omega⟩
        have hmf2 : m / 2 < 2 ^ f := by rw [Nat.pow_succ] at hmf; omega
        replace hmf := Lib.hid hmf
        replace hmf2 := Lib.hid hmf2
        have hql := hri.len
        have hol := ho.ri.len
        have hqR := rng_of hq.out hql
        have hoR := rng_of hout.out hol
        have hqq := thenL_perm hq.out hq.out rfl
        have hoq := thenL_perm hout.out hq.out (by omega)
        replace hql := Lib.hid hql
        replace hol := Lib.hid hol
        replace hqR := Lib.hid hqR
        replace hoR := Lib.hid hoR
        replace hqq := Lib.hid hqq
        replace hoq := Lib.hid hoq
        have hpos : (0 : Int) < (m : Int) := by omega
        have hdv : (m : Int) / 2 = ((m / 2 : Nat) : Int) := by omega
        replace hdv := Lib.hid hdv
        by_cases hodd : m % 2 = 1
        · have hob : ((m : Int) % 2 == 1) = true := by simp; omega
          have hnx := powGo_odd (f := f) (p := q) (out := out) (by omega : 0 < m) hodd
          replace hnx := Lib.hid hnx
          replace hodd := Lib.hid hodd
          go_wp2_with fail
          ((with_reducible refine (then_any _ _ _ out _ _ _ q _ ho.ri (Nat.le_refl _) hri (Nat.le_refl _) (by omega) hoR.out).mono ?_); rintro e w5 ⟨A5, rfl, ho5, hb5⟩)
          have hs5 := hb5.size
          have hri5 := hri.below hb5 (Nat.le_refl _)
          go_wp2_with fail
          ((with_reducible refine (then_any _ _ _ q _ _ _ q _ hri5 (by omega) hri5 (by omega) (by omega) hqR.out).mono ?_); rintro e w6 ⟨A6, rfl, ho6, hb6⟩)
          have hs6 := hb6.size
          have hB := below_then (below_then hb hb5 hbs) hb6 (by omega)
          go_wp2_with fail
          go_roundg f
          case measure => omega
          case rel =>
            refine ⟨_, _, _, m / 2, _, _, _, rfl, by rw [hdv.out], rfl, hmf2.out, by omega, Lib.hid (by rw [← hpow.out, hnx.out]), hqq, hoq, ho6.ri.more (Nat.zero_le _) (Nat.le_refl _), (ho5.more hbs (Nat.le_refl _)).below hb6 (Nat.le_refl _) |>.more (Nat.le_refl _) hs6, hB⟩
        · have hob : ((m : Int) % 2 == 1) = false := by simp; omega
          have hnx := powGo_even (f := f) (p := q) (out := out) (by omega : 0 < m) (by omega)
          replace hnx := Lib.hid hnx
          replace hodd := Lib.hid hodd
          go_wp2_with fail
          ((with_reducible refine (then_any _ _ _ q _ _ _ q _ hri (Nat.le_refl _) hri (Nat.le_refl _) (by omega) hqR.out).mono ?_); rintro e w6 ⟨A6, rfl, ho6, hb6⟩)
          have hs6 := hb6.size
          have hB := below_then hb hb6 hbs
          go_wp2_with fail
          go_roundg f
          case measure => omega
          case rel =>
            refine ⟨_, _, _, m / 2, _, _, _, rfl, by rw [hdv.out], rfl, hmf2.out, by omega, Lib.hid (by rw [← hpow.out, hnx.out]), hqq, hout, ho6.ri.more (Nat.zero_le _) (Nat.le_refl _), (ho.below hb6 (Nat.le_refl _)).more (Nat.le_refl _) hs6, hB⟩
set_option maxHeartbeats 1000000 in
theorem i_PowerPermutation_any (w : World) (A : Option Addr) (n c : Nat) (xs : List Int) {lo hi : Nat} (h : RI w lo hi A n xs) (hhi : hi ≤ w.heap.size) (k : Int) (hk : -9223372036854775808 ≤ k ∧ k ≤ 9223372036854775807) :
    Calls Try.prog 56 #[.slice A n c, .int .i64 k] w fun e w' => ∃ (A1 : Option Addr) (n1 c1 : Nat) (zs : List Int) (code : Int), e = .returned (.tuple #[.slice A1 n1 c1, .int .i64 code]) ∧ Hid ((zs, code) = powF xs k) ∧ Own w' w.heap.size w'.heap.size 2 A1 n1 c1 (zs.map (Value.int .i64)) ∧ n1 ≤ 1048576 ∧ Below w.heap.size w w' := by
  have hl := h.len
  obtain ⟨hk1, hk2⟩ := hk
  by_cases hp : isPermB xs = true
  · have hP := isPermB_iff.1 hp
    have h4 := hP.le
    rw [hl] at h4
    by_cases hr : -1000000000 ≤ k ∧ k ≤ 1000000000
    · have hF : (powL xs k, (0 : Int)) = powF xs k := by unfold powF; rw [if_pos hp, if_pos hr]
      obtain ⟨hr1, hr2⟩ := hr
      have hrb : (decide ((-1000000000 : Int) ≤ k) && decide (k ≤ (1000000000 : Int))) = true := by simp; omega
      replace hF := Lib.hid hF
      replace hl := Lib.hid hl
      replace hp := Lib.hid hp
      replace hP := Lib.hid hP
      go_enter Try.func56, Try.ntmps56
      go_wp2_with fail
      ((with_reducible refine (isPerm_any _ _ _ xs _ _ _ h hhi).mono ?_); rintro e w1 ⟨rfl, hb1⟩)
      rw [hp.out]
      have hs1 := hb1.size
      go_wp2_with fail
      ((with_reducible refine (within_any _ _ _ _).mono ?_); rintro e w' ⟨rfl, rfl⟩)
      rw [hrb]
      go_wp2_with fail
      ((with_reducible refine (power_any _ _ _ xs _ _ (h.below hb1 hhi) (by omega) hP.out hr1 hr2).mono ?_); rintro e w2 ⟨A2, c2, rfl, ho2, hb2⟩)
      go_wp2_with fail
      go_ret2
      exact ⟨_, _, _, _, _, rfl, hF, ho2.more hs1 (Nat.le_refl _), by omega, below_then hb1 hb2 hs1⟩
    · have hF : (([] : List Int), (2 : Int)) = powF xs k := by unfold powF; rw [if_pos hp, if_neg hr]
      have hrb : (decide ((-1000000000 : Int) ≤ k) && decide (k ≤ (1000000000 : Int))) = false := by simp; omega
      replace hF := Lib.hid hF
      replace hl := Lib.hid hl
      replace hp := Lib.hid hp
      replace hP := Lib.hid hP
      clear hr
      go_enter Try.func56, Try.ntmps56
      go_wp2_with fail
      ((with_reducible refine (isPerm_any _ _ _ xs _ _ _ h hhi).mono ?_); rintro e w1 ⟨rfl, hb1⟩)
      rw [hp.out]
      go_wp2_with fail
      ((with_reducible refine (within_any _ _ _ _).mono ?_); rintro e w' ⟨rfl, rfl⟩)
      rw [hrb]
      go_wp2_with fail
      go_ret2
      exact ⟨_, _, _, _, _, rfl, hF, Own.nil, by omega, hb1⟩
  · have hp : isPermB xs = false := by simpa using hp
    have hF : (([] : List Int), (1 : Int)) = powF xs k := by simp [powF, hp]
    replace hF := Lib.hid hF
    replace hp := Lib.hid hp
    replace hl := Lib.hid hl
    go_enter Try.func56, Try.ntmps56
    go_wp2_with fail
    ((with_reducible refine (isPerm_any _ _ _ xs _ _ _ h hhi).mono ?_); rintro e w1 ⟨rfl, hb1⟩)
    rw [hp.out]
    go_wp2_with fail
    go_ret2
    exact ⟨_, _, _, _, _, rfl, hF, Own.nil, by omega, hb1⟩
end Go.Proofs.Ytdaljeghdiknpaa
