/- Walks: common divisors, copies, sorting by insertion, lengths of cycles, orders. Lengths up to 2^20, divisors below 2^62. -/
import Derived.Test.YtdaljeghdiknpaaCyc
import Derived.Test.YtdaljeghdiknpaaOrdP
namespace Go.Proofs.Ytdaljeghdiknpaa
open Go.RowKit
set_option linter.unusedVariables false
set_option maxRecDepth 100000
set_option maxHeartbeats 400000 in
theorem gcd_any (a b : Nat) (w : World) (ha : a ≤ 4611686018427387904) (hb : b ≤ 4611686018427387904) :
    Calls Try.prog 117 #[.int .i64 a, .int .i64 b] w fun e w' => e = .returned (.int .i64 (a.gcd b : Nat)) ∧ Below w.heap.size w w' := by
  go_enter Try.func117, Try.ntmps117
  go_wp2_with fail
  go_loopw [0, 1] (fun xv yv wr => ∃ (x y : Nat), xv = .int .i64 x ∧ yv = .int .i64 y ∧ x ≤ 4611686018427387904 ∧ y ≤ 4611686018427387904 ∧ Hid (x.gcd y = a.gcd b) ∧ Below w.heap.size w wr) (fun _ yv _ => (intOf yv).toNat)
  case atStart => exact ⟨a, b, rfl, rfl, ha, hb, Lib.hid rfl, Below.refl _ _⟩
  case round =>
    obtain ⟨x, y, rfl, rfl, hx, hy, hg, hbw⟩ := hrel
    by_cases h0 : y = 0
    · subst h0
      go_wp2_with fail
      go_ret
      have hg := hg.out
      rw [Nat.gcd_zero_right] at hg
      exact ⟨ret_int (by rw [hg]), hbw⟩
    · have hne : ((y : Int) != 0) = true := by simp; omega
      have hpos : (0 : Int) < (y : Int) := by omega
      have hlt := Nat.mod_lt x (show 0 < y by omega)
      have hem := Int.natCast_emod x y
      replace hem := Lib.hid hem
      go_wp2_with fail
      go_quiet (fail)
      go_wp2_with fail
      go_roundw
      case rel =>
        refine ⟨y, x % y, rfl, by rw [hem.out], hy, by omega, Lib.hid ?_, below_drewN hbw _⟩
        rw [← hg.out, Nat.gcd_comm, ← Nat.gcd_rec, Nat.gcd_comm]
      case measure =>
        simp [intOf]
        have := hem.out
        omega
set_option maxHeartbeats 400000 in
theorem common_any (a b : Nat) (w : World) (ha : a ≤ 4611686018427387904) (hb : b ≤ 4611686018427387904) :
    Calls Try.prog 150 #[.int .i64 a, .int .i64 b] w fun e w' => e = .returned (.int .i64 (a.gcd b : Nat)) ∧ w = w' := by
  go_enter Try.func150, Try.ntmps150
  go_wp2_with fail
  go_loop [0, 1] (fun xv yv => ∃ (x y : Nat), xv = .int .i64 x ∧ yv = .int .i64 y ∧ x ≤ 4611686018427387904 ∧ y ≤ 4611686018427387904 ∧ Hid (x.gcd y = a.gcd b)) (fun _ yv => (intOf yv).toNat)
  case atStart => exact ⟨a, b, rfl, rfl, ha, hb, Lib.hid rfl⟩
  case round =>
    obtain ⟨x, y, rfl, rfl, hx, hy, hg⟩ := hrel
    by_cases h0 : y = 0
    · subst h0
      go_wp2_with fail
      go_ret
      have hg := hg.out
      rw [Nat.gcd_zero_right] at hg
      exact ⟨ret_int (by rw [hg]), rfl⟩
    · have hpos : (0 : Int) < (y : Int) := by omega
      have hlt := Nat.mod_lt x (show 0 < y by omega)
      have hem := Int.natCast_emod x y
      replace hem := Lib.hid hem
      go_wp2_with fail
      go_round
      case rel =>
        refine ⟨y, x % y, rfl, by rw [hem.out], hy, by omega, Lib.hid ?_⟩
        rw [← hg.out, Nat.gcd_comm, ← Nat.gcd_rec, Nat.gcd_comm]
      case measure =>
        simp [intOf]
        have := hem.out
        omega
set_option maxHeartbeats 400000 in
theorem own1_any (A : Option Addr) (n c : Nat) (xs : List Int) (w : World) {lo hi : Nat} (h : RI w lo hi A n xs) (hhi : hi ≤ w.heap.size) (h4 : n ≤ 1099511627776) :
    Calls Try.prog 186 #[.slice A n c] w fun e w' => ∃ A1 c1, e = .returned (.slice A1 n c1) ∧ Own w' w.heap.size w'.heap.size 2 A1 n c1 (xs.map (Value.int .i64)) ∧ Below w.heap.size w w' := by
  obtain ⟨j0, hj0, hy0, hy1, hy2⟩ := info_parts infoI
  have h0 := World.ownsRow_lit (e := 2) (base := w.heap.size) (size := 1) w #[] 0 (Nat.le_refl _) (by omega) rfl
  have hr : RI (w.alloc (.cells #[] 2)) lo hi A n xs := h.keep (same_alloc w _ _ _ hhi)
  go_enter Try.func186, Try.ntmps186
  go_wp2_with (at_builtin; refine wpList_appendL _ rfl (.tmp 3) (.tmp 4) 27 rfl w.heap.size 2 j0 (.int .i64 0) 8 Try.underlying27 hj0 hy0 hy1 hy2 rfl (by omega) _ 0 0 _ rfl h0 A n c _ lo hi rfl hr (ints_oneCell _ _) (by omega) (by simp) ?_)
  intro A2 c2 w2 ho2 hg2 _
  have hb2 : Below w.heap.size w w2 := ((Below.refl _ _).alloc (Nat.le_refl _) _).grown hg2 (by simp) (by simp [Value.ownBlock])
  go_wp2_with fail
  go_ret
  refine ⟨A2, c2, by simp, Own.of_row ?_, hb2⟩
  simpa using ho2
set_option maxHeartbeats 1000000 in
theorem sort_any (A : Option Addr) (n c : Nat) (xs : List Int) (w : World) {lo hi : Nat} (h : RI w lo hi A n xs) (hhi : hi ≤ w.heap.size) (h4 : n ≤ 1099511627776) :
    Calls Try.prog 174 #[.slice A n c] w fun e w' => ∃ A1 c1, e = .returned (.slice A1 n c1) ∧ Own w' w.heap.size w'.heap.size 2 A1 n c1 ((sortL xs).map (Value.int .i64)) ∧ Below w.heap.size w w' := by
  have hl := Lib.hid h.len
  go_enter Try.func174, Try.ntmps174
  go_wp2_with fail
  ((with_reducible refine (own1_any _ _ _ xs _ h hhi h4).mono ?_); rintro e w1 ⟨A1, c1, rfl, ho1, hb1⟩)
  go_wp2_with fail
  go_loopw [4] (fun iv wr => ∃ (i : Nat) (ys : List Int), iv = .int .i64 i ∧ 1 ≤ i ∧ (i ≤ n ∨ i = 1) ∧ Hid (ys.Perm xs) ∧ Hid (SortedTo ys i) ∧ wr.ownsRow w.heap.size 2 1 (.slice A1 n c1) n (ys.map (Value.int .i64)) ∧ Below w.heap.size w wr) (fun iv _ => n - (intOf iv).toNat)
  case atStart => exact ⟨1, xs, rfl, by omega, by omega, Lib.hid (List.Perm.refl _), Lib.hid (fun a b h1 h2 => by omega), ho1.1, hb1⟩
  case round =>
    obtain ⟨i, ys, rfl, hi1, hi2, hp, hs, ho, hb⟩ := hrel
    by_cases hlt : i < n
    · obtain ⟨g, v, rfl, hgb, -⟩ := (Own.of_row ho).at_ hlt
      have hs0 := ins_start hs.out
      replace hs0 := Lib.hid hs0
      clear hs
      go_wp2_with fail
      go_loopw [5] (fun kv wq => ∃ (k : Nat) (zs : List Int), kv = .int .i64 k ∧ k ≤ i ∧ Hid (zs.Perm xs) ∧ Hid (InsAt zs i k) ∧ wq.ownsRow w.heap.size 2 1 (.slice (some ⟨g, 0, none⟩) n c1) n (zs.map (Value.int .i64)) ∧ Below w.heap.size w wq) (fun kv _ => (intOf kv).toNat)
      case atStart => exact ⟨i, ys, rfl, Nat.le_refl _, hp, hs0, ho, hb⟩
      case round =>
        obtain ⟨k, zs, rfl, hki, hp, hs, ho, hb⟩ := hrel
        have hzl : zs.length = n := by have := ho.1; simpa using this
        by_cases hk0 : k = 0
        · subst hk0
          have hz := ins_zero hs.out
          go_wp2_with fail
          go_quiet (fail)
          go_wp2_with fail
          go_roundw
          case rel => exact ⟨i + 1, zs, by go_num, by omega, by omega, hp, Lib.hid hz, ho, below_drewN hb _⟩
          case measure => simp [intOf]; omega
        · have hd0 : decide ((0 : Int) < (k : Int)) = true := by simp; omega
          obtain ⟨k, rfl⟩ : ∃ k', k = k' + 1 := ⟨k - 1, by omega⟩
          have e1 : (((k + 1 : Nat) : Int) - 1) = (k : Int) := by omega
          have hcy : ∀ (j : Nat), j < n → wr.cell? ⟨g, j, none⟩ = some (.int .i64 (zs.getD j 0)) := fun j hj => by
            rw [ho.cellAt j (by omega), List.getElem?_map, get?_getD 0 (by omega)]; rfl
          have hc1 := hcy (k + 1) (by omega)
          have hc0 := hcy k (by omega)
          have hfr := ho.frozenAt
          have hf1 := hfr (k + 1)
          have hf0 := hfr k
          clear hcy hfr
          replace hzl := Lib.hid hzl
          obtain ⟨y, hy⟩ : ∃ y, y = zs.getD (k + 1) 0 := ⟨_, rfl⟩
          obtain ⟨z, hz⟩ : ∃ z, z = zs.getD k 0 := ⟨_, rfl⟩
          rw [← hy] at hc1
          rw [← hz] at hc0
          replace hy := Lib.hid hy
          replace hz := Lib.hid hz
          by_cases hle : y < z
          · go_wp2_with fail
            go_quiet (fail)
            go_wp2_with fail
            go_roundw
            case rel =>
              have hy := hy.out
              have hz := hz.out
              have hzl := hzl.out
              refine ⟨k, swapAt zs (k + 1), rfl, by omega, Lib.hid ((swapAt_perm (by omega) (by omega)).trans hp.out), Lib.hid (ins_swap hs.out (by omega) hki (by omega) (by rw [← hy]; simpa using (by rw [← hz]; exact hle : y < zs.getD k 0))), ?_, ((below_drewN hb _).setCell hgb _).setCell hgb _⟩
              have e := ((((show (wr.drewN nq).ownsRow _ _ _ _ _ _ from ho).stored (k + 1) (.int .i64 z)).1).stored k (.int .i64 y)).1
              have e2 : (swapAt zs (k + 1)).map (Value.int .i64) = ((zs.map (Value.int .i64)).set (k + 1) (.int .i64 z)).set k (.int .i64 y) := by
                unfold swapAt
                rw [List.map_set, List.map_set, ← hy, show k + 1 - 1 = k from rfl, ← hz]
              rw [e2]
              exact e
            case measure => simp [intOf]
          · go_wp2_with fail
            go_quiet (fail)
            go_wp2_with fail
            go_roundw
            case rel =>
              have hy := hy.out
              have hz := hz.out
              exact ⟨i + 1, zs, by go_num, by omega, by omega, hp, Lib.hid (ins_stop hs.out (by omega) hki (by rw [← hy]; simpa using (by rw [← hz]; omega : zs.getD k 0 ≤ y))), ho, below_drewN hb _⟩
            case measure => simp [intOf]; omega
    · go_wp2_with fail
      go_ret
      have hys : Sorted ys := by
        have hyl : ys.length = n := by have := ho.1; simpa using this
        refine sorted_of_getD fun a b h1 h2 => hs.out a b h1 (by omega)
      refine ⟨A1, c1, rfl, ?_, hb⟩
      rw [← sortL_eq hp.out hys]
      exact Own.of_row ho
set_option maxHeartbeats 1000000 in
theorem lengths_any (A : Option Addr) (n c : Nat) (xs : List Int) (w : World) {lo hi : Nat} (h : RI w lo hi A n xs) (hhi : hi ≤ w.heap.size) (h4 : n ≤ 1048576) (hr : ∀ x ∈ xs, 0 ≤ x ∧ x < n) :
    Calls Try.prog 149 #[.slice A n c] w fun e w' => ∃ (A1 : Option Addr) (n1 c1 : Nat), e = .returned (.slice A1 n1 c1) ∧ Own w' w.heap.size w'.heap.size 2 A1 n1 c1 ((lensL xs).map (Value.int .i64)) ∧ Below w.heap.size w w' := by
  obtain ⟨j0, hj0, hy0, hy1, hy2⟩ := info_parts infoI
  have hl := Lib.hid h.len
  replace hr := Lib.hid hr
  go_enter Try.func149, Try.ntmps149
  go_wp2_with fail
  ((with_reducible refine (l01Cycles_any _ _ _ xs _ h hhi h4 hr.out).mono ?_); rintro e w1 ⟨A1, n1, c1, rfl, hc1, hb1⟩)
  have hs1 := hb1.size
  have hn1 : n1 ≤ 1048576 := by have := hc1.len; have := (cycAll_len xs).1; have := hl.out; omega
  have hm1 := hc1.rs.max
  have h0 := World.ownsRow_lit (e := 2) (base := w1.heap.size) (size := 1) w1 #[] 0 (Nat.le_refl _) (by omega) rfl
  go_wp2_with fail
  go_loopw [4, 5] (fun v i wr => ∃ (k : Nat) (A2 : Option Addr) (c2 : Nat), k ≤ n1 ∧ v = .slice A2 k c2 ∧ i = .int .i64 k ∧ wr.ownsRow w1.heap.size 2 1 (.slice A2 k c2) k ((((cycLens xs).map Int.ofNat).take k).map (Value.int .i64)) ∧ Below w1.heap.size w1 wr) (fun _ i wr => n1 - (intOf i).toNat)
  case atStart => exact ⟨0, _, 0, by omega, rfl, rfl, by simpa using h0, (Below.refl _ _).alloc (Nat.le_refl _) _⟩
  case round =>
    obtain ⟨k, A2, c2, hk, rfl, rfl, ho, hb⟩ := hrel
    by_cases hlt : k < n1
    · obtain ⟨b, o, Ak, nk, ck, ys, rfl, _, _, hys, hcell, hrow⟩ := (hc1.rs.below hb (Nat.le_refl _)).at_ hlt
      have hm := hrow.max
      have hyl := hrow.len
      have hbs := hb.size
      have hget : ((cycLens xs).map Int.ofNat)[k]? = some (nk : Int) := by simp [cycLens, hys, hyl]
      replace hget := Lib.hid hget
      replace hys := Lib.hid hys
      replace hyl := Lib.hid hyl
      go_wp2_with (at_builtin; refine wpList_append1 wr rfl (.tmp 15) (.tmp 21) 27 rfl w1.heap.size 2 j0 (.int .i64 0) 8 Try.underlying27 hj0 hy0 hy1 hy2 rfl (by omega) _ k c2 _ (.int .i64 nk) rfl ho _ rfl rfl rfl (by omega) hbs ?_)
      intro g c3 w2 ho2 hg2 hlo2 hlt2 hor2
      have hb2 : Below w1.heap.size w1 w2 := hb.grown hg2 hbs (fun q hq => (ho.lt q hq).1)
      go_wp2_with fail
      go_roundw
      case rel =>
        refine ⟨k + 1, _, c3, by omega, rfl, by go_num, ?_, hb2⟩
        rw [take_succ_of hget.out, List.map_append]
        simpa using ho2
      case measure => simp [intOf]; omega
    · have hkn : k = n1 := by omega
      subst hkn
      have hfull : ((cycLens xs).map Int.ofNat).take k = (cycLens xs).map Int.ofNat := List.take_of_length_le (by have := hc1.len; simp [cycLens]; omega)
      rw [hfull] at ho
      have hri := (Own.of_row ho).ri
      have hbs := hb.size
      replace hfull := Lib.hid hfull
      go_wp2_with fail
      ((with_reducible refine (sort_any _ _ _ _ _ hri (by omega) (by omega)).mono ?_); rintro e w3 ⟨A3, c3, rfl, ho3, hb3⟩)
      go_wp2_with fail
      go_ret
      exact ⟨A3, k, c3, rfl, ho3.more (by omega) (Nat.le_refl _), below_then (below_then hb1 hb (by omega)) hb3 (by omega)⟩
theorem wrap_in {x y : Int} (h : x = y) (h1 : -9223372036854775808 ≤ y) (h2 : y ≤ 9223372036854775807) : IntKind.i64.wrap x = y := by
  subst h; rw [IntKind.wrap_i64]; omega
set_option maxHeartbeats 1000000 in
theorem l01Order_any (A : Option Addr) (n c : Nat) (xs : List Int) (w : World) {lo hi : Nat} (h : RI w lo hi A n xs) (hhi : hi ≤ w.heap.size) (h4 : n ≤ 400) (hr : ∀ x ∈ xs, 0 ≤ x ∧ x < n) :
    Calls Try.prog 119 #[.slice A n c] w fun e w' => ∃ (x : Int), e = .returned (.int .i64 x) ∧ Hid ((lcmL (cycLens xs) ≤ 1000000000000000 → x = (lcmL (cycLens xs) : Int)) ∧ (1000000000000000 < lcmL (cycLens xs) → x = 1000000000000001)) ∧ Below w.heap.size w w' := by
  have hl := Lib.hid h.len
  replace hr := Lib.hid hr
  go_enter Try.func119, Try.ntmps119
  go_wp2_with fail
  ((with_reducible refine (lengths_any _ _ _ xs _ h hhi (by omega) hr.out).mono ?_); rintro e w1 ⟨A1, n1, c1, rfl, ho1, hb1⟩)
  have hs1 := hb1.size
  have hri := ho1.ri
  have hm1 := hri.max
  have hpos : ∀ x ∈ natsOf (lensL xs), 0 < x := by
    intro x hx
    obtain ⟨y, hy, rfl⟩ := List.mem_map.1 hx
    have := lensL_mem hy
    omega
  replace hpos := Lib.hid hpos
  go_wp2_with fail
  go_loopw [4, 5] (fun ov iv wr => ∃ (k m : Nat), k ≤ n1 ∧ iv = .int .i64 k ∧ ov = .int .i64 m ∧ 1 ≤ m ∧ m ≤ 1000000000000000 ∧ Hid (m = lcmL (natsOf ((lensL xs).take k))) ∧ Below w1.heap.size w1 wr) (fun _ i wr => n1 - (intOf i).toNat)
  case atStart => exact ⟨0, 1, by omega, rfl, rfl, by omega, by omega, Lib.hid (by simp [natsOf, lcmL]), Below.refl _ _⟩
  case round =>
    obtain ⟨k, m, hk, rfl, rfl, hm1', hm2, hm, hb⟩ := hrel
    by_cases hlt : k < n1
    · obtain ⟨b, o, x, rfl, _, _, hx, hc⟩ := (hri.below hb (Nat.le_refl _)).at_ hlt
      have hxr := lensL_mem (mem_of_get? hx)
      rw [hl.out] at hxr
      obtain ⟨q, rfl⟩ : ∃ q : Nat, x = (q : Int) := ⟨x.toNat, by omega⟩
      have hq1 : 1 ≤ q := by omega
      have hq2 : q ≤ 401 := by omega
      clear hxr
      have hg1 : 1 ≤ m.gcd q := Nat.gcd_pos_of_pos_left _ (by omega)
      have hgm : m.gcd q ≤ m := Nat.gcd_le_left _ (by omega)
      have hlcm := lcm_by_quo m q (by omega)
      have hd : m / m.gcd q ≤ m := Nat.div_le_self _ _
      have hprod : m / m.gcd q * q ≤ 1000000000000000 * 401 := Nat.mul_le_mul (by omega) hq2
      have hnext : lcmL (natsOf ((lensL xs).take (k + 1))) = m.lcm q := by
        rw [take_succ_of hx, natsOf, List.map_append]
        show lcmL (natsOf ((lensL xs).take k) ++ [q]) = _
        rw [lcmL_snoc, ← hm.out]
      have hle := lcmL_take_le hpos.out (k + 1)
      have htk : (natsOf (lensL xs)).take (k + 1) = natsOf ((lensL xs).take (k + 1)) := by unfold natsOf; rw [List.map_take]
      rw [htk] at hle
      clear htk
      have hl1 : m.lcm q ≤ 1000000000000000 * 401 := by omega
      have hw2 : wrap64 (wrap64 ((m : Int) / ((m.gcd q : Nat) : Int)) * (q : Int)) = ((m.lcm q : Nat) : Int) := by
        have e1 : wrap64 ((m : Int) / ((m.gcd q : Nat) : Int)) = ((m / m.gcd q : Nat) : Int) := by
          rw [show (m : Int) / ((m.gcd q : Nat) : Int) = ((m / m.gcd q : Nat) : Int) from by simp]
          generalize m / m.gcd q = d at hd
          unfold wrap64; omega
        rw [e1, show ((m / m.gcd q : Nat) : Int) * (q : Int) = ((m / m.gcd q * q : Nat) : Int) from by simp, hlcm]
        unfold wrap64; omega
      replace hw2 := Lib.hid hw2
      have hl2 : 1 ≤ m.lcm q := Nat.lcm_pos (by omega) (by omega)
      replace hx := Lib.hid hx
      replace hlcm := Lib.hid hlcm
      replace hnext := Lib.hid hnext
      replace hle := Lib.hid hle
      go_wp2_with fail
      go_quiet ((go_at_call 150; exact quiet_left (common_any _ _ _ (by omega) (by omega))))
      rw [hw2.out]
      clear hw2
      by_cases hbig : m.lcm q ≤ 1000000000000000
      · go_wp2_with fail
        go_roundw
        case rel => exact ⟨k + 1, m.lcm q, by omega, by go_num, rfl, by omega, by omega, Lib.hid hnext.out.symm, below_drewN hb _⟩
        case measure => simp [intOf]; omega
      · go_wp2_with fail
        go_ret
        refine ⟨_, rfl, ?_, below_then hb1 (below_drewN hb _) (by omega)⟩
        have hle := hle.out
        rw [hnext.out, lens_lcm] at hle
        exact ⟨fun hh => by omega, fun _ => rfl⟩
    · go_wp2_with fail
      go_ret
      have hkn : k = n1 := by omega
      subst hkn
      refine ⟨_, rfl, ?_, below_then hb1 hb (by omega)⟩
      have hm := hm.out
      rw [List.take_of_length_le (by have := hri.len; omega), lens_lcm] at hm
      subst hm
      exact ⟨fun _ => rfl, fun hh => by omega⟩
/-- two numbers as results -/
theorem s_PermutationOrder_any (w : World) (A : Option Addr) (n c : Nat) (xs : List Int) {lo hi : Nat} (h : RI w lo hi A n xs) (hhi : hi ≤ w.heap.size) :
    Calls Try.prog 53 #[.slice A n c] w fun e w' => ∃ (x code : Int), e = .returned (.tuple #[.int .i64 x, .int .i64 code]) ∧ Hid ((x, code) = orderF xs) ∧ Below w.heap.size w w' := by
  have hl := h.len
  by_cases hp : isPermB xs = true
  · have hP := isPermB_iff.1 hp
    have hPr := hP.rng
    have hP4 := hP.le
    rw [hl] at hPr hP4
    replace hPr := Lib.hid hPr
    replace hl := Lib.hid hl
    have hF : orderF xs = (if lcmL (cycLens xs) ≤ 1000000000000000 then ((lcmL (cycLens xs) : Int), 0) else (0, 3)) := by unfold orderF; rw [if_pos hp]
    replace hF := Lib.hid hF
    replace hp := Lib.hid hp
    clear hP
    go_enter Try.func53, Try.ntmps53
    go_wp2_with fail
    ((with_reducible refine (l01Perm_any _ _ _ xs _ _ _ h hhi).mono ?_); rintro e w1 ⟨rfl, hb1⟩)
    rw [hp.out]
    have hs1 := hb1.size
    go_wp2_with fail
    ((with_reducible refine (l01Order_any _ _ _ xs _ (h.below hb1 hhi) (by omega) hP4 hPr.out).mono ?_); rintro e w2 ⟨x, rfl, hx, hb2⟩)
    have hB := below_then hb1 hb2 hs1
    by_cases hbig : lcmL (cycLens xs) ≤ 1000000000000000
    · have e := hx.out.1 hbig
      subst e
      have hF2 := hF.out
      rw [if_pos hbig] at hF2
      replace hF2 := Lib.hid hF2
      go_wp2_with fail
      go_ret2
      exact ⟨_, _, rfl, Lib.hid hF2.out.symm, hB⟩
    · have e := hx.out.2 (by omega)
      subst e
      have hF2 := hF.out
      rw [if_neg hbig] at hF2
      replace hF2 := Lib.hid hF2
      go_wp2_with fail
      go_ret2
      exact ⟨_, _, rfl, Lib.hid hF2.out.symm, hB⟩
  · have hp : isPermB xs = false := by simpa using hp
    have hF : ((0 : Int), (1 : Int)) = orderF xs := by simp [orderF, hp]
    replace hF := Lib.hid hF
    replace hp := Lib.hid hp
    replace hl := Lib.hid hl
    go_enter Try.func53, Try.ntmps53
    go_wp2_with fail
    ((with_reducible refine (l01Perm_any _ _ _ xs _ _ _ h hhi).mono ?_); rintro e w1 ⟨rfl, hb1⟩)
    rw [hp.out]
    go_wp2_with fail
    go_ret2
    exact ⟨_, _, rfl, hF, hb1⟩
set_option maxHeartbeats 1000000 in
theorem i_PermutationOrder_any (w : World) (A : Option Addr) (n c : Nat) (xs : List Int) {lo hi : Nat} (h : RI w lo hi A n xs) (hhi : hi ≤ w.heap.size) :
    Calls Try.prog 52 #[.slice A n c] w fun e w' => ∃ (x code : Int), e = .returned (.tuple #[.int .i64 x, .int .i64 code]) ∧ Hid ((x, code) = orderF xs) ∧ Below w.heap.size w w' := by
  have hl := h.len
  by_cases hp : isPermB xs = true
  · have hP := isPermB_iff.1 hp
    have hPr := hP.rng
    have hP4 := hP.le
    rw [hl] at hPr hP4
    replace hPr := Lib.hid hPr
    replace hl := Lib.hid hl
    have hF : orderF xs = (if lcmL (cycLens xs) ≤ 1000000000000000 then ((lcmL (cycLens xs) : Int), 0) else (0, 3)) := by unfold orderF; rw [if_pos hp]
    replace hF := Lib.hid hF
    replace hp := Lib.hid hp
    clear hP
    have hpos : ∀ x ∈ cycLens xs, 0 < x := by
      intro x hx
      obtain ⟨y, hy, rfl⟩ := List.mem_map.1 hx
      have := (cycAll_len xs).2 y hy
      omega
    replace hpos := Lib.hid hpos
    go_enter Try.func52, Try.ntmps52
    go_wp2_with fail
    ((with_reducible refine (isPerm_any _ _ _ xs _ _ _ h hhi).mono ?_); rintro e w1 ⟨rfl, hb1⟩)
    rw [hp.out]
    have hs1 := hb1.size
    go_wp2_with fail
    ((with_reducible refine (cycles_any _ _ _ xs _ (h.below hb1 hhi) (by omega) (by omega) hPr.out).mono ?_); rintro e w2 ⟨A2, n2, c2, rfl, ho2, hb2⟩)
    have hs2 := hb2.size
    have hB := below_then hb1 hb2 hs1
    have hn2 := ho2.len
    have hm2 := ho2.rs.max
    replace hn2 := Lib.hid hn2
    go_wp2_with fail
    go_loopw [4, 14] (fun ov iv wr => ∃ (k m : Nat), k ≤ n2 ∧ iv = .int .i64 k ∧ ov = .int .i64 m ∧ 1 ≤ m ∧ m ≤ 1000000000000000 ∧ Hid (m = lcmL ((cycLens xs).take k)) ∧ Below w2.heap.size w2 wr) (fun _ i wr => n2 - (intOf i).toNat)
    case atStart => exact ⟨0, 1, by omega, rfl, rfl, by omega, by omega, Lib.hid (by simp [lcmL]), Below.refl _ _⟩
    case round =>
      obtain ⟨k, m, hk, rfl, rfl, hm1', hmx, hm, hb⟩ := hrel
      by_cases hlt : k < n2
      · obtain ⟨b, o, Ak, nk, ck, ys, rfl, _, _, hys, hcell, hrow⟩ := (ho2.rs.below hb (Nat.le_refl _)).at_ hlt
        have hyl := hrow.len
        have hyr := (cycAll_len xs).2 ys (mem_of_get? hys)
        rw [hyl, hl.out] at hyr
        obtain ⟨hq1, hq2'⟩ := hyr
        have hq2 : nk ≤ 401 := by omega
        have hg1 : 1 ≤ m.gcd nk := Nat.gcd_pos_of_pos_left _ (by omega)
        have hgm : m.gcd nk ≤ m := Nat.gcd_le_left _ (by omega)
        have hlcm := lcm_by_quo' m nk
        have hd : nk / m.gcd nk ≤ nk := Nat.div_le_self _ _
        have hprod : m * (nk / m.gcd nk) ≤ 1000000000000000 * 401 := Nat.mul_le_mul hmx (by omega)
        have hx : (cycLens xs)[k]? = some nk := by simp [cycLens, hys, hyl]
        have hnext : lcmL ((cycLens xs).take (k + 1)) = m.lcm nk := by rw [take_succ_of hx, lcmL_snoc, ← hm.out]
        have hle := lcmL_take_le hpos.out (k + 1)
        have hl1 : m.lcm nk ≤ 1000000000000000 * 401 := by omega
        have hl2 : 1 ≤ m.lcm nk := Nat.lcm_pos (by omega) (by omega)
        have hw2 : wrap64 ((m : Int) * wrap64 ((nk : Int) / ((m.gcd nk : Nat) : Int))) = ((m.lcm nk : Nat) : Int) := by
          have e1 : wrap64 ((nk : Int) / ((m.gcd nk : Nat) : Int)) = ((nk / m.gcd nk : Nat) : Int) := by
            rw [show (nk : Int) / ((m.gcd nk : Nat) : Int) = ((nk / m.gcd nk : Nat) : Int) from by simp]
            generalize nk / m.gcd nk = d at hd
            unfold wrap64; omega
          rw [e1, show (m : Int) * ((nk / m.gcd nk : Nat) : Int) = ((m * (nk / m.gcd nk) : Nat) : Int) from by simp, hlcm]
          unfold wrap64; omega
        replace hw2 := Lib.hid hw2
        replace hx := Lib.hid hx
        replace hys := Lib.hid hys
        replace hyl := Lib.hid hyl
        replace hlcm := Lib.hid hlcm
        replace hnext := Lib.hid hnext
        replace hle := Lib.hid hle
        go_wp2_with (go_at_call 105; refine (sizeI_any _ _ _ _ (by omega)).mono ?_; rintro e w' ⟨rfl, rfl⟩)
        ((with_reducible refine (gcd_any _ _ _ (by omega) (by omega)).mono ?_); rintro e w5 ⟨rfl, hb5⟩)
        have hbs := hb.size
        have hb6 := below_then hb hb5 hbs
        go_wp2_with fail
        · have ht : (1000000000000000 : Int) < wrap64 ((m : Int) * wrap64 ((nk : Int) / ((m.gcd nk : Nat) : Int))) := by assumption
          rw [hw2.out] at ht
          go_ret2
          refine ⟨_, _, rfl, Lib.hid ?_, below_then hB hb6 (by omega)⟩
          have hle := hle.out
          rw [hnext.out] at hle
          rw [hF.out, if_neg (by omega)]
        · have ht : wrap64 ((m : Int) * wrap64 ((nk : Int) / ((m.gcd nk : Nat) : Int))) ≤ (1000000000000000 : Int) := by assumption
          rw [hw2.out] at ht
          go_roundw
          case rel => exact ⟨k + 1, m.lcm nk, by omega, by go_num, by rw [hw2.out], by omega, by omega, Lib.hid hnext.out.symm, hb6⟩
          case measure => simp [intOf]; omega
      · go_wp2_with fail
        go_ret2
        have hkn : k = n2 := by omega
        subst hkn
        refine ⟨_, _, rfl, Lib.hid ?_, below_then hB hb (by omega)⟩
        have hm := hm.out
        rw [List.take_of_length_le (by have := hn2.out; unfold cycLens; rw [List.length_map]; omega)] at hm
        subst hm
        rw [hF.out, if_pos hmx]
  · have hp : isPermB xs = false := by simpa using hp
    have hF : ((0 : Int), (1 : Int)) = orderF xs := by simp [orderF, hp]
    replace hF := Lib.hid hF
    replace hp := Lib.hid hp
    replace hl := Lib.hid hl
    go_enter Try.func52, Try.ntmps52
    go_wp2_with fail
    ((with_reducible refine (isPerm_any _ _ _ xs _ _ _ h hhi).mono ?_); rintro e w1 ⟨rfl, hb1⟩)
    rw [hp.out]
    go_wp2_with fail
    go_ret2
    exact ⟨_, _, rfl, hF, hb1⟩
end Go.Proofs.Ytdaljeghdiknpaa
