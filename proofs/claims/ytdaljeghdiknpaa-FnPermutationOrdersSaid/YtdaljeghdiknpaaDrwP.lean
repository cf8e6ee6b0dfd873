/- Draws: DrawPermutationOrder; sum of laws.go. -/
import Derived.Test.YtdaljeghdiknpaaDrwC
import Derived.Test.YtdaljeghdiknpaaDic
namespace Go.Proofs.Ytdaljeghdiknpaa
open Go.RowKit
set_option linter.unusedVariables false
set_option maxRecDepth 100000
theorem sum_any (A : Option Addr) (n c : Nat) (xs : List Int) (w : World) {lo hi : Nat} (h : RI w lo hi A n xs) (hx : ∀ x ∈ xs, 0 ≤ x ∧ x ≤ 1000) (hn : n ≤ 1000) :
    Calls Try.prog 58 #[.slice A n c] w fun e w' => e = .returned (.int .i64 xs.sum) ∧ w = w' := by
  have hl := Lib.hid h.len
  replace hx := Lib.hid hx
  go_enter Try.func58, Try.ntmps58
  go_wp2_with fail
  go_loopw [3, 4] (fun sv kv wq => ∃ (k : Nat) (s : Int), k ≤ n ∧ kv = .int .i64 k ∧ sv = .int .i64 s ∧ 0 ≤ s ∧ s ≤ 1000 * (k : Int) ∧ Hid (s = (xs.take k).sum) ∧ w = wq) (fun _ kv _ => n - (intOf kv).toNat)
  case atStart => exact ⟨0, 0, by omega, rfl, rfl, by omega, by omega, Lib.hid (by simp), by first | rfl | trivial⟩
  case round =>
    obtain ⟨k, s, hk, rfl, rfl, hs0, hs1, hsum, rfl⟩ := hrel
    by_cases hlt : k < n
    · obtain ⟨b, o, v, rfl, _, _, hv, hcv⟩ := h.at_ hlt
      have htk : xs.take (k + 1) = xs.take k ++ [v] := by rw [List.take_add_one, hv]; rfl
      have hvb := hx.out v (List.mem_of_getElem? hv)
      have hs2 : Hid (s + v = (xs.take (k + 1)).sum) := Lib.hid (by rw [htk, List.sum_append, hsum.out]; simp)
      replace hv := Lib.hid hv
      replace htk := Lib.hid htk
      go_wp2_with fail
      go_roundw
      case measure => simp [intOf]; omega
      case rel => exact ⟨k + 1, s + v, by omega, by go_num, by go_num, by omega, by omega, hs2, by first | rfl | trivial⟩
    · have hkn : k = n := by omega
      subst hkn
      have hix : s = xs.sum := by have := hsum.out; rwa [List.take_of_length_le (by have := hl.out; omega)] at this
      replace hix := Lib.hid hix
      go_wp2_with fail
      go_ret
      exact ⟨ret_int hix.out, rfl⟩
def DrwPermP (w w' : World) (TI : TypeId) (A1 : Option Addr) (m c1 : Nat) : Prop :=
  ∃ (xs : List Int), Own w' w.heap.size w'.heap.size TI A1 m c1 (xs.map (Value.int .i64)) ∧ m ≤ 402 ∧ Below w.heap.size w w'
set_option maxHeartbeats 1000000 in
theorem drawPermutationOrder_any (w : World) (A : Option Addr) (n c : Nat) (bs : List Int) (h : Rd w 0 w.heap.size A n (bs.map (Value.int .u8))) (hb : ∀ x ∈ bs, 0 ≤ x ∧ x < 256) (hn : n ≤ 1048576) :
    Calls Try.prog 51 #[.slice A n c] w fun e w' => ∃ (A1 : Option Addr) (m c1 : Nat), e = .returned (.slice A1 m c1) ∧ DrwPermP w w' 2 A1 m c1 := by
  obtain ⟨j0, hj0, hy0, hy1, hy2⟩ := info_parts infoI
  have hF := from_any w A n c bs h hb hn
  replace hb := Lib.hid hb
  go_enter Try.func51, Try.ntmps51
  go_wp2_with fail
  ((with_reducible refine hF.mono ?_); rintro e w1 ⟨H1, rfl, S1, B1⟩)
  clear hF
  have s1 := B1.size
  have g1 := S1.lt
  have hn := next_nat w1 _ _ A n c bs _ _ S1 20 (by omega) (by omega)
  go_wp2_with fail
  ((with_reducible refine hn.mono ?_); rintro e w2 ⟨v, rfl, hv, i2, h2, S2, C2⟩)
  clear hn
  have s2 := C2.size
  have B2 : Below w.heap.size w w2 := B1.trans (C2.below (by omega) (by omega))
  by_cases h0 : v = 0
  · subst h0
    have b0 := World.ownsRow_lit (e := 2) (base := w2.heap.size) (size := 1) w2 #[] 0 (Nat.le_refl _) (by omega) rfl
    have Bz : Below w2.heap.size w2 (w2.alloc (.cells #[] 2)) := (Below.refl _ _).alloc (Nat.le_refl _) _
    have L4 : RI ((w2.alloc (.cells #[] 2)).alloc (.cells #[.int .i64 2, .int .i64 3, .int .i64 5, .int .i64 7, .int .i64 11, .int .i64 13, .int .i64 17, .int .i64 19, .int .i64 23, .int .i64 29, .int .i64 31, .int .i64 37, .int .i64 41, .int .i64 43, .int .i64 47] 2)) _ _ (some ⟨(w2.alloc (.cells #[] 2)).heap.size, 0, none⟩) 15 [2, 3, 5, 7, 11, 13, 17, 19, 23, 29, 31, 37, 41, 43, 47] := lit_rd (w2.alloc (.cells #[] 2)) #[.int .i64 2, .int .i64 3, .int .i64 5, .int .i64 7, .int .i64 11, .int .i64 13, .int .i64 17, .int .i64 19, .int .i64 23, .int .i64 29, .int .i64 31, .int .i64 37, .int .i64 41, .int .i64 43, .int .i64 47] 2 (by simp)
    replace L4 := Lib.hid L4
    obtain ⟨ps, hps⟩ : ∃ ps : List Int, ps = [2, 3, 5, 7, 11, 13, 17, 19, 23, 29, 31, 37, 41, 43, 47] := ⟨_, rfl⟩
    have hpb : ∀ x ∈ ps, 2 ≤ x ∧ x ≤ 47 := by subst hps; decide
    have hpl : ps.length = 15 := by subst hps; rfl
    have zs1 : (w2.alloc (.cells #[] 2)).heap.size = w2.heap.size + 1 := by simp
    have L5 : RI ((w2.alloc (.cells #[] 2)).alloc (.cells #[.int .i64 2, .int .i64 3, .int .i64 5, .int .i64 7, .int .i64 11, .int .i64 13, .int .i64 17, .int .i64 19, .int .i64 23, .int .i64 29, .int .i64 31, .int .i64 37, .int .i64 41, .int .i64 43, .int .i64 47] 2)) (w2.heap.size + 1) (w2.heap.size + 2) (some ⟨w2.heap.size + 1, 0, none⟩) 15 ps := by rw [hps]; have := L4.out; rwa [zs1] at this
    clear L4 hps
    replace hpb := Lib.hid hpb
    replace hpl := Lib.hid hpl
    replace L5 := Lib.hid L5
    go_wp2_with fail
    go_loopw [4, 6] (fun sv iv wr => ∃ (i : Nat) (A2 : Option Addr) (c2 : Nat) (ys : List Int), i ≤ 15 ∧ sv = .slice A2 ys.length c2 ∧ iv = .int .i64 i ∧ ys.length ≤ 400 ∧ wr.ownsRow w2.heap.size 2 1 (.slice A2 ys.length c2) ys.length (ys.map (Value.int .i64)) ∧ Hid (∀ q, (Value.slice A2 ys.length c2).ownBlock = some q → q ≠ w2.heap.size + 1) ∧ Hid (RI wr (w2.heap.size + 1) (w2.heap.size + 2) (some ⟨w2.heap.size + 1, 0, none⟩) 15 ps) ∧ w2.heap.size + 2 ≤ wr.heap.size ∧ Below w2.heap.size w2 wr) (fun _ iv _ => 15 - (intOf iv).toNat)
    case atStart => exact ⟨0, _, 0, [], by omega, rfl, rfl, by simp, ((Own.of_row b0).keep (same_alloc _ _ _ _ (Nat.le_refl _))).1, Lib.hid (by intro q hq; simp [Value.ownBlock] at hq; omega), L5, by simp, (Bz.alloc (by simp) _)⟩
    case round =>
      clear L5 Bz
      obtain ⟨i, A2, c2, ys, hi, rfl, rfl, hyl, ho, hne, hP, hsz, hB⟩ := hrel
      by_cases hi15 : i < 15
      · obtain ⟨x, hx⟩ : ∃ x, ps[i]? = some x := ⟨_, List.getElem?_eq_getElem (by have := hpl.out; omega)⟩
        have hxb := hpb.out x (List.mem_of_getElem? hx)
        obtain ⟨X, rfl⟩ := Int.eq_ofNat_of_zero_le (show 0 ≤ x by omega)
        have hcx := hP.out.cell hx
        rw [Nat.zero_add] at hcx
        replace hx := Lib.hid hx
        have d0 : decide ((i : Int) < 15) = true := by simp; omega
        by_cases hle : ys.length + X ≤ 400
        · have d1 : decide (((ys.length : Int)) + (X : Int) ≤ 400) = true := by simp; omega
          go_wp2_with fail
          go_loopw [4, 8] (fun sv jv wq => ∃ (j : Nat) (A3 : Option Addr) (c3 : Nat) (zs : List Int), j ≤ X ∧ zs.length = ys.length + j ∧ sv = .slice A3 zs.length c3 ∧ jv = .int .i64 j ∧ wq.ownsRow w2.heap.size 2 1 (.slice A3 zs.length c3) zs.length (zs.map (Value.int .i64)) ∧ Hid (∀ q, (Value.slice A3 zs.length c3).ownBlock = some q → q ≠ w2.heap.size + 1) ∧ Hid (RI wq (w2.heap.size + 1) (w2.heap.size + 2) (some ⟨w2.heap.size + 1, 0, none⟩) 15 ps) ∧ w2.heap.size + 2 ≤ wq.heap.size ∧ Below w2.heap.size w2 wq) (fun _ jv _ => X - (intOf jv).toNat)
          case atStart => exact ⟨0, A2, c2, ys, by omega, by omega, rfl, rfl, ho, hne, hP, hsz, hB⟩
          case round =>
            clear ho hne hP hsz hB hcx d1
            obtain ⟨j, A3, c3, zs, hj, hzl, rfl, rfl, ho, hne, hP, hsz, hB⟩ := hrel
            have hcx := hP.out.cell hx.out
            rw [Nat.zero_add] at hcx
            by_cases hjx : j < X
            · have d2 : decide ((j : Int) < (X : Int)) = true := by simp; omega
              have dX : (0 : Int) < (X : Int) := by omega
              have dX0 : ¬ X = 0 := by omega
              have hpos : (0 : Int) < (X : Int) := by omega
              obtain ⟨r, htm, hrX⟩ : ∃ r : Nat, Int.tmod ((j : Int) + 1) (X : Int) = (r : Int) ∧ r < X := ⟨(j + 1) % X, rfl, Nat.mod_lt _ (by omega)⟩
              go_wp2_with ((at_builtin; refine wpList_append1 wr rfl (.tmp 42) (.tmp 52) 27 rfl w2.heap.size 2 j0 (.int .i64 0) 8 Try.underlying27 hj0 hy0 hy1 hy2 rfl (by omega) _ zs.length c3 _ (.int .i64 ((ys.length : Int) + (r : Int))) rfl ho _ rfl rfl rfl (by omega) (by omega) ?_))
              intro g4 c4 wz ho2 hg2 hlo2 hlt2 hor2
              have hne4 : Hid (∀ q, (Value.slice (some ⟨g4, 0, none⟩) (zs.length + 1) c4).ownBlock = some q → q ≠ w2.heap.size + 1) := Lib.hid (by
                intro q hq
                have e : g4 = q := by simpa [Value.ownBlock] using hq
                subst e
                rcases hor2 with hA | hA
                · exact hne.out g4 (by rw [hA]; simp [Value.ownBlock])
                · omega)
              have hP4 : Hid (RI wz (w2.heap.size + 1) (w2.heap.size + 2) (some ⟨w2.heap.size + 1, 0, none⟩) 15 ps) := Lib.hid (hP.out.keep (same_grown hg2 hsz (fun q hq => by have := hne.out q (by rw [hzl]; exact hq); omega)))
              have hB4 : Below w2.heap.size w2 wz := hB.grown hg2 (by omega) (fun q hq => (ho.lt q (by rw [hzl]; exact hq)).1)
              have hz4 := hg2.size
              clear ho hne hP hB hg2 hcx
              go_wp2_with fail
              go_roundw
              case measure => simp [intOf]; omega
              case rel => exact ⟨j + 1, _, c4, zs ++ [((ys.length : Int) + (r : Int))], by omega, by simp; omega, by rw [List.length_append, hzl]; rfl, by go_num, by rw [List.length_append, List.map_append, hzl]; exact ho2, by rw [List.length_append]; exact hne4, hP4, by omega, hB4⟩
            · have d2 : decide ((j : Int) < (X : Int)) = false := by simp; omega
              go_wp2_with fail
              go_roundw
              case measure => simp [intOf]; omega
              case rel => exact ⟨i + 1, A3, c3, zs, by omega, rfl, by go_num, by omega, ho, hne, hP, hsz, hB⟩
        · have d1 : decide (((ys.length : Int)) + (X : Int) ≤ 400) = false := by simp; omega
          have B5 := below_then B2 hB (by omega)
          go_wp2_with fail
          go_ret
          exact ⟨A2, ys.length, c2, rfl, ys, (Own.of_row ho).more (by omega) (Nat.le_refl _), by omega, B5⟩
      · have d0 : decide ((i : Int) < 15) = false := by simp; omega
        have B5 := below_then B2 hB (by omega)
        go_wp2_with fail
        go_ret
        exact ⟨A2, ys.length, c2, rfl, ys, (Own.of_row ho).more (by omega) (Nat.le_refl _), by omega, B5⟩
  · have d0 : ((v : Int) == 0) = false := by simp; omega
    have hz := size_any w2 _ _ A n c bs _ _ S2
    go_wp2_with fail
    ((with_reducible refine hz.mono ?_); rintro e w3 ⟨m, rfl, hm, i3, h3, S3, C3⟩)
    clear hz
    have s3 := C3.size
    have hS := spoil_any w3 _ _ A n c bs _ _ S3 m (by omega)
    go_wp2_with fail
    ((with_reducible refine hS.mono ?_); rintro e w4 ⟨A1, c1, rfl, i4, h4, xs, O4, S4, C4⟩)
    have B3 := B2.trans (C3.below (by omega) (by omega))
    have B4 := B3.trans (C4.below (by omega) (by omega))
    go_wp2_with fail
    go_ret
    exact ⟨A1, m, c1, rfl, xs, O4.more (by omega) (Nat.le_refl _), by omega, B4⟩
end Go.Proofs.Ytdaljeghdiknpaa
