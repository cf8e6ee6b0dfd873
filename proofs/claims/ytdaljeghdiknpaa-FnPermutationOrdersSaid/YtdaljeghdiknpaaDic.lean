/- Draws: the dice of laws.go (printed by gen/dic.py out of XDrw, XDrwF). -/
import Derived.Test.YtdaljeghdiknpaaDrwF
namespace Go.Proofs.Ytdaljeghdiknpaa
open Go.RowKit
set_option linter.unusedVariables false
set_option maxRecDepth 100000
theorem below_core (w : World) (lo g : Nat) (A : Option Addr) (n c : Nat) (bs : List Int) (i h H u q : Nat) (s : Src w lo g 79 A n c bs i h) (x : Int) (h1 : 1 ≤ x) (hx : x ≤ 1099511627776)
    (e1 : IntKind.u64.wrap ((h : Int) * 6364136223846793005) = (u : Int)) (e2 : IntKind.u64.wrap ((u : Int) + 1442695040888963407) = (H : Int)) (e3 : bits BinOp.and IntKind.u64 ((H : Int) / 8589934592) 16777215 = (q : Int)) (hH : H < 18446744073709551616) (hq2 : q < 16777216) :
    Calls Try.prog 17 #[.pointer (some ⟨g, 0, none⟩), .int .i64 x] w fun e w' => ∃ (v : Int) (i' : Nat), e = .returned (.int .i64 v) ∧ NextP w w' lo g 79 A n c bs i H q x v i' := by
  have hst := s.st
  have c2 := s.cell2
  have f2 := s.frozen 2
  have s1 := s.setH hH
  have d0 := s1.cell0
  have d1 := s1.cell1
  have d2 := s1.cell2
  have g1 := s1.frozen 1
  have hn := s.code.2.1
  have hin := s.le
  have hB1 : Chg g (g + 1) w (w.setCell ⟨g, 2, none⟩ (.int .u64 H)) := (Chg.refl _ _ _).setCell (by simp) (by simp) _
  by_cases hlt : i < n
  · obtain ⟨b, o, y, rfl, hb, hy, y0, y1⟩ := s1.byteAt hlt
    have hd : decide ((i : Int) < (n : Int)) = true := by simp; omega
    have k1 : (0 : Int) ≤ (i : Int) := by omega
    have k2 : (i : Int) < (n : Int) := by omega
    go_enter Try.func17, Try.ntmps17
    go_wp2_with fail
    go_quiet (fail)
    go_wp2_with fail
    go_quiet (fail)
    go_wp2_with fail
    go_ret
    refine ⟨((q : Int) + y) % x, i + 1, rfl, ?_⟩
    constructor
    · exact Int.emod_nonneg _ (by omega)
    · exact Int.emod_lt_of_pos _ (by omega)
    · exact (s1.drewN _).setI (I := i + 1) hlt
    · exact (hB1.drewN _).setCell (by simp) (by simp) _
    · simp
    · exact fun _ => rfl
    · exact fun hh => absurd hlt hh
  · have hd : decide ((i : Int) < (n : Int)) = false := by simp; omega
    go_enter Try.func17, Try.ntmps17
    go_wp2_with fail
    go_quiet (fail)
    go_wp2_with fail
    go_ret
    refine ⟨(q : Int) % x, i, rfl, ?_⟩
    constructor
    · exact Int.emod_nonneg _ (by omega)
    · exact Int.emod_lt_of_pos _ (by omega)
    · exact s1.drewN _
    · exact hB1.drewN _
    · simp
    · exact fun hh => absurd hh hlt
    · exact fun _ => ⟨rfl, rfl⟩
theorem below_any (w : World) (lo g : Nat) (A : Option Addr) (n c : Nat) (bs : List Int) (i h : Nat) (s : Src w lo g 79 A n c bs i h) (x : Int) (h1 : 1 ≤ x) (hx : x ≤ 1099511627776) :
    Calls Try.prog 17 #[.pointer (some ⟨g, 0, none⟩), .int .i64 x] w fun e w' => ∃ (v : Int) (i' : Nat), e = .returned (.int .i64 v) ∧ NextP w w' lo g 79 A n c bs i (lcg h) (lcg h / 8589934592 % 16777216) x v i' := by
  obtain ⟨u, hu⟩ : ∃ u, (h * 6364136223846793005) % 18446744073709551616 = u := ⟨_, rfl⟩
  obtain ⟨e1, e2⟩ := lcg_wrap h u hu
  have hH : lcg h < 18446744073709551616 := by unfold lcg; omega
  exact below_core w lo g A n c bs i h (lcg h) u _ s x h1 hx e1 e2 (lcg_bits (lcg h) hH) hH (by omega)
/-- below 1: it returns 0 and the source stays -/
theorem below_zero (w : World) (g : Nat) (x : Int) (hx : x < 1) :
    Calls Try.prog 17 #[.pointer (some ⟨g, 0, none⟩), .int .i64 x] w fun e w' => e = .returned (.int .i64 0) ∧ w = w' := by
  go_enter Try.func17, Try.ntmps17
  go_wp2_with fail
  go_ret
  exact ⟨rfl, rfl⟩
theorem roll_any (w : World) (A : Option Addr) (n c : Nat) (bs : List Int) (h : Rd w 0 w.heap.size A n (bs.map (Value.int .u8))) (hb : ∀ x ∈ bs, 0 ≤ x ∧ x < 256) (hn : n ≤ 1048576) (sd : Nat) (hsd : sd ≤ 1048576) :
    Calls Try.prog 16 #[.slice A n c, .int .u64 sd] w fun e w' => ∃ H : Nat, e = .returned (.pointer (some ⟨w.heap.size, 0, none⟩)) ∧ Src w' w.heap.size w.heap.size 79 A n c bs 0 H ∧ Below w.heap.size w w' := by
  have hsrc : Src (w.alloc (.cells #[.slice A n c, .int .i64 0, .int .u64 ((sd * 7681 + n : Nat) : Int)] 79)) w.heap.size w.heap.size 79 A n c bs 0 (sd * 7681 + n) :=
    ⟨heap_newest w _, Nat.le_refl _, h.below ((Below.refl _ _).alloc (Nat.le_refl _) _) (Nat.le_refl _), hb, Nat.zero_le _, by omega⟩
  have e0 : IntKind.u64.wrap ((sd : Int) * 7681) = ((sd * 7681 : Nat) : Int) := by rw [IntKind.wrap_u64]; omega
  have e4 : IntKind.u64.wrap (((sd * 7681 : Nat) : Int) + (n : Int)) = ((sd * 7681 + n : Nat) : Int) := by rw [IntKind.wrap_u64]; omega
  replace hsrc := Lib.hid hsrc
  replace hb := Lib.hid hb
  go_enter Try.func16, Try.ntmps16
  go_wp2_with fail
  go_loopw [6] (fun iv wr => ∃ (k H : Nat), iv = .int .i64 k ∧ k ≤ n ∧ Hid (Src wr w.heap.size w.heap.size 79 A n c bs 0 H) ∧ Below w.heap.size w wr) (fun iv _ => n - (intOf iv).toNat)
  case atStart => exact ⟨0, sd * 7681 + n, rfl, Nat.zero_le _, hsrc, (Below.refl _ _).alloc (Nat.le_refl _) _⟩
  case round =>
    obtain ⟨k, H, rfl, hk, hS, hB⟩ := hrel
    by_cases hlt : k < n
    · have h4 : True := trivial
      · have S := hS.out
        have c2 := S.cell2
        have f2 := S.frozen 2
        obtain ⟨b, o, v, rfl, _, hb2, hv, hc⟩ := S.code.at_ hlt
        simp only [List.getElem?_map, Option.map_eq_some_iff] at hv
        obtain ⟨y, hy, rfl⟩ := hv
        obtain ⟨y0, y1⟩ := S.byte y (List.mem_of_getElem? hy)
        obtain ⟨H1, g1, e1⟩ := u64_nat ((H : Int) * 1099511628211)
        obtain ⟨H2, g2, e2⟩ := u64_nat ((H1 : Int) + y)
        obtain ⟨H3, g3, e3⟩ := u64_nat ((H2 : Int) + 5)
        have S3 := Lib.hid (S.setH g3)
        have k1 : (0 : Int) ≤ (k : Int) := by omega
        have k2 : (k : Int) < (n : Int) := by omega
        clear hy S
        go_wp2_with fail
        go_region
        go_wp2_with fail
        go_roundw
        case rel =>
          have hB2 := hB.setCell (p := ⟨w.heap.size, 2, none⟩) (Nat.le_refl _) (.int .u64 H3)
          exact ⟨k + 1, H3, by go_num, by omega, Lib.hid S3.out.drew, ⟨hB2.os, hB2.tape, hB2.output, hB2.size, hB2.block⟩⟩
        case measure => simp [intOf]; omega
    · go_wp2_with fail
      go_ret
      exact ⟨H, rfl, hS.out, hB⟩
end Go.Proofs.Ytdaljeghdiknpaa
