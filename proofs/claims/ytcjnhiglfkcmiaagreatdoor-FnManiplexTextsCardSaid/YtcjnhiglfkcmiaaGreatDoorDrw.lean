/- Draws: the source (a code, a place in it, a state) and its numbers. -/
import Derived.Test.YtcjnhiglfkcmiaaGreatDoorProg
import Derived.Outline
import Derived.Test.YtcjnhiglfkcmiaaGreatDoorVoc
import Derived.Test.YtcjnhiglfkcmiaaGreatDoorLcgP
import Derived.Lib.EndianBits
namespace Go.Proofs.YtcjnhiglfkcmiaaGreatDoor
open Go.RowKit
set_option linter.unusedVariables false
set_option maxRecDepth 100000

/-- The source at block g: the code (a slice of bytes below lo), how many of its bytes are used, the state. -/
structure Src (w : World) (lo g : Nat) (T : TypeId) (A : Option Addr) (n c : Nat) (bs : List Int) (i h : Nat) : Prop where
  blk : w.heap[g]? = some (.cells #[.slice A n c, .int .i64 i, .int .u64 h] T (0, 0))
  above : lo ≤ g
  code : Rd w 0 lo A n (bs.map (Value.int .u8))
  byte : ∀ x ∈ bs, 0 ≤ x ∧ x < 256
  le : i ≤ n
  st : h < 18446744073709551616

section
variable {w w' : World} {lo g : Nat} {T : TypeId} {A : Option Addr} {n c : Nat} {bs : List Int} {i h : Nat}
theorem Src.cell0 (s : Src w lo g T A n c bs i h) : w.cell? ⟨g, 0, none⟩ = some (.slice A n c) := by simp [World.cell?, s.blk]
theorem Src.cell1 (s : Src w lo g T A n c bs i h) : w.cell? ⟨g, 1, none⟩ = some (.int .i64 i) := by simp [World.cell?, s.blk]
theorem Src.cell2 (s : Src w lo g T A n c bs i h) : w.cell? ⟨g, 2, none⟩ = some (.int .u64 h) := by simp [World.cell?, s.blk]
theorem Src.frozen (s : Src w lo g T A n c bs i h) (k : Nat) : w.frozen? ⟨g, k, none⟩ = false := by simp [World.frozen?, s.blk]
theorem Src.lt (s : Src w lo g T A n c bs i h) : g < w.heap.size := (Array.getElem?_eq_some_iff.1 s.blk).1
theorem Src.below {B : Nat} (s : Src w lo g T A n c bs i h) (hb : Below B w w') (hB : g < B) : Src w' lo g T A n c bs i h :=
  ⟨(hb.block g hB).trans s.blk, s.above, s.code.below hb (by have := s.above; omega), s.byte, s.le, s.st⟩
theorem Src.setH (s : Src w lo g T A n c bs i h) {H : Nat} (hH : H < 18446744073709551616) : Src (w.setCell ⟨g, 2, none⟩ (.int .u64 H)) lo g T A n c bs i H := by
  refine ⟨?_, s.above, s.code.keep fun k _ hk => Below.heap_setCell _ _ _ _ (by have := s.above; simp; omega), s.byte, s.le, hH⟩
  exact heap_setCell_same _ _ _ _ _ _ s.blk
theorem Src.setI (s : Src w lo g T A n c bs i h) {I : Nat} (hI : I ≤ n) : Src (w.setCell ⟨g, 1, none⟩ (.int .i64 I)) lo g T A n c bs I h := by
  refine ⟨?_, s.above, s.code.keep fun k _ hk => Below.heap_setCell _ _ _ _ (by have := s.above; simp; omega), s.byte, hI, s.st⟩
  exact heap_setCell_same _ _ _ _ _ _ s.blk
theorem Src.byteAt (s : Src w lo g T A n c bs i h) (hi : i < n) : ∃ b o y, A = some ⟨b, o, none⟩ ∧ b < lo ∧ w.cell? ⟨b, o + i, none⟩ = some (.int .u8 y) ∧ 0 ≤ y ∧ y < 256 := by
  obtain ⟨b, o, v, e, _, h2, hv, hc⟩ := s.code.at_ hi
  simp only [List.getElem?_map, Option.map_eq_some_iff] at hv
  obtain ⟨y, hy, rfl⟩ := hv
  have := s.byte y (List.mem_of_getElem? hy)
  exact ⟨b, o, y, e, h2, hc, this.1, this.2⟩
theorem lcg_wrap (h : Nat) (u : Nat) (hu : (h * 6364136223846793005) % 18446744073709551616 = u) :
    IntKind.u64.wrap ((h : Int) * 6364136223846793005) = (u : Int) ∧ IntKind.u64.wrap ((u : Int) + 1442695040888963407) = ((lcg h : Nat) : Int) := by
  rw [IntKind.wrap_u64, IntKind.wrap_u64]
  unfold lcg lcgA lcgC
  exact ⟨by omega, by omega⟩
theorem lcg_bits (H : Nat) (hH : H < 18446744073709551616) : bits BinOp.and IntKind.u64 ((H : Int) / 8589934592) 16777215 = ((H / 8589934592 % 16777216 : Nat) : Int) := by
  have e := bits_and_u64_nat (H / 8589934592) 16777215 (by omega) (by omega)
  rw [show ((H : Int) / 8589934592) = ((H / 8589934592 : Nat) : Int) by simp]
  refine e.trans ?_
  rw [show (16777215 : Nat) = 2 ^ 24 - 1 by rfl, Nat.and_two_pow_sub_one_eq_mod]
theorem Src.drewN (s : Src w lo g T A n c bs i h) (k : Nat) : Src (w.drewN k) lo g T A n c bs i h := ⟨s.blk, s.above, s.code, s.byte, s.le, s.st⟩
theorem Chg.drewN {lo hi : Nat} {a w : World} (h : Chg lo hi a w) (k : Nat) : Chg lo hi a (w.drewN k) := ⟨h.os, h.tape, h.output, h.size, h.block⟩
/-- what l01Next leaves: a number below x, the source with its next state -/
structure NextP (w w' : World) (lo g : Nat) (T : TypeId) (A : Option Addr) (n c : Nat) (bs : List Int) (i H q : Nat) (x v : Int) (i' : Nat) : Prop where
  ge : 0 ≤ v
  lt : v < x
  src : Src w' lo g T A n c bs i' H
  chg : Chg g (g + 1) w w'
  size : w'.heap.size = w.heap.size
  step : i < n → i' = i + 1
  done : ¬ i < n → i' = i ∧ v = (q : Int) % x
end
theorem next_core (w : World) (lo g : Nat) (A : Option Addr) (n c : Nat) (bs : List Int) (i h H u q : Nat) (s : Src w lo g 53 A n c bs i h) (x : Int) (h1 : 1 ≤ x) (hx : x ≤ 1099511627776)
    (e1 : IntKind.u64.wrap ((h : Int) * 6364136223846793005) = (u : Int)) (e2 : IntKind.u64.wrap ((u : Int) + 1442695040888963407) = (H : Int)) (e3 : bits BinOp.and IntKind.u64 ((H : Int) / 8589934592) 16777215 = (q : Int)) (hH : H < 18446744073709551616) (hq2 : q < 16777216) :
    Calls Tryz.prog 21 #[.pointer (some ⟨g, 0, none⟩), .int .i64 x] w fun e w' => ∃ (v : Int) (i' : Nat), e = .returned (.int .i64 v) ∧ NextP w w' lo g 53 A n c bs i H q x v i' := by
  have hst := s.st
  have c2 := s.cell2
  have f2 := s.frozen 2
  have s1 := s.setH hH
  have d0 := s1.cell0
  have d1 := s1.cell1
  have d2 := s1.cell2
  have g1 := s1.frozen 1
  have hn := s.code.2.1
  have hin := s.le
  have hB1 : Chg g (g + 1) w (w.setCell ⟨g, 2, none⟩ (.int .u64 H)) := (Chg.refl _ _ _).setCell (by simp) (by simp) _
  by_cases hlt : i < n
  · obtain ⟨b, o, y, rfl, hb, hy, y0, y1⟩ := s1.byteAt hlt
    have hd : decide ((i : Int) < (n : Int)) = true := by simp; omega
    have k1 : (0 : Int) ≤ (i : Int) := by omega
    have k2 : (i : Int) < (n : Int) := by omega
    go_enter Tryz.func21, Tryz.ntmps21
    go_wp2_with fail
    go_quiet (fail)
    go_wp2_with fail
    go_quiet (fail)
    go_wp2_with fail
    go_ret
    refine ⟨((q : Int) + y) % x, i + 1, rfl, ?_⟩
    constructor
    · exact Int.emod_nonneg _ (by omega)
    · exact Int.emod_lt_of_pos _ (by omega)
    · exact (s1.drewN _).setI (I := i + 1) hlt
    · exact (hB1.drewN _).setCell (by simp) (by simp) _
    · simp
    · exact fun _ => rfl
    · exact fun hh => absurd hlt hh
  · have hd : decide ((i : Int) < (n : Int)) = false := by simp; omega
    go_enter Tryz.func21, Tryz.ntmps21
    go_wp2_with fail
    go_quiet (fail)
    go_wp2_with fail
    go_ret
    refine ⟨(q : Int) % x, i, rfl, ?_⟩
    constructor
    · exact Int.emod_nonneg _ (by omega)
    · exact Int.emod_lt_of_pos _ (by omega)
    · exact s1.drewN _
    · exact hB1.drewN _
    · simp
    · exact fun hh => absurd hh hlt
    · exact fun _ => ⟨rfl, rfl⟩
theorem next_any (w : World) (lo g : Nat) (A : Option Addr) (n c : Nat) (bs : List Int) (i h : Nat) (s : Src w lo g 53 A n c bs i h) (x : Int) (h1 : 1 ≤ x) (hx : x ≤ 1099511627776) :
    Calls Tryz.prog 21 #[.pointer (some ⟨g, 0, none⟩), .int .i64 x] w fun e w' => ∃ (v : Int) (i' : Nat), e = .returned (.int .i64 v) ∧ NextP w w' lo g 53 A n c bs i (lcg h) (lcg h / 8589934592 % 16777216) x v i' := by
  obtain ⟨u, hu⟩ : ∃ u, (h * 6364136223846793005) % 18446744073709551616 = u := ⟨_, rfl⟩
  obtain ⟨e1, e2⟩ := lcg_wrap h u hu
  have hH : lcg h < 18446744073709551616 := by unfold lcg; omega
  exact next_core w lo g A n c bs i h (lcg h) u _ s x h1 hx e1 e2 (lcg_bits (lcg h) hH) hH (by omega)
/-- below 1: it returns 0 and the source stays -/
theorem next_zero (w : World) (g : Nat) (x : Int) (hx : x < 1) :
    Calls Tryz.prog 21 #[.pointer (some ⟨g, 0, none⟩), .int .i64 x] w fun e w' => e = .returned (.int .i64 0) ∧ w = w' := by
  go_enter Tryz.func21, Tryz.ntmps21
  go_wp2_with fail
  go_ret
  exact ⟨rfl, rfl⟩
end Go.Proofs.YtcjnhiglfkcmiaaGreatDoor
