/- Draws: a number of points (l01Size). -/
import Derived.Test.YtcjnhiglfkcmiaaDoorDrwS
namespace Go.Proofs.YtcjnhiglfkcmiaaDoor
open Go.RowKit
set_option linter.unusedVariables false
set_option maxRecDepth 100000
/-- a number v with v <= most has been drawn -/
def StepP (w w' : World) (lo g : Nat) (T : TypeId) (A : Option Addr) (n c : Nat) (bs : List Int) (most v : Nat) : Prop :=
  v ≤ most ∧ ∃ (i' h' : Nat), Src w' lo g T A n c bs i' h' ∧ Chg g (g + 1) w w'
theorem next_nat (w : World) (lo g : Nat) (A : Option Addr) (n c : Nat) (bs : List Int) (i h : Nat) (s : Src w lo g 97 A n c bs i h) (x : Int) (h1 : 1 ≤ x) (hx : x ≤ 1099511627776) :
    Calls Tryd.prog 47 #[.pointer (some ⟨g, 0, none⟩), .int .i64 x] w fun e w' => ∃ (v : Nat), e = .returned (.int .i64 v) ∧ StepP w w' lo g 97 A n c bs (x - 1).toNat v := by
  refine (next_any w lo g A n c bs i h s x h1 hx).mono ?_
  rintro e w' ⟨v, i', rfl, P⟩
  obtain ⟨V, rfl⟩ := Int.eq_ofNat_of_zero_le P.ge
  have := P.lt
  exact ⟨V, rfl, by omega, i', _, P.src, P.chg⟩
set_option maxHeartbeats 1000000 in
theorem size_any (w : World) (lo g : Nat) (A : Option Addr) (n c : Nat) (bs : List Int) (i h : Nat) (s : Src w lo g 97 A n c bs i h) :
    Calls Tryd.prog 69 #[.pointer (some ⟨g, 0, none⟩)] w fun e w' => ∃ (v : Nat), e = .returned (.int .i64 v) ∧ StepP w w' lo g 97 A n c bs 401 v := by
  have hgl := s.lt
  go_enter Tryd.func69, Tryd.ntmps69
  go_wp2_with fail
  ((with_reducible refine (next_nat w lo g A n c bs _ _ s 9 (by omega) (by omega)).mono ?_); rintro e w1 ⟨v1, rfl, b1, i1, h1, S1, C1⟩)
  go_wp2_with fail
  ((with_reducible refine (next_nat w1 lo g A n c bs _ _ S1 9 (by omega) (by omega)).mono ?_); rintro e w2 ⟨v2, rfl, b2, i2, h2, S2, C2⟩)
  go_wp2_with fail
  ((with_reducible refine (next_nat w2 lo g A n c bs _ _ S2 30 (by omega) (by omega)).mono ?_); rintro e w3 ⟨v3, rfl, b3, i3, h3, S3, C3⟩)
  go_wp2_with fail
  ((with_reducible refine (next_nat w3 lo g A n c bs _ _ S3 9 (by omega) (by omega)).mono ?_); rintro e w4 ⟨v4, rfl, b4, i4, h4, S4, C4⟩)
  go_wp2_with fail
  ((with_reducible refine (next_nat w4 lo g A n c bs _ _ S4 9 (by omega) (by omega)).mono ?_); rintro e w5 ⟨v5, rfl, b5, i5, h5, S5, C5⟩)
  go_wp2_with fail
  ((with_reducible refine (next_nat w5 lo g A n c bs _ _ S5 60 (by omega) (by omega)).mono ?_); rintro e w6 ⟨v6, rfl, b6, i6, h6, S6, C6⟩)
  have C := ((((C1.trans C2 ⟨Nat.le_refl _, Nat.le_refl _⟩ ⟨Nat.le_refl _, Nat.le_refl _⟩).trans C3 ⟨Nat.le_refl _, Nat.le_refl _⟩ ⟨Nat.le_refl _, Nat.le_refl _⟩).trans C4 ⟨Nat.le_refl _, Nat.le_refl _⟩ ⟨Nat.le_refl _, Nat.le_refl _⟩).trans C5 ⟨Nat.le_refl _, Nat.le_refl _⟩ ⟨Nat.le_refl _, Nat.le_refl _⟩).trans C6 ⟨Nat.le_refl _, Nat.le_refl _⟩ ⟨Nat.le_refl _, Nat.le_refl _⟩
  have hs6 := C.size
  clear C1 C2 C3 C4 C5 C6
  have L7 : RI (w6.alloc (.cells #[.int .i64 400, .int .i64 401, .int .i64 100, .int .i64 v6] 2)) w6.heap.size (w6.heap.size + 1) (some ⟨w6.heap.size, 0, none⟩) 4 [400, 401, 100, (v6 : Int)] := lit_rd w6 #[.int .i64 400, .int .i64 401, .int .i64 100, .int .i64 v6] 2 (by simp)
  have B7 : Below w6.heap.size w6 (w6.alloc (.cells #[.int .i64 400, .int .i64 401, .int .i64 100, .int .i64 v6] 2)) := (Below.refl _ _).alloc (Nat.le_refl _) _
  have S7 := S6.below B7 (by omega)
  have D7 := C.trans_below B7
  have hp := pick_any _ lo g A n c bs i6 _ S7 _ 4 4 _ L7 (by omega) (by simp) (by omega) (by omega)
  go_wp2_with fail
  ((with_reducible refine hp.mono ?_); rintro e w8 ⟨v8, i8, h8, y, rfl, hy, S8, C8, z8⟩)
  have hy := List.mem_of_getElem? hy
  have hy8 : 0 ≤ y ∧ y ≤ 401 := by simp at hy; omega
  have D8 := D7.trans C8 ⟨Nat.le_refl _, Nat.le_refl _⟩ ⟨Nat.le_refl _, Nat.le_refl _⟩
  have hs8 := D8.size
  clear hp hy z8 C8 L7
  have L9 : RI (w8.alloc (.cells #[.int .i64 v1, .int .i64 v2, .int .i64 v3, .int .i64 v4, .int .i64 v5, .int .i64 y] 2)) w8.heap.size (w8.heap.size + 1) (some ⟨w8.heap.size, 0, none⟩) 6 [(v1 : Int), v2, v3, v4, v5, y] := lit_rd w8 #[.int .i64 v1, .int .i64 v2, .int .i64 v3, .int .i64 v4, .int .i64 v5, .int .i64 y] 2 (by simp)
  have B9 : Below w8.heap.size w8 (w8.alloc (.cells #[.int .i64 v1, .int .i64 v2, .int .i64 v3, .int .i64 v4, .int .i64 v5, .int .i64 y] 2)) := (Below.refl _ _).alloc (Nat.le_refl _) _
  have S9 := S8.below B9 (by omega)
  have D9 := D8.trans_below B9
  have hp := pick_any _ lo g A n c bs i8 _ S9 _ 6 6 _ L9 (by omega) (by simp) (by omega) (by omega)
  go_wp2_with fail
  ((with_reducible refine hp.mono ?_); rintro e wa ⟨va, ia, ha, z, rfl, hz, Sa, Ca, za⟩)
  have hz := List.mem_of_getElem? hz
  have hz2 : 0 ≤ z ∧ z ≤ 401 := by simp at hz; omega
  have Da := D9.trans Ca ⟨Nat.le_refl _, Nat.le_refl _⟩ ⟨Nat.le_refl _, Nat.le_refl _⟩
  obtain ⟨Z, rfl⟩ := Int.eq_ofNat_of_zero_le hz2.1
  clear hp hz za Ca L9
  go_wp2_with fail
  go_ret
  exact ⟨Z, rfl, by omega, ia, ha, Sa, Da⟩
end Go.Proofs.YtcjnhiglfkcmiaaDoor
