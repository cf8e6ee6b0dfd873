/- Draws: a permutation that is seldom spoiled (l01Spoil). -/
import Derived.Test.YtcjnhiglfkcmiaaDoorDrwD
namespace Go.Proofs.YtcjnhiglfkcmiaaDoor
open Go.RowKit
set_option linter.unusedVariables false
set_option maxRecDepth 100000
theorem lit_rd (w : World) (vs : Array Value) (T : TypeId) (h : vs.size ≤ 9223372036854775807) : Rd (w.alloc (.cells vs T)) w.heap.size (w.heap.size + 1) (some ⟨w.heap.size, 0, none⟩) vs.size vs.toList := by
  refine ⟨by simp, h, fun _ => ⟨_, _, rfl, Nat.le_refl _, Nat.lt_succ_self _, fun k v hv => ?_⟩⟩
  unfold World.cell?
  rw [heap_newest]
  simpa using hv
/-- what l01Spoil leaves: a list of m numbers in a row of its own, the source with another state -/
def DrawnL (w w' : World) (lo g : Nat) (T T1 : TypeId) (A : Option Addr) (n c : Nat) (bs : List Int) (A1 : Option Addr) (m c1 : Nat) : Prop :=
  ∃ (i' h' : Nat) (xs : List Int), Own w' w.heap.size w'.heap.size T1 A1 m c1 (xs.map (Value.int .i64)) ∧ Src w' lo g T A n c bs i' h' ∧ Chg g (g + 1) w w'
set_option maxHeartbeats 1000000 in
theorem spoil_any (w : World) (lo g : Nat) (A : Option Addr) (n c : Nat) (bs : List Int) (i h : Nat) (s : Src w lo g 97 A n c bs i h) (m : Nat) (hm : m ≤ 1048576) :
    Calls Tryd.prog 68 #[.pointer (some ⟨g, 0, none⟩), .int .i64 m] w fun e w' => ∃ (A1 : Option Addr) (c1 : Nat), e = .returned (.slice A1 m c1) ∧ DrawnL w w' lo g 97 2 A n c bs A1 m c1 := by
  have hgl := s.lt
  have hD := draw_any w lo g A n c bs i h s m hm
  go_enter Tryd.func68, Tryd.ntmps68
  go_wp2_with fail
  ((with_reducible refine hD.mono ?_); rintro e w1 ⟨A1, c1, rfl, D⟩)
  obtain ⟨i1, h1, xs, hO, hP, hS, hC⟩ := D
  have hz1 := hC.size
  clear hP hD
  by_cases h0 : 0 < m
  · have d0 : decide ((0 : Int) < (m : Int)) = true := by simp; omega
    have hn := next_any w1 lo g A n c bs i1 h1 hS 20 (by omega) (by omega)
    go_wp2_with fail
    ((with_reducible refine hn.mono ?_); rintro e w2 ⟨v, i2, rfl, P⟩)
    have S2 := P.src
    have C2 := P.chg
    have z2 := Nat.le_of_eq P.size.symm
    clear P hn
    have O2 := hO.keep (Same.of_chg C2 (Nat.le_refl _) (by omega))
    have D2 := hC.trans C2 ⟨Nat.le_refl _, Nat.le_refl _⟩ ⟨Nat.le_refl _, Nat.le_refl _⟩
    by_cases hv : v = 0
    · subst hv
      have hn3 := next_any w2 lo g A n c bs i2 _ S2 (m : Int) (by omega) (by omega)
      go_wp2_with fail
      ((with_reducible refine hn3.mono ?_); rintro e w3 ⟨V, i3, rfl, P3⟩)
      have p1 := P3.ge
      have p2 := P3.lt
      obtain ⟨K, rfl⟩ := Int.eq_ofNat_of_zero_le p1
      have S3 := P3.src
      have C3 := P3.chg
      have z3 := Nat.le_of_eq P3.size.symm
      clear P3 hn3
      have O3 := O2.keep (Same.of_chg C3 (by omega) (by omega))
      have D3 := D2.trans C3 ⟨Nat.le_refl _, Nat.le_refl _⟩ ⟨Nat.le_refl _, Nat.le_refl _⟩
      have L4 : RI (w3.alloc (.cells #[.int .i64 (-1), .int .i64 m, .int .i64 0, .int .i64 1099511627776] 2)) w3.heap.size (w3.heap.size + 1) (some ⟨w3.heap.size, 0, none⟩) 4 [-1, (m : Int), 0, 1099511627776] := lit_rd w3 #[.int .i64 (-1), .int .i64 m, .int .i64 0, .int .i64 1099511627776] 2 (by simp)
      have B4 : Below w3.heap.size w3 (w3.alloc (.cells #[.int .i64 (-1), .int .i64 m, .int .i64 0, .int .i64 1099511627776] 2)) := (Below.refl _ _).alloc (Nat.le_refl _) _
      have S4 := S3.below B4 (by omega)
      have O4 := O3.below B4 (by omega)
      have D4 := D3.trans_below B4
      have hp := pick_any _ lo g A n c bs i3 _ S4 _ 4 4 _ L4 (by omega) (by simp) (by omega) (by omega)
      go_wp2_with fail
      ((with_reducible refine hp.mono ?_); rintro e w5 ⟨v5, i5, h5, y, rfl, hy, S5, C5, z5⟩)
      clear hp hy
      replace z5 := Nat.le_of_eq z5.symm
      rw [World.size_alloc] at z5
      have O5 := O4.keep (Same.of_chg C5 (by simp; omega) (by omega))
      have D5 := D4.trans C5 ⟨Nat.le_refl _, Nat.le_refl _⟩ ⟨Nat.le_refl _, Nat.le_refl _⟩
      obtain ⟨b, x, rfl, hb0, hb2, hb3, hx, -, hcx, hf⟩ := O5.at_ (k := K) (by omega)
      have fK := hf K
      clear hf
      have k2 : (K : Int) < (m : Int) := by omega
      have k1 : (0 : Int) ≤ (K : Int) := by omega
      have S6 := S5.far (p := ⟨b, K, none⟩) (by simp; omega) (by simp; have := S5.above; omega) (.int .i64 y)
      have O6 := O5.setI (k := K) y
      have D6 := D5.setNew (p := ⟨b, K, none⟩) hb0 (.int .i64 y)
      have z6 : ((w5.setCell ⟨b, K, none⟩ (.int .i64 y)).heap.size) = w5.heap.size := World.size_setCell _ _ _
      have z7 : w1.heap.size ≤ w5.heap.size := by omega
      go_wp2_with fail
      go_ret
      exact ⟨_, c1, rfl, i5, h5, _, O6.more (Nat.le_refl _) (by rw [z6]; exact z7), S6, D6⟩
    · have d1 : (v == 0) = false := by simpa using hv
      go_wp2_with fail
      go_ret
      exact ⟨A1, c1, rfl, i2, _, xs, O2.more (Nat.le_refl _) (by omega), S2, D2⟩
  · have d0 : decide ((0 : Int) < (m : Int)) = false := by simp; omega
    go_wp2_with fail
    go_ret
    exact ⟨A1, c1, rfl, i1, h1, xs, hO, hS, hC⟩
end Go.Proofs.YtcjnhiglfkcmiaaDoor
