/- Draws: one of some numbers (l01Pick), a drawn permutation (l01Draw). -/
import Derived.Test.YtcjnhiglfkcmiaaGreatDoorDrwF
import Derived.Test.YtcjnhiglfkcmiaaGreatDoorPow
import Derived.Test.YtcjnhiglfkcmiaaGreatDoorOrbL
namespace Go.Proofs.YtcjnhiglfkcmiaaGreatDoor
open Go.RowKit
set_option linter.unusedVariables false
set_option maxRecDepth 100000
theorem Src.far {w : World} {lo g : Nat} {T : TypeId} {A : Option Addr} {n c : Nat} {bs : List Int} {i h : Nat} (s : Src w lo g T A n c bs i h) {p : Addr} (h1 : p.block ≠ g) (h2 : lo ≤ p.block) (u : Value) : Src (w.setCell p u) lo g T A n c bs i h :=
  ⟨(Below.heap_setCell _ _ _ _ (fun e => h1 e.symm)).trans s.blk, s.above, s.code.keep fun k _ hk => Below.heap_setCell _ _ _ _ (by omega), s.byte, s.le, s.st⟩
theorem Chg.setNew {lo hi : Nat} {a w : World} (h : Chg lo hi a w) {p : Addr} (h1 : a.heap.size ≤ p.block) (u : Value) : Chg lo hi a (w.setCell p u) :=
  ⟨h.os, h.tape, h.output, by have := h.size; simp only [World.size_setCell]; omega, fun k hk g => (Below.heap_setCell _ _ _ _ (by omega)).trans (h.block k hk g)⟩
/-- what l01Draw leaves: a permutation of m points in a row of its own, the source with another state -/
def DrawnP (w w' : World) (lo g : Nat) (T T1 : TypeId) (A : Option Addr) (n c : Nat) (bs : List Int) (A1 : Option Addr) (m c1 : Nat) : Prop :=
  ∃ (i' h' : Nat) (xs : List Int), Own w' w.heap.size w'.heap.size T1 A1 m c1 (xs.map (Value.int .i64)) ∧ xs.Perm (idL m) ∧ Src w' lo g T A n c bs i' h' ∧ Chg g (g + 1) w w'
theorem pick_any (w : World) (lo g : Nat) (A : Option Addr) (n c : Nat) (bs : List Int) (i h : Nat) (s : Src w lo g 53 A n c bs i h) (A1 : Option Addr) (m c1 : Nat) (xs : List Int) {lo1 hi1 : Nat} (hx : RI w lo1 hi1 A1 m xs) (hg : hi1 ≤ g ∨ g < lo1) (hhi : hi1 ≤ w.heap.size) (h1 : 1 ≤ m) (hm : m ≤ 1048576) :
    Calls Tryz.prog 26 #[.pointer (some ⟨g, 0, none⟩), .slice A1 m c1] w fun e w' => ∃ (v i' h' : Nat) (y : Int), e = .returned (.int .i64 y) ∧ xs[v]? = some y ∧ Src w' lo g 53 A n c bs i' h' ∧ Chg g (g + 1) w w' ∧ w'.heap.size = w.heap.size := by
  have hn := next_any w lo g A n c bs i h s (m : Int) (by omega) (by omega)
  go_enter Tryz.func26, Tryz.ntmps26
  go_wp2_with fail
  ((with_reducible refine hn.mono ?_); rintro e w2 ⟨v, i', rfl, P⟩)
  have p1 := P.ge
  have p2 := P.lt
  obtain ⟨V, rfl⟩ := Int.eq_ofNat_of_zero_le p1
  have hx2 := hx.keep (Same.of_chg P.chg hhi (by omega))
  obtain ⟨b, o, y, rfl, _, _, hy, hc⟩ := hx2.at_ (k := V) (by omega)
  have hs := P.src
  have hc2 := P.chg
  have hz := P.size
  replace hy := Lib.hid hy
  clear P hn
  go_wp2_with fail
  go_ret
  exact ⟨V, i', _, y, rfl, hy.out, hs, hc2, hz⟩
set_option maxHeartbeats 1000000 in
theorem draw_any (w : World) (lo g : Nat) (A : Option Addr) (n c : Nat) (bs : List Int) (i h : Nat) (s : Src w lo g 53 A n c bs i h) (m : Nat) (hm : m ≤ 1048576) :
    Calls Tryz.prog 46 #[.pointer (some ⟨g, 0, none⟩), .int .i64 m] w fun e w' => ∃ (A1 : Option Addr) (c1 : Nat), e = .returned (.slice A1 m c1) ∧ DrawnP w w' lo g 53 2 A n c bs A1 m c1 := by
  have hgl := s.lt
  go_enter Tryz.func46, Tryz.ntmps46
  go_wp2_with fail
  ((with_reducible refine (unit_any m w (by omega)).mono ?_); rintro e w1 ⟨A1, c1, rfl, ho1, hb1⟩)
  have hs1 := hb1.size
  have s1 := s.below hb1 hgl
  have C1 : Chg g (g + 1) w w1 := Chg.of_below _ _ hb1
  go_wp2_with fail
  go_loopw [6] (fun iv wr => ∃ (j : Int) (ys : List Int) (i' h' : Nat), iv = .int .i64 j ∧ -1 ≤ j ∧ j < m ∧ ys.Perm (idL m) ∧ Own wr w.heap.size w1.heap.size 2 A1 m c1 (ys.map (Value.int .i64)) ∧ Src wr lo g 53 A n c bs i' h' ∧ Chg g (g + 1) w wr ∧ w1.heap.size ≤ wr.heap.size) (fun iv _ => (intOf iv).toNat)
  case atStart => exact ⟨(m : Int) - 1, idL m, i, h, by go_num, by omega, by omega, List.Perm.refl _, ho1, s1, C1, Nat.le_refl _⟩
  case round =>
    obtain ⟨j, ys, i', h', rfl, j1, j2, hP, hO, hS, hC, hz⟩ := hrel
    by_cases hj : 0 < j
    · obtain ⟨J, rfl⟩ := Int.eq_ofNat_of_zero_le (show 0 ≤ j by omega)
      have hn := next_any wr lo g A n c bs i' h' hS ((J : Int) + 1) (by omega) (by omega)
      replace hP := Lib.hid hP
      have d1 : decide ((0 : Int) < (J : Int)) = true := by simp; omega
      go_wp2_with fail
      ((with_reducible refine hn.mono ?_); rintro e w2 ⟨v, i2, rfl, P⟩)
      have p1 := P.ge
      have p2 := P.lt
      obtain ⟨V, rfl⟩ := Int.eq_ofNat_of_zero_le p1
      have hs2 := P.src
      have hc2 := P.chg
      have hz2 := P.size
      have hO2 := hO.keep (Same.of_chg hc2 hz (by omega))
      clear P hn
      obtain ⟨b, x, rfl, hb0, hb2, hb3, hx, -, -, hf⟩ := hO2.at_ (k := J) (by omega)
      simp only [List.getElem?_map, Option.map_eq_some_iff] at hx
      obtain ⟨x, hx, rfl⟩ := hx
      obtain ⟨y, hy⟩ : ∃ y, ys[V]? = some y := ⟨_, List.getElem?_eq_getElem (by rw [hO2.lenI]; omega)⟩
      have cJ := hO2.cellI hx
      have cV := hO2.cellI hy
      have fJ := hf J
      have fV := hf V
      clear hf
      have hVy : (ys.set J y)[V]? = some y := by
        rw [List.getElem?_set]
        split
        · split
          · rfl
          · rename_i h3 h4; subst h3; rw [List.getElem?_eq_none (by omega)] at hy; cases hy
        · exact hy
      have cV2 := (hO2.setI (k := J) y).cellI hVy
      have fV2 := (hO2.setI (k := J) y).frz V
      clear hVy
      have k0 : (0 : Int) ≤ (J : Int) := by omega
      have k1 : (J : Int) < (m : Int) := by omega
      have k2 : (V : Int) < (m : Int) := by omega
      replace hx := Lib.hid hx
      replace hy := Lib.hid hy
      go_wp2_with fail
      go_roundw
      case rel =>
        refine ⟨(J : Int) - 1, (ys.set J y).set V x, i2, lcg h', by go_num, by omega, by omega, ?_, ?_, ?_, ?_, ?_⟩
        · refine List.Perm.trans ?_ hP.out
          obtain ⟨q1, e1⟩ := List.getElem?_eq_some_iff.1 hx.out
          obtain ⟨q2, e2⟩ := List.getElem?_eq_some_iff.1 hy.out
          subst e1; subst e2
          exact List.set_set_perm q1 q2
        · exact (hO2.setI y).setI x
        · exact (hs2.far (p := ⟨b, J, none⟩) (by simp; omega) (by simp; have := hs2.above; omega) _).far (by simp; omega) (by simp; have := hs2.above; omega) _
        · exact ((hC.trans hc2 ⟨Nat.le_refl _, Nat.le_refl _⟩ ⟨Nat.le_refl _, Nat.le_refl _⟩).setNew hb0 _).setNew hb0 _
        · simp; omega
      case measure => simp [intOf]; omega
    · have d1 : decide ((0 : Int) < j) = false := by simp; omega
      go_wp2_with fail
      go_ret
      exact ⟨A1, c1, rfl, i', h', ys, hO.more (Nat.le_refl _) hz, hP, hS, hC⟩
end Go.Proofs.YtcjnhiglfkcmiaaGreatDoor
