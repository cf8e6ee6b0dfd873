/- FnGroups: the group of a system has the identity, what its permutations make of each of its elements, the inverses of all, and the orbits of the system: the law returns true for every code. No condition. (Merged: DrwD, DrwS, DrwZ, DrwC, DrwM, Dic, DrwO, Like, PermX, GrpD, Prm, Lk5, LGroups.) -/
import Derived.Test.YtcjnhiglfkcmiaaDoorMgc
import Derived.Test.YtcjnhiglfkcmiaaDoorPow
import Derived.Test.YtcjnhiglfkcmiaaDoorOrbL
import Derived.Test.YtcjnhiglfkcmiaaDoorCyc
import Derived.Test.YtcjnhiglfkcmiaaDoorLawI
import Derived.Test.YtcjnhiglfkcmiaaDoorPerm2
import Derived.Test.YtcjnhiglfkcmiaaDoorStep
import Derived.Test.YtcjnhiglfkcmiaaDoorRow
import Derived.Test.YtcjnhiglfkcmiaaDoorLawM
import Derived.Test.YtcjnhiglfkcmiaaDoorRows
import Derived.Test.YtcjnhiglfkcmiaaDoorTie
import Derived.Test.YtcjnhiglfkcmiaaDoorCards
import Derived.ProofKit
import Derived.LaidMore
import Derived.OpenShut
import Derived.Stop.Joined
import Derived.Stop.LaidErr
import Derived.SevenTiedAt
import Derived.Lib.LaidTab
import Derived.MakeChecks
import Derived.Lay
import Derived.Test.YtcjnhiglfkcmiaaDoorOpen
import Derived.Test.YtcjnhiglfkcmiaaDoorOpenB
/- DrwD -/
namespace Go.Proofs.YtcjnhiglfkcmiaaDoor
open Go.RowKit
set_option linter.unusedVariables false
set_option maxRecDepth 100000
theorem Src.far {w : World} {lo g : Nat} {T : TypeId} {A : Option Addr} {n c : Nat} {bs : List Int} {i h : Nat} (s : Src w lo g T A n c bs i h) {p : Addr} (h1 : p.block ≠ g) (h2 : lo ≤ p.block) (u : Value) : Src (w.setCell p u) lo g T A n c bs i h :=
  ⟨(Below.heap_setCell _ _ _ _ (fun e => h1 e.symm)).trans s.blk, s.above, s.code.keep fun k _ hk => Below.heap_setCell _ _ _ _ (by omega), s.byte, s.le, s.st⟩
theorem Chg.setNew {lo hi : Nat} {a w : World} (h : Chg lo hi a w) {p : Addr} (h1 : a.heap.size ≤ p.block) (u : Value) : Chg lo hi a (w.setCell p u) :=
  ⟨h.os, h.tape, h.output, by have := h.size; simp only [World.size_setCell]; omega, fun k hk g => (Below.heap_setCell _ _ _ _ (by omega)).trans (h.block k hk g)⟩
/-- what l01Draw leaves: a permutation of m points in a row of its own, the source with another state -/
def DrawnP (w w' : World) (lo g : Nat) (T T1 : TypeId) (A : Option Addr) (n c : Nat) (bs : List Int) (A1 : Option Addr) (m c1 : Nat) : Prop :=
  ∃ (i' h' : Nat) (xs : List Int), Own w' w.heap.size w'.heap.size T1 A1 m c1 (xs.map (Value.int .i64)) ∧ xs.Perm (idL m) ∧ Src w' lo g T A n c bs i' h' ∧ Chg g (g + 1) w w'
theorem pick_any (w : World) (lo g : Nat) (A : Option Addr) (n c : Nat) (bs : List Int) (i h : Nat) (s : Src w lo g 97 A n c bs i h) (A1 : Option Addr) (m c1 : Nat) (xs : List Int) {lo1 hi1 : Nat} (hx : RI w lo1 hi1 A1 m xs) (hg : hi1 ≤ g ∨ g < lo1) (hhi : hi1 ≤ w.heap.size) (h1 : 1 ≤ m) (hm : m ≤ 1048576) :
    Calls Tryd.prog 50 #[.pointer (some ⟨g, 0, none⟩), .slice A1 m c1] w fun e w' => ∃ (v i' h' : Nat) (y : Int), e = .returned (.int .i64 y) ∧ xs[v]? = some y ∧ Src w' lo g 97 A n c bs i' h' ∧ Chg g (g + 1) w w' ∧ w'.heap.size = w.heap.size := by
  have hn := next_any w lo g A n c bs i h s (m : Int) (by omega) (by omega)
  go_enter Tryd.func50, Tryd.ntmps50
  go_wp2_with fail
  ((with_reducible refine hn.mono ?_); rintro e w2 ⟨v, i', rfl, P⟩)
  have p1 := P.ge
  have p2 := P.lt
  obtain ⟨V, rfl⟩ := Int.eq_ofNat_of_zero_le p1
  have hx2 := hx.keep (Same.of_chg P.chg hhi (by omega))
  obtain ⟨b, o, y, rfl, _, _, hy, hc⟩ := hx2.at_ (k := V) (by omega)
  have hs := P.src
  have hc2 := P.chg
  have hz := P.size
  replace hy := Lib.hid hy
  clear P hn
  go_wp2_with fail
  go_ret
  exact ⟨V, i', _, y, rfl, hy.out, hs, hc2, hz⟩
set_option maxHeartbeats 1000000 in
theorem draw_any (w : World) (lo g : Nat) (A : Option Addr) (n c : Nat) (bs : List Int) (i h : Nat) (s : Src w lo g 97 A n c bs i h) (m : Nat) (hm : m ≤ 1048576) :
    Calls Tryd.prog 48 #[.pointer (some ⟨g, 0, none⟩), .int .i64 m] w fun e w' => ∃ (A1 : Option Addr) (c1 : Nat), e = .returned (.slice A1 m c1) ∧ DrawnP w w' lo g 97 2 A n c bs A1 m c1 := by
  have hgl := s.lt
  go_enter Tryd.func48, Tryd.ntmps48
  go_wp2_with fail
  ((with_reducible refine (unit_any m w (by omega)).mono ?_); rintro e w1 ⟨A1, c1, rfl, ho1, hb1⟩)
  have hs1 := hb1.size
  have s1 := s.below hb1 hgl
  have C1 : Chg g (g + 1) w w1 := Chg.of_below _ _ hb1
  go_wp2_with fail
  go_loopw [6] (fun iv wr => ∃ (j : Int) (ys : List Int) (i' h' : Nat), iv = .int .i64 j ∧ -1 ≤ j ∧ j < m ∧ ys.Perm (idL m) ∧ Own wr w.heap.size w1.heap.size 2 A1 m c1 (ys.map (Value.int .i64)) ∧ Src wr lo g 97 A n c bs i' h' ∧ Chg g (g + 1) w wr ∧ w1.heap.size ≤ wr.heap.size) (fun iv _ => (intOf iv).toNat)
  case atStart => exact ⟨(m : Int) - 1, idL m, i, h, by go_num, by omega, by omega, List.Perm.refl _, ho1, s1, C1, Nat.le_refl _⟩
  case round =>
    obtain ⟨j, ys, i', h', rfl, j1, j2, hP, hO, hS, hC, hz⟩ := hrel
    by_cases hj : 0 < j
    · obtain ⟨J, rfl⟩ := Int.eq_ofNat_of_zero_le (show 0 ≤ j by omega)
      have hn := next_any wr lo g A n c bs i' h' hS ((J : Int) + 1) (by omega) (by omega)
      replace hP := Lib.hid hP
      have d1 : decide ((0 : Int) < (J : Int)) = true := by simp; omega
      go_wp2_with fail
      ((with_reducible refine hn.mono ?_); rintro e w2 ⟨v, i2, rfl, P⟩)
      have p1 := P.ge
      have p2 := P.lt
      obtain ⟨V, rfl⟩ := Int.eq_ofNat_of_zero_le p1
      have hs2 := P.src
      have hc2 := P.chg
      have hz2 := P.size
      have hO2 := hO.keep (Same.of_chg hc2 hz (by omega))
      clear P hn
      obtain ⟨b, x, rfl, hb0, hb2, hb3, hx, -, -, hf⟩ := hO2.at_ (k := J) (by omega)
      simp only [List.getElem?_map, Option.map_eq_some_iff] at hx
      obtain ⟨x, hx, rfl⟩ := hx
      obtain ⟨y, hy⟩ : ∃ y, ys[V]? = some y := ⟨_, List.getElem?_eq_getElem (by rw [hO2.lenI]; omega)⟩
      have cJ := hO2.cellI hx
      have cV := hO2.cellI hy
      have fJ := hf J
      have fV := hf V
      clear hf
      have hVy : (ys.set J y)[V]? = some y := by
        rw [List.getElem?_set]
        split
        · split
          · rfl
          · rename_i h3 h4; subst h3; rw [List.getElem?_eq_none (by omega)] at hy; cases hy
        · exact hy
      have cV2 := (hO2.setI (k := J) y).cellI hVy
      have fV2 := (hO2.setI (k := J) y).frz V
      clear hVy
      have k0 : (0 : Int) ≤ (J : Int) := by omega
      have k1 : (J : Int) < (m : Int) := by omega
      have k2 : (V : Int) < (m : Int) := by omega
      replace hx := Lib.hid hx
      replace hy := Lib.hid hy
      go_wp2_with fail
      go_roundw
      case rel =>
        refine ⟨(J : Int) - 1, (ys.set J y).set V x, i2, lcg h', by go_num, by omega, by omega, ?_, ?_, ?_, ?_, ?_⟩
        · refine List.Perm.trans ?_ hP.out
          obtain ⟨q1, e1⟩ := List.getElem?_eq_some_iff.1 hx.out
          obtain ⟨q2, e2⟩ := List.getElem?_eq_some_iff.1 hy.out
          subst e1; subst e2
          exact List.set_set_perm q1 q2
        · exact (hO2.setI y).setI x
        · exact (hs2.far (p := ⟨b, J, none⟩) (by simp; omega) (by simp; have := hs2.above; omega) _).far (by simp; omega) (by simp; have := hs2.above; omega) _
        · exact ((hC.trans hc2 ⟨Nat.le_refl _, Nat.le_refl _⟩ ⟨Nat.le_refl _, Nat.le_refl _⟩).setNew hb0 _).setNew hb0 _
        · simp; omega
      case measure => simp [intOf]; omega
    · have d1 : decide ((0 : Int) < j) = false := by simp; omega
      go_wp2_with fail
      go_ret
      exact ⟨A1, c1, rfl, i', h', ys, hO.more (Nat.le_refl _) hz, hP, hS, hC⟩
end Go.Proofs.YtcjnhiglfkcmiaaDoor
/- DrwS -/
namespace Go.Proofs.YtcjnhiglfkcmiaaDoor
open Go.RowKit
set_option linter.unusedVariables false
set_option maxRecDepth 100000
theorem lit_rd (w : World) (vs : Array Value) (T : TypeId) (h : vs.size ≤ 9223372036854775807) : Rd (w.alloc (.cells vs T)) w.heap.size (w.heap.size + 1) (some ⟨w.heap.size, 0, none⟩) vs.size vs.toList := by
  refine ⟨by simp, h, fun _ => ⟨_, _, rfl, Nat.le_refl _, Nat.lt_succ_self _, fun k v hv => ?_⟩⟩
  unfold World.cell?
  rw [heap_newest]
  simpa using hv
/-- what l01Spoil leaves: a list of m numbers in a row of its own, the source with another state -/
def DrawnL (w w' : World) (lo g : Nat) (T T1 : TypeId) (A : Option Addr) (n c : Nat) (bs : List Int) (A1 : Option Addr) (m c1 : Nat) : Prop :=
  ∃ (i' h' : Nat) (xs : List Int), Own w' w.heap.size w'.heap.size T1 A1 m c1 (xs.map (Value.int .i64)) ∧ Src w' lo g T A n c bs i' h' ∧ Chg g (g + 1) w w'
set_option maxHeartbeats 1000000 in
theorem spoil_any (w : World) (lo g : Nat) (A : Option Addr) (n c : Nat) (bs : List Int) (i h : Nat) (s : Src w lo g 97 A n c bs i h) (m : Nat) (hm : m ≤ 1048576) :
    Calls Tryd.prog 68 #[.pointer (some ⟨g, 0, none⟩), .int .i64 m] w fun e w' => ∃ (A1 : Option Addr) (c1 : Nat), e = .returned (.slice A1 m c1) ∧ DrawnL w w' lo g 97 2 A n c bs A1 m c1 := by
  have hgl := s.lt
  have hD := draw_any w lo g A n c bs i h s m hm
  go_enter Tryd.func68, Tryd.ntmps68
  go_wp2_with fail
  ((with_reducible refine hD.mono ?_); rintro e w1 ⟨A1, c1, rfl, D⟩)
  obtain ⟨i1, h1, xs, hO, hP, hS, hC⟩ := D
  have hz1 := hC.size
  clear hP hD
  by_cases h0 : 0 < m
  · have d0 : decide ((0 : Int) < (m : Int)) = true := by simp; omega
    have hn := next_any w1 lo g A n c bs i1 h1 hS 20 (by omega) (by omega)
    go_wp2_with fail
    ((with_reducible refine hn.mono ?_); rintro e w2 ⟨v, i2, rfl, P⟩)
    have S2 := P.src
    have C2 := P.chg
    have z2 := Nat.le_of_eq P.size.symm
    clear P hn
    have O2 := hO.keep (Same.of_chg C2 (Nat.le_refl _) (by omega))
    have D2 := hC.trans C2 ⟨Nat.le_refl _, Nat.le_refl _⟩ ⟨Nat.le_refl _, Nat.le_refl _⟩
    by_cases hv : v = 0
    · subst hv
      have hn3 := next_any w2 lo g A n c bs i2 _ S2 (m : Int) (by omega) (by omega)
      go_wp2_with fail
      ((with_reducible refine hn3.mono ?_); rintro e w3 ⟨V, i3, rfl, P3⟩)
      have p1 := P3.ge
      have p2 := P3.lt
      obtain ⟨K, rfl⟩ := Int.eq_ofNat_of_zero_le p1
      have S3 := P3.src
      have C3 := P3.chg
      have z3 := Nat.le_of_eq P3.size.symm
      clear P3 hn3
      have O3 := O2.keep (Same.of_chg C3 (by omega) (by omega))
      have D3 := D2.trans C3 ⟨Nat.le_refl _, Nat.le_refl _⟩ ⟨Nat.le_refl _, Nat.le_refl _⟩
      have L4 : RI (w3.alloc (.cells #[.int .i64 (-1), .int .i64 m, .int .i64 0, .int .i64 1099511627776] 2)) w3.heap.size (w3.heap.size + 1) (some ⟨w3.heap.size, 0, none⟩) 4 [-1, (m : Int), 0, 1099511627776] := lit_rd w3 #[.int .i64 (-1), .int .i64 m, .int .i64 0, .int .i64 1099511627776] 2 (by simp)
      have B4 : Below w3.heap.size w3 (w3.alloc (.cells #[.int .i64 (-1), .int .i64 m, .int .i64 0, .int .i64 1099511627776] 2)) := (Below.refl _ _).alloc (Nat.le_refl _) _
      have S4 := S3.below B4 (by omega)
      have O4 := O3.below B4 (by omega)
      have D4 := D3.trans_below B4
      have hp := pick_any _ lo g A n c bs i3 _ S4 _ 4 4 _ L4 (by omega) (by simp) (by omega) (by omega)
      go_wp2_with fail
      ((with_reducible refine hp.mono ?_); rintro e w5 ⟨v5, i5, h5, y, rfl, hy, S5, C5, z5⟩)
      clear hp hy
      replace z5 := Nat.le_of_eq z5.symm
      rw [World.size_alloc] at z5
      have O5 := O4.keep (Same.of_chg C5 (by simp; omega) (by omega))
      have D5 := D4.trans C5 ⟨Nat.le_refl _, Nat.le_refl _⟩ ⟨Nat.le_refl _, Nat.le_refl _⟩
      obtain ⟨b, x, rfl, hb0, hb2, hb3, hx, -, hcx, hf⟩ := O5.at_ (k := K) (by omega)
      have fK := hf K
      clear hf
      have k2 : (K : Int) < (m : Int) := by omega
      have k1 : (0 : Int) ≤ (K : Int) := by omega
      have S6 := S5.far (p := ⟨b, K, none⟩) (by simp; omega) (by simp; have := S5.above; omega) (.int .i64 y)
      have O6 := O5.setI (k := K) y
      have D6 := D5.setNew (p := ⟨b, K, none⟩) hb0 (.int .i64 y)
      have z6 : ((w5.setCell ⟨b, K, none⟩ (.int .i64 y)).heap.size) = w5.heap.size := World.size_setCell _ _ _
      have z7 : w1.heap.size ≤ w5.heap.size := by omega
      go_wp2_with fail
      go_ret
      exact ⟨_, c1, rfl, i5, h5, _, O6.more (Nat.le_refl _) (by rw [z6]; exact z7), S6, D6⟩
    · have d1 : (v == 0) = false := by simpa using hv
      go_wp2_with fail
      go_ret
      exact ⟨A1, c1, rfl, i2, _, xs, O2.more (Nat.le_refl _) (by omega), S2, D2⟩
  · have d0 : decide ((0 : Int) < (m : Int)) = false := by simp; omega
    go_wp2_with fail
    go_ret
    exact ⟨A1, c1, rfl, i1, h1, xs, hO, hS, hC⟩
end Go.Proofs.YtcjnhiglfkcmiaaDoor
/- DrwZ -/
namespace Go.Proofs.YtcjnhiglfkcmiaaDoor
open Go.RowKit
set_option linter.unusedVariables false
set_option maxRecDepth 100000
/-- a number v with v <= most has been drawn -/
def StepP (w w' : World) (lo g : Nat) (T : TypeId) (A : Option Addr) (n c : Nat) (bs : List Int) (most v : Nat) : Prop :=
  v ≤ most ∧ ∃ (i' h' : Nat), Src w' lo g T A n c bs i' h' ∧ Chg g (g + 1) w w'
theorem next_nat (w : World) (lo g : Nat) (A : Option Addr) (n c : Nat) (bs : List Int) (i h : Nat) (s : Src w lo g 97 A n c bs i h) (x : Int) (h1 : 1 ≤ x) (hx : x ≤ 1099511627776) :
    Calls Tryd.prog 47 #[.pointer (some ⟨g, 0, none⟩), .int .i64 x] w fun e w' => ∃ (v : Nat), e = .returned (.int .i64 v) ∧ StepP w w' lo g 97 A n c bs (x - 1).toNat v := by
  refine (next_any w lo g A n c bs i h s x h1 hx).mono ?_
  rintro e w' ⟨v, i', rfl, P⟩
  obtain ⟨V, rfl⟩ := Int.eq_ofNat_of_zero_le P.ge
  have := P.lt
  exact ⟨V, rfl, by omega, i', _, P.src, P.chg⟩
set_option maxHeartbeats 1000000 in
theorem size_any (w : World) (lo g : Nat) (A : Option Addr) (n c : Nat) (bs : List Int) (i h : Nat) (s : Src w lo g 97 A n c bs i h) :
    Calls Tryd.prog 69 #[.pointer (some ⟨g, 0, none⟩)] w fun e w' => ∃ (v : Nat), e = .returned (.int .i64 v) ∧ StepP w w' lo g 97 A n c bs 401 v := by
  have hgl := s.lt
  go_enter Tryd.func69, Tryd.ntmps69
  go_wp2_with fail
  ((with_reducible refine (next_nat w lo g A n c bs _ _ s 9 (by omega) (by omega)).mono ?_); rintro e w1 ⟨v1, rfl, b1, i1, h1, S1, C1⟩)
  go_wp2_with fail
  ((with_reducible refine (next_nat w1 lo g A n c bs _ _ S1 9 (by omega) (by omega)).mono ?_); rintro e w2 ⟨v2, rfl, b2, i2, h2, S2, C2⟩)
  go_wp2_with fail
  ((with_reducible refine (next_nat w2 lo g A n c bs _ _ S2 30 (by omega) (by omega)).mono ?_); rintro e w3 ⟨v3, rfl, b3, i3, h3, S3, C3⟩)
  go_wp2_with fail
  ((with_reducible refine (next_nat w3 lo g A n c bs _ _ S3 9 (by omega) (by omega)).mono ?_); rintro e w4 ⟨v4, rfl, b4, i4, h4, S4, C4⟩)
  go_wp2_with fail
  ((with_reducible refine (next_nat w4 lo g A n c bs _ _ S4 9 (by omega) (by omega)).mono ?_); rintro e w5 ⟨v5, rfl, b5, i5, h5, S5, C5⟩)
  go_wp2_with fail
  ((with_reducible refine (next_nat w5 lo g A n c bs _ _ S5 60 (by omega) (by omega)).mono ?_); rintro e w6 ⟨v6, rfl, b6, i6, h6, S6, C6⟩)
  have C := ((((C1.trans C2 ⟨Nat.le_refl _, Nat.le_refl _⟩ ⟨Nat.le_refl _, Nat.le_refl _⟩).trans C3 ⟨Nat.le_refl _, Nat.le_refl _⟩ ⟨Nat.le_refl _, Nat.le_refl _⟩).trans C4 ⟨Nat.le_refl _, Nat.le_refl _⟩ ⟨Nat.le_refl _, Nat.le_refl _⟩).trans C5 ⟨Nat.le_refl _, Nat.le_refl _⟩ ⟨Nat.le_refl _, Nat.le_refl _⟩).trans C6 ⟨Nat.le_refl _, Nat.le_refl _⟩ ⟨Nat.le_refl _, Nat.le_refl _⟩
  have hs6 := C.size
  clear C1 C2 C3 C4 C5 C6
  have L7 : RI (w6.alloc (.cells #[.int .i64 400, .int .i64 401, .int .i64 100, .int .i64 v6] 2)) w6.heap.size (w6.heap.size + 1) (some ⟨w6.heap.size, 0, none⟩) 4 [400, 401, 100, (v6 : Int)] := lit_rd w6 #[.int .i64 400, .int .i64 401, .int .i64 100, .int .i64 v6] 2 (by simp)
  have B7 : Below w6.heap.size w6 (w6.alloc (.cells #[.int .i64 400, .int .i64 401, .int .i64 100, .int .i64 v6] 2)) := (Below.refl _ _).alloc (Nat.le_refl _) _
  have S7 := S6.below B7 (by omega)
  have D7 := C.trans_below B7
  have hp := pick_any _ lo g A n c bs i6 _ S7 _ 4 4 _ L7 (by omega) (by simp) (by omega) (by omega)
  go_wp2_with fail
  ((with_reducible refine hp.mono ?_); rintro e w8 ⟨v8, i8, h8, y, rfl, hy, S8, C8, z8⟩)
  have hy := List.mem_of_getElem? hy
  have hy8 : 0 ≤ y ∧ y ≤ 401 := by simp at hy; omega
  have D8 := D7.trans C8 ⟨Nat.le_refl _, Nat.le_refl _⟩ ⟨Nat.le_refl _, Nat.le_refl _⟩
  have hs8 := D8.size
  clear hp hy z8 C8 L7
  have L9 : RI (w8.alloc (.cells #[.int .i64 v1, .int .i64 v2, .int .i64 v3, .int .i64 v4, .int .i64 v5, .int .i64 y] 2)) w8.heap.size (w8.heap.size + 1) (some ⟨w8.heap.size, 0, none⟩) 6 [(v1 : Int), v2, v3, v4, v5, y] := lit_rd w8 #[.int .i64 v1, .int .i64 v2, .int .i64 v3, .int .i64 v4, .int .i64 v5, .int .i64 y] 2 (by simp)
  have B9 : Below w8.heap.size w8 (w8.alloc (.cells #[.int .i64 v1, .int .i64 v2, .int .i64 v3, .int .i64 v4, .int .i64 v5, .int .i64 y] 2)) := (Below.refl _ _).alloc (Nat.le_refl _) _
  have S9 := S8.below B9 (by omega)
  have D9 := D8.trans_below B9
  have hp := pick_any _ lo g A n c bs i8 _ S9 _ 6 6 _ L9 (by omega) (by simp) (by omega) (by omega)
  go_wp2_with fail
  ((with_reducible refine hp.mono ?_); rintro e wa ⟨va, ia, ha, z, rfl, hz, Sa, Ca, za⟩)
  have hz := List.mem_of_getElem? hz
  have hz2 : 0 ≤ z ∧ z ≤ 401 := by simp at hz; omega
  have Da := D9.trans Ca ⟨Nat.le_refl _, Nat.le_refl _⟩ ⟨Nat.le_refl _, Nat.le_refl _⟩
  obtain ⟨Z, rfl⟩ := Int.eq_ofNat_of_zero_le hz2.1
  clear hp hz za Ca L9
  go_wp2_with fail
  go_ret
  exact ⟨Z, rfl, by omega, ia, ha, Sa, Da⟩
end Go.Proofs.YtcjnhiglfkcmiaaDoor
/- DrwC -/
namespace Go.Proofs.YtcjnhiglfkcmiaaDoor
open Go.RowKit
set_option linter.unusedVariables false
set_option maxRecDepth 100000
/-- two lists in rows of their own -/
def PairP (w w' : World) (T : TypeId) (A1 : Option Addr) (n1 c1 : Nat) (A2 : Option Addr) (n2 c2 : Nat) : Prop :=
  ∃ (xs ys : List Int), Own w' w.heap.size w'.heap.size T A1 n1 c1 (xs.map (Value.int .i64)) ∧ Own w' w.heap.size w'.heap.size T A2 n2 c2 (ys.map (Value.int .i64)) ∧ n1 ≤ 402 ∧ n2 ≤ 402 ∧ Below w.heap.size w w'
end Go.Proofs.YtcjnhiglfkcmiaaDoor
/- DrwM -/
namespace Go.Proofs.YtcjnhiglfkcmiaaDoor
open Go.RowKit
set_option linter.unusedVariables false
set_option maxRecDepth 100000
/-- a list of lists of the call's own (blocks from B on), each of at most 402 numbers, and the source -/
structure SmS (w wr : World) (lo g : Nat) (T TS TI : TypeId) (A : Option Addr) (n c : Nat) (bs : List Int) (vs : List Value) (A1 : Option Addr) (c1 : Nat) (xss : List (List Int)) (i' h' : Nat) : Prop where
  row : wr.ownsRow w.heap.size TS 1 (.slice A1 vs.length c1) vs.length vs
  rows : RowsOwn wr w.heap.size wr.heap.size TI vs xss
  len : ∀ xs ∈ xss, xs.length ≤ 402
  src : Src wr lo g T A n c bs i' h'
  chg : Chg g (g + 1) w wr
  old : g < w.heap.size
section
variable {w wr wq : World} {lo g : Nat} {T TS TI : TypeId} {A : Option Addr} {n c : Nat} {bs : List Int} {vs : List Value} {A1 : Option Addr} {c1 : Nat} {xss : List (List Int)} {i' h' i2 h2 : Nat}
/-- the source goes on -/
theorem SmS.next (s : SmS w wr lo g T TS TI A n c bs vs A1 c1 xss i' h') (S : Src wq lo g T A n c bs i2 h2) (C : Chg g (g + 1) wr wq) : SmS w wq lo g T TS TI A n c bs vs A1 c1 xss i2 h2 := by
  have hz := C.size
  have ho := s.old
  have hsz := s.chg.size
  have hs : Same w.heap.size wr.heap.size wr wq := Same.of_chg C (Nat.le_refl _) (by omega)
  exact ⟨((Own.of_row s.row).keep hs).1, (s.rows.keep hs).more (Nat.le_refl _) hz, s.len, S, s.chg.trans C ⟨Nat.le_refl _, Nat.le_refl _⟩ ⟨Nat.le_refl _, Nat.le_refl _⟩, ho⟩
/-- the rows and a fresh row behind them, where the source goes on -/
theorem SmS.keepRows {hi : Nat} (s : SmS w wr lo g T TS TI A n c bs vs A1 c1 xss i' h') (hrow : RowsOwn wr w.heap.size hi TI vs xss) (hh : hi ≤ wr.heap.size) (C : Chg g (g + 1) wr wq) : RowsOwn wq w.heap.size hi TI vs xss :=
  hrow.keep (Same.of_chg C hh (by have := s.old; omega))
theorem SmS.start (s : Src wr lo g T A n c bs i' h') (C : Chg g (g + 1) w wr) (hold : g < w.heap.size) (b0 : wr.ownsRow w.heap.size TS 1 (.slice A1 0 c1) 0 []) : SmS w wr lo g T TS TI A n c bs [] A1 c1 [] i' h' :=
  ⟨b0, RowsOwn.nil, by simp, s, C, hold⟩
/-- a store into a row of the call's own that is none of the list's -/
theorem SmS.set {b N c3 : Nat} {us : List Value} (s : SmS w wr lo g T TS TI A n c bs vs A1 c1 xss i' h') {hi hi2 : Nat} (hrow : RowsOwn wr w.heap.size hi TI vs xss) (h1 : w.heap.size ≤ hi) (h2 : hi ≤ wr.heap.size) (hne : TS ≠ TI)
    (O : Own wr hi hi2 TI (some ⟨b, 0, none⟩) N c3 us) (j : Nat) (u : Value) : SmS w (wr.setCell ⟨b, j, none⟩ u) lo g T TS TI A n c bs vs A1 c1 xss i' h' ∧ RowsOwn (wr.setCell ⟨b, j, none⟩ u) w.heap.size hi TI vs xss := by
  have hb : hi ≤ b := (O.1.lt b rfl).1
  have ho := s.old
  have hr : RowsOwn (wr.setCell ⟨b, j, none⟩ u) w.heap.size hi TI vs xss := hrow.keep (same_set wr _ u _ _ (.inr hb))
  exact ⟨⟨own_kept_ty s.row O.1 hne (O.1.stored j u).2, hr.more (Nat.le_refl _) (by rw [World.size_setCell]; exact h2), s.len, s.src.far (by simp; omega) (by have := s.src.above; simp; omega) u, s.chg.setNew (by simp; omega) u, ho⟩, hr⟩
/-- a row has been appended -/
theorem SmS.app {A2 : Option Addr} {m c2 c3 : Nat} {A3 : Option Addr} {xs : List Int} {hi : Nat} (s : SmS w wr lo g T TS TI A n c bs vs A1 c1 xss i' h') (hne : TI ≠ TS) (hTS : True)
    (ho : Own wr hi wr.heap.size TI A2 m c2 (xs.map (Value.int .i64))) (hrow : RowsOwn wr w.heap.size hi TI vs xss) (h1 : w.heap.size ≤ hi) (hb : hi ≤ wr.heap.size) (hx : xs.length ≤ 402)
    (hg : wr.grownBy wq (Value.slice A1 vs.length c1).ownBlock) (ho2 : wq.ownsRow w.heap.size TS 1 (.slice A3 (vs.length + 1) c3) (vs.length + 1) (vs ++ [.slice A2 m c2])) :
    SmS w wq lo g T TS TI A n c bs (vs ++ [.slice A2 m c2]) A3 c3 (xss ++ [xs]) i' h' := by
  have hz := hg.size
  have hk := hrow.kept_ty s.row hne hg
  have hc := ho.kept_ty s.row hne hg
  have hw := s.chg.size
  have hnew : ∀ q, (Value.slice A1 vs.length c1).ownBlock = some q → w.heap.size ≤ q := fun q hq => (s.row.lt q hq).1
  have hold : ∀ k, k < w.heap.size → wq.heap[k]? = wr.heap[k]? := fun k hk => hg.block k (by omega) (fun e => by have := hnew k e.symm; omega)
  have ho' := s.old
  refine ⟨by rw [List.length_append]; exact ho2, ((hk.snoc hc h1 hb).more (Nat.le_refl _) hz), ?_, ?_, ?_, s.old⟩
  · intro ys hy
    rcases List.mem_append.1 hy with h | h
    · exact s.len ys h
    · rw [List.mem_singleton.1 h]; exact hx
  · exact ⟨(hold g ho').trans s.src.blk, s.src.above, s.src.code.keep fun k _ hk => hold k (by have := s.src.above; omega), s.src.byte, s.src.le, s.src.st⟩
  · exact ⟨hg.os.trans s.chg.os, hg.tape.trans s.chg.tape, hg.output.trans s.chg.output, by omega, fun k hk e => (hold k hk).trans (s.chg.block k hk e)⟩
end
def lenV : Value → Nat
  | .slice _ n _ => n
  | _ => 0
/-- what l01Small leaves -/
def SmallP (w w' : World) (lo g : Nat) (T TS TI : TypeId) (A : Option Addr) (n c : Nat) (bs : List Int) (N : Int) (A1 : Option Addr) (m c1 : Nat) : Prop :=
  ∃ (xss : List (List Int)) (i' h' : Nat), OwnS w' w.heap.size w'.heap.size TS TI A1 m c1 xss ∧ m ≤ 17 ∧ (∀ xs ∈ xss, xs.length ≤ 402) ∧ -1 ≤ N ∧ N ≤ 402 ∧ Src w' lo g T A n c bs i' h' ∧ Chg g (g + 1) w w'
set_option maxHeartbeats 2000000 in
theorem small_any (w : World) (lo g : Nat) (A : Option Addr) (n c : Nat) (bs : List Int) (i h : Nat) (s : Src w lo g 97 A n c bs i h) (most : Nat) (hm : most ≤ 400) :
    Calls Tryd.prog 65 #[.pointer (some ⟨g, 0, none⟩), .int .i64 most] w fun e w' => ∃ (N : Int) (A1 : Option Addr) (m c1 : Nat), e = .returned (.tuple #[.int .i64 N, .slice A1 m c1]) ∧ SmallP w w' lo g 97 24 2 A n c bs N A1 m c1 := by
  obtain ⟨s0, hs0, hu0, hu1, hu2⟩ := info_parts infoS
  have hgl := s.lt
  have hn := next_nat w lo g A n c bs _ _ s ((most : Int) + 1) (by omega) (by omega)
  go_enter Tryd.func65, Tryd.ntmps65
  go_wp2_with fail
  ((with_reducible refine hn.mono ?_); rintro e w1 ⟨N, rfl, hN, i1, h1, S1, C1⟩)
  have s1 := C1.size
  have b0 := World.ownsRow_lit (e := 24) (base := w.heap.size) (size := 1) w1 #[] 0 s1 (by omega) rfl
  have B2 : Below w1.heap.size w1 (w1.alloc (.cells #[] 24)) := (Below.refl _ _).alloc (Nat.le_refl _) _
  have T2 := SmS.start (TI := 2) (S1.below B2 S1.lt) (C1.trans_below B2) hgl b0
  have hn2 := next_nat _ lo g A n c bs _ _ T2.src 4 (by omega) (by omega)
  clear hn
  go_wp2_with fail
  ((with_reducible refine hn2.mono ?_); rintro e w3 ⟨K, rfl, hK, i3, h3, S3, C3⟩)
  have T3 := T2.next S3 C3
  clear hn2 T2 b0
  have hN4 : N ≤ 400 := by omega
  clear hN
  go_wp2_with fail
  go_loopw [7, 8] (fun lv kv wr => ∃ (k : Nat) (vs : List Value) (A1 : Option Addr) (c1 : Nat) (xss : List (List Int)) (i' h' : Nat), lv = .slice A1 vs.length c1 ∧ kv = .int .i64 k ∧ vs.length + k ≤ 3 ∧ Hid (SmS w wr lo g 97 24 2 A n c bs vs A1 c1 xss i' h')) (fun _ kv _ => (intOf kv).toNat)
  case atStart => exact ⟨K, [], _, 0, [], i3, h3, rfl, rfl, by simp; omega, Lib.hid T3⟩
  case round =>
    obtain ⟨k, vs, A1, c1, xss, i', h', rfl, rfl, hvk, hT⟩ := hrel
    have T := hT.out
    have sr := T.chg.size
    by_cases hk : 0 < k
    · have d0 : decide ((0 : Int) < (k : Int)) = true := by simp; omega
      have hD := draw_any wr lo g A n c bs _ _ T.src N (by omega)
      go_wp2_with fail
      ((with_reducible refine hD.mono ?_); rintro e w4 ⟨A2, c2, rfl, i4, h4, ys, O4, P4, S4, C4⟩)
      clear hD
      have s4 := C4.size
      have R4 := T.keepRows T.rows (Nat.le_refl _) C4
      have T4 := T.next S4 C4
      have hl4 : ys.length ≤ 402 := by rw [P4.length_eq, idL_length]; omega
      have hn := next_nat w4 lo g A n c bs _ _ T4.src 3 (by omega) (by omega)
      go_wp2_with fail
      ((with_reducible refine hn.mono ?_); rintro e w5 ⟨v, rfl, hv, i5, h5, S5, C5⟩)
      clear hn
      have s5 := C5.size
      have R5 := T4.keepRows R4 s4 C5
      have T5 := T4.next S5 C5
      have O5 := O4.keep (Same.of_chg C5 (Nat.le_refl _) (by omega))
      by_cases h0 : v = 0
      · subst h0
        have hU := unit_any N w5 (by omega)
        go_wp2_with fail
        ((with_reducible refine hU.mono ?_); rintro e w6 ⟨A3, c3, rfl, O6, B6⟩)
        clear hU
        have s6 := B6.size
        have T6 := T5.next (T5.src.below B6 T5.src.lt) (Chg.of_below _ _ B6)
        have R6 := T5.keepRows T5.rows (Nat.le_refl _) (Chg.of_below g (g + 1) B6)
        have hn := next_nat w6 lo g A n c bs _ _ T6.src 3 (by omega) (by omega)
        go_wp2_with fail
        ((with_reducible refine hn.mono ?_); rintro e w7 ⟨J, rfl, hJ, i7, h7, S7, C7⟩)
        clear hn
        have s7 := C7.size
        have R7 := T6.keepRows R6 s6 C7
        have T7 := T6.next S7 C7
        have O7 := O6.keep (Same.of_chg C7 (Nat.le_refl _) (by omega))
        clear O5 R5 O4 R4 T4 T5 T6 R6 O6 S4 S5 S7 C4 C5 C7 B6 hT T
        go_wp2_with fail
        go_loopw [10] (fun jv wq => ∃ (j : Nat) (us : List Int) (i' h' : Nat), jv = .int .i64 j ∧ j ≤ 2 ∧ Hid (us.length = N) ∧ Hid (SmS w wq lo g 97 24 2 A n c bs vs A1 c1 xss i' h') ∧ RowsOwn wq w.heap.size w5.heap.size 2 vs xss ∧ Own wq w5.heap.size w6.heap.size 2 A3 N c3 (us.map (Value.int .i64)) ∧ w6.heap.size ≤ wq.heap.size) (fun jv _ => (intOf jv).toNat)
        case atStart => exact ⟨J, idL N, i7, h7, rfl, by omega, Lib.hid (idL_length N), Lib.hid T7, R7, O7, s7⟩
        case round =>
          obtain ⟨j, us, i8, h8, rfl, hj2, hul, hT8, R8, O8, s8⟩ := hrel
          have T8 := hT8.out
          by_cases hgo : 0 < j ∧ 1 < N
          · obtain ⟨hj0, hN1⟩ := hgo
            have d1 : decide ((0 : Int) < (j : Int)) = true := by simp; omega
            have d2 : decide ((1 : Int) < (N : Int)) = true := by simp; omega
            have hn := next_nat wr lo g A n c bs _ _ T8.src (N : Int) (by omega) (by omega)
            go_wp2_with fail
            ((with_reducible refine hn.mono ?_); rintro e w9 ⟨a, rfl, ha, i9, h9, S9, C9⟩)
            clear hn
            have s9 := C9.size
            have R9 := T8.keepRows R8 (by omega) C9
            have T9 := T8.next S9 C9
            have O9 := O8.keep (Same.of_chg C9 s8 (by omega))
            have hn := next_nat w9 lo g A n c bs _ _ T9.src (N : Int) (by omega) (by omega)
            go_wp2_with fail
            ((with_reducible refine hn.mono ?_); rintro e wa ⟨b, rfl, hb, ia, ha', Sa, Ca⟩)
            clear hn
            have sa := Ca.size
            have Ra := T9.keepRows R9 (by omega) Ca
            have Ta := T9.next Sa Ca
            have Oa := O9.keep (Same.of_chg Ca (by omega) (by omega))
            obtain ⟨z, x, rfl, hz0, hz2, hz3, hx, -, -, hf⟩ := Oa.at_ (k := a) (by omega)
            simp only [List.getElem?_map, Option.map_eq_some_iff] at hx
            obtain ⟨x, hx, rfl⟩ := hx
            obtain ⟨y, hy⟩ : ∃ y, us[b]? = some y := ⟨_, List.getElem?_eq_getElem (by rw [Oa.lenI]; omega)⟩
            have cJ := Oa.cellI hx
            have cV := Oa.cellI hy
            have fJ := hf a
            clear hf
            have hVy : (us.set a y)[b]? = some y := by
              rw [List.getElem?_set]
              split
              · split
                · rfl
                · rename_i q3 q4; subst q3; rw [List.getElem?_eq_none (by omega)] at hy; cases hy
              · exact hy
            have cV2 := (Oa.setI (k := a) y).cellI hVy
            have fV2 := (Oa.setI (k := a) y).frz b
            obtain ⟨Tb, Rb⟩ := Ta.set Ra (by omega) (by omega) (by decide) Oa a (.int .i64 y)
            obtain ⟨Tc, Rc⟩ := Tb.set Rb (by omega) (by simp; omega) (by decide) (Oa.setI (k := a) y) b (.int .i64 x)
            have Oc := (Oa.setI (k := a) y).setI (k := b) x
            clear hVy
            have k1 : (a : Int) < (N : Int) := by omega
            have k2 : (b : Int) < (N : Int) := by omega
            replace hx := Lib.hid hx
            replace hy := Lib.hid hy
            replace Tb := Lib.hid Tb
            replace Tc := Lib.hid Tc
            go_wp2_with fail
            go_roundw
            case rel => exact ⟨j - 1, (us.set a y).set b x, _, _, by go_num, by omega, Lib.hid (by simpa using hul.out), Lib.hid Tc.out, Rc, Oc, by simp; omega⟩
            case measure => simp [intOf]; omega
          · have hus : us.length ≤ 402 := by rw [hul.out]; omega
            have sr8 := T8.chg.size
            by_cases hj0 : 0 < j
            · have d1 : decide ((0 : Int) < (j : Int)) = true := by simp; omega
              have d2 : decide ((1 : Int) < (N : Int)) = false := by simp; omega
              go_wp2_with (at_builtin; refine wpList_append1 wr rfl (.tmp 64) (.tmp 66) 33 rfl w.heap.size 24 s0 (.slice none 0 0) 24 Tryd.underlying33 hs0 hu0 hu1 hu2 rfl (by omega) _ vs.length c1 _ (.slice A3 N c3) rfl T8.row _ rfl rfl rfl (by omega) (by omega) ?_)
              intro g2 cx wz ho2 hg2 hlo2 hlt2 hor2
              have TX := T8.app (by decide) trivial (O8.more (Nat.le_refl _) s8) R8 (by omega) (by omega) hus hg2 ho2
              go_wp2_with fail
              go_roundw
              case rel => exact ⟨k - 1, vs ++ [.slice A3 N c3], _, cx, _, _, _, by rw [List.length_append]; rfl, by go_num, by rw [List.length_append]; simp; omega, Lib.hid TX⟩
              case measure => simp [intOf]; omega
            · have d1 : decide ((0 : Int) < (j : Int)) = false := by simp; omega
              go_wp2_with (at_builtin; refine wpList_append1 wr rfl (.tmp 64) (.tmp 66) 33 rfl w.heap.size 24 s0 (.slice none 0 0) 24 Tryd.underlying33 hs0 hu0 hu1 hu2 rfl (by omega) _ vs.length c1 _ (.slice A3 N c3) rfl T8.row _ rfl rfl rfl (by omega) (by omega) ?_)
              intro g2 cx wz ho2 hg2 hlo2 hlt2 hor2
              have TX := T8.app (by decide) trivial (O8.more (Nat.le_refl _) s8) R8 (by omega) (by omega) hus hg2 ho2
              go_wp2_with fail
              go_roundw
              case rel => exact ⟨k - 1, vs ++ [.slice A3 N c3], _, cx, _, _, _, by rw [List.length_append]; rfl, by go_num, by rw [List.length_append]; simp; omega, Lib.hid TX⟩
              case measure => simp [intOf]; omega
      · have d1 : ((v : Int) == 0) = false := by simp; omega
        go_wp2_with (at_builtin; refine wpList_append1 w5 rfl (.tmp 64) (.tmp 66) 33 rfl w.heap.size 24 s0 (.slice none 0 0) 24 Tryd.underlying33 hs0 hu0 hu1 hu2 rfl (by omega) _ vs.length c1 _ (.slice A2 N c2) rfl T5.row _ rfl rfl rfl (by omega) (by omega) ?_)
        intro g2 c3 w6 ho2 hg2 hlo2 hlt2 hor2
        have T6 := T5.app (by decide) trivial (O5.more (Nat.le_refl _) s5) R5 (by omega) (by omega) hl4 hg2 ho2
        go_wp2_with fail
        go_roundw
        case rel => exact ⟨k - 1, vs ++ [.slice A2 N c2], _, c3, _, _, _, by rw [List.length_append]; rfl, by go_num, by rw [List.length_append]; simp; omega, Lib.hid T6⟩
        case measure => simp [intOf]; omega
    · have hk0 : k = 0 := by omega
      subst hk0
      have d0 : decide ((0 : Int) < ((0 : Nat) : Int)) = false := by simp
      have hn := next_nat wr lo g A n c bs _ _ T.src 30 (by omega) (by omega)
      have hvl : vs.length ≤ 3 := by omega
      go_wp2_with fail
      ((with_reducible refine hn.mono ?_); rintro e w9 ⟨v, rfl, hv, i9, h9, S9, C9⟩)
      clear hn hvk
      have s9 := C9.size
      have R9 := T.keepRows T.rows (Nat.le_refl _) C9
      have T9 := T.next S9 C9
      clear hT
      by_cases v0 : v = 0
      · subst v0
        have hU := unit_any (N + 1) w9 (by omega)
        rw [show (((N + 1 : Nat)) : Int) = (N : Int) + 1 from rfl] at hU
        have hw1 : IntKind.i64.wrap ((N : Int) + 1) = (N : Int) + 1 := by rw [IntKind.wrap_i64]; omega
        go_wp2_with fail
        ((with_reducible refine hU.mono ?_); rintro e wa ⟨A3, c3, rfl, Oa, Ba⟩)
        clear hU hw1
        have sa := Ba.size
        have Ta := T9.next (T9.src.below Ba T9.src.lt) (Chg.of_below _ _ Ba)
        have Ra := T9.keepRows R9 s9 (Chg.of_below g (g + 1) Ba)
        go_wp2_with (at_builtin; refine wpList_append1 wa rfl (.tmp 72) (.tmp 76) 33 rfl w.heap.size 24 s0 (.slice none 0 0) 24 Tryd.underlying33 hs0 hu0 hu1 hu2 rfl (by omega) _ vs.length c1 _ (.slice A3 (N + 1) c3) rfl Ta.row _ rfl rfl rfl (by omega) (by omega) ?_)
        intro g2 cx wz ho2 hg2 hlo2 hlt2 hor2
        have TX := Ta.app (by decide) trivial (Oa.more s9 (Nat.le_refl _)) Ra (by omega) (by omega) (by rw [idL_length]; omega) hg2 ho2
        have hml : vs.length + 1 ≤ 17 := by omega
        go_wp2_with fail
        go_ret2
        exact ⟨_, _, _, _, rfl, _, _, _, ⟨_, ⟨ho2, fun ad hd => by cases hd; exact hlt2⟩, TX.rows⟩, hml, TX.len, by omega, by omega, TX.src, TX.chg⟩
      · have e0 : ((v : Int) == 0) = false := by simp; omega
        by_cases v1 : v = 1
        · subst v1
          have hw1 : IntKind.i64.wrap ((N : Int) + 1) = (N : Int) + 1 := by rw [IntKind.wrap_i64]; omega
          have L4 : RI (w9.alloc (.cells #[.int .i64 (-1), .int .i64 401, .int .i64 ((N : Int) + 1)] 2)) w9.heap.size (w9.heap.size + 1) (some ⟨w9.heap.size, 0, none⟩) 3 [-1, 401, (N : Int) + 1] := lit_rd w9 #[.int .i64 (-1), .int .i64 401, .int .i64 ((N : Int) + 1)] 2 (by simp)
          have B4 : Below w9.heap.size w9 (w9.alloc (.cells #[.int .i64 (-1), .int .i64 401, .int .i64 ((N : Int) + 1)] 2)) := (Below.refl _ _).alloc (Nat.le_refl _) _
          have T4 := T9.next (T9.src.below B4 T9.src.lt) (Chg.of_below _ _ B4)
          have hgo := T9.old
          have hch9 := T9.chg.size
          have hp := pick_any _ lo g A n c bs _ _ T4.src _ 3 3 _ L4 (.inr (by omega)) (by simp) (by omega) (by omega)
          go_wp2_with fail
          ((with_reducible refine hp.mono ?_); rintro e w5 ⟨v5, i5, h5, y, rfl, hy, S5, C5, z5⟩)
          have hyb : -1 ≤ y ∧ y ≤ 402 := by
            have := mem_of_get? hy
            simp at this
            rcases this with h | h | h <;> omega
          clear hp hy
          have T5 := T4.next S5 C5
          have hb5 := Own.of_row T5.row
          have hml : vs.length ≤ 17 := by omega
          go_wp2_with fail
          go_ret2
          exact ⟨_, _, _, _, rfl, _, _, _, ⟨_, hb5, T5.rows⟩, hml, T5.len, hyb.1, hyb.2, T5.src, T5.chg⟩
        · have e1 : ((v : Int) == 1) = false := by simp; omega
          by_cases v2 : v = 2
          · subst v2
            replace T9 := Lib.hid T9
            clear R9 T
            go_wp2_with fail
            go_loopw [7] (fun lv wq => ∃ (vs : List Value) (A1 : Option Addr) (c1 : Nat) (xss : List (List Int)) (i' h' : Nat), lv = .slice A1 vs.length c1 ∧ vs.length ≤ 17 ∧ Hid (SmS w wq lo g 97 24 2 A n c bs vs A1 c1 xss i' h')) (fun lv _ => 17 - lenV lv)
            case atStart => exact ⟨vs, A1, c1, xss, i9, h9, rfl, by omega, T9⟩
            case round =>
              clear T9
              obtain ⟨vs, A1, c1, xss, i', h', rfl, hv17, hT⟩ := hrel
              have T := hT.out
              have sr := T.chg.size
              by_cases hl : vs.length < 17
              · have d0 : decide ((vs.length : Int) < 17) = true := by simp; omega
                have hU := unit_any N wr (by omega)
                go_wp2_with fail
                ((with_reducible refine hU.mono ?_); rintro e wa ⟨A3, c3, rfl, Oa, Ba⟩)
                clear hU
                have sa := Ba.size
                have Ta := T.next (T.src.below Ba T.src.lt) (Chg.of_below _ _ Ba)
                have Ra := T.keepRows T.rows (Nat.le_refl _) (Chg.of_below g (g + 1) Ba)
                go_wp2_with (at_builtin; refine wpList_append1 wa rfl (.tmp 90) (.tmp 93) 33 rfl w.heap.size 24 s0 (.slice none 0 0) 24 Tryd.underlying33 hs0 hu0 hu1 hu2 rfl (by omega) _ vs.length c1 _ (.slice A3 N c3) rfl Ta.row _ rfl rfl rfl (by omega) (by omega) ?_)
                intro g2 cx wz ho2 hg2 hlo2 hlt2 hor2
                have TX := Ta.app (by decide) trivial Oa Ra (by omega) (by omega) (by rw [idL_length]; omega) hg2 ho2
                clear d0
                go_wp2_with fail
                go_roundw
                case rel => exact ⟨vs ++ [.slice A3 N c3], _, cx, _, _, _, by rw [List.length_append]; rfl, by rw [List.length_append]; simp; omega, Lib.hid TX⟩
                case measure => simp [lenV]; omega
              · have d0 : decide ((vs.length : Int) < 17) = false := by simp; omega
                have hb5 := Own.of_row T.row
                go_wp2_with fail
                go_ret2
                exact ⟨_, _, _, _, rfl, _, _, _, ⟨_, hb5, T.rows⟩, hv17, T.len, by omega, by omega, T.src, T.chg⟩
          · have e2 : ((v : Int) == 2) = false := by simp; omega
            have hb5 := Own.of_row T9.row
            have hml : vs.length ≤ 17 := by omega
            go_wp2_with fail
            go_ret2
            exact ⟨_, _, _, _, rfl, _, _, _, ⟨_, hb5, T9.rows⟩, hml, T9.len, by omega, by omega, T9.src, T9.chg⟩
end Go.Proofs.YtcjnhiglfkcmiaaDoor
/- Dic -/
namespace Go.Proofs.YtcjnhiglfkcmiaaDoor
open Go.RowKit
set_option linter.unusedVariables false
set_option maxRecDepth 100000
theorem below_core (w : World) (lo g : Nat) (A : Option Addr) (n c : Nat) (bs : List Int) (i h H u q : Nat) (s : Src w lo g 84 A n c bs i h) (x : Int) (h1 : 1 ≤ x) (hx : x ≤ 1099511627776)
    (e1 : IntKind.u64.wrap ((h : Int) * 6364136223846793005) = (u : Int)) (e2 : IntKind.u64.wrap ((u : Int) + 1442695040888963407) = (H : Int)) (e3 : bits BinOp.and IntKind.u64 ((H : Int) / 8589934592) 16777215 = (q : Int)) (hH : H < 18446744073709551616) (hq2 : q < 16777216) :
    Calls Tryd.prog 34 #[.pointer (some ⟨g, 0, none⟩), .int .i64 x] w fun e w' => ∃ (v : Int) (i' : Nat), e = .returned (.int .i64 v) ∧ NextP w w' lo g 84 A n c bs i H q x v i' := by
  have hst := s.st
  have c2 := s.cell2
  have f2 := s.frozen 2
  have s1 := s.setH hH
  have d0 := s1.cell0
  have d1 := s1.cell1
  have d2 := s1.cell2
  have g1 := s1.frozen 1
  have hn := s.code.2.1
  have hin := s.le
  have hB1 : Chg g (g + 1) w (w.setCell ⟨g, 2, none⟩ (.int .u64 H)) := (Chg.refl _ _ _).setCell (by simp) (by simp) _
  by_cases hlt : i < n
  · obtain ⟨b, o, y, rfl, hb, hy, y0, y1⟩ := s1.byteAt hlt
    have hd : decide ((i : Int) < (n : Int)) = true := by simp; omega
    have k1 : (0 : Int) ≤ (i : Int) := by omega
    have k2 : (i : Int) < (n : Int) := by omega
    go_enter Tryd.func34, Tryd.ntmps34
    go_wp2_with fail
    go_quiet (fail)
    go_wp2_with fail
    go_quiet (fail)
    go_wp2_with fail
    go_ret
    refine ⟨((q : Int) + y) % x, i + 1, rfl, ?_⟩
    constructor
    · exact Int.emod_nonneg _ (by omega)
    · exact Int.emod_lt_of_pos _ (by omega)
    · exact (s1.drewN _).setI (I := i + 1) hlt
    · exact (hB1.drewN _).setCell (by simp) (by simp) _
    · simp
    · exact fun _ => rfl
    · exact fun hh => absurd hlt hh
  · have hd : decide ((i : Int) < (n : Int)) = false := by simp; omega
    go_enter Tryd.func34, Tryd.ntmps34
    go_wp2_with fail
    go_quiet (fail)
    go_wp2_with fail
    go_ret
    refine ⟨(q : Int) % x, i, rfl, ?_⟩
    constructor
    · exact Int.emod_nonneg _ (by omega)
    · exact Int.emod_lt_of_pos _ (by omega)
    · exact s1.drewN _
    · exact hB1.drewN _
    · simp
    · exact fun hh => absurd hh hlt
    · exact fun _ => ⟨rfl, rfl⟩
theorem below_any (w : World) (lo g : Nat) (A : Option Addr) (n c : Nat) (bs : List Int) (i h : Nat) (s : Src w lo g 84 A n c bs i h) (x : Int) (h1 : 1 ≤ x) (hx : x ≤ 1099511627776) :
    Calls Tryd.prog 34 #[.pointer (some ⟨g, 0, none⟩), .int .i64 x] w fun e w' => ∃ (v : Int) (i' : Nat), e = .returned (.int .i64 v) ∧ NextP w w' lo g 84 A n c bs i (lcg h) (lcg h / 8589934592 % 16777216) x v i' := by
  obtain ⟨u, hu⟩ : ∃ u, (h * 6364136223846793005) % 18446744073709551616 = u := ⟨_, rfl⟩
  obtain ⟨e1, e2⟩ := lcg_wrap h u hu
  have hH : lcg h < 18446744073709551616 := by unfold lcg; omega
  exact below_core w lo g A n c bs i h (lcg h) u _ s x h1 hx e1 e2 (lcg_bits (lcg h) hH) hH (by omega)
/-- below 1: it returns 0 and the source stays -/
theorem below_zero (w : World) (g : Nat) (x : Int) (hx : x < 1) :
    Calls Tryd.prog 34 #[.pointer (some ⟨g, 0, none⟩), .int .i64 x] w fun e w' => e = .returned (.int .i64 0) ∧ w = w' := by
  go_enter Tryd.func34, Tryd.ntmps34
  go_wp2_with fail
  go_ret
  exact ⟨rfl, rfl⟩
theorem roll_any (w : World) (A : Option Addr) (n c : Nat) (bs : List Int) (h : Rd w 0 w.heap.size A n (bs.map (Value.int .u8))) (hb : ∀ x ∈ bs, 0 ≤ x ∧ x < 256) (hn : n ≤ 1048576) (sd : Nat) (hsd : sd ≤ 1048576) :
    Calls Tryd.prog 33 #[.slice A n c, .int .u64 sd] w fun e w' => ∃ H : Nat, e = .returned (.pointer (some ⟨w.heap.size, 0, none⟩)) ∧ Src w' w.heap.size w.heap.size 84 A n c bs 0 H ∧ Below w.heap.size w w' := by
  have hsrc : Src (w.alloc (.cells #[.slice A n c, .int .i64 0, .int .u64 ((sd * 7681 + n : Nat) : Int)] 84)) w.heap.size w.heap.size 84 A n c bs 0 (sd * 7681 + n) :=
    ⟨heap_newest w _, Nat.le_refl _, h.below ((Below.refl _ _).alloc (Nat.le_refl _) _) (Nat.le_refl _), hb, Nat.zero_le _, by omega⟩
  have e0 : IntKind.u64.wrap ((sd : Int) * 7681) = ((sd * 7681 : Nat) : Int) := by rw [IntKind.wrap_u64]; omega
  have e4 : IntKind.u64.wrap (((sd * 7681 : Nat) : Int) + (n : Int)) = ((sd * 7681 + n : Nat) : Int) := by rw [IntKind.wrap_u64]; omega
  replace hsrc := Lib.hid hsrc
  replace hb := Lib.hid hb
  go_enter Tryd.func33, Tryd.ntmps33
  go_wp2_with fail
  go_loopw [6] (fun iv wr => ∃ (k H : Nat), iv = .int .i64 k ∧ k ≤ n ∧ Hid (Src wr w.heap.size w.heap.size 84 A n c bs 0 H) ∧ Below w.heap.size w wr) (fun iv _ => n - (intOf iv).toNat)
  case atStart => exact ⟨0, sd * 7681 + n, rfl, Nat.zero_le _, hsrc, (Below.refl _ _).alloc (Nat.le_refl _) _⟩
  case round =>
    obtain ⟨k, H, rfl, hk, hS, hB⟩ := hrel
    by_cases hlt : k < n
    · have h4 : True := trivial
      · have S := hS.out
        have c2 := S.cell2
        have f2 := S.frozen 2
        obtain ⟨b, o, v, rfl, _, hb2, hv, hc⟩ := S.code.at_ hlt
        simp only [List.getElem?_map, Option.map_eq_some_iff] at hv
        obtain ⟨y, hy, rfl⟩ := hv
        obtain ⟨y0, y1⟩ := S.byte y (List.mem_of_getElem? hy)
        obtain ⟨H1, g1, e1⟩ := u64_nat ((H : Int) * 1099511628211)
        obtain ⟨H2, g2, e2⟩ := u64_nat ((H1 : Int) + y)
        obtain ⟨H3, g3, e3⟩ := u64_nat ((H2 : Int) + 5)
        have S3 := Lib.hid (S.setH g3)
        have k1 : (0 : Int) ≤ (k : Int) := by omega
        have k2 : (k : Int) < (n : Int) := by omega
        clear hy S
        go_wp2_with fail
        go_region
        go_wp2_with fail
        go_roundw
        case rel =>
          have hB2 := hB.setCell (p := ⟨w.heap.size, 2, none⟩) (Nat.le_refl _) (.int .u64 H3)
          exact ⟨k + 1, H3, by go_num, by omega, Lib.hid S3.out.drew, ⟨hB2.os, hB2.tape, hB2.output, hB2.size, hB2.block⟩⟩
        case measure => simp [intOf]; omega
    · go_wp2_with fail
      go_ret
      exact ⟨H, rfl, hS.out, hB⟩
end Go.Proofs.YtcjnhiglfkcmiaaDoor
/- DrwO -/
namespace Go.Proofs.YtcjnhiglfkcmiaaDoor
open Go.RowKit
set_option linter.unusedVariables false
set_option maxRecDepth 100000
/-- a row of numbers of the call's own, and the source -/
structure WrdS (w wr : World) (lo g : Nat) (T TI : TypeId) (A : Option Addr) (n c : Nat) (bs : List Int) (ys : List Int) (A1 : Option Addr) (c1 : Nat) (i' h' : Nat) : Prop where
  row : wr.ownsRow w.heap.size TI 1 (.slice A1 ys.length c1) ys.length (ys.map (Value.int .i64))
  src : Src wr lo g T A n c bs i' h'
  chg : Chg g (g + 1) w wr
  old : g < w.heap.size
section
variable {w wr wq : World} {lo g : Nat} {T TI : TypeId} {A : Option Addr} {n c : Nat} {bs ys : List Int} {A1 : Option Addr} {c1 : Nat} {i' h' i2 h2 : Nat}
theorem WrdS.next (s : WrdS w wr lo g T TI A n c bs ys A1 c1 i' h') (S : Src wq lo g T A n c bs i2 h2) (C : Chg g (g + 1) wr wq) : WrdS w wq lo g T TI A n c bs ys A1 c1 i2 h2 := by
  have ho := s.old
  have hsz := s.chg.size
  have hs : Same w.heap.size wr.heap.size wr wq := Same.of_chg C (Nat.le_refl _) (by omega)
  exact ⟨((Own.of_row s.row).keep hs).1, S, s.chg.trans C ⟨Nat.le_refl _, Nat.le_refl _⟩ ⟨Nat.le_refl _, Nat.le_refl _⟩, ho⟩
theorem WrdS.app {x : Int} {c3 : Nat} {A3 : Option Addr} (s : WrdS w wr lo g T TI A n c bs ys A1 c1 i' h') (hg : wr.grownBy wq (Value.slice A1 ys.length c1).ownBlock)
    (ho2 : wq.ownsRow w.heap.size TI 1 (.slice A3 (ys.length + 1) c3) (ys.length + 1) ((ys.map (Value.int .i64)) ++ [.int .i64 x])) : WrdS w wq lo g T TI A n c bs (ys ++ [x]) A3 c3 i' h' := by
  have hz := hg.size
  have hw := s.chg.size
  have hnew : ∀ q, (Value.slice A1 ys.length c1).ownBlock = some q → w.heap.size ≤ q := fun q hq => (s.row.lt q hq).1
  have hold : ∀ k, k < w.heap.size → wq.heap[k]? = wr.heap[k]? := fun k hk => hg.block k (by omega) (fun e => by have := hnew k e.symm; omega)
  have ho' := s.old
  refine ⟨by rw [List.length_append, List.map_append]; exact ho2, ?_, ?_, ho'⟩
  · exact ⟨(hold g ho').trans s.src.blk, s.src.above, s.src.code.keep fun k _ hk => hold k (by have := s.src.above; omega), s.src.byte, s.src.le, s.src.st⟩
  · exact ⟨hg.os.trans s.chg.os, hg.tape.trans s.chg.tape, hg.output.trans s.chg.output, by omega, fun k hk e => (hold k hk).trans (s.chg.block k hk e)⟩
end
/-- a number and a system's rows of the call's own -/
def DrwSysP (w w' : World) (TS TI : TypeId) (N : Int) (A1 : Option Addr) (m c1 : Nat) : Prop :=
  ∃ (xss : List (List Int)), OwnS w' w.heap.size w'.heap.size TS TI A1 m c1 xss ∧ m ≤ 17 ∧ (∀ xs ∈ xss, xs.length ≤ 402) ∧ -1 ≤ N ∧ N ≤ 402 ∧ Below w.heap.size w w'
theorem below_nat (w : World) (lo g : Nat) (A : Option Addr) (n c : Nat) (bs : List Int) (i h : Nat) (s : Src w lo g 84 A n c bs i h) (x : Int) (h1 : 1 ≤ x) (hx : x ≤ 1099511627776) :
    Calls Tryd.prog 34 #[.pointer (some ⟨g, 0, none⟩), .int .i64 x] w fun e w' => ∃ (v : Nat), e = .returned (.int .i64 v) ∧ StepP w w' lo g 84 A n c bs (x - 1).toNat v := by
  refine (below_any w lo g A n c bs i h s x h1 hx).mono ?_
  rintro e w' ⟨v, i', rfl, P⟩
  obtain ⟨V, rfl⟩ := Int.eq_ofNat_of_zero_le P.ge
  have := P.lt
  exact ⟨V, rfl, by omega, i', _, P.src, P.chg⟩
end Go.Proofs.YtcjnhiglfkcmiaaDoor
/- Like -/
namespace Go.Proofs.YtcjnhiglfkcmiaaDoor
open Go.RowKit
set_option linter.unusedVariables false
set_option maxRecDepth 100000
set_option maxHeartbeats 400000 in
theorem like_q (A : Option Addr) (n c : Nat) (xs : List Int) (A' : Option Addr) (n' c' : Nat) (ys : List Int) (w : World) (lo hi lo' hi' : Nat) (h : RI w lo hi A n xs) (h' : RI w lo' hi' A' n' ys) (hhi : hi ≤ w.heap.size) (hhi' : hi' ≤ w.heap.size) :
    Calls Tryd.prog 12 #[.slice A n c, .slice A' n' c'] w fun e w' => e = .returned (.bool (decide (xs = ys))) ∧ ∃ m, w' = w.drewN m := by
  have hm := h.max
  have hm' := h'.max
  have hl := h.len
  have hl' := h'.len
  replace hl := Lib.hid hl
  replace hl' := Lib.hid hl'
  by_cases hne : n = n'
  · subst hne
    go_enter Tryd.func12, Tryd.ntmps12
    go_wp2
    go_loopw [5] (fun i wr => ∃ k : Nat, k ≤ n ∧ i = .int .i64 k ∧ (∀ j, j < k → xs[j]? = ys[j]?) ∧ (∃ m, wr = w.drewN m)) (fun i wr => n - (intOf i).toNat)
    case atStart => exact ⟨0, by omega, rfl, fun j hj => absurd hj (by omega), 0, rfl⟩
    case round =>
      obtain ⟨k, hk, rfl, hys, md, hmd⟩ := hrel
      have hb : Below w.heap.size w wr := by rw [hmd]; exact below_drewN (Below.refl _ _) _
      replace hmd := Lib.hid hmd
      replace hys := Lib.hid hys
      by_cases hlt : k < n
      · obtain ⟨b, o, x, rfl, _, _, hx, hc⟩ := (h.below hb hhi).at_ hlt
        obtain ⟨b', o', y, rfl, _, _, hy, hc'⟩ := (h'.below hb hhi').at_ hlt
        replace hx := Lib.hid hx
        replace hy := Lib.hid hy
        by_cases hxy : x = y
        · subst hxy
          go_wp2
          go_quiet (fail)
          go_wp2
          go_roundw
          case rel =>
            refine ⟨k + 1, by omega, by go_num, fun j hj => ?_, md + nq, by rw [hmd.out, World.drewN_drewN]⟩
            by_cases e : j = k
            · subst e; rw [hx.out, hy.out]
            · exact hys.out j (by omega)
          case measure => simp [intOf]; omega
        · have hxy' : (x != y) = true := by simpa using hxy
          go_wp2
          go_quiet (fail)
          go_wp2
          go_ret
          refine ⟨ret_bool ?_, md + nq, by rw [hmd.out, World.drewN_drewN]⟩
          have hx := hx.out
          have hy := hy.out
          symm
          apply decide_eq_false
          rintro rfl
          rw [hx] at hy
          exact hxy (Option.some.inj hy)
      · go_wp2
        go_ret
        refine ⟨ret_bool ?_, md, hmd.out⟩
        have hl := hl.out
        have hl' := hl'.out
        symm
        apply decide_eq_true
        exact list_ext_upto k (by omega) (by omega) hys.out
  · have hne' : ((n : Int) != (n' : Int)) = true := by simp; omega
    go_enter Tryd.func12, Tryd.ntmps12
    go_wp2
    go_ret
    refine ⟨ret_bool ?_, 0, rfl⟩
    have hl := hl.out
    have hl' := hl'.out
    symm
    apply decide_eq_false
    rintro rfl
    omega

theorem like_any (A : Option Addr) (n c : Nat) (xs : List Int) (A' : Option Addr) (n' c' : Nat) (ys : List Int) (w : World) (lo hi lo' hi' : Nat) (h : RI w lo hi A n xs) (h' : RI w lo' hi' A' n' ys) (hhi : hi ≤ w.heap.size) (hhi' : hi' ≤ w.heap.size) :
    Calls Tryd.prog 12 #[.slice A n c, .slice A' n' c'] w fun e w' => e = .returned (.bool (decide (xs = ys))) ∧ Below w.heap.size w w' :=
  (like_q A n c xs A' n' c' ys w lo hi lo' hi' h h' hhi hhi').mono fun e w' ⟨he, m, hm⟩ => ⟨he, by rw [hm]; exact below_drewN (Below.refl _ _) _⟩

end Go.Proofs.YtcjnhiglfkcmiaaDoor
/- PermX -/
namespace Go.Proofs.YtcjnhiglfkcmiaaDoor
open Go.RowKit
set_option linter.unusedVariables false
set_option maxRecDepth 100000
def invF (xs : List Int) : List Int × Int := if isPermB xs = true then (invL xs, 0) else ([], 1)
def thenF (xs ys : List Int) : List Int × Int := if okTwo xs ys = true then (thenL xs ys, 0) else ([], 1)
def conjF (xs ys : List Int) : List Int × Int := if okTwo xs ys = true then (thenL (thenL (invL ys) xs) ys, 0) else ([], 1)
theorem i_InversePermutation_any (w : World) (A : Option Addr) (n c : Nat) (xs : List Int) {lo hi : Nat} (h : RI w lo hi A n xs) (hhi : hi ≤ w.heap.size) :
    Calls Tryd.prog 35 #[.slice A n c] w fun e w' => ∃ (A1 : Option Addr) (n1 c1 : Nat) (zs : List Int) (code : Int), e = .returned (.tuple #[.slice A1 n1 c1, .int .i64 code]) ∧ Hid ((zs, code) = invF xs) ∧ Own w' w.heap.size w'.heap.size 2 A1 n1 c1 (zs.map (Value.int .i64)) ∧ n1 ≤ 1048576 ∧ Below w.heap.size w w' := by
  have hl := h.len
  by_cases hp : isPermB xs = true
  · have hF : (invL xs, (0 : Int)) = invF xs := by simp [invF, hp]
    replace hF := Lib.hid hF
    obtain ⟨hP1, hP2, hP3⟩ := isPermB_iff.1 hp
    rw [hl] at hP1 hP2
    replace hl := Lib.hid hl
    replace hP2 := Lib.hid hP2
    replace hP3 := Lib.hid hP3
    replace hp := Lib.hid hp
    go_enter Tryd.func35, Tryd.ntmps35
    go_wp2_with fail
    ((with_reducible refine (isPerm_any _ _ _ xs _ _ _ h hhi).mono ?_); rintro e w1 ⟨rfl, hb⟩)
    rw [hp.out]
    have hs1 := hb.size
    go_wp2_with fail
    ((with_reducible refine (inverse_any _ _ _ xs _ _ _ (h.below hb hhi) (by omega) (by omega) hP2.out hP3.out).mono ?_); rintro e w2 ⟨A1, rfl, ho, hb2⟩)
    go_wp2_with fail
    go_ret2
    exact ⟨_, _, _, _, _, rfl, hF, ho.more hs1 (Nat.le_refl _), by omega, below_then hb hb2 hb.size⟩
  · have hp : isPermB xs = false := by simpa using hp
    have hF : (([] : List Int), (1 : Int)) = invF xs := by simp [invF, hp]
    replace hF := Lib.hid hF
    replace hp := Lib.hid hp
    replace hl := Lib.hid hl
    go_enter Tryd.func35, Tryd.ntmps35
    go_wp2_with fail
    ((with_reducible refine (isPerm_any _ _ _ xs _ _ _ h hhi).mono ?_); rintro e w1 ⟨rfl, hb⟩)
    rw [hp.out]
    go_wp2_with fail
    go_ret2
    exact ⟨_, _, _, _, _, rfl, hF, Own.nil, by omega, hb⟩
end Go.Proofs.YtcjnhiglfkcmiaaDoor
/- GrpD -/
namespace Go.Proofs.YtcjnhiglfkcmiaaDoor
open Go.RowKit
set_option linter.unusedVariables false
set_option maxRecDepth 100000
set_option maxHeartbeats 400000 in
theorem then5_any (A : Option Addr) (n c : Nat) (xs : List Int) (A' : Option Addr) (n' c' : Nat) (ys : List Int) (w : World) {lo hi lo' hi' : Nat} (h : RI w lo hi A n xs) (hhi : hi ≤ w.heap.size) (h' : RI w lo' hi' A' n' ys) (hhi' : hi' ≤ w.heap.size)
    (h4 : n ≤ 1048576) (hr : ∀ x ∈ xs, 0 ≤ x ∧ x < n') :
    Calls Tryd.prog 37 #[.slice A n c, .slice A' n' c'] w fun e w' => ∃ A1 c1, e = .returned (.slice A1 n c1) ∧ Own w' w.heap.size w'.heap.size 2 A1 n c1 ((thenL xs ys).map (Value.int .i64)) ∧ Below w.heap.size w w' := by
  obtain ⟨i0, hi0, hz0, hz1, hz2⟩ := info_parts infoI
  have hl := Lib.hid h.len
  replace hr := Lib.hid hr
  have hm' := h'.max
  go_enter Tryd.func37, Tryd.ntmps37
  go_wp2_with fail
  go_loopw [5, 6] (fun v i wr => ∃ (k : Nat) (A1 : Option Addr) (c1 : Nat), k ≤ n ∧ v = .slice A1 k c1 ∧ i = .int .i64 k ∧ wr.ownsRow w.heap.size 2 1 (.slice A1 k c1) k (((thenL xs ys).take k).map (Value.int .i64)) ∧ Below w.heap.size w wr) (fun _ i wr => n - (intOf i).toNat)
  case atStart =>
    refine ⟨0, _, 0, by omega, rfl, rfl, ?_, (Below.refl _ _).alloc (Nat.le_refl _) _⟩
    simpa using World.ownsRow_lit (e := 2) (base := w.heap.size) (size := 1) w #[] 0 (Nat.le_refl _) (by omega) rfl
  case round =>
    obtain ⟨k, A1, c1, hk, rfl, rfl, ho, hb⟩ := hrel
    by_cases hlt : k < n
    · obtain ⟨b, o, x, rfl, _, _, hx, hc⟩ := (h.below hb hhi).at_ hlt
      obtain ⟨hx0, hx1⟩ := hr.out x (mem_of_get? hx)
      obtain ⟨b', o', y, rfl, _, _, hy, hcy⟩ := (h'.below hb hhi').at_ (k := x.toNat) (by omega)
      have hxl := List.getElem?_eq_some_iff.1 hx |>.1
      replace hx := Lib.hid hx
      replace hy := Lib.hid hy
      have hbs := hb.size
      go_wp2_with (at_builtin; refine wpList_append1 wr rfl (.tmp 14) (.tmp 22) 24 rfl w.heap.size 2 i0 (.int .i64 0) 8 Tryd.underlying24 hi0 hz0 hz1 hz2 rfl (by omega) _ k c1 _ (.int .i64 y) rfl ho _ rfl rfl rfl (by omega) hbs ?_)
      intro g c2 w2 ho2 hg2 hlo2 hlt2 hor2
      have hb2 : Below w.heap.size w w2 := hb.grown hg2 hbs (fun q hq => (ho.lt q hq).1)
      go_wp2_with fail
      go_roundw
      case rel =>
        refine ⟨k + 1, _, c2, by omega, rfl, by go_num, ?_, hb2⟩
        rw [take_succ_of (thenL_get hx.out), List.map_append, getD_some hy.out]
        simpa using ho2
      case measure => simp [intOf]; omega
    · go_wp2_with fail
      go_ret
      have hkn : k = n := by omega
      subst hkn
      have hxl := hl.out
      rw [List.take_of_length_le (by rw [thenL_length]; omega)] at ho
      exact ⟨_, _, rfl, Own.of_row ho, hb⟩
set_option maxHeartbeats 1000000 in
theorem hasRow5_any (A : Option Addr) (n c : Nat) (xss : List (List Int)) (A' : Option Addr) (n' c' : Nat) (ys : List Int) (w : World) {lo hi lo' hi' : Nat} (h : RS w lo hi A n xss) (hhi : hi ≤ w.heap.size) (h' : RI w lo' hi' A' n' ys) (hhi' : hi' ≤ w.heap.size) :
    Calls Tryd.prog 36 #[.slice A n c, .slice A' n' c'] w fun e w' => e = .returned (.bool (decide (ys ∈ xss))) ∧ Below w.heap.size w w' := by
  have hm := h.max
  have hl := Lib.hid h.len
  go_enter Tryd.func36, Tryd.ntmps36
  go_wp2_with fail
  go_loopw [5] (fun kv wq => ∃ k : Nat, k ≤ n ∧ kv = .int .i64 k ∧ Hid (ys ∉ xss.take k) ∧ Below w.heap.size w wq) (fun kv _ => n - (intOf kv).toNat)
  case atStart => exact ⟨0, by omega, rfl, Lib.hid (by simp), Below.refl _ _⟩
  case round =>
    obtain ⟨k, hk, rfl, hnx, hB⟩ := hrel
    have yB := hB.size
    by_cases hlt : k < n
    · obtain ⟨b, o, Ap, np, cp, p, rfl, _, hb, hp, hpc, hpr⟩ := (h.below hB hhi).at_ hlt
      have hL := like_any Ap np cp p A' n' c' ys wr _ _ _ _ hpr (h'.below hB hhi') (by omega) (by omega)
      have htk : xss.take (k + 1) = xss.take k ++ [p] := by rw [List.take_add_one, hp]; rfl
      by_cases hpy : p = ys
      · rw [decide_eq_true hpy] at hL
        have hix : decide (ys ∈ xss) = true := decide_eq_true (hpy ▸ List.mem_of_getElem? hp)
        replace hp := Lib.hid hp
        replace htk := Lib.hid htk
        replace hpy := Lib.hid hpy
        replace hix := Lib.hid hix
        go_wp2_with fail
        ((with_reducible refine hL.mono ?_); rintro e w5 ⟨rfl, f5⟩)
        have hB5 := hB.trans (f5.mono yB)
        go_wp2_with fail
        go_ret
        exact ⟨by rw [hix.out]; rfl, hB5⟩
      · rw [decide_eq_false hpy] at hL
        have hnx2 : Hid (ys ∉ xss.take (k + 1)) := Lib.hid (by
          rw [htk]
          intro hh
          rcases List.mem_append.1 hh with hh | hh
          · exact hnx.out hh
          · simp at hh; exact hpy hh.symm)
        replace hp := Lib.hid hp
        replace htk := Lib.hid htk
        replace hpy := Lib.hid hpy
        clear hnx
        go_wp2_with fail
        ((with_reducible refine hL.mono ?_); rintro e w5 ⟨rfl, f5⟩)
        have hB5 := hB.trans (f5.mono yB)
        go_wp2_with fail
        go_roundw
        case measure => simp [intOf] <;> omega
        case rel => exact ⟨k + 1, by omega, by go_num, hnx2, hB5⟩
    · have hkn : k = n := by omega
      have hix : decide (ys ∈ xss) = false := decide_eq_false (by
        have := hnx.out
        rwa [List.take_of_length_le (by rw [hl.out]; omega)] at this)
      replace hix := Lib.hid hix
      go_wp2_with fail
      go_ret
      exact ⟨by rw [hix.out]; rfl, hB⟩
theorem drawGroup_any (w : World) (A : Option Addr) (n c : Nat) (bs : List Int) (h : Rd w 0 w.heap.size A n (bs.map (Value.int .u8))) (hb : ∀ x ∈ bs, 0 ≤ x ∧ x < 256) (hn : n ≤ 1048576) :
    Calls Tryd.prog 31 #[.slice A n c] w fun e w' => ∃ (N : Int) (A1 : Option Addr) (m c1 : Nat), e = .returned (.tuple #[.int .i64 N, .slice A1 m c1]) ∧ DrwSysP w w' 24 2 N A1 m c1 := by
  have hF := from_any w A n c bs h hb hn
  replace hb := Lib.hid hb
  go_enter Tryd.func31, Tryd.ntmps31
  go_wp2_with fail
  ((with_reducible refine hF.mono ?_); rintro e w1 ⟨H1, rfl, S1, B1⟩)
  clear hF
  have s1 := B1.size
  have g1 := S1.lt
  have L7 : RI (w1.alloc (.cells #[.int .i64 5, .int .i64 6, .int .i64 4, .int .i64 7] 2)) w1.heap.size (w1.heap.size + 1) (some ⟨w1.heap.size, 0, none⟩) 4 [5, 6, 4, 7] := lit_rd w1 #[.int .i64 5, .int .i64 6, .int .i64 4, .int .i64 7] 2 (by simp)
  have B7 : Below w1.heap.size w1 (w1.alloc (.cells #[.int .i64 5, .int .i64 6, .int .i64 4, .int .i64 7] 2)) := (Below.refl _ _).alloc (Nat.le_refl _) _
  have S7 := S1.below B7 g1
  have E7 := B1.trans (B7.mono s1)
  have z7 : w1.heap.size ≤ (w1.alloc (.cells #[.int .i64 5, .int .i64 6, .int .i64 4, .int .i64 7] 2)).heap.size := by simp
  have hp := pick_any _ _ _ A n c bs _ _ S7 _ 4 4 _ L7 (by omega) (by simp) (by omega) (by omega)
  go_wp2_with fail
  ((with_reducible refine hp.mono ?_); rintro e w8 ⟨v8, i8, h8, y, rfl, hy, S8, C8, z8⟩)
  clear hp
  have hy := List.mem_of_getElem? hy
  have hy8 : 0 ≤ y ∧ y ≤ 7 := by simp at hy; omega
  obtain ⟨Y, rfl⟩ := Int.eq_ofNat_of_zero_le hy8.1
  have E8 := E7.trans (C8.below (B := w.heap.size) (Nat.le_refl _) (by omega))
  clear hy
  have hS := small_any w8 _ _ A n c bs _ _ S8 Y (by omega)
  go_wp2_with fail
  ((with_reducible refine hS.mono ?_); rintro e w2 ⟨N, A1, m, c1, rfl, xss, i', h', O2, hm, hx, hN0, hN1, S2, C2⟩)
  clear hS
  have E2 := E8.trans (C2.below (B := w.heap.size) (Nat.le_refl _) (by omega))
  have y8 := E8.size
  go_wp2_with fail
  go_ret2
  exact ⟨N, A1, m, c1, rfl, xss, O2.more y8 (Nat.le_refl _), hm, hx, hN0, hN1, E2⟩
/-- which points the first k lists make of i -/
def seenG (zss : List (List Int)) (i n k : Nat) : List Bool := (List.range n).map fun j => decide (∃ p ∈ zss.take k, at' p i = ((j : Nat) : Int))
theorem seenG_zero (zss : List (List Int)) (i n : Nat) : seenG zss i n 0 = List.replicate n false := by
  unfold seenG
  apply List.ext_getElem?
  intro j
  rw [List.getElem?_map, List.getElem?_replicate]
  by_cases hj : j < n
  · simp [hj]
  · simp [hj]
theorem seenG_get {zss : List (List Int)} {i n k j : Nat} (h : j < n) : (seenG zss i n k)[j]? = some (decide (∃ p ∈ zss.take k, at' p i = (j : Int))) := by simp [seenG, h]
theorem seenG_length (zss : List (List Int)) (i n k : Nat) : (seenG zss i n k).length = n := by simp [seenG]
theorem seenG_step {zss : List (List Int)} {i n k : Nat} {p : List Int} {x : Nat} (hp : zss[k]? = some p) (hx : at' p i = (x : Int)) (h1 : x < n) : (seenG zss i n k).set x true = seenG zss i n (k + 1) := by
  apply List.ext_getElem?
  intro j
  rw [List.getElem?_set, seenG_length]
  by_cases hj : j < n
  · rw [seenG_get hj, seenG_get hj]
    by_cases e : x = j
    · subst e
      rw [if_pos rfl, if_pos hj]
      congr 1
      symm
      exact decide_eq_true ⟨p, by rw [List.take_add_one, hp]; simp, hx⟩
    · rw [if_neg e]
      congr 1
      apply decide_eq_decide.2
      rw [List.take_add_one, hp]
      constructor
      · rintro ⟨q, hq, e2⟩
        exact ⟨q, by simp [hq], e2⟩
      · rintro ⟨q, hq, e2⟩
        rcases List.mem_append.1 hq with hq | hq
        · exact ⟨q, hq, e2⟩
        · simp at hq
          subst hq
          rw [hx] at e2
          omega
  · rw [List.getElem?_eq_none (by rw [seenG_length]; omega), List.getElem?_eq_none (by rw [seenG_length]; omega)]
    by_cases e : x = j
    · omega
    · rw [if_neg e]
end Go.Proofs.YtcjnhiglfkcmiaaDoor
/- Prm -/
namespace Go.Proofs.YtcjnhiglfkcmiaaDoor
open Go.RowKit
set_option linter.unusedVariables false
set_option maxRecDepth 100000
theorem below_drw {B : Nat} {a w : World} (h : Below B a w) : Below B a w.drew := ⟨h.os, h.tape, h.output, h.size, h.block⟩
theorem ins_perm {l : List Int} {i k : Nat} (h : l.Perm (idL i)) (hk : k ≤ i) : ((l.take k ++ [(i : Int)]) ++ l.drop k).Perm (idL (i + 1)) := by
  have e : idL (i + 1) = idL i ++ [(i : Int)] := by unfold idL; rw [List.range_succ, List.map_append]; rfl
  rw [e, List.append_assoc]
  have h1 : (l.take k ++ ([(i : Int)] ++ l.drop k)).Perm (l.take k ++ (l.drop k ++ [(i : Int)])) := List.Perm.append_left _ List.perm_append_comm
  refine h1.trans ?_
  rw [← List.append_assoc, List.take_append_drop]
  exact h.append_right _
theorem ri_part {w : World} {lo hi n b : Nat} {xs : List Int} (h : RI w lo hi (some ⟨b, 0, none⟩) n xs) {i j : Nat} (hij : i ≤ j) (hj : j ≤ n) {A' : Option Addr} (hA : i < j → A' = some ⟨b, i, none⟩) : RI w lo hi A' (j - i) ((xs.drop i).take (j - i)) := by
  refine ⟨by have := h.1; simp at this ⊢; omega, by have := h.2.1; omega, fun hn => ?_⟩
  obtain ⟨b', o', e, h1, h2, hc⟩ := h.2.2 (by omega)
  injection e with e
  injection e with e1 e2 _
  subst e1; subst e2
  refine ⟨b, i, hA (by omega), h1, h2, fun k v hv => ?_⟩
  have hk := (List.getElem?_eq_some_iff.1 hv).1
  simp at hk
  rw [List.getElem?_map, List.getElem?_take_of_lt (by omega), List.getElem?_drop] at hv
  have := hc (i + k) v (by rw [List.getElem?_map]; exact hv)
  simpa using this
theorem cell_one_of {w : World} {b : Nat} {u : Value} {T : TypeId} (h : w.heap[b]? = some (.cells #[u] T (0, 0))) : ∀ z v, [u][z]? = some v → w.cell? ((⟨b, 0, none⟩ : Addr).add z) = some v := by
  intro z v hv
  have hz : z = 0 := by have := (List.getElem?_eq_some_iff.1 hv).1; simp at this; omega
  subst hz
  simp at hv
  subst hv
  rw [Addr.add_lit, cell_of_row _ _ _ _ _ _ h]
  rfl
theorem lit_own {w : World} {lo z : Nat} {T : TypeId} (h : w.heap[z]? = some (.cells #[] T (0, 0))) (hz : lo ≤ z) : w.ownsRow lo T 1 (.slice (some ⟨z, 0, none⟩) 0 0) 0 [] := blk_own (vs := []) h rfl hz (by simp)
end Go.Proofs.YtcjnhiglfkcmiaaDoor
/- Lk5 -/
namespace Go.Proofs.YtcjnhiglfkcmiaaDoor
open Go.RowKit
set_option linter.unusedVariables false
set_option maxRecDepth 100000
set_option maxHeartbeats 2000000 in
theorem likeRows_any (A : Option Addr) (n c : Nat) (xss : List (List Int)) (A' : Option Addr) (n' c' : Nat) (w : World) {lo hi lo' hi' : Nat} (h : RS w lo hi A n xss) (h' : RS w lo' hi' A' n' xss) (hhi : hi ≤ w.heap.size) (hhi' : hi' ≤ w.heap.size) :
    Calls Tryd.prog 32 #[.slice A n c, .slice A' n' c'] w fun e w' => e = .returned (.bool true) ∧ Below w.heap.size w w' := by
  have hm := h.max
  have hl := h.len
  have hl' := h'.len
  obtain rfl : n = n' := by omega
  clear hl hl'
  go_enter Tryd.func32, Tryd.ntmps32
  go_wp2_with fail
  go_loopw [5] (fun iv wq => ∃ k : Nat, k ≤ n ∧ iv = .int .i64 k ∧ Below w.heap.size w wq) (fun iv _ => n - (intOf iv).toNat)
  case atStart => exact ⟨0, by omega, rfl, Below.refl _ _⟩
  case round =>
    obtain ⟨k, hk, rfl, hB⟩ := hrel
    by_cases hlt : k < n
    · have y1 := hB.size
      have Bd := below_drw hB
      obtain ⟨b1, u1, A1, n1, c1, r1, rfl, _, _, hr1, hc1, hR1⟩ := (h.below Bd hhi).at_ hlt
      obtain ⟨b2, u2, A2, n2, c2, r2, rfl, _, _, hr2, hc2, hR2⟩ := (h'.below Bd hhi').at_ hlt
      obtain rfl : r1 = r2 := by rw [hr1] at hr2; exact Option.some.inj hr2
      have hc1' : wr.cell? ⟨b1, u1 + k, none⟩ = some (.slice A1 n1 c1) := hc1
      have hc2' : wr.cell? ⟨b2, u2 + k, none⟩ = some (.slice A2 n2 c2) := hc2
      have hlk := like_any A1 n1 c1 r1 A2 n2 c2 r1 wr.drew _ _ _ _ hR1 hR2 (by simp; omega) (by simp; omega)
      rw [decide_eq_true (rfl : r1 = r1)] at hlk
      replace hr1 := Lib.hid hr1
      replace hr2 := Lib.hid hr2
      replace hlk := Lib.hid hlk
      replace Bd := Lib.hid Bd
      clear hR1 hR2 hc1 hc2
      go_wp2_with fail
      go_region_law? (refine step_call rfl 12 #[.slice A1 n1 c1, .slice A2 n2 c2] (by go_simp) hlk.out ?_; rintro e w6 ⟨rfl, f6⟩; refine ⟨_, rfl, ?_⟩)
      all_goals
        have B6 : Below w.heap.size w w6 := below_then Bd.out f6 (by simp; omega)
        clear f6
        go_wp2_with fail
        go_roundw
        case measure => simp [intOf]; omega
        case rel => exact ⟨k + 1, by omega, by go_num, B6⟩
    · obtain rfl : k = n := by omega
      go_wp2_with fail
      go_ret
      exact ⟨rfl, hB⟩
end Go.Proofs.YtcjnhiglfkcmiaaDoor
/- LGroups -/
namespace Go.Proofs.YtcjnhiglfkcmiaaDoor.fnGroups
open Go.ChangeShapes Go.WideShapes Go.ChangeAt Go.RowKit
open Go.ChangeMaps (open_string shut_string)
set_option linter.unusedVariables false
theorem own : ownKnob Tryd.prog.godebug = none := by kernel_rfl
theorem laidOut : laidOutB Tryd.prog = true := by kernel_rfl
/-- what the condition gives the walk: the table of the powers of ten -/
theorem t10 {W : World} (h : laidMetH Tryd.prog Rows.fnGroupsRow.laid W) : T10 W.heap.size W := by
  rw [MakeChecks.laidMetH_plain _ _ _ (by kernel_rfl)] at h
  exact Lib.tabBelow_of_tabIs (Lib.tabIs_of_head (g := 3) (t := 201) (e := 54) (n := 20) (by kernel_rfl) (by kernel_rfl) Tryd.underlying201 Tryd.underlying54 (by kernel_rfl) (by kernel_rfl) h.tail.tail)
theorem big_any (a : Option Addr) (n c : Nat) (w : World) (hn : n ≤ 9223372036854775807) : Calls Tryd.prog 7 #[.slice a n c] w fun e w' => e = .returned (.bool (decide (4096 < n))) ∧ w = w' := by
  have hd : decide ((4096 : Int) < (n : Int)) = decide (4096 < n) := decide_eq_decide.2 (by omega)
  replace hd := Lib.hid hd
  go_enter Tryd.func7, Tryd.ntmps7
  go_wp2_with fail
  go_ret
  exact ⟨ret_bool hd.out, rfl⟩
/-- a source that lies in a block of its own: what lies below it stays while it is used -/
theorem rs_chg {w w' : World} {g lo hi n : Nat} {A : Option Addr} {xss : List (List Int)} (h : RS w lo hi A n xss) (hC : Chg g (g + 1) w w') (hg : hi ≤ g) (hh : hi ≤ w.heap.size) : RS w' lo hi A n xss := by
  obtain ⟨vs, r1, r2⟩ := h
  have hs : Same lo hi w w' := Same.of_chg hC hh (.inl hg)
  exact ⟨vs, r1.keep hs, r2.keep hs⟩
set_option maxRecDepth 100000 in
set_option maxHeartbeats 8000000 in
theorem walk (a : Option Addr) (n c : Nat) (bs : List Int) (w : World) (h : Rd w 0 w.heap.size a n (bs.map (Value.int .u8))) (hb : ∀ x ∈ bs, 0 ≤ x ∧ x < 256) (hT : T10 w.heap.size w) :
    Calls Tryd.prog 6 #[.slice a n c] w fun e w' => e = .returned (.bool true) ∧ Below w.heap.size w w' := by
  obtain ⟨i0, hi0, hz0, hz1, hz2⟩ := info_parts infoB
  have hm := h.2.1
  have hbig := big_any a n c w hm
  by_cases h4 : 4096 < n
  · rw [decide_eq_true h4] at hbig
    replace hb := Lib.hid hb
    go_enter Tryd.func6, Tryd.ntmps6
    go_wp2_with fail
    ((with_reducible refine hbig.mono ?_); rintro e w' ⟨rfl, rfl⟩)
    go_wp2_with fail
    go_ret
    exact ⟨rfl, Below.refl _ _⟩
  · rw [decide_eq_false h4] at hbig
    have hdr := drawGroup_any w a n c bs h hb (by omega)
    replace hb := Lib.hid hb
    go_enter Tryd.func6, Tryd.ntmps6
    go_wp2_with fail
    ((with_reducible refine hbig.mono ?_); rintro e w' ⟨rfl, rfl⟩)
    go_wp2_with fail
    ((with_reducible refine hdr.mono ?_); rintro e w1 ⟨N, A1, m, c1, rfl, xss, o1, hm1, hxl, hN0, hN1, f1⟩)
    clear hbig hdr
    have y1 := f1.size
    have B1 : Below w.heap.size w w1 := f1
    replace hxl := Lib.hid hxl
    have hml := Lib.hid o1.len
    go_wp2_with fail
    ((with_reducible refine (i_GroupElements_any w1 N ⟨by omega, by omega⟩ A1 m c1 xss o1.rs (by omega) (hT.on B1) (by omega)).mono ?_); rintro e w2 ⟨A2, n2, c2, zss, code, rfl, H2, o2, hn2, f2⟩)
    have y2 := f2.size
    have B2 := below_then B1 f2 (by omega)
    have o1 := o1.below f2 (by omega)
    go_wp2_with fail
    ((with_reducible refine (s_GroupElements_any w2 N ⟨by omega, by omega⟩ A1 m c1 xss o1.rs (by omega)).mono ?_); rintro e w3 ⟨A3, n3, c3, zss2, code2, rfl, H3, o3, hn3, f3⟩)
    obtain ⟨rfl, rfl⟩ : zss = zss2 ∧ code = code2 := by have e := H2.out.trans H3.out.symm; exact Prod.mk.inj e
    clear H3
    have y3 := f3.size
    have B3 := below_then B2 f3 (by omega)
    have o1 := o1.below f3 (by omega)
    have o2 := o2.below f3 (by omega)
    have hcc : (code != code) = false := by simp
    go_wp2_with fail
    ((with_reducible refine (likeRows_any A2 n2 c2 zss A3 n3 c3 w3 o2.rs o3.rs (by omega) (by omega)).mono ?_); rintro e w4 ⟨rfl, f4⟩)
    have y4 := f4.size
    have B4 := below_then B3 f4 (by omega)
    have o1 := o1.below f4 (by omega)
    have o2 := o2.below f4 (by omega)
    clear o3 hcc
    by_cases hc0 : code = 0
    · subst hc0
      have hN := grpF_pos H2.out
      obtain ⟨K, rfl⟩ := Int.eq_ofNat_of_zero_le hN
      obtain ⟨hsys, F, hgF, hzF⟩ := grpF_zero H2.out
      have hall := grp_all hsys hgF
      have hper := srtG_perm F
      rw [← hzF] at hper
      have hhead := hall.head
      rw [← hzF] at hhead
      have hzl : zss.length = n2 := o2.len
      have hzn1 : 1 ≤ n2 := by have := (List.getElem?_eq_some_iff.1 hhead).1; omega
      have hK4 : K ≤ 400 := by have := hsys.2.1; omega
      have hza : ∀ x ∈ zss, isPermP x ∧ x.length = K := fun x hx => hall.all x (hper.mem_iff.1 hx)
      have hzi : ∀ p ∈ zss, invL p ∈ zss := fun p hp => hper.mem_iff.2 (hall.inv (hper.mem_iff.1 hp))
      have hzm : ∀ p ∈ zss, ∀ g ∈ xss, thenL p g ∈ zss := fun p hp g hg => hper.mem_iff.2 (hall.mul p (hper.mem_iff.1 hp) g hg)
      have hzo : ∀ i j : Nat, i < K → j < K → ((∃ p ∈ zss, at' p i = (j : Int)) ↔ labOf xss j = labOf xss i) := fun i j hi hj => by
        rw [← hall.lab hsys hi hj]
        exact ⟨fun ⟨p, hp, e⟩ => ⟨p, hper.mem_iff.1 hp, e⟩, fun ⟨p, hp, e⟩ => ⟨p, hper.mem_iff.2 hp, e⟩⟩
      have hxa : ∀ p ∈ xss, isPermP p ∧ p.length = K := fun p hp => by have := hsys.2.2.2 p hp; exact ⟨this.1, by omega⟩
      have hlab : orbLF (K : Int) xss = (labL xss K, 0) := by unfold orbLF; rw [if_pos (isSysB_iff.2 hsys), Int.toNat_natCast]
      have hrb := roll_any w4 a n c bs ((h.keep (Same.of_below B4 (Nat.le_refl _))).more (Nat.le_refl _) (by omega)) hb.out (by omega) 704 (by omega)
      rw [show ((704 : Nat) : Int) = 704 from rfl] at hrb
      have d0 : ((0 : Int) != 0) = false := rfl
      replace hhead := Lib.hid hhead
      replace hza := Lib.hid hza
      replace hzi := Lib.hid hzi
      replace hzm := Lib.hid hzm
      replace hzo := Lib.hid hzo
      replace hxa := Lib.hid hxa
      replace hlab := Lib.hid hlab
      replace hzl := Lib.hid hzl
      clear hsys hgF hzF hall hper H2
      go_wp2_with fail
      ((with_reducible refine hrb.mono ?_); rintro e w5 ⟨Hs, rfl, s5, f5⟩)
      clear hrb
      have y5 := f5.size
      have B5 := below_then B4 f5 (by omega)
      have o1 := o1.below f5 (by omega)
      have o2 := o2.below f5 (by omega)
      have hg5 := s5.lt
      have r1 := o1.rs
      have r2 := o2.rs
      obtain ⟨g, hgq⟩ : ∃ g, w4.heap.size = g := ⟨_, rfl⟩
      rw [hgq] at s5 hg5 y4 y5 ⊢
      have y34 : w1.heap.size ≤ g ∧ w2.heap.size ≤ g := by omega
      clear f5 f4 f3 f2 f1 B1 B2 B3 B4 o1 o2
      have hC5 : Chg g (g + 1) w5 w5 := Chg.refl _ _ _
      go_wp2_with fail
      go_loopw [10] (fun kv wq => ∃ (k i h : Nat), k ≤ 4 ∧ kv = .int .i64 k ∧ Src wq g g 84 a n c bs i h ∧ Chg g (g + 1) w5 wq) (fun kv _ => 4 - (intOf kv).toNat)
      case atStart => exact ⟨0, 0, Hs, by omega, rfl, s5, hC5⟩
      case round =>
        clear s5 hC5
        obtain ⟨k, i, h, hk, rfl, s, hC⟩ := hrel
        have yC := hC.size
        by_cases hk4 : k < 4
        · have hbn := below_nat wr g g a n c bs i h s (n2 : Int) (by omega) (by omega)
          have hgl := s.lt
          go_wp2_with fail
          ((with_reducible refine hbn.mono ?_); rintro e w6 ⟨v, rfl, hv, i6, h6, s6, C6⟩)
          clear hbn s
          have y6 := C6.size
          have D6 := hC.trans C6 ⟨Nat.le_refl _, Nat.le_refl _⟩ ⟨Nat.le_refl _, Nat.le_refl _⟩
          have q1 := rs_chg r1 D6 (by omega) (by omega)
          have q2 := rs_chg r2 D6 (by omega) (by omega)
          obtain ⟨b, o, Ap, np, cp, p, rfl, _, hbp, hp, hpc, hpr⟩ := q2.at_ (k := v) (by omega)
          have hpm := mem_of_get? hp
          obtain ⟨hpp, hplen⟩ := hza.out p hpm
          have hinv : invF p = (invL p, 0) := by unfold invF; rw [if_pos (isPermB_iff.2 hpp)]
          have hIP := i_InversePermutation_any w6 Ap np cp p hpr (by omega)
          have i0' : (0 : Int) ≤ (v : Int) := by omega
          have i1' : (v : Int) < (n2 : Int) := by omega
          have hprl := hpr.len
          replace hp := Lib.hid hp
          replace hinv := Lib.hid hinv
          replace hprl := Lib.hid hprl
          replace hplen := Lib.hid hplen
          go_wp2_with fail
          ((with_reducible refine hIP.mono ?_); rintro e w7 ⟨A7, n7, c7, ip, k7, rfl, H7, o7, hn7, f7⟩)
          clear hIP
          obtain ⟨rfl, rfl⟩ : ip = invL p ∧ k7 = 0 := by have e := H7.out.trans hinv.out; exact Prod.mk.inj e
          clear H7
          have y7 := f7.size
          have q1 := q1.below f7 (by omega)
          have q2 := q2.below f7 (by omega)
          have hpr := hpr.below f7 (by omega)
          have s7 := s6.below f7 s6.lt
          have D7 := D6.trans_below f7
          have hH := hasRow5_any _ n2 c2 zss A7 n7 c7 (invL p) w7 q2 (by omega) o7.ri (Nat.le_refl _)
          rw [decide_eq_true (hzi.out p hpm)] at hH
          go_wp2_with fail
          ((with_reducible refine hH.mono ?_); rintro e w8 ⟨rfl, f8⟩)
          clear hH o7 s6
          have y8 := f8.size
          have q1 := q1.below f8 (by omega)
          have q2 := q2.below f8 (by omega)
          have hpr := hpr.below f8 (by omega)
          have s8 := s7.below f8 s7.lt
          have D8 := D7.trans_below f8
          clear s7 D6 D7 C6
          by_cases hm0 : m = 0
          · have hd0 : ¬ (0 : Int) < (m : Int) := by omega
            replace hm0 := Lib.hid hm0
            go_wp2_with fail
            go_roundw
            case measure => simp [intOf] <;> omega
            case rel => exact ⟨k + 1, i6, h6, by omega, by go_num, s8, D8⟩
          · have hd0 : (0 : Int) < (m : Int) := by omega
            have hbn := below_nat w8 g g a n c bs i6 h6 s8 (m : Int) (by omega) (by omega)
            have hgl8 := s8.lt
            go_wp2_with fail
            ((with_reducible refine hbn.mono ?_); rintro e w9 ⟨u, rfl, hu, i9, h9, s9, C9⟩)
            clear hbn s8
            have y9 := C9.size
            have D9 := D8.trans C9 ⟨Nat.le_refl _, Nat.le_refl _⟩ ⟨Nat.le_refl _, Nat.le_refl _⟩
            have q1 := rs_chg q1 C9 (by omega) (by omega)
            have q2 := rs_chg q2 C9 (by omega) (by omega)
            have hpr := hpr.keep (Same.of_chg C9 (by omega) (.inl (by omega)))
            obtain ⟨b9, o9, Ag, ng, cg, gp, rfl, _, hbg, hg9, hgc, hgr⟩ := q1.at_ (k := u) (by omega)
            have hgm := mem_of_get? hg9
            obtain ⟨hgp, hglen⟩ := hxa.out gp hgm
            have hgrl := hgr.len
            have hTh := then5_any Ap np cp p Ag ng cg gp w9 hpr (by omega) hgr (by omega) (by have := hprl.out; have := hplen.out; omega) (fun x hx => by have := hpp.rng x hx; have := hplen.out; omega)
            have u0 : (0 : Int) ≤ (u : Int) := by omega
            have u1 : (u : Int) < (m : Int) := by omega
            have hmul := hzm.out p hpm gp hgm
            replace hg9 := Lib.hid hg9
            replace hglen := Lib.hid hglen
            replace hgrl := Lib.hid hgrl
            replace hmul := Lib.hid hmul
            go_wp2_with fail
            ((with_reducible refine hTh.mono ?_); rintro e w10 ⟨A10, c10, rfl, o10, f10⟩)
            clear hTh
            have y10 := f10.size
            have q2 := q2.below f10 (by omega)
            have s10 := s9.below f10 s9.lt
            have D10 := D9.trans_below f10
            have hH := hasRow5_any _ n2 c2 zss A10 np c10 (thenL p gp) w10 q2 (by omega) o10.ri (Nat.le_refl _)
            rw [decide_eq_true hmul.out] at hH
            go_wp2_with fail
            ((with_reducible refine hH.mono ?_); rintro e w11 ⟨rfl, f11⟩)
            clear hH o10
            have s11 := s10.below f11 s10.lt
            have D11 := D10.trans_below f11
            clear s9 s10 D8 D9 D10 C9
            go_wp2_with fail
            go_roundw
            case measure => simp [intOf] <;> omega
            case rel => exact ⟨k + 1, i9, h9, by omega, by go_num, s11, D11⟩
        · have q1 := rs_chg r1 hC (by omega) (by omega)
          have q2 := rs_chg r2 hC (by omega) (by omega)
          have hB : Below w.heap.size w wr := B5.trans (hC.below (by omega) (by omega))
          clear s hC r1 r2
          have hOL := i_OrbitLabels_any wr (K : Int) ⟨by omega, by omega⟩ A1 m c1 xss q1 (by omega)
          go_wp2_with fail
          ((with_reducible refine hOL.mono ?_); rintro e w6 ⟨A6, n6, c6, ls, k6, rfl, H6, o6, hn6, f6⟩)
          clear hOL
          obtain ⟨rfl, rfl⟩ : ls = labL xss K ∧ k6 = 0 := by have e := H6.out.trans hlab.out; exact Prod.mk.inj e
          clear H6
          have hK6 : n6 = K := by have := o6.lenI; rw [labL_length] at this; omega
          subst hK6
          have y6 := f6.size
          have q2 := q2.below f6 (by omega)
          have B6 := hB.trans (f6.mono (by omega))
          obtain ⟨bz, oz, Az, nz, cz, pz, rfl, _, hbz, hpz, hpzc, hpzr⟩ := q2.at_ (k := 0) (by omega)
          obtain rfl : pz = idL n6 := by rw [hhead.out] at hpz; exact (Option.some.inj hpz).symm
          have hnz : nz = n6 := by have := hpzr.len; rw [idL_length] at this; omega
          subst hnz
          rw [Nat.add_zero] at hpzc
          have e1 : ((nz : Int) != (nz : Int)) = false := by simp
          have e2 : ((n2 : Int) == 0) = false := by simp; omega
          replace hpz := Lib.hid hpz
          clear q1 hB f6
          go_wp2_with fail
          go_loopw [16] (fun iv wq => ∃ i : Nat, i ≤ nz ∧ iv = .int .i64 i ∧ Below w6.heap.size w6 wq) (fun iv _ => nz - (intOf iv).toNat)
          case atStart => exact ⟨0, by omega, rfl, Below.refl _ _⟩
          case round =>
            obtain ⟨i, hi, rfl, hBi⟩ := hrel
            have yi := hBi.size
            by_cases hin : i < nz
            · have q2i := q2.below hBi (by omega)
              have o6i := o6.below hBi (Nat.le_refl _)
              have hpzci := (hBi.cell (p := ⟨bz, oz, none⟩) (by simp; omega)).trans hpzc
              have hpzri := hpzr.below hBi (by omega)
              obtain ⟨bi, ui, xi, rfl, _, _, hxi, hci⟩ := hpzri.at_ hin
              obtain rfl : xi = (i : Int) := by
                have : (idL nz)[i]? = some (i : Int) := by simp [idL, hin]
                rw [this] at hxi
                exact (Option.some.inj hxi).symm
              have dne : ((i : Int) != (i : Int)) = false := by simp
              replace hxi := Lib.hid hxi
              go_wp2_with (at_make; refine wpList_make_full _ rfl _ _ 60 rfl wr.heap.size 4 i0 (.bool false) 1 Tryd.underlying60 hi0 hz0 hz1 _ _ _ _ nz rfl rfl rfl rfl ?c1 ?c2 (Nat.le_refl _) ?_)
              case c1 => rw [hz2]; omega
              case c2 => simp only [maxLen]; omega
              intro w7 hown hg7
              have f7 : Below wr.heap.size wr w7 := below_of_grown hg7 (Nat.le_refl _) (by simp)
              have hown7 : Hid (w7.ownsRow wr.heap.size 4 1 (.slice (some ⟨wr.heap.size, 0, none⟩) nz nz) nz ((seenG zss i nz 0).map Value.bool)) := Lib.hid (by
                rw [seenG_zero]
                simpa [toList_madeCells_one, Value.cells] using hown)
              clear hown hg7 hpzri hci dne
              have q7 := q2i.below f7 (by omega)
              have l7 := o6i.below f7 (by omega)
              have B7i := hBi.trans (f7.mono yi)
              have y7 := f7.size
              go_wp2_with fail
              obtain ⟨v8, rfl⟩ : ∃ v8 : World, v8 = wr := ⟨_, rfl⟩
              obtain ⟨sb, hsb⟩ : ∃ sb, v8.heap.size = sb := ⟨_, rfl⟩
              rw [hsb] at hown7 ⊢
              go_loopw [18] (fun kv wq => ∃ k : Nat, k ≤ n2 ∧ kv = .int .i64 k ∧ Hid (wq.ownsRow sb 4 1 (.slice (some ⟨sb, 0, none⟩) nz nz) nz ((seenG zss i nz k).map Value.bool)) ∧ Below sb v8 wq) (fun kv _ => n2 - (intOf kv).toNat)
              case atStart => exact ⟨0, by omega, rfl, hown7, by rw [← hsb]; exact f7⟩
              case round =>
                clear hown7
                obtain ⟨k, hk, rfl, hsn, hBk⟩ := hrel
                have yk := hBk.size
                have yk0 : sb ≤ wr.heap.size := by omega
                have hBk2 : Below v8.heap.size v8 wr := by rw [hsb]; exact hBk
                have q3 := q2i.below hBk2 (by omega)
                have l3 := o6i.below hBk2 (by omega)
                by_cases hkn : k < n2
                · obtain ⟨bk, ok, Ak, nk, ck, pk, e3, _, hbk, hpk, hpkc, hpkr⟩ := q3.at_ hkn
                  injection e3 with e3
                  injection e3 with e3 e4 _
                  subst e3
                  subst e4
                  have hpm := mem_of_get? hpk
                  obtain ⟨hpp, hpl⟩ := hza.out pk hpm
                  have hnk : nk = nz := by have := hpkr.len; omega
                  subst hnk
                  obtain ⟨bx, ox, x, rfl, _, _, hx, hxc⟩ := hpkr.at_ hin
                  obtain ⟨x0, x1⟩ := hpp.rng x (mem_of_get? hx)
                  obtain ⟨X, rfl⟩ := Int.eq_ofNat_of_zero_le x0
                  have hXn : X < nk := by omega
                  have hat : at' pk (i : Int) = (X : Int) := by unfold at'; rw [Int.toNat_natCast]; exact getD_some hx
                  have hst := hsn.out.stored X (.bool true)
                  have hmap : ((seenG zss i nk k).map Value.bool).set X (.bool true) = (seenG zss i nk (k + 1)).map Value.bool := by
                    rw [← seenG_step hpk hat hXn, List.map_set]
                  rw [hmap] at hst
                  obtain ⟨gg, vv, e3, -, -, -, -, -, hsc, hsf⟩ := (Own.of_row hsn.out).at_ (k := X) hXn
                  injection e3 with e3
                  injection e3 with e3 _ _
                  subst e3
                  have hfz := hsf X
                  have hst1 := Lib.hid hst.1
                  have hBn : Below sb v8 (wr.setCell ⟨sb, X, none⟩ (.bool true)) := hBk.setCell (Nat.le_refl _) _
                  have b1 : (0 : Int) ≤ (k : Int) := by omega
                  have b2 : (k : Int) < (n2 : Int) := by omega
                  have b3 : (0 : Int) ≤ (i : Int) := by omega
                  have b4 : (i : Int) < (nk : Int) := by omega
                  have b5 : (0 : Int) ≤ (X : Int) := by omega
                  have b6 : (X : Int) < (nk : Int) := by omega
                  replace hpk := Lib.hid hpk
                  replace hx := Lib.hid hx
                  replace hat := Lib.hid hat
                  replace hpl := Lib.hid hpl
                  clear hst hmap hsn hsf hBk hBk2
                  go_wp2_with fail
                  go_roundw
                  case measure => simp [intOf] <;> omega
                  case rel => exact ⟨k + 1, by omega, by go_num, hst1, hBn⟩
                · have hkn' : k = n2 := by omega
                  subst hkn'
                  have hB0 : Below w6.heap.size w6 wr := hBi.trans (hBk2.mono yi)
                  have hsn2 : Hid (wr.ownsRow sb 4 1 (.slice (some ⟨sb, 0, none⟩) nz nz) nz ((seenG zss i nz k).map Value.bool)) := hsn
                  have hzk : zss.take k = zss := List.take_of_length_le (by rw [hzl.out]; exact Nat.le_refl _)
                  have hys : sb ≤ wr.heap.size := yk0
                  clear hBk q3
                  go_wp2_with fail
                  obtain ⟨wo, hwo⟩ : ∃ wo : World, wo = wr := ⟨_, rfl⟩
                  go_loopw [19] (fun jv wq => ∃ j : Nat, j ≤ nz ∧ jv = .int .i64 j ∧ Below wo.heap.size wo wq) (fun jv _ => nz - (intOf jv).toNat)
                  case atStart => exact ⟨0, by omega, rfl, by rw [hwo]; exact Below.refl _ _⟩
                  case round =>
                    rw [← hwo] at hB0 hsn2 l3 hys
                    clear hwo hBk2
                    obtain ⟨j, hj, rfl, hBj⟩ := hrel
                    have yj := hBj.size
                    have hB1 := hB0.trans (hBj.mono (by have := hB0.size; omega))
                    by_cases hjn : j < nz
                    · have lj := l3.below hBj (by omega)
                      have sj := (Own.of_row hsn2.out).below hBj (Nat.le_refl _)
                      obtain ⟨gg, vv, e3, -, -, -, hsv, -, hsc, -⟩ := sj.at_ hjn
                      injection e3 with e3
                      injection e3 with e3 _ _
                      subst e3
                      rw [List.getElem?_map, seenG_get hjn, hzk] at hsv
                      have hvv : vv = .bool (decide (∃ p ∈ zss, at' p i = (j : Int))) := by simpa using hsv.symm
                      have hdec : decide (∃ p ∈ zss, at' p i = (j : Int)) = (labOf xss j == labOf xss i) := by
                        have := hzo.out i j hin hjn
                        by_cases e : labOf xss j = labOf xss i
                        · rw [decide_eq_true (this.2 e), e]; simp
                        · rw [decide_eq_false (fun hh => e (this.1 hh))]; symm; simpa using e
                      rw [hvv, hdec] at hsc
                      obtain ⟨bl, ul, x1, rfl, _, _, hx1, hc1⟩ := lj.ri.at_ hjn
                      obtain ⟨bl2, ul2, x2, e4, _, _, hx2, hc2⟩ := lj.ri.at_ hin
                      injection e4 with e4
                      injection e4 with e4 e5 _
                      subst e4
                      subst e5
                      obtain rfl : x1 = labOf xss j := by rw [labL_get hjn] at hx1; exact (Option.some.inj hx1).symm
                      obtain rfl : x2 = labOf xss i := by rw [labL_get hin] at hx2; exact (Option.some.inj hx2).symm
                      generalize labOf xss j = La at *
                      generalize labOf xss i = Lb at *
                      have dne2 : ((La == Lb) != (La == Lb)) = false := by simp
                      have b1 : (0 : Int) ≤ (j : Int) := by omega
                      have b2 : (j : Int) < (nz : Int) := by omega
                      have b3 : (0 : Int) ≤ (i : Int) := by omega
                      have b4 : (i : Int) < (nz : Int) := by omega
                      clear hsv hvv hdec hx1 hx2 hsn2
                      go_wp2_with fail
                      go_quiet (fail)
                      go_wp2_with fail
                      go_roundw
                      case measure => simp [intOf] <;> omega
                      case rel => exact ⟨j + 1, by omega, by go_num, below_dn hBj _⟩
                    · go_wp2_with fail
                      go_roundw
                      case measure => simp [intOf] <;> omega
                      case rel => exact ⟨i + 1, by omega, by go_num, hB1⟩
            · go_wp2_with fail
              go_ret
              exact ⟨rfl, B6.trans (hBi.mono (by omega))⟩
    · have d0 : (code != 0) = true := by simpa using hc0
      replace hc0 := Lib.hid hc0
      clear H2
      go_wp2_with fail
      go_ret
      exact ⟨rfl, B4⟩
/-- a world in which the listed variables lie meets the condition -/
theorem door_met (os : Os) (args : Array Value) : laidMetH Tryd.prog Rows.fnGroupsRow.laid ((World.laidAll Tryd.prog os Rows.fnGroupsRow.laid).forCall (fun _ _ => 0) ⟨#[], args, []⟩).memory :=
  by rw [MakeChecks.laidMetH_plain _ _ _ (by kernel_rfl)]; exact laidMet_laidAll _ (by kernel_rfl) (by kernel_rfl)
set_option maxRecDepth 100000 in
theorem lifted (os : Os) (started : os.Started) (H : Type) (enc : TypeId × Value → H) :
    ReturnsInHanded {} Tryd.checked os 6 .any (fun w args => (Rows.fnGroupsSpec.pre enc Tryd.prog Tryd.f6 [] false w args ∧ laidMetH Tryd.prog Rows.fnGroupsRow.laid w) ∧ sizedMet enc Tryd.prog Tryd.f6 (OpenSpec.ofChange Rows.fnGroupsSpec) false w args)
      (Rows.fnGroupsSpec.post enc Tryd.prog Tryd.f6 false true false false) := by
  refine returnsInHanded_of_change_and (C := Tryd.checked) (X := fun w _ => laidMetH Tryd.prog Rows.fnGroupsRow.laid w) (fun _ _ _ hh h => h.of_heap hh) own started (by kernel_rfl) Tryd.func6
    (ChangeSpec.witness_shaped (enc := enc) (C := Tryd.checked) (os := os) (X := fun w _ => laidMetH Tryd.prog Rows.fnGroupsRow.laid w) false (World.laidAll Tryd.prog os Rows.fnGroupsRow.laid) #[.slice none 0 0] 8 (World.laidAll_os _ _ _) (World.shaped_of_ZipB (by kernel_rfl) (by kernel_rfl)) (by kernel_rfl) (by kernel_rfl) (by kernel_rfl) (door_met os _)) ?_
  intro W base args ds gs before hval0 hW _ _ hL _
  have hval : ∀ (j : Nat) t v, Tryd.f6.params[j]? = some t → args[j]? = some v → Value.okWide Tryd.prog W .any base t v := hval0
  have hW' := hW
  obtain ⟨p, q, hA0, hV, rfl, hfz, hnd⟩ := hW
  have hA : DataW.TrodAll enc Tryd.prog W 0 (fun _ => true) true Tryd.f6.params.toList args.toList ds p := hA0
  rw [Tryd.params6] at hA hval
  obtain ⟨v0, vs0, d0, ds0, p0, q0, hargs, rfl, rfl, h0, r0⟩ := trodAll_cons hA
  obtain ⟨rfl, rfl, rfl⟩ := trodAll_nil r0
  obtain rfl : args = #[v0] := by cases args; simp_all
  obtain ⟨rfl, rfl⟩ := trodVars_none hV
  obtain ⟨a0, n0, c0, rfl⟩ := okWide_slice Tryd.underlying22 (hval 0 22 v0 rfl rfl)
  have k0 := h0
  have lt0 : ∀ x ∈ p0, x.block < W.heap.size := by obtain ⟨m, hm⟩ := k0; exact DataW.trod_lt m _ _ _ hm
  obtain ⟨xs0, w0, b0⟩ := open_RB Tryd.underlying22 Tryd.underlying5 (by kernel_rfl) h0
  clear hA0 hval0
  refine (walk a0 n0 c0 xs0 W w0 b0 (t10 hL)).mono fun e W' ⟨he, bel⟩ => ?_
  subst he
  exact ⟨_, rfl, _, _, _, [], _, [], hW', trodAll_mk1 (shut_bool Tryd.underlying4 _), (trodAll_cons_mk (Below.trod laidOut (by kernel_rfl) (of_decide_eq_true (by kernel_rfl)) k0 bel lt0) trodAll_mk0), rfl, bel.frame _, fun h => by cases h⟩
theorem over : Rows.fnGroupsRow.holds Tryd.pinned (OpenSpec.ofChange Rows.fnGroupsSpec) :=
  OpenClaim.holds_of_wide 6 Tryd.f6 rfl rfl rfl rfl rfl rfl rfl ⟨rfl, rfl, rfl, rfl, rfl⟩ rfl rfl rfl rfl rfl (by kernel_rfl) Tryd.func6 (by kernel_rfl)
    (of_decide_eq_true (by kernel_rfl)) (by unfold Func.isWrapper; first | (rw [if_pos (by decide +kernel)]; kernel_rfl) | (rw [if_neg (by decide +kernel)]; exact ⟨rfl, rfl⟩))
    (fun os started H enc _ => lifted os started H enc)
/-- THE STATEMENT -/
theorem proved : Rows.FnGroupsCardSaid :=
  Claim7.holds_tied_plain_at .later [] [.data, .data, .data] true _ true
    over (fun _ h => by cases h) (by kernel_rfl) (fun _ h => by cases h) fnGroups_row_tie rfl ⟨rfl, rfl⟩ (by kernel_rfl) rfl
    (fun f fn hf hfn => by
      obtain rfl : f = 6 := Option.some.inj ((show Tryd.prog.funcNamed "loop.example/g01108/laws.FnGroups" = some 6 by kernel_rfl).symm.trans hf) |>.symm
      obtain rfl : fn = Tryd.f6 := (Option.some.inj (Tryd.func6.symm.trans hfn)).symm
      exact ⟨by kernel_rfl, fun j t ht => by
        rw [Tryd.params6] at ht
        have hm : t ∈ [22] := by simpa using Array.mem_of_getElem? ht
        have hall : ([22].all fun u => !Tryd.prog.wantsStandIn u) = true := by kernel_rfl
        exact (show Tryd.prog.wantsStandIn t = false by simpa using List.all_eq_true.1 hall t hm)⟩)
    (by kernel_rfl)
end Go.Proofs.YtcjnhiglfkcmiaaDoor.fnGroups
