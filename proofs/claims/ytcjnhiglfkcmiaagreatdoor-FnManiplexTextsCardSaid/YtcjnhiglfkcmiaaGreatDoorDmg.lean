/- Walks of the draws of texts. No condition but the sizes of memory. -/
import Derived.Test.YtcjnhiglfkcmiaaGreatDoorDrwZ
import Derived.Test.YtcjnhiglfkcmiaaGreatDoorLcgQ
import Derived.Test.YtcjnhiglfkcmiaaGreatDoorPmS
namespace Go.Proofs.YtcjnhiglfkcmiaaGreatDoor
open Go.RowKit
set_option linter.unusedVariables false
set_option maxRecDepth 100000
/-- what a damaged text is -/
structure DmgP (w w' : World) (lo g : Nat) (T : TypeId) (A : Option Addr) (n c : Nat) (bs : List Int) (i h : Nat) (L L' : List UInt8) (i' h' : Nat) : Prop where
  len : L'.length ≤ L.length + 1
  one : L = [] → L'.length = 1
  src : Src w' lo g T A n c bs i' h'
  rise : i < n → i < i'
  stay : i = n → i' = n ∧ h' = lcgN (if L = [] then 1 else 3) h
  chg : Chg g (g + 1) w w'
  size : w.heap.size ≤ w'.heap.size
theorem lit_cell (w : World) (T : TypeId) (vs : Array Value) {k : Nat} {v : Value} (h : vs[k]? = some v) : (w.alloc (.cells vs T)).cell? ⟨w.heap.size, k, none⟩ = some v := by
  rw [cell_of_row _ _ _ _ _ _ (heap_new w _ _ rfl), h]
theorem strB_cat (a b c : List UInt8) : strB a ++ strB b ++ strB c = strB (a ++ b ++ c) := by rw [strB_append, strB_append]
set_option maxHeartbeats 8000000 in
theorem l01Damage_any (w : World) (lo g : Nat) (A : Option Addr) (n c : Nat) (bs : List Int) (i h : Nat) (s : Src w lo g 53 A n c bs i h) (L : List UInt8) (hL : L.length ≤ 549755813888) :
    Calls Tryz.prog 22 #[.pointer (some ⟨g, 0, none⟩), .string (strB L)] w fun e w' => ∃ (L' : List UInt8) (i' h' : Nat), e = .returned (.string (strB L')) ∧ DmgP w w' lo g 53 A n c bs i h L L' i' h' := by
  have hgl := s.lt
  go_enter Tryz.func22, Tryz.ntmps22
  go_wp2_with fail
  obtain ⟨vs, hvs⟩ : ∃ vs : Array Value, vs = #[Value.string ⟨#[48]⟩, Value.string ⟨#[49]⟩, Value.string ⟨#[50]⟩, Value.string ⟨#[53]⟩, Value.string ⟨#[57]⟩, Value.string ⟨#[45]⟩, Value.string ⟨#[47]⟩, Value.string ⟨#[32]⟩, Value.string ⟨#[44]⟩, Value.string ⟨#[59]⟩, Value.string ⟨#[40]⟩, Value.string ⟨#[41]⟩, Value.string ⟨#[123]⟩, Value.string ⟨#[125]⟩, Value.string ⟨#[58]⟩, Value.string ⟨#[97]⟩, Value.string ⟨#[100]⟩, Value.string ⟨#[116]⟩, Value.string ⟨#[107]⟩, Value.string ⟨#[114]⟩, Value.string ⟨#[46]⟩, Value.string ⟨#[10]⟩] := ⟨_, rfl⟩
  have hone : ∀ k, k < 22 → ∃ p : UInt8, vs[k]? = some (.string (strB [p])) := by
    intro k hk
    subst hvs
    have : k = 0 ∨ k = 1 ∨ k = 2 ∨ k = 3 ∨ k = 4 ∨ k = 5 ∨ k = 6 ∨ k = 7 ∨ k = 8 ∨ k = 9 ∨ k = 10 ∨ k = 11 ∨ k = 12 ∨ k = 13 ∨ k = 14 ∨ k = 15 ∨ k = 16 ∨ k = 17 ∨ k = 18 ∨ k = 19 ∨ k = 20 ∨ k = 21 := by omega
    rcases this with rfl | rfl | rfl | rfl | rfl | rfl | rfl | rfl | rfl | rfl | rfl | rfl | rfl | rfl | rfl | rfl | rfl | rfl | rfl | rfl | rfl | rfl <;> exact ⟨_, rfl⟩
  rw [← hvs]
  have s1 : Src (w.alloc (.cells vs 9)) lo g 53 A n c bs i h := s.below ((Below.refl w.heap.size w).alloc (Nat.le_refl _) _) hgl
  have C1 : Chg g (g + 1) w (w.alloc (.cells vs 9)) := (Chg.refl _ _ _).alloc _
  have hlit := fun k v => lit_cell w 9 vs (k := k) (v := v)
  obtain ⟨W1, hW⟩ : ∃ W1 : World, w.alloc (.cells vs 9) = W1 := ⟨_, rfl⟩
  have hz1 : w.heap.size < W1.heap.size := by rw [← hW]; simp
  rw [hW] at s1 C1 hlit ⊢
  clear hW hvs
  have hn1 := next_any W1 lo g A n c bs i h s1 22 (by omega) (by omega)
  ((with_reducible refine hn1.mono ?_); rintro e w2 ⟨v, i2, rfl, P⟩)
  clear hn1
  have p1 := P.ge
  have p2 := P.lt
  obtain ⟨V, rfl⟩ := Int.eq_ofNat_of_zero_le p1
  obtain ⟨pc, hpc⟩ := hone V (by omega)
  have hcp : w2.cell? ⟨w.heap.size, V, none⟩ = some (.string (strB [pc])) := (World.cell?_of_block (w := W1) (a := ⟨w.heap.size, V, none⟩) (P.chg.block _ (by first | omega | (simp; omega)) (by first | omega | (simp; omega)))).trans (hlit V _ hpc)
  have s2 := P.src
  have C2 := C1.trans P.chg ⟨Nat.le_refl _, Nat.le_refl _⟩ ⟨Nat.le_refl _, Nat.le_refl _⟩
  have z2 := P.size
  have st2 := P.step
  have dn2 := P.done
  clear P hone hlit hpc
  by_cases hL0 : L = []
  · have d1 : ((L.length : Int) == 0) = true := by rw [hL0]; rfl
    replace hL0 := Lib.hid hL0
    go_wp2_with fail
    go_ret
    exact ⟨[pc], i2, lcg h, rfl, ⟨by simp, fun _ => rfl, s2, fun hh => by have := st2 hh; omega, fun hh => ⟨by have := (dn2 (by omega)).1; omega, by rw [if_pos hL0.out]; rfl⟩, C2, by omega⟩⟩
  · have d1 : ((L.length : Int) == 0) = false := by simpa using hL0
    have hL1 : 0 < L.length := List.length_pos_iff.2 hL0
    replace hL0 := Lib.hid hL0
    have hn2 := next_any w2 lo g A n c bs i2 _ s2 (L.length : Int) (by omega) (by omega)
    go_wp2_with fail
    ((with_reducible refine hn2.mono ?_); rintro e w3 ⟨q, i3, rfl, P⟩)
    clear hn2
    have q1 := P.ge
    have q2 := P.lt
    obtain ⟨Q, rfl⟩ := Int.eq_ofNat_of_zero_le q1
    have s3 := P.src
    have C3 := C2.trans P.chg ⟨Nat.le_refl _, Nat.le_refl _⟩ ⟨Nat.le_refl _, Nat.le_refl _⟩
    have z3 := P.size
    have st3 := P.step
    have dn3 := P.done
    clear P s2
    have hn3 := next_any w3 lo g A n c bs i3 _ s3 3 (by omega) (by omega)
    go_wp2_with fail
    ((with_reducible refine hn3.mono ?_); rintro e w4 ⟨o, i4, rfl, P⟩)
    clear hn3
    have o1 := P.ge
    have o2 := P.lt
    have s4 := P.src
    have C4 := C3.trans P.chg ⟨Nat.le_refl _, Nat.le_refl _⟩ ⟨Nat.le_refl _, Nat.le_refl _⟩
    have z4 := P.size
    have st4 := P.step
    have dn4 := P.done
    have sle2 := s3.le
    clear P s3
    have hQ : Q < L.length := by omega
    have hQ1 : IntKind.i64.wrap ((Q : Int) + 1) = (Q : Int) + 1 := by rw [IntKind.wrap_i64]; omega
    have ho : o = 0 ∨ o = 1 ∨ o = 2 := by omega
    have hri : i < n → i < i4 := fun hh => by
      have e2 := st2 hh
      by_cases h3 : i2 < n
      · have e3 := st3 h3
        by_cases h4 : i3 < n
        · have := st4 h4; omega
        · have := (dn4 h4).1; omega
      · have e3 := (dn3 h3).1
        have := (dn4 (by omega)).1
        omega
    have hst : i = n → i4 = n := fun hh => by
      have e2 := (dn2 (by omega)).1
      have e3 := (dn3 (by omega)).1
      have e4 := (dn4 (by omega)).1
      omega
    clear st2 st3 st4 dn2 dn3 dn4
    rcases ho with rfl | rfl | rfl
    · go_wp2_with fail
      go_quiet (fail)
      go_wp2_with fail
      go_ret
      refine ⟨(L.drop 0).take (Q - 0) ++ [pc] ++ (L.drop (Q + 1)).take (L.length - (Q + 1)), i4, lcg (lcg (lcg h)), ?_, ⟨?_, fun e => absurd e hL0.out, s4.drewN _, fun hh => ?_, fun hh => ?_, C4.drewN _, ?_⟩⟩
      · show Ending.returned (Value.string _) = _
        rw [strB_cut, strB_cut, strB_append, strB_append]
      · simp; omega
      · exact hri hh
      · exact ⟨hst hh, by rw [if_neg hL0.out]; rfl⟩
      · show _ ≤ w4.heap.size
        omega
    · go_wp2_with fail
      go_quiet (fail)
      go_wp2_with fail
      go_ret
      refine ⟨(L.drop 0).take (Q - 0) ++ (L.drop (Q + 1)).take (L.length - (Q + 1)), i4, lcg (lcg (lcg h)), ?_, ⟨?_, fun e => absurd e hL0.out, s4.drewN _, fun hh => ?_, fun hh => ?_, C4.drewN _, ?_⟩⟩
      · show Ending.returned (Value.string _) = _
        rw [strB_cut, strB_cut, strB_append]
      · simp; omega
      · exact hri hh
      · exact ⟨hst hh, by rw [if_neg hL0.out]; rfl⟩
      · show _ ≤ w4.heap.size
        omega
    · go_wp2_with fail
      go_quiet (fail)
      go_wp2_with fail
      go_ret
      refine ⟨(L.drop 0).take (Q - 0) ++ [pc] ++ (L.drop Q).take (L.length - Q), i4, lcg (lcg (lcg h)), ?_, ⟨?_, fun e => absurd e hL0.out, s4.drewN _, fun hh => ?_, fun hh => ?_, C4.drewN _, ?_⟩⟩
      · show Ending.returned (Value.string _) = _
        rw [strB_cut, strB_cut, strB_append, strB_append]
      · simp; omega
      · exact hri hh
      · exact ⟨hst hh, by rw [if_neg hL0.out]; rfl⟩
      · show _ ≤ w4.heap.size
        omega
end Go.Proofs.YtcjnhiglfkcmiaaGreatDoor
