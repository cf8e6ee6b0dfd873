/- Merged texts: what the statement wants besides (DrwU Face FaceS SecP Lw Sec FacX LabP FsQ FacQ SecX FaceX Lk5). No condition but those that each lemma names. -/
import Derived.Deep.RegionLaw
import Derived.Lib.SliceRun
import Derived.Test.YtdaljeghdiknpaaGd2
/- DrwU -/
namespace Go.Proofs.Ytdaljeghdiknpaa
open Go.RowKit
set_option linter.unusedVariables false
set_option maxRecDepth 100000
set_option maxHeartbeats 4000000 in
theorem ranks_any (w : World) (lo g : Nat) (A : Option Addr) (n c : Nat) (bs : List Int) (i h : Nat) (s : Src w lo g 122 A n c bs i h) (A1 : Option Addr) (m c1 : Nat) (hm6 : m ≤ 6) :
    Calls Try.prog 121 #[.pointer (some ⟨g, 0, none⟩), .agg #[.slice A1 m c1]] w fun e w' => ∃ (x y : Int) (i' h' : Nat), e = .returned (.tuple #[.int .i64 x, .int .i64 y]) ∧ IR64 x ∧ IR64 y ∧ Src w' lo g 122 A n c bs i' h' ∧ Chg g (g + 1) w w' := by
  have Ba : Below w.heap.size w (w.alloc (.cells #[.slice A1 m c1] 40)) := (Below.refl _ _).alloc (Nat.le_refl _) _
  have s1 := s.below Ba s.lt
  have C1 : Chg g (g + 1) w (w.alloc (.cells #[.slice A1 m c1] 40)) := Chg.of_below _ _ Ba
  have hn := nextz_any _ lo g A n c bs _ _ s1 (m : Int) (by omega)
  go_enter Try.func121, Try.ntmps121
  go_wp2_with fail
  ((with_reducible refine hn.mono ?_); rintro e w2 ⟨a, i2, h2, rfl, ha, s2, C2⟩)
  have ha6 : a ≤ 6 := by omega
  have C2' := C1.trans C2 ⟨Nat.le_refl _, Nat.le_refl _⟩ ⟨Nat.le_refl _, Nat.le_refl _⟩
  obtain ⟨d, hd⟩ : ∃ d, (m : Int) - (a : Int) = d := ⟨_, rfl⟩
  have hwd : IntKind.i64.wrap d = d := by rw [IntKind.wrap_i64]; omega
  have hn2 := nextz_any w2 lo g A n c bs _ _ s2 d (by omega)
  clear hn
  go_wp2_with fail
  ((with_reducible refine hn2.mono ?_); rintro e w3 ⟨q, i3, h3, rfl, hq, s3, C3⟩)
  have hq6 : q ≤ 6 := by omega
  have C3' := C2'.trans C3 ⟨Nat.le_refl _, Nat.le_refl _⟩ ⟨Nat.le_refl _, Nat.le_refl _⟩
  obtain ⟨k, hk⟩ : ∃ k : Nat, (a : Int) + (q : Int) = (k : Int) := ⟨a + q, by omega⟩
  have hn3 := next_any w3 lo g A n c bs _ _ s3 20 (by omega) (by omega)
  clear hn2 C1 C2 C3 C2' s1 s2
  go_wp2_with fail
  ((with_reducible refine hn3.mono ?_); rintro e w4 ⟨v, i4, rfl, P⟩)
  have s4 := P.src
  have C4 := C3'.trans P.chg ⟨Nat.le_refl _, Nat.le_refl _⟩ ⟨Nat.le_refl _, Nat.le_refl _⟩
  clear hn3 P C3'
  by_cases hv : v = 0
  · subst hv
    have L5 : RI (w4.alloc (.cells #[.int .i64 (-1), .int .i64 (k : Int), .int .i64 (a : Int), .int .i64 5] 2)) w4.heap.size (w4.heap.size + 1) (some ⟨w4.heap.size, 0, none⟩) 4 [-1, (k : Int), (a : Int), 5] := lit_rd w4 #[.int .i64 (-1), .int .i64 (k : Int), .int .i64 (a : Int), .int .i64 5] 2 (by simp)
    have Bb : Below w4.heap.size w4 (w4.alloc (.cells #[.int .i64 (-1), .int .i64 (k : Int), .int .i64 (a : Int), .int .i64 5] 2)) := (Below.refl _ _).alloc (Nat.le_refl _) _
    have hp := pick_any _ lo g A n c bs _ _ (s4.below Bb s4.lt) _ 4 4 _ L5 (.inr s4.lt) (by simp) (by omega) (by omega)
    go_wp2_with fail
    ((with_reducible refine hp.mono ?_); rintro e w5 ⟨k1, i5, h5, x, rfl, hx, s5, C5, z5⟩)
    have hx2 : IR64 x := by
      have := List.mem_of_getElem? hx
      simp only [List.mem_cons, List.not_mem_nil, or_false] at this
      unfold IR64
      omega
    have C5' := (C4.trans_below Bb).trans C5 ⟨Nat.le_refl _, Nat.le_refl _⟩ ⟨Nat.le_refl _, Nat.le_refl _⟩
    clear hp hx z5
    have L6 : RI (w5.alloc (.cells #[.int .i64 (m : Int), .int .i64 (a : Int), .int .i64 0] 2)) w5.heap.size (w5.heap.size + 1) (some ⟨w5.heap.size, 0, none⟩) 3 [(m : Int), (a : Int), 0] := lit_rd w5 #[.int .i64 (m : Int), .int .i64 (a : Int), .int .i64 0] 2 (by simp)
    have Bc : Below w5.heap.size w5 (w5.alloc (.cells #[.int .i64 (m : Int), .int .i64 (a : Int), .int .i64 0] 2)) := (Below.refl _ _).alloc (Nat.le_refl _) _
    have hp := pick_any _ lo g A n c bs _ _ (s5.below Bc s5.lt) _ 3 3 _ L6 (.inr s5.lt) (by simp) (by omega) (by omega)
    go_wp2_with fail
    ((with_reducible refine hp.mono ?_); rintro e w6 ⟨k2, i6, h6, y, rfl, hy, s6, C6, z6⟩)
    have hy2 : IR64 y := by
      have := List.mem_of_getElem? hy
      simp only [List.mem_cons, List.not_mem_nil, or_false] at this
      unfold IR64
      omega
    have C6' := (C5'.trans_below Bc).trans C6 ⟨Nat.le_refl _, Nat.le_refl _⟩ ⟨Nat.le_refl _, Nat.le_refl _⟩
    clear hp hy z6
    replace hx2 := Lib.hid hx2
    replace hy2 := Lib.hid hy2
    go_wp2_with fail
    go_ret2
    exact ⟨x, y, i6, h6, rfl, hx2.out, hy2.out, s6, C6'⟩
  · have dv : (v == 0) = false := by simpa using hv
    have hx2 : IR64 (a : Int) := by unfold IR64; omega
    have hy2 : IR64 (k : Int) := by unfold IR64; omega
    replace hx2 := Lib.hid hx2
    replace hy2 := Lib.hid hy2
    go_wp2_with fail
    go_ret2
    exact ⟨a, k, i4, _, rfl, hx2.out, hy2.out, s4, C4⟩
set_option maxHeartbeats 4000000 in
theorem drawSection_any (w : World) (A : Option Addr) (n c : Nat) (bs : List Int) (h : Rd w 0 w.heap.size A n (bs.map (Value.int .u8))) (hb : ∀ x ∈ bs, 0 ≤ x ∧ x < 256) (hn : n ≤ 1048576) :
    Calls Try.prog 59 #[.slice A n c] w fun e w' => ∃ (A1 : Option Addr) (m c1 : Nat) (f x y : Int), e = .returned (.tuple #[.agg #[.slice A1 m c1], .int .i64 f, .int .i64 x, .int .i64 y]) ∧ IR64 f ∧ IR64 x ∧ IR64 y ∧ DrwMP w w' A1 m c1 := by
  have B1 : Below w.heap.size w (w.alloc (.cells #[.slice none 0 0] 40)) := (Below.refl _ _).alloc (Nat.le_refl _) _
  have z1 : (w.alloc (.cells #[.slice none 0 0] 40)).heap.size = w.heap.size + 1 := by simp
  have hF := from_any (w.alloc (.cells #[.slice none 0 0] 40)) A n c bs ((h.keep (Same.of_below B1 (Nat.le_refl _))).more (Nat.le_refl _) (by simp)) hb hn
  have g1 : (w.alloc (.cells #[.slice none 0 0] 40)).heap[w.heap.size]? = some (.cells #[.slice none 0 0] 40 (0, 0)) := heap_new _ _ _ rfl
  rw [z1] at hF
  replace hb := Lib.hid hb
  go_enter Try.func59, Try.ntmps59
  go_wp2_with fail
  ((with_reducible refine hF.mono ?_); rintro e w3 ⟨H, rfl, s3, f3⟩)
  have z3 := s3.lt
  have g3 := (f3.block _ (by omega)).trans g1
  have B3 := B1.trans (f3.mono (by omega))
  have hS := l02Spoil_any w3 _ _ A n c bs _ _ s3 60 (by omega) (by omega)
  rw [show ((60 : Nat) : Int) = 60 from rfl] at hS
  clear hF g1 B1 f3
  go_wp2_with fail
  ((with_reducible refine hS.mono ?_); rintro e w4 ⟨A1, m, c1, rfl, D⟩)
  obtain ⟨xss, S⟩ := DxS.start (by omega) (by omega) g3 B3 D
  clear hS D
  go_wp2_with fail
  obtain ⟨b, hb⟩ : ∃ b, w4.heap.size = b := ⟨_, rfl⟩
  obtain ⟨w5, hw5⟩ : ∃ w5, w4.alloc (.cells #[.slice A1 m c1] 40) = w5 := ⟨_, rfl⟩
  rw [hw5] at S ⊢
  rw [hb] at S ⊢
  clear hw5 hb s3
  obtain ⟨i5, h5, s5⟩ := S.src
  have D5 := S.cellM
  have hm6 := S.lens.1
  have hr := ranks_any w5 _ _ A n c bs _ _ s5 A1 m c1 hm6
  go_wp2_with fail
  ((with_reducible refine hr.mono ?_); rintro e w6 ⟨x, y, i6, h6, rfl, hx, hy, s6, C6⟩)
  have S6 := S.step s6 C6
  have D4 := S6.cellM
  have S6d : DxS w _ _ b 122 40 A n c bs w6.drew A1 m c1 xss := S6.below (below_drw (Below.refl _ _))
  obtain ⟨i6', h6', s6'⟩ := S6d.src
  clear hr S S6 s5 s6 C6 D5
  replace S6d := Lib.hid S6d
  replace hx := Lib.hid hx
  replace hy := Lib.hid hy
  go_wp2_with fail
  go_region_law? (refine step_call rfl 89 #[.pointer (some ⟨w.heap.size + 1, 0, none⟩), .agg #[.slice A1 m c1]] (by go_simp) (flag2_any w6.drew _ _ A n c bs _ _ s6' A1 m c1 xss S6d.out.rs (by have := S6d.out.size; omega) S6d.out.lens.2) ?_; rintro e w7 ⟨f, i7, h7, rfl, hf, s7, C7⟩; refine ⟨_, rfl, ?_⟩; have S7 := S6d.out.step s7 C7; have E7 := S7.cellM; have D7 := S7.cell0; have F7 := S7.frz0; replace S7 := Lib.hid S7; replace hf := Lib.hid hf)
  all_goals
    have g9 := heap_setCell_same _ _ 0 _ _ (Value.slice A1 m c1) S7.out.g0
    replace g9 := Lib.hid g9
    go_wp2_with fail
    (try simp only [Exit.inBlock, Exit.then])
    refine bodyPost_ret (v := .tuple #[.agg #[.slice A1 m c1], .int .i64 f, .int .i64 x, .int .i64 y]) ?_ rfl ?_
    · exact results_cell_row4 rfl _ _ w.heap.size 40 #[.slice A1 m c1] (0, 0) _ rfl (by simpa using g9.out) Try.underlying40 rfl (by kernel_rfl) _ _ _ rfl rfl rfl
    · exact ⟨_, _, _, f, x, y, rfl, hf.out, hx.out, hy.out, S7.out.ret _⟩
set_option maxHeartbeats 4000000 in
theorem number_any (w : World) (A : Option Addr) (n c : Nat) (bs : List Int) (h : Rd w 0 w.heap.size A n (bs.map (Value.int .u8))) (hb : ∀ x ∈ bs, 0 ≤ x ∧ x < 256) (hn : n ≤ 1048576) :
    Calls Try.prog 107 #[.slice A n c] w fun e w' => ∃ (A1 : Option Addr) (m c1 : Nat) (x y : Int), e = .returned (.tuple #[.agg #[.slice A1 m c1], .int .i64 x, .int .i64 y]) ∧ IR64 x ∧ IR64 y ∧ DrwMP w w' A1 m c1 := by
  have B1 : Below w.heap.size w (w.alloc (.cells #[.slice none 0 0] 40)) := (Below.refl _ _).alloc (Nat.le_refl _) _
  have z1 : (w.alloc (.cells #[.slice none 0 0] 40)).heap.size = w.heap.size + 1 := by simp
  have hF := from_any (w.alloc (.cells #[.slice none 0 0] 40)) A n c bs ((h.keep (Same.of_below B1 (Nat.le_refl _))).more (Nat.le_refl _) (by simp)) hb hn
  have g1 : (w.alloc (.cells #[.slice none 0 0] 40)).heap[w.heap.size]? = some (.cells #[.slice none 0 0] 40 (0, 0)) := heap_new _ _ _ rfl
  rw [z1] at hF
  replace hb := Lib.hid hb
  go_enter Try.func107, Try.ntmps107
  go_wp2_with fail
  ((with_reducible refine hF.mono ?_); rintro e w3 ⟨H, rfl, s3, f3⟩)
  have z3 := s3.lt
  have g3 := (f3.block _ (by omega)).trans g1
  have B3 := B1.trans (f3.mono (by omega))
  have hS := l02Spoil_any w3 _ _ A n c bs _ _ s3 60 (by omega) (by omega)
  rw [show ((60 : Nat) : Int) = 60 from rfl] at hS
  clear hF g1 B1 f3
  go_wp2_with fail
  ((with_reducible refine hS.mono ?_); rintro e w4 ⟨A1, m, c1, rfl, D⟩)
  obtain ⟨xss, S⟩ := DxS.start (by omega) (by omega) g3 B3 D
  clear hS D
  go_wp2_with fail
  obtain ⟨b, hb⟩ : ∃ b, w4.heap.size = b := ⟨_, rfl⟩
  obtain ⟨w5, hw5⟩ : ∃ w5, w4.alloc (.cells #[.slice A1 m c1] 40) = w5 := ⟨_, rfl⟩
  rw [hw5] at S ⊢
  rw [hb] at S ⊢
  clear hw5 hb s3
  obtain ⟨i5, h5, s5⟩ := S.src
  have D5 := S.cellM
  have hm6 := S.lens.1
  have hn5 := nextz_any w5 _ _ A n c bs _ _ s5 (m : Int) (by omega)
  go_wp2_with fail
  ((with_reducible refine hn5.mono ?_); rintro e w6 ⟨a, i6, h6, rfl, ha, s6, C6⟩)
  have ha6 : a ≤ 6 := by omega
  have S6 := S.step s6 C6
  have hn6 := next_any w6 _ _ A n c bs _ _ s6 20 (by omega) (by omega)
  clear hn5 S s5 C6 D5
  go_wp2_with fail
  ((with_reducible refine hn6.mono ?_); rintro e w7 ⟨v, i7, rfl, P⟩)
  have S7 := S6.step P.src P.chg
  clear hn6 P s6 S6
  obtain ⟨i7', h7, s7⟩ := S7.src
  have D7 := S7.cellM
  go_upto_if 19 with fail
  go_cut [7] from 8 to 25 (fun v7 wx => ∃ x : Int, v7 = .int .i64 x ∧ IR64 x ∧ DxS w (w.heap.size + 1) (w.heap.size + 1) b 122 40 A n c bs wx A1 m c1 xss)
  case first =>
    by_cases hv : v = 0
    · subst hv
      have L8 : RI (w7.alloc (.cells #[.int .i64 (-1), .int .i64 5, .int .i64 (m : Int)] 2)) w7.heap.size (w7.heap.size + 1) (some ⟨w7.heap.size, 0, none⟩) 3 [-1, 5, (m : Int)] := lit_rd w7 #[.int .i64 (-1), .int .i64 5, .int .i64 (m : Int)] 2 (by simp)
      have Bb : Below w7.heap.size w7 (w7.alloc (.cells #[.int .i64 (-1), .int .i64 5, .int .i64 (m : Int)] 2)) := (Below.refl _ _).alloc (Nat.le_refl _) _
      have hp := pick_any _ _ _ A n c bs _ _ (s7.below Bb s7.lt) _ 3 3 _ L8 (.inr s7.lt) (by simp) (by omega) (by omega)
      have S8 := S7.below Bb
      replace S7 := Lib.hid S7
      replace S8 := Lib.hid S8
      go_wp2_with fail
      ((with_reducible refine hp.mono ?_); rintro e w8 ⟨k1, i8, h8, x, rfl, hx, s8, C8, z8⟩)
      have hx2 : IR64 x := by
        have := List.mem_of_getElem? hx
        simp only [List.mem_cons, List.not_mem_nil, or_false] at this
        unfold IR64
        omega
      have S9 := S8.out.step s8 C8
      replace S9 := Lib.hid S9
      replace hx2 := Lib.hid hx2
      clear hp hx z8
      go_wp2_with fail
      go_meet
      exact ⟨x, rfl, hx2.out, S9.out⟩
    · have dv : (v == 0) = false := by simpa using hv
      have hx2 : IR64 (a : Int) := by unfold IR64; omega
      replace S7 := Lib.hid S7
      replace hx2 := Lib.hid hx2
      go_wp2_with fail
      go_meet
      exact ⟨a, rfl, hx2.out, S7.out⟩
  case rest =>
    obtain ⟨x, rfl, hx, S⟩ := hcut
    clear S7 s7 D7
    obtain ⟨i5, h5, s5⟩ := S.src
    have hsz := S.size
    have hgb := S.hb
    have D5 := S.cellM
    have Ba : Below wc.heap.size wc (wc.alloc (.cells #[.int .i64 0, .int .i64 1, .int .i64 3, .int .i64 5] 2)) := (Below.refl _ _).alloc (Nat.le_refl _) _
    have D5a := (S.below Ba).cellM
    have hPk : ∀ wq : World, Below wc.heap.size wc wq → wq.heap[wc.heap.size]? = some (.cells #[.int .i64 0, .int .i64 1, .int .i64 3, .int .i64 5] 2 (0, 0)) → Calls Try.prog 81 #[.pointer (some ⟨w.heap.size + 1, 0, none⟩), .slice (some ⟨wc.heap.size, 0, none⟩) 4 4] wq fun e w' => ∃ (y : Int) (i' h' : Nat), e = .returned (.int .i64 y) ∧ 0 ≤ y ∧ y ≤ 5 ∧ Src w' (w.heap.size + 1) (w.heap.size + 1) 122 A n c bs i' h' ∧ DxS w (w.heap.size + 1) (w.heap.size + 1) b 122 40 A n c bs w' A1 m c1 xss := fun wq hq hz => by
      refine (pick_any wq _ _ A n c bs _ _ (s5.below hq s5.lt) (some ⟨wc.heap.size, 0, none⟩) 4 4 [0, 1, 3, 5] (lo1 := wc.heap.size) (hi1 := wc.heap.size + 1) (Own.ri (T := 2) (c := 4) ⟨blk_own (vs := [.int .i64 0, .int .i64 1, .int .i64 3, .int .i64 5]) hz rfl (Nat.le_refl _) (by simp only [maxLen]; omega), fun a e => by injection e with e; subst e; simp⟩) (.inr (by omega)) (Array.getElem?_eq_some_iff.1 hz).1 (by omega) (by omega)).mono ?_
      rintro e w' ⟨v, i', h', y, rfl, hy, s', C, _⟩
      have hy := List.mem_of_getElem? hy
      simp only [List.mem_cons, List.not_mem_nil, or_false] at hy
      exact ⟨y, i', h', rfl, by omega, by omega, s', (S.below hq).step s' C⟩
    have S0 := S
    replace hPk := Lib.hid hPk
    replace S := Lib.hid S
    replace S0 := Lib.hid S0
    replace hx := Lib.hid hx
    clear Ba
    go_wp2_with fail
    go_region_law? (first
      | (refine step_call rfl 81 #[.pointer (some ⟨w.heap.size + 1, 0, none⟩), .slice (some ⟨wc.heap.size, 0, none⟩) 4 4] (by go_simp) (hPk.out _ (by first | exact below_drw ((Below.refl _ _).alloc (Nat.le_refl _) _) | exact (below_drw (Below.refl _ _)).alloc (Nat.le_refl _) _) (by first | exact heap_new _ _ _ rfl | exact heap_new wc _ _ rfl)) ?_; rintro e w6 ⟨y, i6, h6, rfl, hy0, hy5, s6, S6⟩; refine ⟨_, rfl, ?_⟩; have E6 := S6.cellM; replace S6 := Lib.hid S6)
      | (refine step_call rfl 143 #[.pointer (some ⟨w.heap.size + 1, 0, none⟩), .int .i64 y] (by go_simp) (count_any w6 _ _ A n c bs _ _ s6 y (by omega) (by omega)) ?_; rintro e w7 ⟨z, i7, h7, rfl, hz, s7, C7⟩; refine ⟨_, rfl, ?_⟩; have S7 := S6.out.step s7 C7; have E7 := S7.cellM; have D7 := S7.cell0; have F7 := S7.frz0; replace S7 := Lib.hid S7; replace hz := Lib.hid hz))
    all_goals
      have g9 := heap_setCell_same _ _ 0 _ _ (Value.slice A1 m c1) S7.out.g0
      replace g9 := Lib.hid g9
      go_wp2_with fail
      (try simp only [Exit.inBlock, Exit.then])
      refine bodyPost_ret (v := .tuple #[.agg #[.slice A1 m c1], .int .i64 x, .int .i64 z]) ?_ rfl ?_
      · exact results_cell_row3 rfl _ _ w.heap.size 40 #[.slice A1 m c1] (0, 0) _ rfl (by simpa using g9.out) Try.underlying40 rfl (by kernel_rfl) _ _ rfl rfl
      · exact ⟨_, _, _, x, z, rfl, hx.out, hz.out, S7.out.ret _⟩
set_option maxHeartbeats 4000000 in
theorem drawFace_any (w : World) (A : Option Addr) (n c : Nat) (bs : List Int) (h : Rd w 0 w.heap.size A n (bs.map (Value.int .u8))) (hb : ∀ x ∈ bs, 0 ≤ x ∧ x < 256) (hn : n ≤ 1048576) :
    Calls Try.prog 44 #[.slice A n c] w fun e w' => ∃ (A1 : Option Addr) (m c1 : Nat) (x y : Int), e = .returned (.tuple #[.agg #[.slice A1 m c1], .int .i64 x, .int .i64 y]) ∧ IR64 x ∧ IR64 y ∧ DrwMP w w' A1 m c1 := by
  have B1 : Below w.heap.size w (w.alloc (.cells #[.slice none 0 0] 40)) := (Below.refl _ _).alloc (Nat.le_refl _) _
  have z1 : (w.alloc (.cells #[.slice none 0 0] 40)).heap.size = w.heap.size + 1 := by simp
  have hF := number_any (w.alloc (.cells #[.slice none 0 0] 40)) A n c bs ((h.keep (Same.of_below B1 (Nat.le_refl _))).more (Nat.le_refl _) (by simp)) hb hn
  have g1 : (w.alloc (.cells #[.slice none 0 0] 40)).heap[w.heap.size]? = some (.cells #[.slice none 0 0] 40 (0, 0)) := heap_new _ _ _ rfl
  replace hb := Lib.hid hb
  go_enter Try.func44, Try.ntmps44
  go_wp2_with fail
  ((with_reducible refine hF.mono ?_); rintro e w2 ⟨A1, m, c1, x, y, rfl, hx, hy, xss, hR, hmc, f2⟩)
  have z2 := f2.size
  rw [z1] at z2 hR
  have g2 := (f2.block _ (by simp)).trans g1
  have B2 := B1.trans (f2.mono (by simp))
  clear hF g1
  have Ba : Below w2.heap.size w2 (w2.alloc (.cells #[.slice A1 m c1] 40)) := (Below.refl _ _).alloc (Nat.le_refl _) _
  have g3 := (Ba.block _ (by omega)).trans g2
  have D0 : (w2.alloc (.cells #[.slice A1 m c1] 40)).cell? ⟨w.heap.size, 0, none⟩ = some (.slice none 0 0) := by rw [cell_of_row _ _ _ _ _ _ g3]; rfl
  have F0 : (w2.alloc (.cells #[.slice A1 m c1] 40)).frozen? ⟨w.heap.size, 0, none⟩ = false := frozen_of_row _ _ _ _ _ g3
  have g9 := heap_setCell_same _ _ 0 _ _ (Value.slice A1 m c1) g3
  have hfin : DrwMP w ((w2.alloc (.cells #[.slice A1 m c1] 40)).setCell ⟨w.heap.size, 0, none⟩ (.slice A1 m c1)) A1 m c1 :=
    ⟨xss, ((hR.below Ba (Nat.le_refl _)).same (same_set _ _ _ _ _ (.inl (by simp)))).more (by omega) (by simp), hmc, (B2.trans (Ba.mono (by omega))).setCell (by simp) _⟩
  replace g9 := Lib.hid g9
  replace hfin := Lib.hid hfin
  replace hx := Lib.hid hx
  replace hy := Lib.hid hy
  clear hR
  go_wp2_with fail
  (try simp only [Exit.inBlock, Exit.then])
  refine bodyPost_ret (v := .tuple #[.agg #[.slice A1 m c1], .int .i64 x, .int .i64 y]) ?_ rfl ?_
  · exact results_cell_row3 rfl _ _ w.heap.size 40 #[.slice A1 m c1] (0, 0) _ rfl (by simpa using g9.out) Try.underlying40 rfl (by kernel_rfl) _ _ rfl rfl
  · exact ⟨_, _, _, x, y, rfl, hx.out, hy.out, hfin.out⟩
end Go.Proofs.Ytdaljeghdiknpaa
/- Face -/
namespace Go.Proofs.Ytdaljeghdiknpaa
open Go.RowKit
set_option linter.unusedVariables false
set_option maxRecDepth 100000
theorem sysOf_erase {xss : List (List Int)} {n : Nat} (h : SysOf xss n) (i : Nat) : SysOf (xss.eraseIdx i) n := fun p hp => h p (List.mem_of_mem_eraseIdx hp)
theorem rowsAt_erase {w : World} {lo hi : Nat} {vs : List Value} {xss : List (List Int)} (h : RowsAt w lo hi vs xss) (i : Nat) : RowsAt w lo hi (vs.eraseIdx i) (xss.eraseIdx i) := by
  refine ⟨by rw [List.length_eraseIdx, List.length_eraseIdx, h.1], fun k v xs h1 h2 => ?_⟩
  rw [List.getElem?_eraseIdx] at h1 h2
  by_cases hk : k < i
  · rw [if_pos hk] at h1 h2; exact h.2 k v xs h1 h2
  · rw [if_neg hk] at h1 h2; exact h.2 (k + 1) v xs h1 h2
theorem rowsAt_one {w : World} {lo hi : Nat} {vs : List Value} {xss : List (List Int)} (h : RowsAt w lo hi vs xss) : ∀ v ∈ vs, v.oneCell' = true := by
  intro v hv
  obtain ⟨k, hk⟩ := List.mem_iff_getElem?.1 hv
  have hlt := (List.getElem?_eq_some_iff.1 hk).1
  obtain ⟨A, n, c, rfl, _⟩ := h.2 k v _ hk (List.getElem?_eq_getElem (by have := h.1; omega))
  rfl
theorem rowsAt_snoc {w : World} {lo hi n c : Nat} {A : Option Addr} {vs : List Value} {xss : List (List Int)} {xs : List Int} (h : RowsAt w lo hi vs xss) (hr : RI w lo hi A n xs) : RowsAt w lo hi (vs ++ [.slice A n c]) (xss ++ [xs]) := by
  refine ⟨by simp [h.1], fun k v ys h1 h2 => ?_⟩
  by_cases hk : k < vs.length
  · rw [List.getElem?_append_left hk] at h1
    rw [List.getElem?_append_left (by have := h.1; omega)] at h2
    exact h.2 k v ys h1 h2
  · have hk2 := (List.getElem?_eq_some_iff.1 h1).1
    simp at hk2
    have e : k = vs.length := by omega
    subst e
    rw [List.getElem?_append_right (Nat.le_refl _)] at h1
    rw [List.getElem?_append_right (by have := h.1; omega)] at h2
    have hl := h.1
    simp at h1
    simp [hl] at h2
    subst h1; subst h2
    exact ⟨A, n, c, rfl, hr⟩
theorem below_cells {B b : Nat} {a : World} (hb : B ≤ b) : ∀ (vs : List Value) (o : Nat) (w : World), Below B a w → Below B a (w.setCells b o vs) := by
  intro vs
  induction vs with
  | nil => intro o w h; exact h
  | cons v t ih => intro o w h; exact ih _ _ (h.setCell (p := ⟨b, o, none⟩) hb v)
theorem cloneSS_any (A : Option Addr) (n c : Nat) (vs : List Value) (w : World) {lo hi : Nat} (h : Rd w lo hi A n vs) (hhi : hi ≤ w.heap.size) (h1 : ∀ v ∈ vs, v.oneCell' = true) (hn : 0 < n) (hn2 : n ≤ 1048576) :
    Calls Try.prog 161 #[.slice A n c] w fun e w' => ∃ (A1 : Option Addr) (c1 : Nat), e = .returned (.slice A1 n c1) ∧ Own w' w.heap.size w'.heap.size 27 A1 n c1 vs ∧ Below w.heap.size w w' := by
  obtain ⟨s0, hs0, hu0, hu1, hu2⟩ := info_parts infoS
  obtain ⟨b, o, v0, rfl, _, _, _, _⟩ := h.at_ hn
  have h0 := World.ownsRow_lit (e := 27) (base := w.heap.size) (size := 1) w #[] 0 (Nat.le_refl _) (by omega) rfl
  have hr := h.keep (same_alloc w (.cells #[] 27) lo hi hhi)
  have heq : ∀ w' : World, (binOp .eql 24 (.slice (some ⟨b, o, none⟩) n c) (.slice none 0 0)).run Try.prog w' = .ok (.bool false) w' := fun w' => Lib.run_eql_slice_nil w' _ _ _ _ _ _ _ Try.underlying24
  replace h1 := Lib.hid h1
  go_enter Try.func161, Try.ntmps161
  go_wp2_with (at_builtin; refine wpList_appendL (w.alloc (.cells #[] 27)) rfl (.tmp 5) (.tmp 6) 24 rfl w.heap.size 27 s0 (.slice none 0 0) 24 Try.underlying24 hs0 hu0 hu1 hu2 rfl (by omega) _ 0 0 [] rfl h0 _ n c vs lo hi rfl hr h1.out (by omega) (by simp) ?_)
  intro A2 c2 w2 ho hg hor
  have hb : Below w.heap.size w w2 := ((Below.refl _ _).alloc (Nat.le_refl _) _).grown hg (by simp) (fun q hq => by have := (h0.lt q hq).1; omega)
  go_wp2_with fail
  go_ret
  exact ⟨A2, c2, rfl, Own.of_row ho, hb⟩
theorem zeroS (w : World) : (zeroValue 27).run Try.prog w = .ok (.slice none 0 0) w := Try.zeroValue27 w
set_option maxHeartbeats 4000000 in
theorem deleteSS_any (g n c i j : Nat) (hij : j = i + 1) (vs : List Value) (w : World) {lo hi : Nat} (ho : Own w lo hi 27 (some ⟨g, 0, none⟩) n c vs) (h1 : ∀ v ∈ vs, v.oneCell' = true) (hi0 : i < n) (hn2 : n ≤ 1048576) :
    Calls Try.prog 160 #[.slice (some ⟨g, 0, none⟩) n c, .int .i64 i, .int .i64 j] w fun e w' => e = .returned (.slice (some ⟨g, 0, none⟩) (n - 1) c) ∧ Rd w' lo hi (some ⟨g, 0, none⟩) (n - 1) (vs.eraseIdx i) ∧ Below lo w w' := by
  obtain ⟨s0, hs0, hu0, hu1, hu2⟩ := info_parts infoS
  have hcap := ho.cap
  have hvl := ho.len
  have hlo : lo ≤ g ∧ g < hi ∧ g < w.heap.size := by
    obtain ⟨b, v, e, q1, q2, q3, _⟩ := ho.at_ hi0
    injection e with e; injection e with e _ _; subst e
    exact ⟨q1, q2, q3⟩
  have hcm : c ≤ 9223372036854775807 := by
    rcases ho.1.2 with ⟨hv, _⟩ | ⟨g', cap, cur, hv, _, _, _, hcm, _⟩
    · cases hv
    · injection hv with _ _ e3
      subst e3
      simp only [maxLen] at hcm
      omega
  have hcell : ∀ k, k < n → w.cell? ⟨g, k, none⟩ = vs[k]? := fun k hk => ho.1.cellAt k (by omega)
  have hfrz : ∀ k, w.frozen? ⟨g, k, none⟩ = false := fun k => ho.frz k
  obtain ⟨k, rfl⟩ : ∃ k, n = j + k := ⟨n - j, by omega⟩
  obtain ⟨news, hnews⟩ : ∃ news, news = vs.drop j := ⟨_, rfl⟩
  have hlen : news.length = k := by rw [hnews]; simp; omega
  have hget : ∀ t, t < k → news[t]? = vs[j + t]? := by intro t ht; rw [hnews, List.getElem?_drop]
  obtain ⟨A, hA, hsrc⟩ : ∃ A : Addr, (if c = j then some (⟨g, 0, none⟩ : Addr) else some ⟨g, j, none⟩) = some A ∧ Hid (∀ t u, news[t]? = some u → w.drew.cell? (A.add t) = some u) := by
    by_cases h : c = j
    · refine ⟨⟨g, 0, none⟩, by simp [h], Lib.hid fun t u hu => ?_⟩
      have h0 : news.length = 0 := by rw [hlen]; omega
      rw [List.length_eq_zero_iff.1 h0] at hu
      simp at hu
    · refine ⟨⟨g, j, none⟩, by simp [h], Lib.hid fun t u hu => ?_⟩
      have ht : t < k := by have := (List.getElem?_eq_some_iff.1 hu).1; omega
      rw [hget t ht] at hu
      rw [Addr.add_lit]
      exact (hcell (j + t) (by omega)).trans hu
  have s1 : Hid (news.length = k * 1) := Lib.hid (by rw [Nat.mul_one]; exact hlen)
  have s2 : Hid (∀ u ∈ news, u.oneCell' = true) := Lib.hid (by intro u hu; rw [hnews] at hu; exact h1 u (List.mem_of_mem_drop hu))
  have hsome : ∀ t, t < j + k → (w.cell? ⟨g, t, none⟩).isSome = true := fun t ht => by rw [hcell t ht, List.getElem?_eq_getElem (by omega)]; rfl
  have s3 : Hid (∀ t, t < news.length → (w.drew.cell? ⟨g, 0 + i * 1 + t, none⟩).isSome = true ∧ w.drew.frozen? ⟨g, 0 + i * 1 + t, none⟩ = false) := Lib.hid (by
    intro t ht
    rw [hlen] at ht
    rw [Nat.mul_one, Nat.zero_add]
    exact ⟨hsome (i + t) (by omega), hfrz _⟩)
  obtain ⟨W1, hW1⟩ : ∃ W1, W1 = w.drew.setCells g (0 + i * 1) news := ⟨_, rfl⟩
  have hW : Hid (W1 = w.drew.setCells g (0 + i * 1) news) := Lib.hid hW1
  have hsome1 : ∀ t, t < j + k → (W1.cell? ⟨g, t, none⟩).isSome = true := fun t ht => by rw [hW1]; exact World.isSome_setCells g news (0 + i * 1) w.drew ⟨g, t, none⟩ (hsome t ht)
  have hfrz1 : ∀ t, W1.frozen? ⟨g, t, none⟩ = false := fun t => by rw [hW1, World.frozen?_setCells]; exact hfrz t
  have hcl : ∀ ty, (Builtin.clear_ #[24] ty #[.slice (some ⟨g, i + k, none⟩) 1 (c - (i + k))]).run Try.prog W1 = .ok (.tuple #[]) (W1.setCells g (i + k) (List.replicate 1 (.slice none 0 0))) :=
    fun ty => Lib.run_clear_slice W1 _ _ ty _ Try.underlying24 zeroS rfl rfl g (i + k) _ _ (by omega) (fun t ht => hsome1 (i + k + t) (by omega)) (fun t ht => hfrz1 (i + k + t))
  have hfin : ∀ t, t < i + k → (W1.setCells g (i + k) [.slice none 0 0]).cell? ⟨g, t, none⟩ = (vs.eraseIdx i)[t]? := by
    intro t ht
    rw [World.cell?_setCells_out g _ _ _ _ (fun _ _ => .inl (by simpa using ht)), List.getElem?_eraseIdx, hW1]
    by_cases hti : t < i
    · rw [if_pos hti, World.cell?_setCells_out g _ _ _ _ (fun _ _ => .inl (by simp; omega))]
      exact hcell t (by omega)
    · rw [if_neg hti]
      obtain ⟨s, rfl⟩ : ∃ s, t = i + s := ⟨t - i, by omega⟩
      have hin := World.cell?_setCells_in g news (0 + i * 1) w.drew (fun q hq => by rw [Nat.mul_one, Nat.zero_add]; exact hsome (i + q) (by omega)) s (by omega)
      rw [Nat.mul_one, Nat.zero_add] at hin ⊢
      rw [hin]
      have h2 := hget s (by omega)
      rw [List.getElem?_eq_getElem (by omega)] at h2
      rw [h2, hij]
      congr 1
      omega
  have hbel : Below lo w (W1.setCells g (i + k) [.slice none 0 0]) := by
    rw [hW1]
    exact below_cells hlo.1 _ _ _ (below_cells hlo.1 _ _ _ (below_drew (Below.refl lo w)))
  have hrd : Rd (W1.setCells g (i + k) [.slice none 0 0]) lo hi (some ⟨g, 0, none⟩) (i + k) (vs.eraseIdx i) := by
    refine ⟨by rw [List.length_eraseIdx, if_pos (by omega)]; omega, by omega, fun _ => ⟨g, 0, rfl, hlo.1, hlo.2.1, fun t v hv => ?_⟩⟩
    have ht := (List.getElem?_eq_some_iff.1 hv).1
    rw [List.length_eraseIdx, if_pos (by omega)] at ht
    rw [Nat.zero_add, hfin t (by omega)]
    exact hv
  replace hfin := Lib.hid hfin
  replace hbel := Lib.hid hbel
  replace hrd := Lib.hid hrd
  have hijl : i ≤ j := by omega
  have hjkI : (j : Int) ≤ (j : Int) + (k : Int) := by omega
  have hikI : (i : Int) + (k : Int) ≤ (j : Int) + (k : Int) := by omega
  have hijk : j + k - (i + k) = 1 := by omega
  have hij2 : ¬ (i = j) := by omega
  have hjn : j ≤ j + k := by omega
  replace hij := Lib.hid hij
  have hic : i ≤ c := by omega
  have hjc : j ≤ c := by omega
  clear hW1 hget hnews hlen hsome hsome1 hcell hfrz hfrz1
  go_enter Try.func160, Try.ntmps160
  go_wp2_with fail
  go_region_law (refine step_append_room rfl (.tmp 22) (.tmp 25) 24 rfl 27 s0 1 Try.underlying24 hs0 hu1 g 0 i c (by simp [Act.eval, Act.put]) A k (c - j) news (by simp [Act.eval, Act.put]) s1.out hsrc.out s2.out (by omega) s3.out ?_; rw [← hW.out])
  go_wp2_with fail
  go_ret
  have e : j + k - 1 = i + k := by have := hij.out; omega
  rw [e]
  exact ⟨rfl, hrd.out, hbel.out⟩
theorem without_any (b : Nat) (A : Option Addr) (n c i : Nat) (xss : List (List Int)) (w : World) (hc : w.cell? ⟨b, 0, none⟩ = some (.slice A n c)) {lo hi : Nat} (h : RS w lo hi A n xss) (hhi : hi ≤ w.heap.size) (hi0 : i < n) (hn2 : n ≤ 1048576) :
    Calls Try.prog 142 #[.pointer (some ⟨b, 0, none⟩), .int .i64 i] w fun e w' => ∃ (A1 : Option Addr) (c1 : Nat), e = .returned (.slice A1 (n - 1) c1) ∧ RS w' 0 w'.heap.size A1 (n - 1) (xss.eraseIdx i) ∧ Below w.heap.size w w' := by
  obtain ⟨vs, hrd, hrw⟩ := h
  have h1 := rowsAt_one hrw
  have hcl := cloneSS_any A n c vs w hrd hhi h1 (by omega) hn2
  replace h1 := Lib.hid h1
  go_enter Try.func142, Try.ntmps142
  go_wp2_with fail
  ((with_reducible refine hcl.mono ?_); rintro e w2 ⟨A2, c2, rfl, o2, f2⟩)
  obtain ⟨g, v0, rfl, _, _, _, _⟩ := o2.at_ (k := 0) (by omega)
  have hd := deleteSS_any g n c2 i (i + 1) rfl vs w2 o2 h1.out hi0 hn2
  rw [show (((i + 1 : Nat)) : Int) = (i : Int) + 1 from by omega] at hd
  clear hcl
  go_wp2_with fail
  ((with_reducible refine hd.mono ?_); rintro e w3 ⟨rfl, r3, f3⟩)
  have y2 := f2.size
  have y3 := f3.size
  have B3 : Below w.heap.size w w3 := f2.trans f3
  clear hd
  go_wp2_with fail
  go_ret
  exact ⟨_, c2, rfl, ⟨vs.eraseIdx i, r3.more (by omega) y3, rowsAt_erase ((hrw.keep (Same.of_below B3 hhi)).more (by omega) (by omega)) i⟩, B3⟩
theorem faces_any (b : Nat) (A : Option Addr) (n c i : Nat) (xss : List (List Int)) (w : World) (hc : w.cell? ⟨b, 0, none⟩ = some (.slice A n c)) {lo hi : Nat} (h : RS w lo hi A n xss) (hhi : hi ≤ w.heap.size) (hi0 : i < n) (hn2 : n ≤ 1048576) (N : Nat) (hN : flg xss = N) (h4 : N ≤ 400) (hs : SysOf xss N) :
    Calls Try.prog 85 #[.pointer (some ⟨b, 0, none⟩), .int .i64 i] w fun e w' => ∃ A1, e = .returned (.tuple #[.slice A1 N N, .int .i64 (cntR (xss.eraseIdx i) N)]) ∧ Own w' w.heap.size w'.heap.size 2 A1 N N ((labL (xss.eraseIdx i) N).map (Value.int .i64)) ∧ Below w.heap.size w w' := by
  have hwo := without_any b A n c i xss w hc h hhi hi0 hn2
  replace hs := Lib.hid hs
  go_enter Try.func85, Try.ntmps85
  go_wp2_with fail
  ((with_reducible refine (flags_any _ A n c xss _ hc h (by omega)).mono ?_); rintro e w' ⟨rfl, rfl⟩)
  rw [hN]
  go_wp2_with fail
  ((with_reducible refine hwo.mono ?_); rintro e w2 ⟨A2, c2, rfl, r2, f2⟩)
  have y2 := f2.size
  clear hwo
  go_wp2_with fail
  ((with_reducible refine (orbitLabels_any N A2 (n - 1) c2 (xss.eraseIdx i) _ r2 (Nat.le_refl _) h4 (sysOf_erase hs.out i)).mono ?_); rintro e w3 ⟨A3, rfl, o3, f3⟩)
  go_wp2_with fail
  go_ret2
  exact ⟨A3, rfl, o3.more y2 (Nat.le_refl _), below_then f2 f3 y2⟩
theorem hasRank_any (b : Nat) (A : Option Addr) (n c : Nat) (x : Int) (w : World) (hc : w.cell? ⟨b, 0, none⟩ = some (.slice A n c)) (hn : n ≤ 1048576) :
    Calls Try.prog 84 #[.pointer (some ⟨b, 0, none⟩), .int .i64 x] w fun e w' => e = .returned (.bool (decide ((0 : Int) ≤ x) && decide (x ≤ (n : Int) - 1))) ∧ w = w' := by
  go_enter Try.func84, Try.ntmps84
  go_wp2_with fail
  ((with_reducible refine (rank_any _ A n c _ hc (by omega)).mono ?_); rintro e w' ⟨rfl, rfl⟩)
  go_wp2_with fail
  ((with_reducible refine (within_any _ _ _ _).mono ?_); rintro e w' ⟨rfl, rfl⟩)
  go_wp2_with fail
  go_ret
  exact ⟨rfl, rfl⟩
/-- the first index of x, or -1 -/
def idxI (xs : List Int) (x : Int) : Int := if x ∈ xs then (xs.idxOf x : Int) else -1
theorem idx_first {xs : List Int} {k : Nat} {x : Int} (h : xs[k]? = some x) (hn : x ∉ xs.take k) : xs.idxOf x = k := by
  have hk := (List.getElem?_eq_some_iff.1 h).1
  have hm := mem_of_get? h
  have h1 := get?_idxOf hm
  have hle : ¬ xs.idxOf x < k := by
    intro hlt
    refine hn ?_
    have : (xs.take k)[xs.idxOf x]? = some x := by rw [List.getElem?_take_of_lt hlt]; exact h1
    exact mem_of_get? this
  have hge : ¬ k < xs.idxOf x := by
    intro hlt
    have e := List.take_append_drop k xs
    have hl : (xs.take k).length = k := by simp; omega
    have e2 : xs.idxOf x = ((xs.take k) ++ (xs.drop k)).idxOf x := by rw [e]
    rw [List.idxOf_append, if_neg hn, hl] at e2
    have e3 : xs.drop k = x :: xs.drop (k + 1) := by
      rw [List.drop_eq_getElem_cons hk]
      congr 1
      have := (List.getElem?_eq_some_iff.1 h).2
      exact this
    rw [e3, List.idxOf_cons_self] at e2
    omega
  omega
theorem l01Index_any (A : Option Addr) (n c : Nat) (xs : List Int) (x : Int) (w : World) {lo hi : Nat} (h : RI w lo hi A n xs) :
    Calls Try.prog 148 #[.slice A n c, .int .i64 x] w fun e w' => e = .returned (.int .i64 (idxI xs x)) ∧ w = w' := by
  have hm := h.max
  have hl := Lib.hid h.len
  go_enter Try.func148, Try.ntmps148
  go_wp2_with fail
  go_loopw [5] (fun kv wq => ∃ k : Nat, k ≤ n ∧ kv = .int .i64 k ∧ Hid (x ∉ xs.take k) ∧ w = wq) (fun kv _ => n - (intOf kv).toNat)
  case atStart => exact ⟨0, by omega, rfl, Lib.hid (by simp), by first | rfl | trivial⟩
  case round =>
    obtain ⟨k, hk, rfl, hnx, rfl⟩ := hrel
    by_cases hlt : k < n
    · obtain ⟨b, o, v, rfl, _, _, hv, hcv⟩ := h.at_ hlt
      have htk := take_succ_of hv
      by_cases hvx : v = x
      · subst hvx
        have hix : idxI xs v = k := by unfold idxI; rw [if_pos (mem_of_get? hv), idx_first hv hnx.out]
        replace hv := Lib.hid hv
        replace htk := Lib.hid htk
        replace hix := Lib.hid hix
        go_wp2_with fail
        go_ret
        exact ⟨ret_int hix.out.symm, rfl⟩
      · have hbq : (v == x) = false := by simpa using hvx
        have hn2 : x ∉ xs.take (k + 1) := by rw [htk]; simp only [List.mem_append, List.mem_singleton]; rintro (hh | hh); exact hnx.out hh; exact hvx hh.symm
        replace hn2 := Lib.hid hn2
        replace hv := Lib.hid hv
        replace htk := Lib.hid htk
        go_wp2_with fail
        go_roundw
        case measure => simp [intOf]; omega
        case rel => exact ⟨k + 1, by omega, by go_num, hn2, by first | rfl | trivial⟩
    · have hkn : k = n := by omega
      subst hkn
      have hix : idxI xs x = -1 := by unfold idxI; rw [if_neg]; have := hnx.out; rwa [List.take_of_length_le (by have := hl.out; omega)] at this
      replace hix := Lib.hid hix
      go_wp2_with fail
      go_ret
      exact ⟨ret_int hix.out.symm, rfl⟩
theorem l01Has_any (A : Option Addr) (n c : Nat) (xs : List Int) (x : Int) (w : World) {lo hi : Nat} (h : RI w lo hi A n xs) :
    Calls Try.prog 179 #[.slice A n c, .int .i64 x] w fun e w' => e = .returned (.bool (decide (x ∈ xs))) ∧ w = w' := by
  have hix : decide (idxI xs x ≥ 0) = decide (x ∈ xs) := by
    unfold idxI
    by_cases hx : x ∈ xs
    · rw [if_pos hx]; simp [hx]
    · rw [if_neg hx]; simp [hx]
  replace hix := Lib.hid hix
  go_enter Try.func179, Try.ntmps179
  go_wp2_with fail
  ((with_reducible refine (l01Index_any A n c xs x _ h).mono ?_); rintro e w' ⟨rfl, rfl⟩)
  go_wp2_with fail
  go_ret
  exact ⟨ret_bool (by first | exact hix.out | (rw [← hix.out])), rfl⟩
end Go.Proofs.Ytdaljeghdiknpaa
/- FaceS -/
namespace Go.Proofs.Ytdaljeghdiknpaa
open Go.RowKit
set_option linter.unusedVariables false
set_option maxRecDepth 100000
theorem erase_snoc {α : Type} {xs : List α} {k i : Nat} {x : α} (h : xs[k]? = some x) : (xs.take (k + 1)).eraseIdx i = if k = i then (xs.take k).eraseIdx i else (xs.take k).eraseIdx i ++ [x] := by
  have hk := (List.getElem?_eq_some_iff.1 h).1
  have hl : (xs.take k).length = k := by simp; omega
  rw [take_succ_of h]
  by_cases e : k = i
  · subst e
    rw [if_pos rfl, List.eraseIdx_append_of_length_le (by omega), hl, Nat.sub_self, List.eraseIdx_of_length_le (l := xs.take k) (by omega)]
    simp
  · rw [if_neg e]
    by_cases hlt : i < k
    · rw [List.eraseIdx_append_of_lt_length (by omega)]
    · rw [List.eraseIdx_append_of_length_le (by omega), hl, List.eraseIdx_of_length_le (l := [x]) (by simp; omega), List.eraseIdx_of_length_le (l := xs.take k) (by omega)]
set_option maxHeartbeats 4000000 in
theorem l02Others_any (A : Option Addr) (n c i : Nat) (A' : Option Addr) (c' : Nat) (xss : List (List Int)) (w : World) {lo hi lo' hi' : Nat} (h : RS w lo hi A n xss) (hhi : hi ≤ w.heap.size) (h' : RI w lo' hi' A' 1 [(i : Int)]) (hhi' : hi' ≤ w.heap.size) (hn2 : n ≤ 1048576) :
    Calls Try.prog 159 #[.agg #[.slice A n c], .slice A' 1 c'] w fun e w' => ∃ (A1 : Option Addr) (n1 c1 : Nat), e = .returned (.slice A1 n1 c1) ∧ RS w' 0 w'.heap.size A1 n1 (xss.eraseIdx i) ∧ Below w.heap.size w w' := by
  obtain ⟨s0, hs0, hu0, hu1, hu2⟩ := info_parts infoS
  have hl := Lib.hid h.len
  have hR := rs_alloc h hhi (.cells #[.slice A n c] 40)
  have hI : RI (w.alloc (.cells #[.slice A n c] 40)) lo' hi' A' 1 [(i : Int)] := h'.keep (same_alloc w _ _ _ hhi')
  have hC : (w.alloc (.cells #[.slice A n c] 40)).cell? ⟨w.heap.size, 0, none⟩ = some (.slice A n c) := al_new _ _ _ _ rfl
  have hB : Below w.heap.size w (w.alloc (.cells #[.slice A n c] 40)) := (Below.refl _ _).alloc (Nat.le_refl _) _
  have h0 := World.ownsRow_lit (e := 27) (base := (w.alloc (.cells #[.slice A n c] 40)).heap.size) (size := 1) (w.alloc (.cells #[.slice A n c] 40)) #[] 0 (Nat.le_refl _) (by omega) rfl
  go_enter Try.func159, Try.ntmps159
  go_wp2_with fail
  obtain ⟨W1, hW⟩ : ∃ W1 : World, w.alloc (.cells #[.slice A n c] 40) = W1 := ⟨_, rfl⟩
  have hz1 : W1.heap.size = w.heap.size + 1 := by rw [← hW]; simp
  rw [hW] at hR hI hC hB h0 ⊢
  clear hW h h'
  have h0 : (W1.alloc (.cells #[] 27)).ownsRow W1.heap.size 27 1 (.slice (some ⟨w.heap.size + 1, 0, none⟩) 0 0) 0 [] := by rw [← hz1]; exact h0
  go_loopw [5, 6] (fun ov kv wq => ∃ (k m : Nat) (vs : List Value) (A1 : Option Addr) (c1 : Nat), k ≤ n ∧ m ≤ k ∧ ov = .slice A1 m c1 ∧ kv = .int .i64 k ∧ Own wq W1.heap.size wq.heap.size 27 A1 m c1 vs ∧ Hid (RowsAt wq lo hi vs ((xss.take k).eraseIdx i)) ∧ Below W1.heap.size W1 wq) (fun _ kv _ => n - (intOf kv).toNat)
  case atStart => exact ⟨0, 0, [], _, 0, by omega, by omega, rfl, rfl, Own.of_row h0, Lib.hid ⟨by simp, fun k v xs h1 h2 => by simp at h1⟩, (Below.refl _ _).alloc (Nat.le_refl _) _⟩
  case round =>
    clear h0
    obtain ⟨k, m, vs, A1, c1, hk, hmk, rfl, rfl, ho, hrows, hb⟩ := hrel
    have hsz := hb.size
    have hCk := (hb.cell (p := ⟨w.heap.size, 0, none⟩) (by simp; omega)).trans hC
    by_cases hlt : k < n
    · obtain ⟨bb, oo, Ak, nk, ck, p, rfl, _, _, hp, hpc, hpr⟩ := (hR.below hb (by omega)).at_ hlt
      have hes := erase_snoc (i := i) hp
      by_cases hki : k = i
      · have hhas : decide ((k : Int) ∈ [(i : Int)]) = true := by simp [hki]
        rw [if_pos hki] at hes
        replace hes := Lib.hid hes
        replace hp := Lib.hid hp
        replace hki := Lib.hid hki
        go_wp2_with fail
        ((with_reducible refine (l01Has_any A' 1 c' [(i : Int)] (k : Int) _ (hI.below hb (by omega))).mono ?_); rintro e w' ⟨rfl, rfl⟩)
        rw [hhas]
        go_wp2_with fail
        go_roundw
        case measure => simp [intOf]; omega
        case rel => exact ⟨k + 1, m, vs, A1, c1, by omega, by omega, rfl, by go_num, ho, Lib.hid (by rw [hes.out]; exact hrows.out), hb⟩
      · have hhas : decide ((k : Int) ∈ [(i : Int)]) = false := by simp; omega
        rw [if_neg hki] at hes
        replace hes := Lib.hid hes
        replace hp := Lib.hid hp
        replace hki := Lib.hid hki
        go_wp2_with fail
        ((with_reducible refine (l01Has_any A' 1 c' [(i : Int)] (k : Int) _ (hI.below hb (by omega))).mono ?_); rintro e w' ⟨rfl, rfl⟩)
        rw [hhas]
        go_wp2_with (at_builtin; refine wpList_append1 wr rfl (.tmp 19) (.tmp 25) 24 rfl W1.heap.size 27 s0 (.slice none 0 0) 24 Try.underlying24 hs0 hu0 hu1 hu2 rfl (by omega) A1 m c1 _ (.slice Ak nk ck) rfl ho.1 _ rfl rfl rfl (by omega) (by omega) ?_)
        intro g4 c4 w5 ho5 hg5 hlo5 hlt5 hor5
        have hb5 : Below W1.heap.size W1 w5 := hb.grown hg5 (by omega) (fun q hq => by have := (ho.1.lt q hq).1; omega)
        have hsame : Same lo hi wr w5 := same_grown hg5 (by omega) (fun q hq => .inr (by have := (ho.1.lt q hq).1; omega))
        have hrw5 := rowsAt_snoc (c := ck) (hrows.out.keep hsame) (hpr.keep hsame)
        replace hrw5 := Lib.hid hrw5
        replace hsame := Lib.hid hsame
        have ho5' := Own.of_row ho5
        clear ho hb hg5 ho5 hpc hpr hCk
        go_wp2_with fail
        go_roundw
        case measure => simp [intOf]; omega
        case rel => exact ⟨k + 1, m + 1, vs ++ [.slice Ak nk ck], _, c4, by omega, by omega, rfl, by go_num, by rw [hz1]; exact ho5', Lib.hid (by rw [hes.out]; exact hrw5.out), hb5⟩
    · have hkn : k = n := by omega
      subst hkn
      go_wp2_with fail
      go_ret
      refine ⟨A1, m, c1, rfl, ⟨vs, ho.rd.more (by omega) (Nat.le_refl _), ?_⟩, hB.trans (hb.mono (by omega))⟩
      have := hrows.out
      rw [List.take_of_length_le (by have := hl.out; omega)] at this
      exact this.more (by omega) (by omega)
theorem below_undrew {B : Nat} {a w : World} (h : Below a.drew.heap.size a.drew w) (hB : B ≤ a.heap.size) : Below B a w := ⟨h.os, h.tape, h.output, h.size, fun k hk => h.block k (show k < a.heap.size by omega)⟩
set_option maxHeartbeats 4000000 in
theorem l02Faces_any (A : Option Addr) (n c i : Nat) (xss : List (List Int)) (w : World) {lo hi : Nat} (h : RS w lo hi A n xss) (hhi : hi ≤ w.heap.size) (hi0 : i < n) (hn2 : n ≤ 1048576) (N : Nat) (hN : flg xss = N) (h4 : N ≤ 400) (hs : SysOf xss N) :
    Calls Try.prog 141 #[.agg #[.slice A n c], .int .i64 i] w fun e w' => ∃ (A1 : Option Addr) (c1 : Nat), e = .returned (.slice A1 N c1) ∧ Own w' w.heap.size w'.heap.size 2 A1 N c1 ((labL (xss.eraseIdx i) N).map (Value.int .i64)) ∧ Below w.heap.size w w' := by
  have hR := rs_alloc h hhi (.cells #[.slice A n c] 40)
  have hC : (w.alloc (.cells #[.slice A n c] 40)).cell? ⟨w.heap.size, 0, none⟩ = some (.slice A n c) := al_new _ _ _ _ rfl
  have hB : Below w.heap.size w (w.alloc (.cells #[.slice A n c] 40)) := (Below.refl _ _).alloc (Nat.le_refl _) _
  replace hs := Lib.hid hs
  go_enter Try.func141, Try.ntmps141
  go_wp2_with fail
  obtain ⟨W1, hW⟩ : ∃ W1 : World, w.alloc (.cells #[.slice A n c] 40) = W1 := ⟨_, rfl⟩
  have hz1 : W1.heap.size = w.heap.size + 1 := by rw [← hW]; simp
  rw [hW] at hR hC hB ⊢
  clear hW h
  have hFa := l02Flags_any A n c xss W1.drew (rs_drew hR) (show _ ≤ W1.heap.size by omega) (by omega)
  have hFb0 := l02Flags_any A n c xss (W1.alloc (.cells #[.int .i64 (i : Int)] 2)).drew (rs_drew (rs_alloc hR (by omega) _)) (show _ ≤ (W1.alloc (.cells #[.int .i64 (i : Int)] 2)).heap.size by simp; omega) (by omega)
  rw [hN] at hFa hFb0
  have hFb : Calls Try.prog 134 #[.agg #[.slice A n c]] (W1.alloc (.cells #[.int .i64 (i : Int)] 2)).drew fun e w' => e = .returned (.int .i64 (N : Nat)) ∧ Below (W1.heap.size + 1) (W1.alloc (.cells #[.int .i64 (i : Int)] 2)) w' := hFb0.mono (fun e w' hh => ⟨hh.1, below_undrew hh.2 (by simp)⟩)
  clear hFb0
  have hCb : (W1.alloc (.cells #[.int .i64 (i : Int)] 2)).cell? ⟨w.heap.size, 0, none⟩ = some (.slice A n c) := (al_old _ _ _ _ (by omega)).trans hC
  go_region_with (first
    | (go_at_call 134; (with_reducible refine hFa.mono ?_); rintro e w8 ⟨rfl, f8⟩; have f8 : Below W1.heap.size W1 w8 := ⟨f8.os, f8.tape, f8.output, f8.size, f8.block⟩; have y8 := f8.size; have C8 := (f8.cell (p := ⟨w.heap.size, 0, none⟩) (by simp; omega)).trans hC; have C8a : (w8.alloc (.cells #[.int .i64 (i : Int)] 2)).cell? ⟨w.heap.size, 0, none⟩ = some (.slice A n c) := (al_old _ _ _ _ (by omega)).trans C8; have B8 : Below W1.heap.size W1 (w8.alloc (.cells #[.int .i64 (i : Int)] 2)) := f8.alloc y8 _; have qo := l02Others_any A n c i (some ⟨w8.heap.size, 0, none⟩) 1 xss _ (rs_alloc (hR.below f8 (by omega)) (by omega) (.cells #[.int .i64 (i : Int)] 2)) (by simp; omega) (ri_lit1 w8 2 (i : Int)) (by simp) hn2)
    | (go_at_call 134; (with_reducible refine hFb.mono ?_); rintro e w8 ⟨rfl, f8⟩; have y8 : W1.heap.size + 1 ≤ w8.heap.size := (by have := f8.size; simpa using this); have B8 : Below W1.heap.size W1 w8 := ((Below.refl _ _).alloc (Nat.le_refl _) _).trans (f8.mono (by omega)); have C8 := (B8.cell (p := ⟨w.heap.size, 0, none⟩) (by first | omega | (simp; done) | (simp; omega))).trans hC; have rl : RI w8 W1.heap.size (W1.heap.size + 1) (some ⟨w.heap.size + 1, 0, none⟩) 1 [(i : Int)] := (by rw [← hz1]; exact (ri_lit1 W1 2 (i : Int)).below f8 (Nat.le_refl _)); have qo := l02Others_any A n c i (some ⟨w.heap.size + 1, 0, none⟩) 1 xss w8 (hR.below B8 (by omega)) (by omega) rl (by omega) hn2)
    | (go_at_call 159; (with_reducible refine qo.mono ?_); rintro e w9 ⟨A9, n9, c9, rfl, r9, f9⟩; have y9 := f9.size; have B9 : Below W1.heap.size W1 w9 := below_then B8 f9 (by first | omega | (simp; omega)); have qp := l01Orbits_any N A9 n9 c9 (xss.eraseIdx i) w9 r9 (Nat.le_refl _) h4 (sysOf_erase hs.out i))
    | (go_at_call 68; (with_reducible refine qp.mono ?_); rintro e w10 ⟨A10, c10, rfl, o10, f10⟩))
  all_goals
    have z9 := B9.size
    have B10 := below_then B9 f10 z9
    go_wp2_with fail
    go_ret
    exact ⟨A10, c10, rfl, o10.more (by omega) (Nat.le_refl _), hB.trans (B10.mono (by omega))⟩
end Go.Proofs.Ytdaljeghdiknpaa
/- SecP -/
namespace Go.Proofs.Ytdaljeghdiknpaa
set_option linter.unusedVariables false
set_option maxRecDepth 100000
/-- two ranks in order -/
def okR (n : Nat) (i k : Int) : Bool := decide (0 ≤ i ∧ i ≤ k ∧ k ≤ (n : Int) - 1)
theorem okR_iff {n : Nat} {i k : Int} : okR n i k = true ↔ 0 ≤ i ∧ i ≤ k ∧ k ≤ (n : Int) - 1 := by unfold okR; simp
/-- the reference's code -/
noncomputable def codeF (xss : List (List Int)) (x i k : Int) : Int :=
  if isManB xss = true then (if inR 0 ((flg xss : Nat) - 1 : Int) x = true then (if okR xss.length i k = true then 0 else 2) else 2) else 1
/-- what SectionAt returns -/
noncomputable def secF (xss : List (List Int)) (x i k : Int) : List (List Int) × Int :=
  if isManB xss = true then (if inR 0 ((flg xss : Nat) - 1 : Int) x = true then (if okR xss.length i k = true then (formL (subL xss i.toNat (k.toNat + 1)) (flg xss) x, 0) else ([], 2)) else ([], 2)) else ([], 1)
/-- what FacetAt and VertexFigureAt return -/
noncomputable def fctF (xss : List (List Int)) (x : Int) : List (List Int) × Int :=
  if isManB xss = true then (if inR 0 ((flg xss : Nat) - 1 : Int) x = true then (if decide (xss.length ≠ 1) = true then (formL (subL xss 0 (xss.length - 1)) (flg xss) x, 0) else ([], 5)) else ([], 2)) else ([], 1)
noncomputable def vfgF (xss : List (List Int)) (x : Int) : List (List Int) × Int :=
  if isManB xss = true then (if inR 0 ((flg xss : Nat) - 1 : Int) x = true then (if decide (xss.length ≠ 1) = true then (formL (subL xss 1 xss.length) (flg xss) x, 0) else ([], 5)) else ([], 2)) else ([], 1)
end Go.Proofs.Ytdaljeghdiknpaa
/- Lw -/
namespace Go.Proofs.Ytdaljeghdiknpaa
open Go.RowKit
set_option linter.unusedVariables false
set_option maxRecDepth 100000
/-- the least flag that has a face, and a code -/
noncomputable def lwF (xss : List (List Int)) (i y : Int) : Int × Int :=
  if isManB xss = true then (if (decide ((0 : Int) ≤ i) && decide (i ≤ (xss.length : Int) - 1)) = true then (if decide (y ∈ labL (xss.eraseIdx i.toNat) (flg xss)) = true then (((labL (xss.eraseIdx i.toNat) (flg xss)).idxOf y : Int), 0) else (0, 2)) else (0, 2)) else (0, 1)
/-- the reference's, which asks for one rank besides -/
noncomputable def l4F (xss : List (List Int)) (i y st : Int) : Int × Int := if (lwF xss i y).2 = 0 ∧ i = st then (0, 5) else lwF xss i y
theorem lw_zero {xss : List (List Int)} {i y fl : Int} (h : (fl, (0 : Int)) = lwF xss i y) : isManB xss = true ∧ 0 ≤ i ∧ i ≤ (xss.length : Int) - 1 ∧ 0 ≤ fl ∧ fl < (flg xss : Nat) := by
  unfold lwF at h
  by_cases h1 : isManB xss = true
  · rw [if_pos h1] at h
    by_cases h2 : (decide ((0 : Int) ≤ i) && decide (i ≤ (xss.length : Int) - 1)) = true
    · rw [if_pos h2] at h
      by_cases h3 : decide (y ∈ labL (xss.eraseIdx i.toNat) (flg xss)) = true
      · rw [if_pos h3] at h
        injection h with e1 _
        have h4 := List.idxOf_lt_length_of_mem (of_decide_eq_true h3)
        rw [labL_length] at h4
        simp at h2
        exact ⟨h1, h2.1, h2.2, by omega, by omega⟩
      · rw [if_neg h3] at h; injection h with _ e2; simp at e2
    · rw [if_neg h2] at h; injection h with _ e2; simp at e2
  · rw [if_neg h1] at h; injection h with _ e2; simp at e2
theorem idxI_neg {xs : List Int} {x : Int} (h : decide (x ∈ xs) = false) : idxI xs x = -1 := by unfold idxI; rw [if_neg (of_decide_eq_false h)]
theorem idxI_pos {xs : List Int} {x : Int} (h : decide (x ∈ xs) = true) : idxI xs x = xs.idxOf x := by unfold idxI; rw [if_pos (of_decide_eq_true h)]
theorem index_any (A : Option Addr) (n c : Nat) (xs : List Int) (x : Int) (w : World) {lo hi : Nat} (h : RI w lo hi A n xs) :
    Calls Try.prog 146 #[.slice A n c, .int .i64 x] w fun e w' => e = .returned (.int .i64 (idxI xs x)) ∧ w = w' := by
  have hm := h.max
  have hl := Lib.hid h.len
  go_enter Try.func146, Try.ntmps146
  go_wp2_with fail
  go_loopw [8] (fun kv wq => ∃ k : Nat, k ≤ n ∧ kv = .int .i64 k ∧ Hid (x ∉ xs.take k) ∧ w = wq) (fun kv _ => n - (intOf kv).toNat)
  case atStart => exact ⟨0, by omega, rfl, Lib.hid (by simp), by first | rfl | trivial⟩
  case round =>
    obtain ⟨k, hk, rfl, hnx, rfl⟩ := hrel
    by_cases hlt : k < n
    · obtain ⟨b, o, v, rfl, _, _, hv, hcv⟩ := h.at_ hlt
      have htk := take_succ_of hv
      by_cases hvx : v = x
      · subst hvx
        have hix : idxI xs v = k := by unfold idxI; rw [if_pos (mem_of_get? hv), idx_first hv hnx.out]
        replace hv := Lib.hid hv
        replace htk := Lib.hid htk
        replace hix := Lib.hid hix
        go_wp2_with fail
        go_ret
        exact ⟨ret_int hix.out.symm, rfl⟩
      · have hbq : (x == v) = false := by simp; omega
        have hn2 : x ∉ xs.take (k + 1) := by rw [htk]; simp only [List.mem_append, List.mem_singleton]; rintro (hh | hh); exact hnx.out hh; exact hvx hh.symm
        replace hn2 := Lib.hid hn2
        replace hv := Lib.hid hv
        replace htk := Lib.hid htk
        go_wp2_with fail
        go_roundw
        case measure => simp [intOf]; omega
        case rel => exact ⟨k + 1, by omega, by go_num, hn2, by first | rfl | trivial⟩
    · have hkn : k = n := by omega
      subst hkn
      have hix : idxI xs x = -1 := by unfold idxI; rw [if_neg]; have := hnx.out; rwa [List.take_of_length_le (by have := hl.out; omega)] at this
      replace hix := Lib.hid hix
      go_wp2_with fail
      go_ret
      exact ⟨ret_int hix.out.symm, rfl⟩
set_option maxHeartbeats 4000000 in
theorem leastWith_any (b : Nat) (A : Option Addr) (n c : Nat) (xss : List (List Int)) (x y : Int) (w : World) (hc : w.cell? ⟨b, 0, none⟩ = some (.slice A n c)) (hbs : b < w.heap.size) {lo hi : Nat} (h : RS w lo hi A n xss) (hhi : hi ≤ w.heap.size) (hnc : n ≤ c) :
    Calls Try.prog 108 #[.pointer (some ⟨b, 0, none⟩), .int .i64 x, .int .i64 y] w fun e w' => ∃ (fl cd : Int), e = .returned (.tuple #[.int .i64 fl, .int .i64 cd]) ∧ Hid ((fl, cd) = lwF xss x y) ∧ Below w.heap.size w w' := by
  have hm := h.max
  have hl := h.len
  cases hM : isManB xss with
  | false =>
    have hF : lwF xss x y = (0, 1) := by unfold lwF; rw [hM]; rfl
    replace hF := Lib.hid hF
    replace hM := Lib.hid hM
    replace hl := Lib.hid hl
    go_enter Try.func108, Try.ntmps108
    go_wp2_with fail
    ((with_reducible refine (isMan_any A n c xss _ h hhi hnc).mono ?_); rintro e w2 ⟨rfl, f2⟩)
    have B2 : Below w.heap.size w w2 := f2
    have C2 := (f2.cell (p := ⟨b, 0, none⟩) (by simp; omega)).trans hc
    have R2 := h.below f2 hhi
    rw [hM.out]
    have y2 := f2.size
    go_wp2_with fail
    go_ret2
    exact ⟨_, _, rfl, Lib.hid hF.out.symm, B2⟩
  | true =>
    have hP := isManB_iff.1 hM
    have hn1 : 1 ≤ n := by have := hP.r1; omega
    have hn5 : n ≤ 5 := by have := hP.r5; omega
    have hf4 := hP.f4
    have hS := Lib.hid hP.sys
    clear hP
    cases hF1 : (decide ((0 : Int) ≤ x) && decide (x ≤ (n : Int) - 1)) with
    | false =>
      have hF : lwF xss x y = (0, 2) := by unfold lwF; rw [hl]; rw [if_pos hM, hF1]; rfl
      replace hF := Lib.hid hF
      replace hM := Lib.hid hM
      replace hl := Lib.hid hl
      replace hF1 := Lib.hid hF1
      go_enter Try.func108, Try.ntmps108
      go_wp2_with fail
      ((with_reducible refine (isMan_any A n c xss _ h hhi hnc).mono ?_); rintro e w2 ⟨rfl, f2⟩)
      have B2 : Below w.heap.size w w2 := f2
      have C2 := (f2.cell (p := ⟨b, 0, none⟩) (by simp; omega)).trans hc
      have R2 := h.below f2 hhi
      rw [hM.out]
      have y2 := f2.size
      go_wp2_with fail
      ((with_reducible refine (hasRank_any _ A n c x _ C2 (by omega)).mono ?_); rintro e w' ⟨rfl, rfl⟩)
      rw [hF1.out]
      go_wp2_with fail
      go_ret2
      exact ⟨_, _, rfl, Lib.hid hF.out.symm, B2⟩
    | true =>
      obtain ⟨hxa, hxb⟩ : (0 : Int) ≤ x ∧ x ≤ (n : Int) - 1 := by simpa using hF1
      obtain ⟨x, rfl⟩ : ∃ q : Nat, x = q := ⟨x.toNat, by omega⟩
      cases hF2 : decide (y ∈ labL (xss.eraseIdx x) (flg xss)) with
      | false =>
        have hF : lwF xss x y = (0, 2) := by unfold lwF; rw [hl]; rw [if_pos hM, if_pos hF1]; rw [Int.toNat_natCast, hF2]; rfl
        replace hF := Lib.hid hF
        have hix := Lib.hid (idxI_neg hF2)
        replace hM := Lib.hid hM
        replace hl := Lib.hid hl
        replace hF1 := Lib.hid hF1
        replace hF2 := Lib.hid hF2
        go_enter Try.func108, Try.ntmps108
        go_wp2_with fail
        ((with_reducible refine (isMan_any A n c xss _ h hhi hnc).mono ?_); rintro e w2 ⟨rfl, f2⟩)
        have B2 : Below w.heap.size w w2 := f2
        have C2 := (f2.cell (p := ⟨b, 0, none⟩) (by simp; omega)).trans hc
        have R2 := h.below f2 hhi
        rw [hM.out]
        have y2 := f2.size
        go_wp2_with fail
        ((with_reducible refine (hasRank_any _ A n c x _ C2 (by omega)).mono ?_); rintro e w' ⟨rfl, rfl⟩)
        rw [hF1.out]
        go_wp2_with fail
        ((with_reducible refine (faces_any _ A n c x xss _ C2 R2 (by omega) (by omega) (by omega) _ rfl hf4 hS.out).mono ?_); rintro e w3 ⟨A3, rfl, o3, f3⟩)
        have B3 : Below w.heap.size w w3 := below_then B2 f3 (by omega)
        go_wp2_with fail
        ((with_reducible refine (index_any A3 _ _ _ y _ o3.ri).mono ?_); rintro e w' ⟨rfl, rfl⟩)
        rw [hix.out]
        go_wp2_with fail
        go_ret2
        exact ⟨_, _, rfl, Lib.hid hF.out.symm, B3⟩
      | true =>
        have hix := Lib.hid (idxI_pos hF2)
        have hlt := List.idxOf_lt_length_of_mem (of_decide_eq_true hF2)
        rw [labL_length] at hlt
        have hF : lwF xss x y = (((labL (xss.eraseIdx x) (flg xss)).idxOf y : Int), 0) := by unfold lwF; rw [hl]; rw [if_pos hM, if_pos hF1]; rw [Int.toNat_natCast, if_pos hF2]
        replace hF := Lib.hid hF
        replace hM := Lib.hid hM
        replace hl := Lib.hid hl
        replace hF1 := Lib.hid hF1
        replace hF2 := Lib.hid hF2
        generalize (labL (xss.eraseIdx x) (flg xss)).idxOf y = ix at *
        go_enter Try.func108, Try.ntmps108
        go_wp2_with fail
        ((with_reducible refine (isMan_any A n c xss _ h hhi hnc).mono ?_); rintro e w2 ⟨rfl, f2⟩)
        have B2 : Below w.heap.size w w2 := f2
        have C2 := (f2.cell (p := ⟨b, 0, none⟩) (by simp; omega)).trans hc
        have R2 := h.below f2 hhi
        rw [hM.out]
        have y2 := f2.size
        go_wp2_with fail
        ((with_reducible refine (hasRank_any _ A n c x _ C2 (by omega)).mono ?_); rintro e w' ⟨rfl, rfl⟩)
        rw [hF1.out]
        go_wp2_with fail
        ((with_reducible refine (faces_any _ A n c x xss _ C2 R2 (by omega) (by omega) (by omega) _ rfl hf4 hS.out).mono ?_); rintro e w3 ⟨A3, rfl, o3, f3⟩)
        have B3 : Below w.heap.size w w3 := below_then B2 f3 (by omega)
        go_wp2_with fail
        ((with_reducible refine (index_any A3 _ _ _ y _ o3.ri).mono ?_); rintro e w' ⟨rfl, rfl⟩)
        rw [hix.out]
        go_wp2_with fail
        go_ret2
        exact ⟨_, _, rfl, Lib.hid hF.out.symm, B3⟩
set_option maxHeartbeats 4000000 in
theorem l04Face_any (A : Option Addr) (n c : Nat) (xss : List (List Int)) (x y st : Int) (w : World) {lo hi : Nat} (h : RS w lo hi A n xss) (hhi : hi ≤ w.heap.size) :
    Calls Try.prog 110 #[.agg #[.slice A n c], .int .i64 x, .int .i64 y, .int .i64 st] w fun e w' => ∃ (fl cd : Int), e = .returned (.tuple #[.int .i64 fl, .int .i64 cd]) ∧ Hid ((fl, cd) = l4F xss x y st) ∧ Below w.heap.size w w' := by
  have hm := h.max
  have hl := h.len
  have hR := rs_alloc h hhi (.cells #[.slice A n c] 40)
  have hC : (w.alloc (.cells #[.slice A n c] 40)).cell? ⟨w.heap.size, 0, none⟩ = some (.slice A n c) := al_new _ _ _ _ rfl
  have hB : Below w.heap.size w (w.alloc (.cells #[.slice A n c] 40)) := (Below.refl _ _).alloc (Nat.le_refl _) _
  cases hM : isManB xss with
  | false =>
    have hF0 : lwF xss x y = (0, 1) := by unfold lwF; rw [hM]; rfl
    have hF : l4F xss x y st = (0, 1) := by unfold l4F; rw [hF0, if_neg (by simp)]
    clear hF0
    replace hF := Lib.hid hF
    replace hM := Lib.hid hM
    replace hl := Lib.hid hl
    go_enter Try.func110, Try.ntmps110
    go_wp2_with fail
    obtain ⟨W1, hW⟩ : ∃ W1 : World, w.alloc (.cells #[.slice A n c] 40) = W1 := ⟨_, rfl⟩
    have hz1 : W1.heap.size = w.heap.size + 1 := by rw [← hW]; simp
    rw [hW] at hR hC hB ⊢
    clear hW h
    ((with_reducible refine (l02Is_any A n c xss _ hR (by omega)).mono ?_); rintro e w2 ⟨rfl, f2⟩)
    have B2 : Below W1.heap.size W1 w2 := f2
    have C2 := (f2.cell (p := ⟨w.heap.size, 0, none⟩) (by simp; omega)).trans hC
    have R2 := hR.below f2 (by omega)
    rw [hM.out]
    have y2 := f2.size
    go_wp2_with fail
    go_ret2
    exact ⟨_, _, rfl, Lib.hid hF.out.symm, hB.trans (B2.mono (by omega))⟩
  | true =>
    have hP := isManB_iff.1 hM
    have hn1 : 1 ≤ n := by have := hP.r1; omega
    have hn5 : n ≤ 5 := by have := hP.r5; omega
    have hf4 := hP.f4
    have hS := Lib.hid hP.sys
    clear hP
    cases hF1 : (decide ((0 : Int) ≤ x) && decide (x ≤ (n : Int) - 1)) with
    | false =>
      have hF0 : lwF xss x y = (0, 2) := by unfold lwF; rw [hl]; rw [if_pos hM, hF1]; rfl
      have hF : l4F xss x y st = (0, 2) := by unfold l4F; rw [hF0, if_neg (by simp)]
      clear hF0
      replace hF := Lib.hid hF
      replace hM := Lib.hid hM
      replace hl := Lib.hid hl
      replace hF1 := Lib.hid hF1
      go_enter Try.func110, Try.ntmps110
      go_wp2_with fail
      obtain ⟨W1, hW⟩ : ∃ W1 : World, w.alloc (.cells #[.slice A n c] 40) = W1 := ⟨_, rfl⟩
      have hz1 : W1.heap.size = w.heap.size + 1 := by rw [← hW]; simp
      rw [hW] at hR hC hB ⊢
      clear hW h
      ((with_reducible refine (l02Is_any A n c xss _ hR (by omega)).mono ?_); rintro e w2 ⟨rfl, f2⟩)
      have B2 : Below W1.heap.size W1 w2 := f2
      have C2 := (f2.cell (p := ⟨w.heap.size, 0, none⟩) (by simp; omega)).trans hC
      have R2 := hR.below f2 (by omega)
      rw [hM.out]
      have y2 := f2.size
      go_wp2_with fail
      ((with_reducible refine (in_any _ _ _ _).mono ?_); rintro e w' ⟨rfl, rfl⟩)
      rw [hF1.out]
      go_wp2_with fail
      go_ret2
      exact ⟨_, _, rfl, Lib.hid hF.out.symm, hB.trans (B2.mono (by omega))⟩
    | true =>
      obtain ⟨hxa, hxb⟩ : (0 : Int) ≤ x ∧ x ≤ (n : Int) - 1 := by simpa using hF1
      obtain ⟨x, rfl⟩ : ∃ q : Nat, x = q := ⟨x.toNat, by omega⟩
      cases hF2 : decide (y ∈ labL (xss.eraseIdx x) (flg xss)) with
      | false =>
        have hF0 : lwF xss x y = (0, 2) := by unfold lwF; rw [hl]; rw [if_pos hM, if_pos hF1]; rw [Int.toNat_natCast, hF2]; rfl
        have hF : l4F xss x y st = (0, 2) := by unfold l4F; rw [hF0, if_neg (by simp)]
        clear hF0
        replace hF := Lib.hid hF
        have hix := Lib.hid (idxI_neg hF2)
        replace hM := Lib.hid hM
        replace hl := Lib.hid hl
        replace hF1 := Lib.hid hF1
        replace hF2 := Lib.hid hF2
        go_enter Try.func110, Try.ntmps110
        go_wp2_with fail
        obtain ⟨W1, hW⟩ : ∃ W1 : World, w.alloc (.cells #[.slice A n c] 40) = W1 := ⟨_, rfl⟩
        have hz1 : W1.heap.size = w.heap.size + 1 := by rw [← hW]; simp
        rw [hW] at hR hC hB ⊢
        clear hW h
        ((with_reducible refine (l02Is_any A n c xss _ hR (by omega)).mono ?_); rintro e w2 ⟨rfl, f2⟩)
        have B2 : Below W1.heap.size W1 w2 := f2
        have C2 := (f2.cell (p := ⟨w.heap.size, 0, none⟩) (by simp; omega)).trans hC
        have R2 := hR.below f2 (by omega)
        rw [hM.out]
        have y2 := f2.size
        go_wp2_with fail
        ((with_reducible refine (in_any _ _ _ _).mono ?_); rintro e w' ⟨rfl, rfl⟩)
        rw [hF1.out]
        go_wp2_with fail
        ((with_reducible refine (l02Faces_any A n c x xss _ R2 (by omega) (by omega) (by omega) _ rfl hf4 hS.out).mono ?_); rintro e w3 ⟨A3, c3, rfl, o3, f3⟩)
        have B3 : Below W1.heap.size W1 w3 := below_then B2 f3 (by omega)
        go_wp2_with fail
        ((with_reducible refine (l01Index_any A3 _ _ _ y _ o3.ri).mono ?_); rintro e w' ⟨rfl, rfl⟩)
        rw [hix.out]
        go_wp2_with fail
        go_ret2
        exact ⟨_, _, rfl, Lib.hid hF.out.symm, hB.trans (B3.mono (by omega))⟩
      | true =>
        have hix := Lib.hid (idxI_pos hF2)
        have hlt := List.idxOf_lt_length_of_mem (of_decide_eq_true hF2)
        rw [labL_length] at hlt
        have hF0 : lwF xss x y = (((labL (xss.eraseIdx x) (flg xss)).idxOf y : Int), 0) := by unfold lwF; rw [hl]; rw [if_pos hM, if_pos hF1]; rw [Int.toNat_natCast, if_pos hF2]
        by_cases hst : (x : Int) = st
        · have hF : l4F xss x y st = (0, 5) := by unfold l4F; rw [hF0, if_pos ⟨rfl, hst⟩]
          have hsb : ((x : Int) == st) = true := by simpa using hst
          replace hF := Lib.hid hF
          replace hF0 := Lib.hid hF0
          replace hst := Lib.hid hst
          replace hM := Lib.hid hM
          replace hl := Lib.hid hl
          replace hF1 := Lib.hid hF1
          replace hF2 := Lib.hid hF2
          generalize (labL (xss.eraseIdx x) (flg xss)).idxOf y = ix at *
          go_enter Try.func110, Try.ntmps110
          go_wp2_with fail
          obtain ⟨W1, hW⟩ : ∃ W1 : World, w.alloc (.cells #[.slice A n c] 40) = W1 := ⟨_, rfl⟩
          have hz1 : W1.heap.size = w.heap.size + 1 := by rw [← hW]; simp
          rw [hW] at hR hC hB ⊢
          clear hW h
          ((with_reducible refine (l02Is_any A n c xss _ hR (by omega)).mono ?_); rintro e w2 ⟨rfl, f2⟩)
          have B2 : Below W1.heap.size W1 w2 := f2
          have C2 := (f2.cell (p := ⟨w.heap.size, 0, none⟩) (by simp; omega)).trans hC
          have R2 := hR.below f2 (by omega)
          rw [hM.out]
          have y2 := f2.size
          go_wp2_with fail
          ((with_reducible refine (in_any _ _ _ _).mono ?_); rintro e w' ⟨rfl, rfl⟩)
          rw [hF1.out]
          go_wp2_with fail
          ((with_reducible refine (l02Faces_any A n c x xss _ R2 (by omega) (by omega) (by omega) _ rfl hf4 hS.out).mono ?_); rintro e w3 ⟨A3, c3, rfl, o3, f3⟩)
          have B3 : Below W1.heap.size W1 w3 := below_then B2 f3 (by omega)
          go_wp2_with fail
          ((with_reducible refine (l01Index_any A3 _ _ _ y _ o3.ri).mono ?_); rintro e w' ⟨rfl, rfl⟩)
          rw [hix.out]
          go_wp2_with fail
          go_ret2
          exact ⟨_, _, rfl, Lib.hid hF.out.symm, hB.trans (B3.mono (by omega))⟩
        · have hF : l4F xss x y st = (((labL (xss.eraseIdx x) (flg xss)).idxOf y : Int), 0) := by unfold l4F; rw [hF0, if_neg (fun hh => hst hh.2)]
          have hsb : ((x : Int) == st) = false := by simpa using hst
          replace hF := Lib.hid hF
          replace hF0 := Lib.hid hF0
          replace hst := Lib.hid hst
          replace hM := Lib.hid hM
          replace hl := Lib.hid hl
          replace hF1 := Lib.hid hF1
          replace hF2 := Lib.hid hF2
          generalize (labL (xss.eraseIdx x) (flg xss)).idxOf y = ix at *
          go_enter Try.func110, Try.ntmps110
          go_wp2_with fail
          obtain ⟨W1, hW⟩ : ∃ W1 : World, w.alloc (.cells #[.slice A n c] 40) = W1 := ⟨_, rfl⟩
          have hz1 : W1.heap.size = w.heap.size + 1 := by rw [← hW]; simp
          rw [hW] at hR hC hB ⊢
          clear hW h
          ((with_reducible refine (l02Is_any A n c xss _ hR (by omega)).mono ?_); rintro e w2 ⟨rfl, f2⟩)
          have B2 : Below W1.heap.size W1 w2 := f2
          have C2 := (f2.cell (p := ⟨w.heap.size, 0, none⟩) (by simp; omega)).trans hC
          have R2 := hR.below f2 (by omega)
          rw [hM.out]
          have y2 := f2.size
          go_wp2_with fail
          ((with_reducible refine (in_any _ _ _ _).mono ?_); rintro e w' ⟨rfl, rfl⟩)
          rw [hF1.out]
          go_wp2_with fail
          ((with_reducible refine (l02Faces_any A n c x xss _ R2 (by omega) (by omega) (by omega) _ rfl hf4 hS.out).mono ?_); rintro e w3 ⟨A3, c3, rfl, o3, f3⟩)
          have B3 : Below W1.heap.size W1 w3 := below_then B2 f3 (by omega)
          go_wp2_with fail
          ((with_reducible refine (l01Index_any A3 _ _ _ y _ o3.ri).mono ?_); rintro e w' ⟨rfl, rfl⟩)
          rw [hix.out]
          go_wp2_with fail
          go_ret2
          exact ⟨_, _, rfl, Lib.hid hF.out.symm, hB.trans (B3.mono (by omega))⟩
end Go.Proofs.Ytdaljeghdiknpaa
/- Sec -/
namespace Go.Proofs.Ytdaljeghdiknpaa
open Go.RowKit
set_option linter.unusedVariables false
set_option maxRecDepth 100000
theorem areRanks_any (b : Nat) (A : Option Addr) (n c : Nat) (xss : List (List Int)) (i k : Int) (w : World) (hc : w.cell? ⟨b, 0, none⟩ = some (.slice A n c)) (hn : n ≤ 1048576) (hl : xss.length = n) :
    Calls Try.prog 114 #[.pointer (some ⟨b, 0, none⟩), .int .i64 i, .int .i64 k] w fun e w' => e = .returned (.bool (okR xss.length i k)) ∧ w = w' := by
  rw [hl]
  cases h1 : (decide ((0 : Int) ≤ i) && decide (i ≤ (n : Int) - 1)) with
  | false =>
    have hr : okR n i k = false := by
      cases hq : okR n i k with
      | false => rfl
      | true => have := okR_iff.1 hq; simp at h1; omega
    replace h1 := Lib.hid h1
    replace hr := Lib.hid hr
    go_enter Try.func114, Try.ntmps114
    go_wp2_with fail
    ((with_reducible refine (hasRank_any _ A n c i _ hc hn).mono ?_); rintro e w' ⟨rfl, rfl⟩)
    rw [h1.out]
    go_wp2_with fail
    go_ret
    exact ⟨ret_bool hr.out.symm, rfl⟩
  | true =>
    cases h2 : (decide ((0 : Int) ≤ k) && decide (k ≤ (n : Int) - 1)) with
    | false =>
      have hr : okR n i k = false := by
        cases hq : okR n i k with
        | false => rfl
        | true => have := okR_iff.1 hq; simp at h2; omega
      replace h1 := Lib.hid h1
      replace h2 := Lib.hid h2
      replace hr := Lib.hid hr
      go_enter Try.func114, Try.ntmps114
      go_wp2_with fail
      ((with_reducible refine (hasRank_any _ A n c i _ hc hn).mono ?_); rintro e w' ⟨rfl, rfl⟩)
      rw [h1.out]
      go_wp2_with fail
      ((with_reducible refine (hasRank_any _ A n c k _ hc hn).mono ?_); rintro e w' ⟨rfl, rfl⟩)
      rw [h2.out]
      go_wp2_with fail
      go_ret
      exact ⟨ret_bool hr.out.symm, rfl⟩
    | true =>
      have hr : okR n i k = decide (i ≤ k) := by
        unfold okR
        simp at h1 h2
        by_cases h3 : i ≤ k
        · simp [h3]; omega
        · simp [h3]
      replace h1 := Lib.hid h1
      replace h2 := Lib.hid h2
      replace hr := Lib.hid hr
      go_enter Try.func114, Try.ntmps114
      go_wp2_with fail
      ((with_reducible refine (hasRank_any _ A n c i _ hc hn).mono ?_); rintro e w' ⟨rfl, rfl⟩)
      rw [h1.out]
      go_wp2_with fail
      ((with_reducible refine (hasRank_any _ A n c k _ hc hn).mono ?_); rintro e w' ⟨rfl, rfl⟩)
      rw [h2.out]
      go_wp2_with fail
      go_ret
      exact ⟨ret_bool hr.out.symm, rfl⟩
set_option maxHeartbeats 2000000 in
theorem l04Code_any (A : Option Addr) (n c : Nat) (xss : List (List Int)) (x i k : Int) (w : World) {lo hi : Nat} (h : RS w lo hi A n xss) (hhi : hi ≤ w.heap.size) (hx : -9223372036854775808 ≤ x ∧ x ≤ 9223372036854775807) :
    Calls Try.prog 122 #[.agg #[.slice A n c], .int .i64 x, .int .i64 i, .int .i64 k] w fun e w' => e = .returned (.int .i64 (codeF xss x i k)) ∧ Below w.heap.size w w' := by
  have hm := h.max
  have hl := h.len
  have hR := rs_alloc h hhi (.cells #[.slice A n c] 40)
  have hC : (w.alloc (.cells #[.slice A n c] 40)).cell? ⟨w.heap.size, 0, none⟩ = some (.slice A n c) := al_new _ _ _ _ rfl
  have hB : Below w.heap.size w (w.alloc (.cells #[.slice A n c] 40)) := (Below.refl _ _).alloc (Nat.le_refl _) _
  cases hM : isManB xss with
  | false =>
    have hF : codeF xss x i k = 1 := by unfold codeF; rw [hM]; rfl
    replace hF := Lib.hid hF
    replace hM := Lib.hid hM
    replace hl := Lib.hid hl
    go_enter Try.func122, Try.ntmps122
    go_wp2_with fail
    ((with_reducible refine (l02Is_any A n c xss _ hR (by simp; omega)).mono ?_); rintro e w2 ⟨rfl, f2⟩)
    rw [hM.out]
    go_wp2_with fail
    go_ret
    exact ⟨ret_int hF.out.symm, hB.trans (f2.mono (by simp))⟩
  | true =>
    have hP := isManB_iff.1 hM
    have hn1 : 1 ≤ n := by have := hP.r1; omega
    have hn5 : n ≤ 5 := by have := hP.r5; omega
    have hf4 := hP.f4
    clear hP
    cases hF1 : inR 0 ((flg xss : Nat) - 1 : Int) x with
    | false =>
      have hF : codeF xss x i k = 2 := by unfold codeF; rw [if_pos hM, hF1]; rfl
      replace hF := Lib.hid hF
      replace hM := Lib.hid hM
      replace hl := Lib.hid hl
      replace hF1 := Lib.hid hF1
      go_enter Try.func122, Try.ntmps122
      go_wp2_with fail
      obtain ⟨W1, hW⟩ : ∃ W1 : World, w.alloc (.cells #[.slice A n c] 40) = W1 := ⟨_, rfl⟩
      have hz1 : W1.heap.size = w.heap.size + 1 := by rw [← hW]; simp
      rw [hW] at hR hC hB ⊢
      clear hW h
      ((with_reducible refine (l02Is_any A n c xss _ hR (by omega)).mono ?_); rintro e w2 ⟨rfl, f2⟩)
      rw [hM.out]
      have y2 := f2.size
      have C2 := (f2.cell (p := ⟨w.heap.size, 0, none⟩) (by simp; omega)).trans hC
      have R2 := hR.below f2 (by omega)
      go_wp2_with fail
      ((with_reducible refine (l02Flag_any A n c xss x _ R2 (by omega) (by omega) hf4).mono ?_); rintro e w3 ⟨rfl, f3⟩)
      rw [hF1.out]
      have B3 : Below W1.heap.size W1 w3 := below_then f2 f3 (by omega)
      go_wp2_with fail
      go_ret
      exact ⟨ret_int hF.out.symm, hB.trans (B3.mono (by omega))⟩
    | true =>
      have hF : codeF xss x i k = if okR xss.length i k = true then 0 else 2 := by unfold codeF; rw [if_pos hM, if_pos hF1]
      rw [hl] at hF
      have key : okR n i k = true ∧ 0 ≤ i ∧ i ≤ k ∧ k ≤ (n : Int) - 1 ∨ okR n i k = false ∧ (i < 0 ∨ (0 ≤ i ∧ k < i) ∨ (0 ≤ i ∧ i ≤ k ∧ (n : Int) - 1 < k)) := by
        cases hq : okR n i k with
        | true => have := okR_iff.1 hq; exact .inl ⟨rfl, this⟩
        | false =>
          refine .inr ⟨rfl, ?_⟩
          have : ¬ (0 ≤ i ∧ i ≤ k ∧ k ≤ (n : Int) - 1) := fun hh => by rw [okR_iff.2 hh] at hq; cases hq
          omega
      replace hM := Lib.hid hM
      replace hl := Lib.hid hl
      replace hF1 := Lib.hid hF1
      rcases key with ⟨hok, k1, k2, k3⟩ | ⟨hok, k1 | ⟨k0, k1⟩ | ⟨k0, k2, k1⟩⟩
      · have e1 : decide (i < 0) = false := by simp; omega
        have e2 : decide (k < i) = false := by simp; omega
        have e3 : decide ((n : Int) - 1 < k) = false := by simp; omega
        have e4 : decide (k > (n : Int) - 1) = false := by simp; omega
        rw [hok] at hF
        replace hF : Hid (codeF xss x i k = 0) := Lib.hid (hF.trans rfl)
        replace hok := Lib.hid hok
        go_enter Try.func122, Try.ntmps122
        go_wp2_with fail
        obtain ⟨W1, hW⟩ : ∃ W1 : World, w.alloc (.cells #[.slice A n c] 40) = W1 := ⟨_, rfl⟩
        have hz1 : W1.heap.size = w.heap.size + 1 := by rw [← hW]; simp
        rw [hW] at hR hC hB ⊢
        clear hW h
        ((with_reducible refine (l02Is_any A n c xss _ hR (by omega)).mono ?_); rintro e w2 ⟨rfl, f2⟩)
        rw [hM.out]
        have y2 := f2.size
        have C2 := (f2.cell (p := ⟨w.heap.size, 0, none⟩) (by simp; omega)).trans hC
        have R2 := hR.below f2 (by omega)
        go_wp2_with fail
        ((with_reducible refine (l02Flag_any A n c xss x _ R2 (by omega) (by omega) hf4).mono ?_); rintro e w3 ⟨rfl, f3⟩)
        rw [hF1.out]
        have C3 := (f3.cell (p := ⟨w.heap.size, 0, none⟩) (by simp; omega)).trans C2
        have B3 : Below W1.heap.size W1 w3 := below_then f2 f3 (by omega)
        go_wp2_with fail
        go_ret
        exact ⟨ret_int hF.out.symm, hB.trans (B3.mono (by omega))⟩
      · have e1 : decide (i < 0) = true := by simp; omega
        rw [hok] at hF
        replace hF : Hid (codeF xss x i k = 2) := Lib.hid (hF.trans rfl)
        replace hok := Lib.hid hok
        go_enter Try.func122, Try.ntmps122
        go_wp2_with fail
        obtain ⟨W1, hW⟩ : ∃ W1 : World, w.alloc (.cells #[.slice A n c] 40) = W1 := ⟨_, rfl⟩
        have hz1 : W1.heap.size = w.heap.size + 1 := by rw [← hW]; simp
        rw [hW] at hR hC hB ⊢
        clear hW h
        ((with_reducible refine (l02Is_any A n c xss _ hR (by omega)).mono ?_); rintro e w2 ⟨rfl, f2⟩)
        rw [hM.out]
        have y2 := f2.size
        have C2 := (f2.cell (p := ⟨w.heap.size, 0, none⟩) (by simp; omega)).trans hC
        have R2 := hR.below f2 (by omega)
        go_wp2_with fail
        ((with_reducible refine (l02Flag_any A n c xss x _ R2 (by omega) (by omega) hf4).mono ?_); rintro e w3 ⟨rfl, f3⟩)
        rw [hF1.out]
        have C3 := (f3.cell (p := ⟨w.heap.size, 0, none⟩) (by simp; omega)).trans C2
        have B3 : Below W1.heap.size W1 w3 := below_then f2 f3 (by omega)
        go_wp2_with fail
        go_ret
        exact ⟨ret_int hF.out.symm, hB.trans (B3.mono (by omega))⟩
      · have e1 : decide (i < 0) = false := by simp; omega
        have e2 : decide (k < i) = true := by simp; omega
        rw [hok] at hF
        replace hF : Hid (codeF xss x i k = 2) := Lib.hid (hF.trans rfl)
        replace hok := Lib.hid hok
        go_enter Try.func122, Try.ntmps122
        go_wp2_with fail
        obtain ⟨W1, hW⟩ : ∃ W1 : World, w.alloc (.cells #[.slice A n c] 40) = W1 := ⟨_, rfl⟩
        have hz1 : W1.heap.size = w.heap.size + 1 := by rw [← hW]; simp
        rw [hW] at hR hC hB ⊢
        clear hW h
        ((with_reducible refine (l02Is_any A n c xss _ hR (by omega)).mono ?_); rintro e w2 ⟨rfl, f2⟩)
        rw [hM.out]
        have y2 := f2.size
        have C2 := (f2.cell (p := ⟨w.heap.size, 0, none⟩) (by simp; omega)).trans hC
        have R2 := hR.below f2 (by omega)
        go_wp2_with fail
        ((with_reducible refine (l02Flag_any A n c xss x _ R2 (by omega) (by omega) hf4).mono ?_); rintro e w3 ⟨rfl, f3⟩)
        rw [hF1.out]
        have C3 := (f3.cell (p := ⟨w.heap.size, 0, none⟩) (by simp; omega)).trans C2
        have B3 : Below W1.heap.size W1 w3 := below_then f2 f3 (by omega)
        go_wp2_with fail
        go_ret
        exact ⟨ret_int hF.out.symm, hB.trans (B3.mono (by omega))⟩
      · have e1 : decide (i < 0) = false := by simp; omega
        have e2 : decide (k < i) = false := by simp; omega
        have e3 : decide ((n : Int) - 1 < k) = true := by simp; omega
        have e4 : decide (k > (n : Int) - 1) = true := by simp; omega
        rw [hok] at hF
        replace hF : Hid (codeF xss x i k = 2) := Lib.hid (hF.trans rfl)
        replace hok := Lib.hid hok
        go_enter Try.func122, Try.ntmps122
        go_wp2_with fail
        obtain ⟨W1, hW⟩ : ∃ W1 : World, w.alloc (.cells #[.slice A n c] 40) = W1 := ⟨_, rfl⟩
        have hz1 : W1.heap.size = w.heap.size + 1 := by rw [← hW]; simp
        rw [hW] at hR hC hB ⊢
        clear hW h
        ((with_reducible refine (l02Is_any A n c xss _ hR (by omega)).mono ?_); rintro e w2 ⟨rfl, f2⟩)
        rw [hM.out]
        have y2 := f2.size
        have C2 := (f2.cell (p := ⟨w.heap.size, 0, none⟩) (by simp; omega)).trans hC
        have R2 := hR.below f2 (by omega)
        go_wp2_with fail
        ((with_reducible refine (l02Flag_any A n c xss x _ R2 (by omega) (by omega) hf4).mono ?_); rintro e w3 ⟨rfl, f3⟩)
        rw [hF1.out]
        have C3 := (f3.cell (p := ⟨w.heap.size, 0, none⟩) (by simp; omega)).trans C2
        have B3 : Below W1.heap.size W1 w3 := below_then f2 f3 (by omega)
        go_wp2_with fail
        go_ret
        exact ⟨ret_int hF.out.symm, hB.trans (B3.mono (by omega))⟩
set_option maxHeartbeats 8000000 in
theorem l04Section_any (N : Nat) (A : Option Addr) (n c : Nat) (XSS : List (List Int)) (x : Int) (i k : Nat) (ii ki : Int) (hii : ii = i) (hki : ki = k) (w : World) {lo hi : Nat} (h : RS w lo hi A n XSS) (hhi : hi ≤ w.heap.size) (hnc : n ≤ c) (hik : i ≤ k) (hkn : k < n) (hn5 : n ≤ 20) (hN : flg XSS = N) (hn : N ≤ 400) (hS : SysOf XSS N) (hx0 : 0 ≤ x) (hx1 : x < N) :
    Calls Try.prog 111 #[.agg #[.slice A n c], .int .i64 x, .int .i64 ii, .int .i64 ki] w fun e w' => ∃ (A1 : Option Addr) (c1 : Nat), e = .returned (.agg #[.slice A1 (k + 1 - i) c1]) ∧ OwnS w' w.heap.size w'.heap.size 27 2 A1 (k + 1 - i) c1 (formL (subL XSS i (k + 1)) N x) ∧ Below w.heap.size w w' := by
  subst hii
  subst hki
  obtain ⟨j0, hj0, hy0, hy1, hy2⟩ := info_parts infoI
  obtain ⟨s0, hs0, hu0, hu1, hu2⟩ := info_parts infoS
  have hl := h.len
  obtain ⟨b0, o0, A0, n0, c0, p0, rfl, _, _, _, _, _⟩ := h.at_ (k := 0) (by omega)
  have hR0 := rs_alloc (rs_alloc h hhi (.cells #[.slice (some ⟨b0, o0, none⟩) n c] 40)) (by simp; omega) (.cells #[.slice none 0 0] 40)
  have hB0 : Below w.heap.size w ((w.alloc (.cells #[.slice (some ⟨b0, o0, none⟩) n c] 40)).alloc (.cells #[.slice none 0 0] 40)) := ((Below.refl _ _).alloc (Nat.le_refl _) _).alloc (by simp) _
  have hC0 : ((w.alloc (.cells #[.slice (some ⟨b0, o0, none⟩) n c] 40)).alloc (.cells #[.slice none 0 0] 40)).cell? ⟨w.heap.size, 0, none⟩ = some (.slice (some ⟨b0, o0, none⟩) n c) := (al_old _ _ _ _ (by simp)).trans (al_new _ _ _ _ rfl)
  have hQ0 : ((w.alloc (.cells #[.slice (some ⟨b0, o0, none⟩) n c] 40)).alloc (.cells #[.slice none 0 0] 40)).heap[w.heap.size + 1]? = some (.cells #[.slice none 0 0] 40 (0, 0)) := heap_new _ _ _ (by simp)
  have hs : SysOf (subL XSS i (k + 1)) N := sysOf_sub hS i (k + 1)
  have hxl : (subL XSS i (k + 1)).length = k + 1 - i := subL_length (by omega) (by omega)
  have hsub : RS w lo hi (some ⟨b0, o0 + i, none⟩) (k + 1 - i) (subL XSS i (k + 1)) := rs_sub h (by omega) (by omega) (fun _ => rfl)
  have hnf := l01Orbit_any N (some ⟨b0, o0 + i, none⟩) (k + 1 - i) (c - i) (subL XSS i (k + 1)) x _ ((hsub.keep (Same.of_below hB0 hhi))) (by simp; omega) hn hs hx0 hx1
  have hmet := bfs_met hs hx0 hx1
  have hclo : ∀ y ∈ bfs (subL XSS i (k + 1)) N x, ∀ p ∈ subL XSS i (k + 1), at' p y ∈ bfs (subL XSS i (k + 1)) N x := fun y hy p hp => bfs_closed hs hx0 hx1 hy hp
  have hfl : formL (subL XSS i (k + 1)) N x = (subL XSS i (k + 1)).map (ixF (bfs (subL XSS i (k + 1)) N x)) := rfl
  rw [hfl]
  clear hfl
  generalize bfs (subL XSS i (k + 1)) N x = ord at *
  generalize subL XSS i (k + 1) = xss at *
  have hol := hmet.len
  have hci : ¬ c = i := by omega
  have hic : i ≤ c := by omega
  have hI1 : (i : Int) ≤ (k : Int) + 1 := by omega
  have hI2 : (k : Int) + 1 ≤ (n : Int) := by omega
  have hI3 : (k : Int) + 1 ≤ (c : Int) := by omega
  obtain ⟨m, hmk⟩ : ∃ m, k + 1 - i = m := ⟨_, rfl⟩
  rw [hmk] at hxl hsub hnf ⊢
  have hm1 : 1 ≤ m := by omega
  have hm20 : m ≤ 20 := by omega
  replace hmet := Lib.hid hmet
  replace hclo := Lib.hid hclo
  replace hs := Lib.hid hs
  replace hS := Lib.hid hS
  replace hl := Lib.hid hl
  replace hxl := Lib.hid hxl
  go_enter Try.func111, Try.ntmps111
  go_wp2_with fail
  ((with_reducible refine hnf.mono ?_); rintro e w1 ⟨A5, n5, c5, rfl, o5, f1⟩)
  have B1 : Below w.heap.size w w1 := hB0.trans (f1.mono (by simp; omega))
  have C1 := (f1.cell (p := ⟨w.heap.size, 0, none⟩) (by simp; omega)).trans hC0
  have g4 := (f1.block (w.heap.size + 1) (by simp)).trans hQ0
  have z1 : w.heap.size + 2 ≤ w1.heap.size := by have := f1.size; simp at this; omega
  have e5 := o5.lenI
  subst e5
  have hR1 := h.below B1 hhi
  have hsub1 := hsub.below B1 hhi
  have o5 := o5.more (lo' := w.heap.size) (hi' := w1.heap.size) (by simp <;> omega) (Nat.le_refl _)
  replace g4 := Lib.hid g4
  clear f1 hnf hR0 hC0 hQ0 hB0
  go_wp2_with fail
  ((with_reducible refine (l02Flags_any (some ⟨b0, o0, none⟩) n c XSS _ hR1 (by omega) (by omega)).mono ?_); rintro e w1b ⟨rfl, f1b⟩)
  rw [hN]
  have y1b := f1b.size
  have B1b : Below w1.heap.size w1 w1b := f1b
  go_wp2_with (at_make; refine wpList_make_full _ rfl _ _ 27 rfl w1b.heap.size 2 j0 (.int .i64 0) 1 Try.underlying27 hj0 hy0 hy1 _ _ _ _ N rfl rfl rfl rfl ?c1 ?c2 (Nat.le_refl _) ?_)
  case c1 => rw [hy2]; omega
  case c2 => simp only [maxLen]; omega
  intro w2 hown hg
  have B2 : Below w1b.heap.size w1b w2 := (Below.refl _ _).grown hg (Nat.le_refl _) (by simp)
  have z2 : w1b.heap.size < w2.heap.size := (hown.lt w1b.heap.size (by simp [Value.ownBlock])).2
  have o6 : Own w2 w1b.heap.size w2.heap.size 2 (some ⟨w1b.heap.size, 0, none⟩) N N ((List.replicate N 0).map (Value.int .i64)) := by
    have := Own.of_row hown
    simpa [toList_madeCells_one, Value.cells] using this
  have o5b := o5.below B1b (Nat.le_refl _)
  clear hown hg f1b
  go_wp2_with fail
  go_loopw [12] (fun kv wq => ∃ (q : Nat) (ns : List Int), q ≤ ord.length ∧ kv = .int .i64 q ∧ Hid (NumI ord N q ns) ∧ Own wq w1b.heap.size w2.heap.size 2 (some ⟨w1b.heap.size, 0, none⟩) N N (ns.map (Value.int .i64)) ∧ w2.heap.size ≤ wq.heap.size ∧ Below w1b.heap.size w1b wq) (fun kv _ => ord.length - (intOf kv).toNat)
  case atStart => exact ⟨0, _, by omega, rfl, Lib.hid (NumI.zero ord N), o6, Nat.le_refl _, B2⟩
  case round =>
    clear o6 B2
    obtain ⟨q, ns, hq, rfl, hns, ho, hz, hb⟩ := hrel
    by_cases hlt : q < ord.length
    · obtain ⟨b5, f, rfl, _, _, _, hf, hcf, _⟩ := (o5b.below hb (by omega)).atI hlt
      obtain ⟨hf0, hf1⟩ := hmet.out.rng f (mem_of_get? hf)
      obtain ⟨f, rfl⟩ : ∃ q : Nat, f = q := ⟨f.toNat, by omega⟩
      have hcn := ho.cellI (hns.out.2 f (by omega))
      have hfr := ho.frz f
      have hfn : f < N := by omega
      have hst := hns.out.step hmet.out.nd hf
      replace hst := Lib.hid hst
      replace hf := Lib.hid hf
      generalize (if (f : Int) ∈ ord.take q then (ord.idxOf (f : Int) : Int) else 0) = old at *
      go_wp2_with fail
      go_roundw
      case measure => simp [intOf]; omega
      case rel => exact ⟨q + 1, ns.set f (q : Int), by omega, by go_num, hst, ho.setI (q : Int), by simp; omega, hb.setCell (by simp) _⟩
    · have hko : q = ord.length := by omega
      subst hko
      have hnum : ∀ z : Nat, z < N → (z : Int) ∈ ord → ns[z]? = some (ord.idxOf (z : Int) : Int) := fun z hz' hm => hns.out.get hz' hm
      replace hnum := Lib.hid hnum
      go_wp2_with fail
      obtain ⟨w3, rfl⟩ : ∃ w3 : World, w3 = wr := ⟨_, rfl⟩
      have g9 : (w3.alloc (.cells #[.slice none 0 0] 40)).heap[w3.heap.size]? = some (.cells #[.slice none 0 0] 40 (0, 0)) := heap_new _ _ _ rfl
      go_loopw [14] (fun kv wq => ∃ (q : Nat) (vs : List Value) (A2 : Option Addr) (c2 : Nat), q ≤ m ∧ vs.length = q ∧ kv = .int .i64 q ∧ wq.heap[w3.heap.size]? = some (.cells #[.slice A2 q c2] 40 (0, 0)) ∧
          Own wq (w3.heap.size + 1) wq.heap.size 27 A2 q c2 vs ∧ RowsOwn wq (w3.heap.size + 1) wq.heap.size 2 vs ((xss.take q).map (ixF ord)) ∧ w3.heap.size + 1 ≤ wq.heap.size ∧ Below w3.heap.size w3 wq) (fun kv _ => m - (intOf kv).toNat)
      case atStart => exact ⟨0, [], none, 0, by omega, rfl, rfl, g9, Own.nil, by simpa using RowsOwn.nil, by simp, (Below.refl _ _).alloc (Nat.le_refl _) _⟩
      case round =>
        clear g9
        obtain ⟨q, vs, A2, c2, hq, hvk, rfl, g9, ho9, hrows, hz9, hb9⟩ := hrel
        have C9 : wr.cell? ⟨w3.heap.size, 0, none⟩ = some (.slice A2 q c2) := by rw [cell_of_row _ _ _ _ _ _ g9]; rfl
        have F9 : wr.frozen? ⟨w3.heap.size, 0, none⟩ = false := frozen_of_row _ _ _ _ _ g9
        have hbw : Below w1b.heap.size w1b wr := hb.trans (hb9.mono (by omega))
        have hb1 : Below w1.heap.size w1 wr := B1b.trans (hbw.mono y1b)
        have ho6 := ho.below hb9 hz
        by_cases hkm : q < m
        · obtain ⟨bb, oo, Ak, nk, ck, p, e, _, _, hp, hpc, hpr⟩ := (hsub1.below hb1 (by omega)).at_ hkm
          injection e with e
          injection e with e1 e2 _
          subst e1; subst e2
          have hpm := mem_of_get? hp
          obtain ⟨hpr0, hpn, hpl⟩ := hs.out p hpm
          have hnk := hpr.len
          have hkk : nk = N := by omega
          subst hkk
          have htk := take_succ_of hp
          replace hp := Lib.hid hp
          replace htk := Lib.hid htk
          replace hpr0 := Lib.hid hpr0
          replace hpl := Lib.hid hpl
          replace g9 := Lib.hid g9
          have hnk1 := hpr.max
          go_wp2_with fail
          obtain ⟨wo, rfl⟩ : ∃ wo : World, wo = wr := ⟨_, rfl⟩
          have hlit := World.ownsRow_lit (e := 2) (base := wo.heap.size) (size := 1) wo #[] 0 (Nat.le_refl _) (by omega) rfl
          go_loopw [15, 16] (fun lv kv wq => ∃ (j : Nat) (ys : List Int) (A3 : Option Addr) (c3 : Nat), j ≤ ord.length ∧ ys.length = j ∧ lv = .slice A3 j c3 ∧ kv = .int .i64 j ∧ Hid (ys = (ixF ord p).take j) ∧ Own wq wo.heap.size wq.heap.size 2 A3 j c3 (ys.map (Value.int .i64)) ∧ wo.heap.size ≤ wq.heap.size ∧ Below wo.heap.size wo wq) (fun _ kv _ => ord.length - (intOf kv).toNat)
          case atStart => exact ⟨0, [], _, 0, by omega, rfl, rfl, rfl, Lib.hid rfl, by simpa using Own.of_row hlit, by simp, (Below.refl _ _).alloc (Nat.le_refl _) _⟩
          case round =>
            clear hlit
            obtain ⟨j, ys, A3, c3, hj, hyl, rfl, rfl, hys, ho3, hz3, hb3⟩ := hrel
            by_cases hjo : j < ord.length
            · obtain ⟨b5, f, hA5, _, _, _, hf, hcf, _⟩ := ((o5b.below hbw (by omega)).below hb3 (by omega)).atI hjo
              subst hA5
              have hfm := mem_of_get? hf
              obtain ⟨hf0, hf1⟩ := hmet.out.rng f hfm
              obtain ⟨f, rfl⟩ : ∃ q : Nat, f = q := ⟨f.toNat, by omega⟩
              have hfn : f < nk := by omega
              obtain ⟨bp, oq, v, rfl, _, _, hv, hvc⟩ := (hpr.below hb3 (by omega)).at_ hfn
              have hva : at' p f = v := by unfold at'; rw [Int.toNat_natCast]; exact getD_some hv
              have hvo := hclo.out _ hfm p hpm
              rw [hva] at hvo
              obtain ⟨hv0, hv1⟩ := hpr0.out v (mem_of_get? hv)
              obtain ⟨v, rfl⟩ : ∃ q : Nat, v = q := ⟨v.toNat, by omega⟩
              have hvn : v < nk := by omega
              have hcn := (ho6.below hb3 (by omega)).cellI (hnum.out v hvn hvo)
              have hpc3 := (hb3.cell (p := ⟨b0, o0 + i + q, none⟩) (by simp; omega)).trans hpc
              have hst : ys ++ [(ord.idxOf (v : Int) : Int)] = (ixF ord p).take (j + 1) := by
                rw [take_succ_of (x := (ord.idxOf (v : Int) : Int)) (by simp [ixF, hf, hva]), ← hys.out]
              replace hst := Lib.hid hst
              replace hf := Lib.hid hf
              replace hfm := Lib.hid hfm
              replace hv := Lib.hid hv
              replace hva := Lib.hid hva
              replace hvo := Lib.hid hvo
              generalize (ord.idxOf (v : Int) : Int) = u at *
              have hown' : Hid ((wr.alloc (.cells #[.int .i64 u] 2)).drew.ownsRow wo.heap.size 2 1 (.slice A3 j c3) j (ys.map (Value.int .i64))) := Lib.hid (ho3.1.alloc _)
              have hnew' : Hid (∀ q v, [Value.int .i64 u][q]? = some v → (wr.alloc (.cells #[.int .i64 u] 2)).drew.cell? ((⟨wr.heap.size, 0, none⟩ : Addr).add q) = some v) := Lib.hid (cell_one_new wr _ _)
              have hml : Hid (j + 1 ≤ maxLen) := Lib.hid (by simp only [maxLen]; omega)
              have hbs : wo.heap.size ≤ (wr.alloc (.cells #[.int .i64 u] 2)).drew.heap.size := by simp; omega
              have hbA : Below wo.heap.size wo (wr.alloc (.cells #[.int .i64 u] 2)).drew := below_drew (hb3.alloc hz3 _)
              have hlo3 : ∀ q, (Value.slice A3 j c3).ownBlock = some q → wo.heap.size ≤ q := fun q hq => (ho3.1.lt q hq).1
              replace hbs := Lib.hid hbs
              replace hbA := Lib.hid hbA
              replace hlo3 := Lib.hid hlo3
              go_wp2_with fail
              go_region_law (refine step_append_lies _ rfl (.tmp 56) (.tmp 70) 27 rfl wo.heap.size 2 j0 (.int .i64 0) 1 8 Try.underlying27 hj0 hy0 hy1 hy2 rfl (by decide) (.slice A3 j c3) j (ys.map (Value.int .i64)) (by simp [Act.eval]) hown'.out ⟨wr.heap.size, 0, none⟩ 1 1 [.int .i64 u] (by simp [Act.eval]) rfl hnew'.out (by simp [Value.oneCell']) (by decide) hml.out (by omega) hbs.out _ rfl ?_; intro g4 c4 w5 ho5 hg5 hor5 hlt5)
              all_goals
                have hb5 : Below wo.heap.size wo w5 := hbA.out.grown hg5 hbs.out (fun q hq => hlo3.out q hq)
                have hz5 : wo.heap.size ≤ w5.heap.size := hb5.size
                clear hcf hvc hcn ho3 hb3 hg5 hpc3
                go_wp2_with fail
                go_roundw
                case measure => simp [intOf]; omega
                case rel => exact ⟨j + 1, ys ++ [u], _, c4, by omega, by simp; omega, rfl, by go_num, hst, by simpa using Own.of_row ho5, by omega, hb5⟩
            · have hjo' : j = ord.length := by omega
              subst hjo'
              have hyf : ys = ixF ord p := by have := hys.out; rwa [List.take_of_length_le (by rw [ixF_length]; exact Nat.le_refl _)] at this
              have ho9' := ho9.below hb3 (Nat.le_refl _)
              have hrows' := hrows.keep (Same.of_below hb3 (Nat.le_refl _))
              have g9' := (hb3.block w3.heap.size (by omega)).trans g9.out
              have C9' : wr.cell? ⟨w3.heap.size, 0, none⟩ = some (.slice A2 q c2) := by rw [cell_of_row _ _ _ _ _ _ g9']; rfl
              have F9' : wr.frozen? ⟨w3.heap.size, 0, none⟩ = false := frozen_of_row _ _ _ _ _ g9'
              replace g9' := Lib.hid g9'
              replace hyf := Lib.hid hyf
              replace hyl := Lib.hid hyl
              go_wp2_with (at_builtin; refine wpList_append1 wr rfl (.tmp 73) (.tmp 75) 24 rfl (w3.heap.size + 1) 27 s0 (.slice none 0 0) 24 Try.underlying24 hs0 hu0 hu1 hu2 rfl (by omega) A2 q c2 _ (.slice A3 ord.length c3) rfl ho9'.1 _ rfl rfl rfl (by omega) (by omega) ?_)
              intro g4' c4 w5 ho5 hg5 hlo5 hlt5 hor5
              have g5 := (hg5.block w3.heap.size (by omega) (fun e => by have := (ho9'.1.lt _ e.symm).1; omega)).trans g9'.out
              have C5 : w5.cell? ⟨w3.heap.size, 0, none⟩ = some (.slice A2 q c2) := by rw [cell_of_row _ _ _ _ _ _ g5]; rfl
              have F5 : w5.frozen? ⟨w3.heap.size, 0, none⟩ = false := frozen_of_row _ _ _ _ _ g5
              have hrw5 := (hrows'.kept_ty ho9'.1 (by decide) hg5).snoc (ho3.kept_ty ho9'.1 (by decide) hg5) (by omega) hz3
              have hz5 := hg5.size
              have hb5 : Below w3.heap.size w3 w5 := (hb9.trans (hb3.mono (by omega))).grown hg5 (by omega) (fun q' hq' => by have := (ho9'.1.lt q' hq').1; omega)
              have ho5' := Own.of_row ho5
              replace g5 := Lib.hid g5
              clear C9 F9 C9' F9' ho9 ho9' hrows hrows' ho3 hg5 ho5
              go_wp2_with fail
              go_roundw
              case measure => simp [intOf]; omega
              case rel =>
                refine ⟨q + 1, vs ++ [.slice A3 ord.length c3], _, c4, by omega, by simp; omega, by go_num, ?_, (ho5'.far (.inl (by simp)) _).more (Nat.le_refl _) (by simp), ?_, by simp; omega, hb5.setCell (by simp) _⟩
                · have := heap_setCell_same _ _ 0 _ _ (Value.slice (some ⟨g4', 0, none⟩) (q + 1) c4) g5.out
                  simpa using this
                · rw [htk.out, List.map_append, List.map_singleton, ← hyf.out]
                  exact (hrw5.keep (same_set _ _ _ _ _ (.inl (by simp)))).more (Nat.le_refl _) (by simp; omega)
        · have hkm' : q = m := by omega
          subst hkm'
          have g4' := (hb1.block (w.heap.size + 1) (by omega)).trans g4.out
          have C4 : wr.cell? ⟨w.heap.size + 1, 0, none⟩ = some (.slice none 0 0) := by rw [cell_of_row _ _ _ _ _ _ g4']; rfl
          have F4 : wr.frozen? ⟨w.heap.size + 1, 0, none⟩ = false := frozen_of_row _ _ _ _ _ g4'
          replace g4' := Lib.hid g4'
          replace g9 := Lib.hid g9
          go_wp2_with fail
          have g2 := heap_setCell_same _ _ 0 _ _ (Value.slice A2 q c2) g4'.out
          (try simp only [Exit.inBlock, Exit.then])
          refine bodyPost_ret (v := .agg #[.slice A2 q c2]) ?_ rfl ?_
          · exact results_cell_row rfl _ _ (w.heap.size + 1) 40 #[.slice A2 q c2] (0, 0) _ rfl (by simpa using g2) Try.underlying40 rfl (by kernel_rfl)
          · have e : xss.take q = xss := List.take_of_length_le (by have := hxl.out; omega)
            rw [e] at hrows
            refine ⟨A2, c2, rfl, ⟨vs, ?_, ?_⟩, (B1.trans (hb1.mono (by omega))).setCell (by simp) _⟩
            · exact (ho9.keep (same_set _ _ _ _ _ (.inl (by simp; omega)))).more (by omega) (by simp)
            · exact (hrows.keep (same_set _ _ _ _ _ (.inl (by simp; omega)))).more (by omega) (by simp)
end Go.Proofs.Ytdaljeghdiknpaa
/- FacX -/
namespace Go.Proofs.Ytdaljeghdiknpaa
open Go.RowKit
set_option linter.unusedVariables false
set_option maxRecDepth 100000
/-- what they return -/
noncomputable def genF (xss : List (List Int)) (i y st : Int) (R : Int → List (List Int)) : List (List Int) × Int := if (lwF xss i y).2 = 0 then (if i = st then ([], 5) else (R (lwF xss i y).1, 0)) else ([], (lwF xss i y).2)
noncomputable def facF (xss : List (List Int)) (i y : Int) : List (List Int) × Int := genF xss i y 0 (fun fl => formL (subL xss 0 i.toNat) (flg xss) fl)
noncomputable def cofF (xss : List (List Int)) (i y : Int) : List (List Int) × Int := genF xss i y ((xss.length : Int) - 1) (fun fl => formL (subL xss (i.toNat + 1) xss.length) (flg xss) fl)
theorem gen_c {xss : List (List Int)} {i y st fl cd : Int} {R : Int → List (List Int)} (h : (fl, cd) = lwF xss i y) (hc : cd ≠ 0) : genF xss i y st R = ([], cd) := by unfold genF; rw [← h, if_neg hc]
theorem gen_5 {xss : List (List Int)} {i y st fl : Int} {R : Int → List (List Int)} (h : (fl, (0 : Int)) = lwF xss i y) (hs : i = st) : genF xss i y st R = ([], 5) := by unfold genF; rw [← h, if_pos rfl, if_pos hs]
theorem gen_0 {xss : List (List Int)} {i y st fl : Int} {R : Int → List (List Int)} (h : (fl, (0 : Int)) = lwF xss i y) (hs : i ≠ st) : genF xss i y st R = (R fl, 0) := by unfold genF; rw [← h, if_pos rfl, if_neg hs]
theorem l4_c {xss : List (List Int)} {i y st fl cd : Int} {R : Int → List (List Int)} (h : (fl, cd) = l4F xss i y st) (hc : cd ≠ 0) : genF xss i y st R = ([], cd) := by
  unfold l4F at h
  by_cases hh : (lwF xss i y).2 = 0 ∧ i = st
  · rw [if_pos hh] at h
    injection h with _ e
    unfold genF
    rw [if_pos hh.1, if_pos hh.2, e]
  · rw [if_neg hh] at h
    exact gen_c h hc
theorem l4_0 {xss : List (List Int)} {i y st fl : Int} (h : (fl, (0 : Int)) = l4F xss i y st) : (fl, (0 : Int)) = lwF xss i y ∧ i ≠ st := by
  unfold l4F at h
  by_cases hh : (lwF xss i y).2 = 0 ∧ i = st
  · rw [if_pos hh] at h
    injection h with _ e
    cases e
  · rw [if_neg hh] at h
    exact ⟨h, fun e => hh ⟨by rw [← h], e⟩⟩
set_option maxHeartbeats 8000000 in
theorem s_FaceAsManiplex_any (w : World) (A : Option Addr) (n c : Nat) (xss : List (List Int)) {lo hi : Nat} (h : RS w lo hi A n xss) (hhi : hi ≤ w.heap.size) (hnc : n ≤ c) (x : Int) (hx : -9223372036854775808 ≤ x ∧ x ≤ 9223372036854775807) (y : Int) (hy : -9223372036854775808 ≤ y ∧ y ≤ 9223372036854775807) :
    Calls Try.prog 46 #[.agg #[.slice A n c], .int .i64 x, .int .i64 y] w fun e w' => ∃ (A1 : Option Addr) (n1 c1 : Nat) (zss : List (List Int)) (code : Int), e = .returned (.tuple #[.agg #[.slice A1 n1 c1], .int .i64 code]) ∧ Hid ((zss, code) = facF xss x y) ∧ OwnS w' w.heap.size w'.heap.size 27 2 A1 n1 c1 zss ∧ n1 + numsIn zss ≤ 1048576 ∧ Below w.heap.size w w' := by
  have hm := h.max
  have hl := h.len
  obtain ⟨hx0, hx1⟩ := hx
  obtain ⟨hy0, hy1⟩ := hy
  have hR := rs_alloc (rs_alloc h hhi (.cells #[.slice A n c] 40)) (by simp; omega) (.cells #[.slice none 0 0] 40)
  have hC : ((w.alloc (.cells #[.slice A n c] 40)).alloc (.cells #[.slice none 0 0] 40)).cell? ⟨w.heap.size, 0, none⟩ = some (.slice A n c) := (al_old _ _ _ _ (by simp)).trans (al_new _ _ _ _ rfl)
  have hQ : ((w.alloc (.cells #[.slice A n c] 40)).alloc (.cells #[.slice none 0 0] 40)).heap[w.heap.size + 1]? = some (.cells #[.slice none 0 0] 40 (0, 0)) := heap_new _ _ _ (by simp)
  have hB : Below w.heap.size w ((w.alloc (.cells #[.slice A n c] 40)).alloc (.cells #[.slice none 0 0] 40)) := ((Below.refl _ _).alloc (Nat.le_refl _) _).alloc (by simp) _
  replace hl := Lib.hid hl
  go_enter Try.func46, Try.ntmps46
  go_wp2_with fail
  obtain ⟨W1, hW⟩ : ∃ W1 : World, (w.alloc (.cells #[.slice A n c] 40)).alloc (.cells #[.slice none 0 0] 40) = W1 := ⟨_, rfl⟩
  have hz1 : W1.heap.size = w.heap.size + 2 := by rw [← hW]; simp
  rw [hW] at hR hC hB hQ ⊢
  replace hQ := Lib.hid hQ
  clear hW h
  ((with_reducible refine (l04Face_any A n c xss x y _ _ hR (by omega)).mono ?_); rintro e w2 ⟨fl, cd, rfl, Hl, f2⟩)
  have y2 := f2.size
  have B2 : Below W1.heap.size W1 w2 := f2
  have C2 := (f2.cell (p := ⟨w.heap.size, 0, none⟩) (by simp; omega)).trans hC
  have R2 := hR.below f2 (by omega)
  have Q2 := (B2.block (w.heap.size + 1) (by omega)).trans hQ.out
  have CQ2 : w2.cell? ⟨w.heap.size + 1, 0, none⟩ = some (.slice none 0 0) := by rw [cell_of_row _ _ _ _ _ _ Q2]; rfl
  have FQ2 : w2.frozen? ⟨w.heap.size + 1, 0, none⟩ = false := frozen_of_row _ _ _ _ _ Q2
  replace Q2 := Lib.hid Q2
  by_cases hcd : cd = 0
  · subst hcd
    obtain ⟨Hl, hne⟩ := l4_0 Hl.out
    replace Hl := Lib.hid Hl
    obtain ⟨hM, hi0, hi1, hxa, hxc⟩ := lw_zero Hl.out
    rw [hl.out] at hi1
    have hP := isManB_iff.1 hM
    have hn1 : 1 ≤ n := by have := hP.r1; have := hl.out; omega
    have hn5 : n ≤ 5 := by have := hP.r5; have := hl.out; omega
    have hf4 := hP.f4
    have hS := Lib.hid hP.sys
    clear hP
    replace hM := Lib.hid hM
    have hF0 := gen_0 (st := 0) (R := (fun fl => formL (subL xss 0 x.toNat) (flg xss) fl)) Hl.out (by exact hne)
    have hst : ¬ x = 0 := hne
    obtain ⟨x, rfl⟩ : ∃ q : Nat, x = q := ⟨x.toNat, by omega⟩
    have hF : facF xss x y = (formL (subL xss 0 x) (flg xss) fl, 0) := by have h9 := hF0; rw [Int.toNat_natCast] at h9; unfold facF; rw [Int.toNat_natCast]; exact h9
    have hsl : (subL xss 0 x).length = x := subL_length (by have := hl.out; omega) (by omega)
    have hnum := formL_nums (sysOf_sub hS.out 0 x) hxa hxc hf4 (by have := hl.out; omega)
    rw [formL_length, hsl] at hnum
    replace hsl := Lib.hid hsl
    replace hF := Lib.hid hF
    replace hF0 := Lib.hid hF0
    replace hst := Lib.hid hst
    have hst9 := hst.out
    obtain ⟨b0, o0, A0, n0, c0, p0, rfl, _, _, _, _, _⟩ := R2.at_ (k := 0) (by omega)
    have hxp : 0 < x := by omega
    have hxn : x ≤ n := by omega
    have hxcc : x ≤ c := by omega
    have hI2 : (x : Int) ≤ (n : Int) := by omega
    have hI3 : (x : Int) ≤ (c : Int) := by omega
    replace hst9 := Lib.hid hst9
    go_wp2_with fail
    have hsec := l04Section_any (flg xss) (some ⟨b0, o0, none⟩) n c xss fl 0 (x - 1) 0 ((x : Int) - 1) rfl (by omega) _ R2 (by omega) hnc (by omega) (by omega) (by omega) rfl hf4 hS.out hxa hxc
    rw [show x - 1 + 1 = x by omega, Nat.sub_zero] at hsec
    ((with_reducible refine hsec.mono ?_); rintro e w9 ⟨A9, c9, rfl, o9, f9⟩)
    have B9 : Below W1.heap.size W1 w9 := below_then B2 f9 (by omega)
    have Q9 := (B9.block (w.heap.size + 1) (by omega)).trans hQ.out
    have CQ9 : w9.cell? ⟨w.heap.size + 1, 0, none⟩ = some (.slice none 0 0) := by rw [cell_of_row _ _ _ _ _ _ Q9]; rfl
    have FQ9 : w9.frozen? ⟨w.heap.size + 1, 0, none⟩ = false := frozen_of_row _ _ _ _ _ Q9
    replace Q9 := Lib.hid Q9
    go_wp2_with fail
    have g2 := heap_setCell_same _ _ 0 _ _ (Value.slice A9 (x) c9) Q9.out
    (try simp only [Exit.inBlock, Exit.then])
    refine bodyPost_ret (v := .tuple #[.agg #[.slice A9 (x) c9], .int .i64 0]) ?_ rfl ?_
    · exact results_cell_row2 rfl _ _ (w.heap.size + 1) 40 #[.slice A9 (x) c9] (0, 0) _ rfl (by simpa using g2) Try.underlying40 rfl (by kernel_rfl) _ rfl
    · exact ⟨A9, _, c9, _, _, rfl, Lib.hid hF.out.symm, (o9.keep (same_set _ _ _ _ _ (.inl (by simp; omega)))).more (by omega) (by simp), hnum, (hB.trans (B9.mono (by omega))).setCell (by simp) _⟩
  · have hF : facF xss x y = ([], cd) := l4_c Hl.out hcd
    have hcb : (cd != 0) = true := by simpa using hcd
    replace hF := Lib.hid hF
    replace hcd := Lib.hid hcd
    go_wp2_with fail
    have g2 := heap_setCell_same _ _ 0 _ _ (Value.slice none 0 0) Q2.out
    (try simp only [Exit.inBlock, Exit.then])
    refine bodyPost_ret (v := .tuple #[.agg #[.slice none 0 0], .int .i64 cd]) ?_ rfl ?_
    · exact results_cell_row2 rfl _ _ (w.heap.size + 1) 40 #[.slice none 0 0] (0, 0) _ rfl (by simpa using g2) Try.underlying40 rfl (by kernel_rfl) _ rfl
    · exact ⟨_, 0, _, [], _, rfl, Lib.hid hF.out.symm, OwnS.nil, by simp [numsIn], (hB.trans (B2.mono (by omega))).setCell (by simp) _⟩
set_option maxHeartbeats 8000000 in
theorem i_FaceAsManiplex_any (w : World) (A : Option Addr) (n c : Nat) (xss : List (List Int)) {lo hi : Nat} (h : RS w lo hi A n xss) (hhi : hi ≤ w.heap.size) (hnc : n ≤ c) (x : Int) (hx : -9223372036854775808 ≤ x ∧ x ≤ 9223372036854775807) (y : Int) (hy : -9223372036854775808 ≤ y ∧ y ≤ 9223372036854775807) :
    Calls Try.prog 45 #[.agg #[.slice A n c], .int .i64 x, .int .i64 y] w fun e w' => ∃ (A1 : Option Addr) (n1 c1 : Nat) (zss : List (List Int)) (code : Int), e = .returned (.tuple #[.agg #[.slice A1 n1 c1], .int .i64 code]) ∧ Hid ((zss, code) = facF xss x y) ∧ OwnS w' w.heap.size w'.heap.size 27 2 A1 n1 c1 zss ∧ n1 + numsIn zss ≤ 1048576 ∧ Below w.heap.size w w' := by
  have hm := h.max
  have hl := h.len
  obtain ⟨hx0, hx1⟩ := hx
  obtain ⟨hy0, hy1⟩ := hy
  have hR := rs_alloc (rs_alloc h hhi (.cells #[.slice A n c] 40)) (by simp; omega) (.cells #[.slice none 0 0] 40)
  have hC : ((w.alloc (.cells #[.slice A n c] 40)).alloc (.cells #[.slice none 0 0] 40)).cell? ⟨w.heap.size, 0, none⟩ = some (.slice A n c) := (al_old _ _ _ _ (by simp)).trans (al_new _ _ _ _ rfl)
  have hQ : ((w.alloc (.cells #[.slice A n c] 40)).alloc (.cells #[.slice none 0 0] 40)).heap[w.heap.size + 1]? = some (.cells #[.slice none 0 0] 40 (0, 0)) := heap_new _ _ _ (by simp)
  have hB : Below w.heap.size w ((w.alloc (.cells #[.slice A n c] 40)).alloc (.cells #[.slice none 0 0] 40)) := ((Below.refl _ _).alloc (Nat.le_refl _) _).alloc (by simp) _
  replace hl := Lib.hid hl
  go_enter Try.func45, Try.ntmps45
  go_wp2_with fail
  obtain ⟨W1, hW⟩ : ∃ W1 : World, (w.alloc (.cells #[.slice A n c] 40)).alloc (.cells #[.slice none 0 0] 40) = W1 := ⟨_, rfl⟩
  have hz1 : W1.heap.size = w.heap.size + 2 := by rw [← hW]; simp
  rw [hW] at hR hC hB hQ ⊢
  replace hQ := Lib.hid hQ
  clear hW h
  ((with_reducible refine (leastWith_any _ A n c xss x y _ hC (by omega) hR (by omega) hnc).mono ?_); rintro e w2 ⟨fl, cd, rfl, Hl, f2⟩)
  have y2 := f2.size
  have B2 : Below W1.heap.size W1 w2 := f2
  have C2 := (f2.cell (p := ⟨w.heap.size, 0, none⟩) (by simp; omega)).trans hC
  have R2 := hR.below f2 (by omega)
  have Q2 := (B2.block (w.heap.size + 1) (by omega)).trans hQ.out
  have CQ2 : w2.cell? ⟨w.heap.size + 1, 0, none⟩ = some (.slice none 0 0) := by rw [cell_of_row _ _ _ _ _ _ Q2]; rfl
  have FQ2 : w2.frozen? ⟨w.heap.size + 1, 0, none⟩ = false := frozen_of_row _ _ _ _ _ Q2
  replace Q2 := Lib.hid Q2
  by_cases hcd : cd = 0
  · subst hcd
    obtain ⟨hM, hi0, hi1, hxa, hxc⟩ := lw_zero Hl.out
    rw [hl.out] at hi1
    have hP := isManB_iff.1 hM
    have hn1 : 1 ≤ n := by have := hP.r1; have := hl.out; omega
    have hn5 : n ≤ 5 := by have := hP.r5; have := hl.out; omega
    have hf4 := hP.f4
    have hS := Lib.hid hP.sys
    clear hP
    replace hM := Lib.hid hM
    by_cases hst : x = 0
    · have hF : facF xss x y = ([], 5) := gen_5 Hl.out (by rw [hst])
      have hsb : (x == 0) = true := by simpa using hst
      replace hF := Lib.hid hF
      replace hst := Lib.hid hst
      go_wp2_with fail
      have g2 := heap_setCell_same _ _ 0 _ _ (Value.slice none 0 0) Q2.out
      (try simp only [Exit.inBlock, Exit.then])
      refine bodyPost_ret (v := .tuple #[.agg #[.slice none 0 0], .int .i64 5]) ?_ rfl ?_
      · exact results_cell_row2 rfl _ _ (w.heap.size + 1) 40 #[.slice none 0 0] (0, 0) _ rfl (by simpa using g2) Try.underlying40 rfl (by kernel_rfl) _ rfl
      · exact ⟨_, 0, _, [], _, rfl, Lib.hid hF.out.symm, OwnS.nil, by simp [numsIn], (hB.trans (B2.mono (by omega))).setCell (by simp) _⟩
    · have hF0 := gen_0 (st := 0) (R := (fun fl => formL (subL xss 0 x.toNat) (flg xss) fl)) Hl.out (by exact hst)
      have hsb : (x == 0) = false := by simpa using hst
      obtain ⟨x, rfl⟩ : ∃ q : Nat, x = q := ⟨x.toNat, by omega⟩
      have hF : facF xss x y = (formL (subL xss 0 x) (flg xss) fl, 0) := by have h9 := hF0; rw [Int.toNat_natCast] at h9; unfold facF; rw [Int.toNat_natCast]; exact h9
      have hsl : (subL xss 0 x).length = x := subL_length (by have := hl.out; omega) (by omega)
      have hnum := formL_nums (sysOf_sub hS.out 0 x) hxa hxc hf4 (by have := hl.out; omega)
      rw [formL_length, hsl] at hnum
      replace hsl := Lib.hid hsl
      replace hF := Lib.hid hF
      replace hF0 := Lib.hid hF0
      replace hst := Lib.hid hst
      have hst9 := hst.out
      obtain ⟨b0, o0, A0, n0, c0, p0, rfl, _, _, _, _, _⟩ := R2.at_ (k := 0) (by omega)
      have hxp : 0 < x := by omega
      have hxn : x ≤ n := by omega
      have hxcc : x ≤ c := by omega
      have hI2 : (x : Int) ≤ (n : Int) := by omega
      have hI3 : (x : Int) ≤ (c : Int) := by omega
      replace hst9 := Lib.hid hst9
      go_wp2_with fail
      have hsb9 : RS w2 lo hi (some ⟨b0, o0, none⟩) x (subL xss 0 x) := rs_sub (i := 0) (j := x) R2 (by omega) (by omega) (fun _ => by simp)
      ((with_reducible refine (formFrom_any (flg xss) (some ⟨b0, o0, none⟩) x c (subL xss 0 x) fl _ hsb9 (by omega) (by omega) (by omega) hf4 (sysOf_sub hS.out 0 x) hxa hxc).mono ?_); rintro e w9 ⟨A9, c9, rfl, o9, f9⟩)
      have B9 : Below W1.heap.size W1 w9 := below_then B2 f9 (by omega)
      have Q9 := (B9.block (w.heap.size + 1) (by omega)).trans hQ.out
      have CQ9 : w9.cell? ⟨w.heap.size + 1, 0, none⟩ = some (.slice none 0 0) := by rw [cell_of_row _ _ _ _ _ _ Q9]; rfl
      have FQ9 : w9.frozen? ⟨w.heap.size + 1, 0, none⟩ = false := frozen_of_row _ _ _ _ _ Q9
      replace Q9 := Lib.hid Q9
      go_wp2_with fail
      have g2 := heap_setCell_same _ _ 0 _ _ (Value.slice A9 (x) c9) Q9.out
      (try simp only [Exit.inBlock, Exit.then])
      refine bodyPost_ret (v := .tuple #[.agg #[.slice A9 (x) c9], .int .i64 0]) ?_ rfl ?_
      · exact results_cell_row2 rfl _ _ (w.heap.size + 1) 40 #[.slice A9 (x) c9] (0, 0) _ rfl (by simpa using g2) Try.underlying40 rfl (by kernel_rfl) _ rfl
      · exact ⟨A9, _, c9, _, _, rfl, Lib.hid hF.out.symm, (o9.keep (same_set _ _ _ _ _ (.inl (by simp; omega)))).more (by omega) (by simp), hnum, (hB.trans (B9.mono (by omega))).setCell (by simp) _⟩
  · have hF : facF xss x y = ([], cd) := gen_c Hl.out hcd
    have hcb : (cd != 0) = true := by simpa using hcd
    replace hF := Lib.hid hF
    replace hcd := Lib.hid hcd
    go_wp2_with fail
    have g2 := heap_setCell_same _ _ 0 _ _ (Value.slice none 0 0) Q2.out
    (try simp only [Exit.inBlock, Exit.then])
    refine bodyPost_ret (v := .tuple #[.agg #[.slice none 0 0], .int .i64 cd]) ?_ rfl ?_
    · exact results_cell_row2 rfl _ _ (w.heap.size + 1) 40 #[.slice none 0 0] (0, 0) _ rfl (by simpa using g2) Try.underlying40 rfl (by kernel_rfl) _ rfl
    · exact ⟨_, 0, _, [], _, rfl, Lib.hid hF.out.symm, OwnS.nil, by simp [numsIn], (hB.trans (B2.mono (by omega))).setCell (by simp) _⟩
set_option maxHeartbeats 8000000 in
theorem s_CofaceAsManiplex_any (w : World) (A : Option Addr) (n c : Nat) (xss : List (List Int)) {lo hi : Nat} (h : RS w lo hi A n xss) (hhi : hi ≤ w.heap.size) (hnc : n ≤ c) (x : Int) (hx : -9223372036854775808 ≤ x ∧ x ≤ 9223372036854775807) (y : Int) (hy : -9223372036854775808 ≤ y ∧ y ≤ 9223372036854775807) :
    Calls Try.prog 49 #[.agg #[.slice A n c], .int .i64 x, .int .i64 y] w fun e w' => ∃ (A1 : Option Addr) (n1 c1 : Nat) (zss : List (List Int)) (code : Int), e = .returned (.tuple #[.agg #[.slice A1 n1 c1], .int .i64 code]) ∧ Hid ((zss, code) = cofF xss x y) ∧ OwnS w' w.heap.size w'.heap.size 27 2 A1 n1 c1 zss ∧ n1 + numsIn zss ≤ 1048576 ∧ Below w.heap.size w w' := by
  have hm := h.max
  have hl := h.len
  obtain ⟨hx0, hx1⟩ := hx
  obtain ⟨hy0, hy1⟩ := hy
  have hR := rs_alloc (rs_alloc h hhi (.cells #[.slice A n c] 40)) (by simp; omega) (.cells #[.slice none 0 0] 40)
  have hC : ((w.alloc (.cells #[.slice A n c] 40)).alloc (.cells #[.slice none 0 0] 40)).cell? ⟨w.heap.size, 0, none⟩ = some (.slice A n c) := (al_old _ _ _ _ (by simp)).trans (al_new _ _ _ _ rfl)
  have hQ : ((w.alloc (.cells #[.slice A n c] 40)).alloc (.cells #[.slice none 0 0] 40)).heap[w.heap.size + 1]? = some (.cells #[.slice none 0 0] 40 (0, 0)) := heap_new _ _ _ (by simp)
  have hB : Below w.heap.size w ((w.alloc (.cells #[.slice A n c] 40)).alloc (.cells #[.slice none 0 0] 40)) := ((Below.refl _ _).alloc (Nat.le_refl _) _).alloc (by simp) _
  replace hl := Lib.hid hl
  go_enter Try.func49, Try.ntmps49
  go_wp2_with fail
  obtain ⟨W1, hW⟩ : ∃ W1 : World, (w.alloc (.cells #[.slice A n c] 40)).alloc (.cells #[.slice none 0 0] 40) = W1 := ⟨_, rfl⟩
  have hz1 : W1.heap.size = w.heap.size + 2 := by rw [← hW]; simp
  rw [hW] at hR hC hB hQ ⊢
  replace hQ := Lib.hid hQ
  clear hW h
  ((with_reducible refine (l04Face_any A n c xss x y _ _ hR (by omega)).mono ?_); rintro e w2 ⟨fl, cd, rfl, Hl, f2⟩)
  have y2 := f2.size
  have B2 : Below W1.heap.size W1 w2 := f2
  have C2 := (f2.cell (p := ⟨w.heap.size, 0, none⟩) (by simp; omega)).trans hC
  have R2 := hR.below f2 (by omega)
  have Q2 := (B2.block (w.heap.size + 1) (by omega)).trans hQ.out
  have CQ2 : w2.cell? ⟨w.heap.size + 1, 0, none⟩ = some (.slice none 0 0) := by rw [cell_of_row _ _ _ _ _ _ Q2]; rfl
  have FQ2 : w2.frozen? ⟨w.heap.size + 1, 0, none⟩ = false := frozen_of_row _ _ _ _ _ Q2
  replace Q2 := Lib.hid Q2
  by_cases hcd : cd = 0
  · subst hcd
    obtain ⟨Hl, hne⟩ := l4_0 Hl.out
    replace Hl := Lib.hid Hl
    obtain ⟨hM, hi0, hi1, hxa, hxc⟩ := lw_zero Hl.out
    rw [hl.out] at hi1
    have hP := isManB_iff.1 hM
    have hn1 : 1 ≤ n := by have := hP.r1; have := hl.out; omega
    have hn5 : n ≤ 5 := by have := hP.r5; have := hl.out; omega
    have hf4 := hP.f4
    have hS := Lib.hid hP.sys
    clear hP
    replace hM := Lib.hid hM
    have hF0 := gen_0 (st := ((xss.length : Int) - 1)) (R := (fun fl => formL (subL xss (x.toNat + 1) xss.length) (flg xss) fl)) Hl.out (by rw [hl.out]; exact hne)
    have hst : ¬ x = ((n : Int) - 1) := hne
    obtain ⟨x, rfl⟩ : ∃ q : Nat, x = q := ⟨x.toNat, by omega⟩
    have hF : cofF xss x y = (formL (subL xss (x + 1) n) (flg xss) fl, 0) := by have h9 := hF0; rw [Int.toNat_natCast] at h9; rw [hl.out] at h9; unfold cofF; rw [Int.toNat_natCast]; rw [hl.out]; exact h9
    have hsl : (subL xss (x + 1) n).length = n - (x + 1) := subL_length (by have := hl.out; omega) (by omega)
    have hnum := formL_nums (sysOf_sub hS.out (x + 1) n) hxa hxc hf4 (by have := hl.out; omega)
    rw [formL_length, hsl] at hnum
    replace hsl := Lib.hid hsl
    replace hF := Lib.hid hF
    replace hF0 := Lib.hid hF0
    replace hst := Lib.hid hst
    have hst9 := hst.out
    obtain ⟨b0, o0, A0, n0, c0, p0, rfl, _, _, _, _, _⟩ := R2.at_ (k := 0) (by omega)
    have hxn : x + 1 < n := by omega
    have hxcc : x + 1 ≤ c := by omega
    have hcx : ¬ c = x + 1 := by omega
    have hI2 : (x : Int) + 1 ≤ (n : Int) := by omega
    have hI3 : (x : Int) + 1 ≤ (c : Int) := by omega
    replace hst9 := Lib.hid hst9
    go_wp2_with fail
    have hsec := l04Section_any (flg xss) (some ⟨b0, o0, none⟩) n c xss fl (x + 1) (n - 1) ((x : Int) + 1) ((n : Int) - 1) (by omega) (by omega) _ R2 (by omega) hnc (by omega) (by omega) (by omega) rfl hf4 hS.out hxa hxc
    rw [show n - 1 + 1 = n by omega] at hsec
    ((with_reducible refine hsec.mono ?_); rintro e w9 ⟨A9, c9, rfl, o9, f9⟩)
    have B9 : Below W1.heap.size W1 w9 := below_then B2 f9 (by omega)
    have Q9 := (B9.block (w.heap.size + 1) (by omega)).trans hQ.out
    have CQ9 : w9.cell? ⟨w.heap.size + 1, 0, none⟩ = some (.slice none 0 0) := by rw [cell_of_row _ _ _ _ _ _ Q9]; rfl
    have FQ9 : w9.frozen? ⟨w.heap.size + 1, 0, none⟩ = false := frozen_of_row _ _ _ _ _ Q9
    replace Q9 := Lib.hid Q9
    go_wp2_with fail
    have g2 := heap_setCell_same _ _ 0 _ _ (Value.slice A9 (n - (x + 1)) c9) Q9.out
    (try simp only [Exit.inBlock, Exit.then])
    refine bodyPost_ret (v := .tuple #[.agg #[.slice A9 (n - (x + 1)) c9], .int .i64 0]) ?_ rfl ?_
    · exact results_cell_row2 rfl _ _ (w.heap.size + 1) 40 #[.slice A9 (n - (x + 1)) c9] (0, 0) _ rfl (by simpa using g2) Try.underlying40 rfl (by kernel_rfl) _ rfl
    · exact ⟨A9, _, c9, _, _, rfl, Lib.hid hF.out.symm, (o9.keep (same_set _ _ _ _ _ (.inl (by simp; omega)))).more (by omega) (by simp), hnum, (hB.trans (B9.mono (by omega))).setCell (by simp) _⟩
  · have hF : cofF xss x y = ([], cd) := by have h9 := Hl.out; rw [← hl.out] at h9; exact l4_c h9 hcd
    have hcb : (cd != 0) = true := by simpa using hcd
    replace hF := Lib.hid hF
    replace hcd := Lib.hid hcd
    go_wp2_with fail
    have g2 := heap_setCell_same _ _ 0 _ _ (Value.slice none 0 0) Q2.out
    (try simp only [Exit.inBlock, Exit.then])
    refine bodyPost_ret (v := .tuple #[.agg #[.slice none 0 0], .int .i64 cd]) ?_ rfl ?_
    · exact results_cell_row2 rfl _ _ (w.heap.size + 1) 40 #[.slice none 0 0] (0, 0) _ rfl (by simpa using g2) Try.underlying40 rfl (by kernel_rfl) _ rfl
    · exact ⟨_, 0, _, [], _, rfl, Lib.hid hF.out.symm, OwnS.nil, by simp [numsIn], (hB.trans (B2.mono (by omega))).setCell (by simp) _⟩
set_option maxHeartbeats 8000000 in
theorem i_CofaceAsManiplex_any (w : World) (A : Option Addr) (n c : Nat) (xss : List (List Int)) {lo hi : Nat} (h : RS w lo hi A n xss) (hhi : hi ≤ w.heap.size) (hnc : n ≤ c) (x : Int) (hx : -9223372036854775808 ≤ x ∧ x ≤ 9223372036854775807) (y : Int) (hy : -9223372036854775808 ≤ y ∧ y ≤ 9223372036854775807) :
    Calls Try.prog 48 #[.agg #[.slice A n c], .int .i64 x, .int .i64 y] w fun e w' => ∃ (A1 : Option Addr) (n1 c1 : Nat) (zss : List (List Int)) (code : Int), e = .returned (.tuple #[.agg #[.slice A1 n1 c1], .int .i64 code]) ∧ Hid ((zss, code) = cofF xss x y) ∧ OwnS w' w.heap.size w'.heap.size 27 2 A1 n1 c1 zss ∧ n1 + numsIn zss ≤ 1048576 ∧ Below w.heap.size w w' := by
  have hm := h.max
  have hl := h.len
  obtain ⟨hx0, hx1⟩ := hx
  obtain ⟨hy0, hy1⟩ := hy
  have hR := rs_alloc (rs_alloc h hhi (.cells #[.slice A n c] 40)) (by simp; omega) (.cells #[.slice none 0 0] 40)
  have hC : ((w.alloc (.cells #[.slice A n c] 40)).alloc (.cells #[.slice none 0 0] 40)).cell? ⟨w.heap.size, 0, none⟩ = some (.slice A n c) := (al_old _ _ _ _ (by simp)).trans (al_new _ _ _ _ rfl)
  have hQ : ((w.alloc (.cells #[.slice A n c] 40)).alloc (.cells #[.slice none 0 0] 40)).heap[w.heap.size + 1]? = some (.cells #[.slice none 0 0] 40 (0, 0)) := heap_new _ _ _ (by simp)
  have hB : Below w.heap.size w ((w.alloc (.cells #[.slice A n c] 40)).alloc (.cells #[.slice none 0 0] 40)) := ((Below.refl _ _).alloc (Nat.le_refl _) _).alloc (by simp) _
  replace hl := Lib.hid hl
  go_enter Try.func48, Try.ntmps48
  go_wp2_with fail
  obtain ⟨W1, hW⟩ : ∃ W1 : World, (w.alloc (.cells #[.slice A n c] 40)).alloc (.cells #[.slice none 0 0] 40) = W1 := ⟨_, rfl⟩
  have hz1 : W1.heap.size = w.heap.size + 2 := by rw [← hW]; simp
  rw [hW] at hR hC hB hQ ⊢
  replace hQ := Lib.hid hQ
  clear hW h
  ((with_reducible refine (leastWith_any _ A n c xss x y _ hC (by omega) hR (by omega) hnc).mono ?_); rintro e w2 ⟨fl, cd, rfl, Hl, f2⟩)
  have y2 := f2.size
  have B2 : Below W1.heap.size W1 w2 := f2
  have C2 := (f2.cell (p := ⟨w.heap.size, 0, none⟩) (by simp; omega)).trans hC
  have R2 := hR.below f2 (by omega)
  have Q2 := (B2.block (w.heap.size + 1) (by omega)).trans hQ.out
  have CQ2 : w2.cell? ⟨w.heap.size + 1, 0, none⟩ = some (.slice none 0 0) := by rw [cell_of_row _ _ _ _ _ _ Q2]; rfl
  have FQ2 : w2.frozen? ⟨w.heap.size + 1, 0, none⟩ = false := frozen_of_row _ _ _ _ _ Q2
  replace Q2 := Lib.hid Q2
  by_cases hcd : cd = 0
  · subst hcd
    obtain ⟨hM, hi0, hi1, hxa, hxc⟩ := lw_zero Hl.out
    rw [hl.out] at hi1
    have hP := isManB_iff.1 hM
    have hn1 : 1 ≤ n := by have := hP.r1; have := hl.out; omega
    have hn5 : n ≤ 5 := by have := hP.r5; have := hl.out; omega
    have hf4 := hP.f4
    have hS := Lib.hid hP.sys
    clear hP
    replace hM := Lib.hid hM
    by_cases hst : x = ((n : Int) - 1)
    · have hF : cofF xss x y = ([], 5) := gen_5 Hl.out (by rw [hst]; rw [hl.out])
      have hsb : (x == ((n : Int) - 1)) = true := by simpa using hst
      replace hF := Lib.hid hF
      replace hst := Lib.hid hst
      go_wp2_with fail
      ((with_reducible refine (rank_any _ A n c _ C2 (by omega)).mono ?_); rintro e w' ⟨rfl, rfl⟩)
      go_wp2_with fail
      have g2 := heap_setCell_same _ _ 0 _ _ (Value.slice none 0 0) Q2.out
      (try simp only [Exit.inBlock, Exit.then])
      refine bodyPost_ret (v := .tuple #[.agg #[.slice none 0 0], .int .i64 5]) ?_ rfl ?_
      · exact results_cell_row2 rfl _ _ (w.heap.size + 1) 40 #[.slice none 0 0] (0, 0) _ rfl (by simpa using g2) Try.underlying40 rfl (by kernel_rfl) _ rfl
      · exact ⟨_, 0, _, [], _, rfl, Lib.hid hF.out.symm, OwnS.nil, by simp [numsIn], (hB.trans (B2.mono (by omega))).setCell (by simp) _⟩
    · have hF0 := gen_0 (st := ((xss.length : Int) - 1)) (R := (fun fl => formL (subL xss (x.toNat + 1) xss.length) (flg xss) fl)) Hl.out (by rw [hl.out]; exact hst)
      have hsb : (x == ((n : Int) - 1)) = false := by simpa using hst
      obtain ⟨x, rfl⟩ : ∃ q : Nat, x = q := ⟨x.toNat, by omega⟩
      have hF : cofF xss x y = (formL (subL xss (x + 1) n) (flg xss) fl, 0) := by have h9 := hF0; rw [Int.toNat_natCast] at h9; rw [hl.out] at h9; unfold cofF; rw [Int.toNat_natCast]; rw [hl.out]; exact h9
      have hsl : (subL xss (x + 1) n).length = n - (x + 1) := subL_length (by have := hl.out; omega) (by omega)
      have hnum := formL_nums (sysOf_sub hS.out (x + 1) n) hxa hxc hf4 (by have := hl.out; omega)
      rw [formL_length, hsl] at hnum
      replace hsl := Lib.hid hsl
      replace hF := Lib.hid hF
      replace hF0 := Lib.hid hF0
      replace hst := Lib.hid hst
      have hst9 := hst.out
      obtain ⟨b0, o0, A0, n0, c0, p0, rfl, _, _, _, _, _⟩ := R2.at_ (k := 0) (by omega)
      have hxn : x + 1 < n := by omega
      have hxcc : x + 1 ≤ c := by omega
      have hcx : ¬ c = x + 1 := by omega
      have hI2 : (x : Int) + 1 ≤ (n : Int) := by omega
      have hI3 : (x : Int) + 1 ≤ (c : Int) := by omega
      replace hst9 := Lib.hid hst9
      go_wp2_with fail
      ((with_reducible refine (rank_any _ (some ⟨b0, o0, none⟩) n c _ C2 (by omega)).mono ?_); rintro e w' ⟨rfl, rfl⟩)
      go_wp2_with fail
      ((with_reducible refine (formFrom_any (flg xss) (some ⟨b0, o0 + (x + 1), none⟩) (n - (x + 1)) (c - (x + 1)) (subL xss (x + 1) n) fl _ (rs_sub R2 (by omega) (by omega) (fun _ => rfl)) (by omega) (by omega) (by omega) hf4 (sysOf_sub hS.out (x + 1) n) hxa hxc).mono ?_); rintro e w9 ⟨A9, c9, rfl, o9, f9⟩)
      have B9 : Below W1.heap.size W1 w9 := below_then B2 f9 (by omega)
      have Q9 := (B9.block (w.heap.size + 1) (by omega)).trans hQ.out
      have CQ9 : w9.cell? ⟨w.heap.size + 1, 0, none⟩ = some (.slice none 0 0) := by rw [cell_of_row _ _ _ _ _ _ Q9]; rfl
      have FQ9 : w9.frozen? ⟨w.heap.size + 1, 0, none⟩ = false := frozen_of_row _ _ _ _ _ Q9
      replace Q9 := Lib.hid Q9
      go_wp2_with fail
      have g2 := heap_setCell_same _ _ 0 _ _ (Value.slice A9 (n - (x + 1)) c9) Q9.out
      (try simp only [Exit.inBlock, Exit.then])
      refine bodyPost_ret (v := .tuple #[.agg #[.slice A9 (n - (x + 1)) c9], .int .i64 0]) ?_ rfl ?_
      · exact results_cell_row2 rfl _ _ (w.heap.size + 1) 40 #[.slice A9 (n - (x + 1)) c9] (0, 0) _ rfl (by simpa using g2) Try.underlying40 rfl (by kernel_rfl) _ rfl
      · exact ⟨A9, _, c9, _, _, rfl, Lib.hid hF.out.symm, (o9.keep (same_set _ _ _ _ _ (.inl (by simp; omega)))).more (by omega) (by simp), hnum, (hB.trans (B9.mono (by omega))).setCell (by simp) _⟩
  · have hF : cofF xss x y = ([], cd) := gen_c Hl.out hcd
    have hcb : (cd != 0) = true := by simpa using hcd
    replace hF := Lib.hid hF
    replace hcd := Lib.hid hcd
    go_wp2_with fail
    have g2 := heap_setCell_same _ _ 0 _ _ (Value.slice none 0 0) Q2.out
    (try simp only [Exit.inBlock, Exit.then])
    refine bodyPost_ret (v := .tuple #[.agg #[.slice none 0 0], .int .i64 cd]) ?_ rfl ?_
    · exact results_cell_row2 rfl _ _ (w.heap.size + 1) 40 #[.slice none 0 0] (0, 0) _ rfl (by simpa using g2) Try.underlying40 rfl (by kernel_rfl) _ rfl
    · exact ⟨_, 0, _, [], _, rfl, Lib.hid hF.out.symm, OwnS.nil, by simp [numsIn], (hB.trans (B2.mono (by omega))).setCell (by simp) _⟩
end Go.Proofs.Ytdaljeghdiknpaa
/- LabP -/
namespace Go.Proofs.Ytdaljeghdiknpaa
set_option linter.unusedVariables false
theorem labOf_le {list : List (List Int)} {n p : Nat} (hs : SysOf list n) (hp : p < n) : labOf list p ≤ cntR list p ∧ (labOf list p = cntR list p ↔ rootB list p = true) := by
  have hr := rootB_rootOf hs hp
  have hle := rootOf_le list p
  unfold labOf
  rcases Nat.lt_or_ge (rootOf list p) p with h | h
  · have := cntR_lt hr h
    refine ⟨by omega, ⟨fun e => by omega, fun e => ?_⟩⟩
    exfalso
    have h1 := (rootOf_spec list p).1
    rw [root_iff] at e
    exact e ⟨_, h, h1⟩
  · have e : rootOf list p = p := by omega
    rw [e] at hr ⊢
    exact ⟨by omega, fun _ => hr, fun _ => rfl⟩
/-- the step of the count, where the label is the count and where it is not -/
theorem lab_step {list : List (List Int)} {n p : Nat} (hs : SysOf list n) (hp : p < n) : (labOf list p = cntR list p ∧ cntR list (p + 1) = cntR list p + 1) ∨ (labOf list p < cntR list p ∧ cntR list (p + 1) = cntR list p) := by
  obtain ⟨h1, h2⟩ := labOf_le hs hp
  have h3 := cntR_succ list p
  by_cases e : labOf list p = cntR list p
  · left
    rw [if_pos (h2.1 e)] at h3
    exact ⟨e, h3⟩
  · right
    rw [if_neg (fun g => e (h2.2 g))] at h3
    exact ⟨by omega, h3⟩
/-- a permutation of the system keeps the labels -/
theorem lab_at {list : List (List Int)} {n p : Nat} {row : List Int} {q : Int} (hs : SysOf list n) (hp : p < n) (hr : row ∈ list) (hq : row[p]? = some q) : ∃ Q : Nat, q = (Q : Int) ∧ Q < n ∧ (labL list n)[Q]? = some (labOf list p) := by
  obtain ⟨h1, h2, h3⟩ := hs row hr
  obtain ⟨h4, h5⟩ := h1 q (List.mem_of_getElem? hq)
  obtain ⟨Q, rfl⟩ := Int.eq_ofNat_of_zero_le h4
  have hQ : Q < n := by omega
  refine ⟨Q, rfl, hQ, ?_⟩
  rw [labL_get hQ]
  have hat : at' row (p : Int) = (Q : Int) := by unfold at'; simp [List.getD_eq_getElem?_getD, hq]
  have hR : Rch list (p : Int) (Q : Int) := by rw [← hat]; exact .step .refl hr
  rw [(labOf_eq_iff hs hp hQ).2 hR]
theorem runW_rch {list : List (List Int)} {n : Nat} (hs : SysOf list n) : ∀ (word : List Int) (x : Int), (∀ g ∈ word, 0 ≤ g ∧ g < list.length) → Rch list x (runW list word x) := by
  intro word
  induction word with
  | nil => intro x _; exact .refl
  | cons g word ih =>
    intro x hw
    obtain ⟨h0, h1⟩ := hw g (by simp)
    obtain ⟨G, rfl⟩ := Int.eq_ofNat_of_zero_le h0
    have hG : G < list.length := by omega
    have hm : list[G] ∈ list := List.getElem_mem hG
    have e : runW list ((G : Int) :: word) x = runW list word (at' list[G] x) := by
      unfold runW at'
      simp [List.getD_eq_getElem?_getD, List.getElem?_eq_getElem hG]
    rw [e]
    exact (Rch.step .refl hm).trans (ih _ fun g hg => hw g (List.mem_cons_of_mem _ hg))
/-- what the law asks at the end -/
theorem apply_in {list : List (List Int)} {n p : Nat} {word : List Int} (hs : isSysB n list = true) (hp : p < n) (hl : word.length ≤ 64) (hw : ∀ g ∈ word, 0 ≤ g ∧ g < list.length) : applyF n list word p = (runW list word p, 0) ∧ decide (runW list word p ∈ plc (labL list n) (labOf list p) n) = true := by
  have hS := (sysOf hs).1
  have hall : allIn 0 ((list.length : Int) - 1) word = true := by
    unfold allIn
    rw [List.all_eq_true]
    intro g hg
    have := hw g hg
    exact inR_iff.2 ⟨this.1, by omega⟩
  refine ⟨?_, decide_eq_true ?_⟩
  · unfold applyF
    rw [if_pos hs, if_pos ⟨inR_iff.2 ⟨by omega, by omega⟩, hl, hall⟩]
  · rw [places_eq hS hp, (sortL_perm _).mem_iff]
    exact (bfs_mem hS (by omega) (by omega)).2 (runW_rch hS word p hw)
theorem orbit_in {list : List (List Int)} {n p : Nat} (hs : isSysB n list = true) (hp : p < n) : orbOF n list p = (plc (labL list n) (labOf list p) n, 0) := by
  unfold orbOF
  rw [if_pos hs, if_pos (inR_iff.2 ⟨by omega, by omega⟩), places_eq (sysOf hs).1 hp]
  rfl
end Go.Proofs.Ytdaljeghdiknpaa
/- FsQ -/
namespace Go.Proofs.Ytdaljeghdiknpaa
set_option linter.unusedVariables false
set_option maxRecDepth 100000
theorem subL_get {xss : List (List Int)} {i j : Nat} {p : List Int} (h : p ∈ subL xss i j) : ∃ k, i ≤ k ∧ k < j ∧ xss[k]? = some p := by
  obtain ⟨k, hk⟩ := List.mem_iff_getElem?.1 h
  unfold subL at hk
  rw [List.getElem?_take] at hk
  by_cases e : k < j - i
  · rw [if_pos e, List.getElem?_drop] at hk
    exact ⟨i + k, by omega, by omega, hk⟩
  · rw [if_neg e] at hk
    exact absurd hk (by simp)
theorem comm_hk {xss : List (List Int)} (hP : ManP xss) (I : Nat) : CommL (subL xss 0 I) (subL xss (I + 1) xss.length) (flg xss) := by
  intro p hp q hq z z0 z1
  obtain ⟨j, _, hj, hjp⟩ := subL_get hp
  obtain ⟨k, hk, _, hkq⟩ := subL_get hq
  have := hP.com j k p q (by omega) hjp hkq
  unfold parB at this
  have := List.all_eq_true.1 this z.toNat (List.mem_range.2 (by omega))
  unfold comB at this
  simp only [Bool.and_eq_true] at this
  have := of_decide_eq_true this.2
  exact this
theorem plc_bfs {list : List (List Int)} {n f : Nat} {y : Int} (hs : SysOf list n) (hf : f < n) (hy : labOf list f = y) : (plc (labL list n) y n).length = (bfs list n (f : Int)).length := by
  have hm := bfs_met hs (x := (f : Int)) (by omega) (by omega)
  have key : ∀ z : Int, z ∈ plc (labL list n) y n ↔ z ∈ bfs list n (f : Int) := by
    intro z
    rw [plc_mem, bfs_mem hs (by omega) (by omega)]
    constructor
    · rintro ⟨z0, z1, e⟩
      obtain ⟨Z, rfl⟩ := Int.eq_ofNat_of_zero_le z0
      rw [Int.toNat_natCast, getD_some (labL_get (by omega)), ← hy] at e
      exact (labOf_eq_iff hs hf (by omega)).1 e
    · intro hz
      have hr := hz.rng hs (by omega) (by omega)
      obtain ⟨Z, rfl⟩ := Int.eq_ofNat_of_zero_le hr.1
      refine ⟨by omega, by omega, ?_⟩
      rw [Int.toNat_natCast, getD_some (labL_get (by omega)), ← hy]
      exact (labOf_eq_iff hs hf (by omega)).2 hz
  exact Nat.le_antisymm (nodup_sub_len _ _ (plc_nodup _ _ _) fun z hz => (key z).1 hz) (nodup_sub_len _ _ hm.nd fun z hz => (key z).2 hz)
theorem flg_form {xss : List (List Int)} {n : Nat} {x : Int} (h : 1 ≤ xss.length) : flg (formL xss n x) = (bfs xss n x).length := by
  obtain ⟨p, hp⟩ : ∃ p, xss[0]? = some p := ⟨_, List.getElem?_eq_getElem (by omega)⟩
  unfold flg formL
  rw [getD_some (x := ixF (bfs xss n x) p) (by rw [List.getElem?_map, hp]; rfl), ixF_length]
theorem bfs_same_mem {hs ks : List (List Int)} {n : Nat} {x : Int} (hH : SysOf hs n) (hK : SysOf ks n) (hm : ∀ p, p ∈ hs ↔ p ∈ ks) (h0 : 0 ≤ x) (h1 : x < n) : (bfs hs n x).length = (bfs ks n x).length := by
  have a := bfs_met hH h0 h1
  have b := bfs_met hK h0 h1
  have up : ∀ (l l' : List (List Int)), (∀ p, p ∈ l → p ∈ l') → ∀ u, Rch l x u → Rch l' x u := by
    intro l l' hll u hu
    induction hu with
    | refl => exact .refl
    | step _ hp ih => exact ih.step (hll _ hp)
  exact Nat.le_antisymm (nodup_sub_len _ _ a.nd fun z hz => (bfs_mem hK h0 h1).2 (up _ _ (fun p => (hm p).1) z (a.rch z hz))) (nodup_sub_len _ _ b.nd fun z hz => (bfs_mem hH h0 h1).2 (up _ _ (fun p => (hm p).2) z (b.rch z hz)))
/-- the numbers of flags of a face, of its maniplex and its coface -/
theorem fs_facts {xss : List (List Int)} (hP : ManP xss) {N I fl : Nat} {y : Int} (hN : flg xss = N) (hI : I < xss.length) (hfl : fl < N) (hy : labOf (xss.eraseIdx I) fl = y) :
    (plc (labL (xss.eraseIdx I) N) y N).length = (bfs (xss.eraseIdx I) N (fl : Int)).length ∧
    (∀ z ∈ plc (labL (xss.eraseIdx I) N) y N, (bfs (subL xss 0 I) N z).length = (bfs (subL xss 0 I) N (fl : Int)).length) ∧
    (bfs (subL xss 0 I) N (fl : Int)).length ∣ (bfs (xss.eraseIdx I) N (fl : Int)).length ∧
    (bfs (subL xss (I + 1) xss.length) N (fl : Int)).length ∣ (bfs (xss.eraseIdx I) N (fl : Int)).length ∧
    (bfs (xss.eraseIdx I) N (fl : Int)).length ≤ (bfs (subL xss (I + 1) xss.length) N (fl : Int)).length * (bfs (subL xss 0 I) N (fl : Int)).length ∧
    (I + 1 = xss.length → (bfs (xss.eraseIdx I) N (fl : Int)).length = (bfs (subL xss 0 I) N (fl : Int)).length) := by
  have hS : SysOf xss N := by rw [← hN]; exact hP.sys
  have hL : SysOf (xss.eraseIdx I) N := fun p hp => hS p (List.mem_of_mem_eraseIdx hp)
  have hH := sysOf_sub hS 0 I
  have hK := sysOf_sub hS (I + 1) xss.length
  have hc : CommL (subL xss 0 I) (subL xss (I + 1) xss.length) N := by rw [← hN]; exact comm_hk hP I
  have hl : ∀ p ∈ xss.eraseIdx I, p ∈ subL xss 0 I ∨ p ∈ subL xss (I + 1) xss.length := fun p hp => (erase_two p).1 hp
  have h0 : (0 : Int) ≤ (fl : Int) := by omega
  have h1 : (fl : Int) < N := by omega
  refine ⟨plc_bfs hL hfl hy, fun z hz => ?_, ?_, ?_, ?_, fun e => ?_⟩
  · obtain ⟨z0, z1, e⟩ := plc_mem.1 hz
    obtain ⟨Z, rfl⟩ := Int.eq_ofNat_of_zero_le z0
    rw [Int.toNat_natCast, getD_some (labL_get (by omega)), ← hy] at e
    exact (orb_size hH hK hl hc h0 h1 ((labOf_eq_iff hL hfl (by omega)).1 e)).2.2
  · exact orb_dvd hH hK hL hl (fun p hp => (erase_two p).2 (.inl hp)) hc h0 h1
  · exact orb_dvd hK hH hL (fun p hp => (hl p hp).symm) (fun p hp => (erase_two p).2 (.inr hp)) hc.symm h0 h1
  · exact orb_mul hH hK hL hl hc (fun p hp => (erase_two p).2 (.inr hp)) h0 h1
  · refine bfs_same_mem hL hH (fun p => ?_) h0 h1
    rw [erase_two]
    have : subL xss (I + 1) xss.length = [] := by unfold subL; rw [e]; simp
    rw [this]
    simp
end Go.Proofs.Ytdaljeghdiknpaa
/- FacQ -/
namespace Go.Proofs.Ytdaljeghdiknpaa
set_option linter.unusedVariables false
set_option maxRecDepth 100000
theorem lw_face {xss : List (List Int)} {x y fl : Int} (h : (fl, (0 : Int)) = lwF xss x y) : fl = ((labL (xss.eraseIdx x.toNat) (flg xss)).idxOf y : Int) ∧ y ∈ labL (xss.eraseIdx x.toNat) (flg xss) := by
  unfold lwF at h
  by_cases h1 : isManB xss = true
  · rw [if_pos h1] at h
    by_cases h2 : (decide ((0 : Int) ≤ x) && decide (x ≤ (xss.length : Int) - 1)) = true
    · rw [if_pos h2] at h
      by_cases h3 : decide (y ∈ labL (xss.eraseIdx x.toNat) (flg xss)) = true
      · rw [if_pos h3] at h
        injection h with e1 _
        exact ⟨e1, of_decide_eq_true h3⟩
      · rw [if_neg h3] at h; injection h with _ e2; simp at e2
    · rw [if_neg h2] at h; injection h with _ e2; simp at e2
  · rw [if_neg h1] at h; injection h with _ e2; simp at e2
theorem fac_zero {xss zss : List (List Int)} {x y : Int} (h : (zss, (0 : Int)) = facF xss x y) : ∃ I fl : Nat, isManB xss = true ∧ x = (I : Int) ∧ 1 ≤ I ∧ I < xss.length ∧ fl < flg xss ∧ labOf (xss.eraseIdx I) fl = y ∧ zss = formL (subL xss 0 I) (flg xss) (fl : Int) ∧
    cofF xss x y = (if I + 1 = xss.length then ([], 5) else (formL (subL xss (I + 1) xss.length) (flg xss) (fl : Int), 0)) := by
  unfold facF genF at h
  by_cases h0 : (lwF xss x y).2 = 0
  · rw [if_pos h0] at h
    by_cases hx : x = 0
    · rw [if_pos hx] at h
      have := (Prod.mk.inj h).2
      omega
    · rw [if_neg hx] at h
      have hz := (Prod.mk.inj h).1
      have e : ((lwF xss x y).1, (0 : Int)) = lwF xss x y := by rw [← h0]
      obtain ⟨hM, x0, x1, f0, f1⟩ := lw_zero e
      obtain ⟨e1, e2⟩ := lw_face e
      obtain ⟨I, rfl⟩ := Int.eq_ofNat_of_zero_le x0
      obtain ⟨fl, hfl⟩ := Int.eq_ofNat_of_zero_le f0
      rw [hfl] at hz e1 f1
      rw [Int.toNat_natCast] at hz e1 e2
      have e3 : fl = (labL (xss.eraseIdx I) (flg xss)).idxOf y := by omega
      have e4 := get?_idxOf e2
      rw [← e3, labL_get (by omega)] at e4
      refine ⟨I, fl, hM, rfl, by omega, by omega, by omega, Option.some.inj e4, hz, ?_⟩
      unfold cofF genF
      rw [if_pos h0, hfl, Int.toNat_natCast]
      by_cases g : I + 1 = xss.length
      · rw [if_pos g, if_pos (by omega)]
      · rw [if_neg g, if_neg (by omega)]
  · rw [if_neg h0] at h
    exact absurd (Prod.mk.inj h).2.symm h0
/-- the last one of a list, or -1 -/
def lastOf (l : List Int) : Int := l.getLast?.getD (-1)
theorem lastOf_snoc (l : List Int) (x : Int) : lastOf (l ++ [x]) = x := by simp [lastOf]
theorem lastOf_mem {l : List Int} (h : l ≠ []) : lastOf l ∈ l := by
  rcases List.eq_nil_or_concat l with e | ⟨t, x, e⟩
  · exact absurd e h
  · rw [e, List.concat_eq_append, lastOf_snoc]; simp
end Go.Proofs.Ytdaljeghdiknpaa
/- SecX -/
namespace Go.Proofs.Ytdaljeghdiknpaa
open Go.RowKit
set_option linter.unusedVariables false
set_option maxRecDepth 100000
set_option maxHeartbeats 4000000 in
theorem s_SectionAt_any (w : World) (A : Option Addr) (n c : Nat) (xss : List (List Int)) {lo hi : Nat} (h : RS w lo hi A n xss) (hhi : hi ≤ w.heap.size) (hnc : n ≤ c) (x : Int) (hx : -9223372036854775808 ≤ x ∧ x ≤ 9223372036854775807) (i : Int) (hi2 : -9223372036854775808 ≤ i ∧ i ≤ 9223372036854775807) (k : Int) (hk2 : -9223372036854775808 ≤ k ∧ k ≤ 9223372036854775807) :
    Calls Try.prog 60 #[.agg #[.slice A n c], .int .i64 x, .int .i64 i, .int .i64 k] w fun e w' => ∃ (A1 : Option Addr) (n1 c1 : Nat) (zss : List (List Int)) (code : Int), e = .returned (.tuple #[.agg #[.slice A1 n1 c1], .int .i64 code]) ∧ Hid ((zss, code) = secF xss x i k) ∧ OwnS w' w.heap.size w'.heap.size 27 2 A1 n1 c1 zss ∧ n1 + numsIn zss ≤ 1048576 ∧ Below w.heap.size w w' := by
  have hm := h.max
  have hl := h.len
  obtain ⟨hx0, hx1⟩ := hx
  obtain ⟨hi3, hi4⟩ := hi2
  obtain ⟨hk3, hk4⟩ := hk2
  have hR := rs_alloc (rs_alloc h hhi (.cells #[.slice A n c] 40)) (by simp; omega) (.cells #[.slice none 0 0] 40)
  have hC : ((w.alloc (.cells #[.slice A n c] 40)).alloc (.cells #[.slice none 0 0] 40)).cell? ⟨w.heap.size, 0, none⟩ = some (.slice A n c) := (al_old _ _ _ _ (by simp)).trans (al_new _ _ _ _ rfl)
  have hQ : ((w.alloc (.cells #[.slice A n c] 40)).alloc (.cells #[.slice none 0 0] 40)).heap[w.heap.size + 1]? = some (.cells #[.slice none 0 0] 40 (0, 0)) := heap_new _ _ _ (by simp)
  have hB : Below w.heap.size w ((w.alloc (.cells #[.slice A n c] 40)).alloc (.cells #[.slice none 0 0] 40)) := ((Below.refl _ _).alloc (Nat.le_refl _) _).alloc (by simp) _
  cases hM : isManB xss with
  | false =>
    have hF : secF xss x i k = ([], 1) := by unfold secF; rw [hM]; rfl
    replace hF := Lib.hid hF
    have hcode : codeF xss x i k = 1 := by unfold codeF; rw [hM]; try rfl
    replace hcode := Lib.hid hcode
    replace hM := Lib.hid hM
    replace hl := Lib.hid hl
    go_enter Try.func60, Try.ntmps60
    go_wp2_with fail
    obtain ⟨W1, hW⟩ : ∃ W1 : World, (w.alloc (.cells #[.slice A n c] 40)).alloc (.cells #[.slice none 0 0] 40) = W1 := ⟨_, rfl⟩
    have hz1 : W1.heap.size = w.heap.size + 2 := by rw [← hW]; simp
    rw [hW] at hR hC hB hQ ⊢
    replace hQ := Lib.hid hQ
    clear hW h 
    ((with_reducible refine (l04Code_any A n c xss x _ _ _ hR (by omega) ⟨hx0, hx1⟩).mono ?_); rintro e w2 ⟨rfl, f2⟩)
    rw [hcode.out]
    have y2 := f2.size
    have B2 : Below W1.heap.size W1 w2 := f2
    have C2 := (f2.cell (p := ⟨w.heap.size, 0, none⟩) (by simp; omega)).trans hC
    have R2 := hR.below f2 (by omega)
    have Q2 := (B2.block (w.heap.size + 1) (by omega)).trans hQ.out
    have CQ2 : w2.cell? ⟨w.heap.size + 1, 0, none⟩ = some (.slice none 0 0) := by rw [cell_of_row _ _ _ _ _ _ Q2]; rfl
    have FQ2 : w2.frozen? ⟨w.heap.size + 1, 0, none⟩ = false := frozen_of_row _ _ _ _ _ Q2
    replace Q2 := Lib.hid Q2
    go_wp2_with fail
    have g2 := heap_setCell_same _ _ 0 _ _ (Value.slice none 0 0) Q2.out
    (try simp only [Exit.inBlock, Exit.then])
    refine bodyPost_ret (v := .tuple #[.agg #[.slice none 0 0], .int .i64 1]) ?_ rfl ?_
    · exact results_cell_row2 rfl _ _ (w.heap.size + 1) 40 #[.slice none 0 0] (0, 0) _ rfl (by simpa using g2) Try.underlying40 rfl (by kernel_rfl) _ rfl
    · exact ⟨_, 0, _, [], _, rfl, Lib.hid hF.out.symm, OwnS.nil, by simp [numsIn], (hB.trans (B2.mono (by omega))).setCell (by simp) _⟩
  | true =>
    have hP := isManB_iff.1 hM
    have hn1 : 1 ≤ n := by have := hP.r1; omega
    have hn5 : n ≤ 5 := by have := hP.r5; omega
    have hf2 := hP.f2
    have hf4 := hP.f4
    have hS := hP.sys
    replace hP := Lib.hid hP
    replace hS := Lib.hid hS
    cases hF1 : inR 0 ((flg xss : Nat) - 1 : Int) x with
    | false =>
      have hF : secF xss x i k = ([], 2) := by unfold secF; rw [if_pos hM, hF1]; rfl
      replace hF := Lib.hid hF
      have hcode : codeF xss x i k = 2 := by unfold codeF; rw [if_pos hM, hF1]; try rfl
      replace hcode := Lib.hid hcode
      replace hM := Lib.hid hM
      replace hl := Lib.hid hl
      replace hF1 := Lib.hid hF1
      go_enter Try.func60, Try.ntmps60
      go_wp2_with fail
      obtain ⟨W1, hW⟩ : ∃ W1 : World, (w.alloc (.cells #[.slice A n c] 40)).alloc (.cells #[.slice none 0 0] 40) = W1 := ⟨_, rfl⟩
      have hz1 : W1.heap.size = w.heap.size + 2 := by rw [← hW]; simp
      rw [hW] at hR hC hB hQ ⊢
      replace hQ := Lib.hid hQ
      clear hW h 
      ((with_reducible refine (l04Code_any A n c xss x _ _ _ hR (by omega) ⟨hx0, hx1⟩).mono ?_); rintro e w2 ⟨rfl, f2⟩)
      rw [hcode.out]
      have y2 := f2.size
      have B2 : Below W1.heap.size W1 w2 := f2
      have C2 := (f2.cell (p := ⟨w.heap.size, 0, none⟩) (by simp; omega)).trans hC
      have R2 := hR.below f2 (by omega)
      have Q2 := (B2.block (w.heap.size + 1) (by omega)).trans hQ.out
      have CQ2 : w2.cell? ⟨w.heap.size + 1, 0, none⟩ = some (.slice none 0 0) := by rw [cell_of_row _ _ _ _ _ _ Q2]; rfl
      have FQ2 : w2.frozen? ⟨w.heap.size + 1, 0, none⟩ = false := frozen_of_row _ _ _ _ _ Q2
      replace Q2 := Lib.hid Q2
      go_wp2_with fail
      have g2 := heap_setCell_same _ _ 0 _ _ (Value.slice none 0 0) Q2.out
      (try simp only [Exit.inBlock, Exit.then])
      refine bodyPost_ret (v := .tuple #[.agg #[.slice none 0 0], .int .i64 2]) ?_ rfl ?_
      · exact results_cell_row2 rfl _ _ (w.heap.size + 1) 40 #[.slice none 0 0] (0, 0) _ rfl (by simpa using g2) Try.underlying40 rfl (by kernel_rfl) _ rfl
      · exact ⟨_, 0, _, [], _, rfl, Lib.hid hF.out.symm, OwnS.nil, by simp [numsIn], (hB.trans (B2.mono (by omega))).setCell (by simp) _⟩
    | true =>
      obtain ⟨hxa, hxb⟩ := inR_iff.1 hF1
      have hxc : x < (flg xss : Nat) := by omega
      cases hF2 : okR xss.length i k with
      | false =>
        have hF : secF xss x i k = ([], 2) := by unfold secF; rw [if_pos hM, if_pos hF1, hF2]; rfl
        replace hF := Lib.hid hF
        have hcode : codeF xss x i k = 2 := by unfold codeF; rw [if_pos hM, if_pos hF1, hF2]; try rfl
        replace hcode := Lib.hid hcode
        replace hM := Lib.hid hM
        replace hl := Lib.hid hl
        replace hF1 := Lib.hid hF1
        replace hF2 := Lib.hid hF2
        go_enter Try.func60, Try.ntmps60
        go_wp2_with fail
        obtain ⟨W1, hW⟩ : ∃ W1 : World, (w.alloc (.cells #[.slice A n c] 40)).alloc (.cells #[.slice none 0 0] 40) = W1 := ⟨_, rfl⟩
        have hz1 : W1.heap.size = w.heap.size + 2 := by rw [← hW]; simp
        rw [hW] at hR hC hB hQ ⊢
        replace hQ := Lib.hid hQ
        clear hW h 
        ((with_reducible refine (l04Code_any A n c xss x _ _ _ hR (by omega) ⟨hx0, hx1⟩).mono ?_); rintro e w2 ⟨rfl, f2⟩)
        rw [hcode.out]
        have y2 := f2.size
        have B2 : Below W1.heap.size W1 w2 := f2
        have C2 := (f2.cell (p := ⟨w.heap.size, 0, none⟩) (by simp; omega)).trans hC
        have R2 := hR.below f2 (by omega)
        have Q2 := (B2.block (w.heap.size + 1) (by omega)).trans hQ.out
        have CQ2 : w2.cell? ⟨w.heap.size + 1, 0, none⟩ = some (.slice none 0 0) := by rw [cell_of_row _ _ _ _ _ _ Q2]; rfl
        have FQ2 : w2.frozen? ⟨w.heap.size + 1, 0, none⟩ = false := frozen_of_row _ _ _ _ _ Q2
        replace Q2 := Lib.hid Q2
        go_wp2_with fail
        have g2 := heap_setCell_same _ _ 0 _ _ (Value.slice none 0 0) Q2.out
        (try simp only [Exit.inBlock, Exit.then])
        refine bodyPost_ret (v := .tuple #[.agg #[.slice none 0 0], .int .i64 2]) ?_ rfl ?_
        · exact results_cell_row2 rfl _ _ (w.heap.size + 1) 40 #[.slice none 0 0] (0, 0) _ rfl (by simpa using g2) Try.underlying40 rfl (by kernel_rfl) _ rfl
        · exact ⟨_, 0, _, [], _, rfl, Lib.hid hF.out.symm, OwnS.nil, by simp [numsIn], (hB.trans (B2.mono (by omega))).setCell (by simp) _⟩
      | true =>
        obtain ⟨hi0, hik0, hkn0⟩ := okR_iff.1 hF2
        rw [hl] at hkn0
        obtain ⟨i, rfl⟩ : ∃ q : Nat, i = q := ⟨i.toNat, by omega⟩
        obtain ⟨k, rfl⟩ : ∃ q : Nat, k = q := ⟨k.toNat, by omega⟩
        obtain ⟨b0, o0, A0, n0, c0, p0, rfl, _, _, _, _, _⟩ := h.at_ (k := 0) (by omega)
        have hik : i ≤ k := by omega
        have hkn : k < n := by omega
        have hci : ¬ c = i := by omega
        have hic : i ≤ c := by omega
        have hI1 : (i : Int) ≤ (k : Int) + 1 := by omega
        have hI2 : (k : Int) + 1 ≤ (n : Int) := by omega
        have hI3 : (k : Int) + 1 ≤ (c : Int) := by omega
        have hcode : codeF xss x i k = 0 := by unfold codeF; rw [if_pos hM, if_pos hF1, if_pos hF2]; try rfl
        replace hcode := Lib.hid hcode
        have hF : secF xss x i k = (formL (subL xss i (k + 1)) (flg xss) x, 0) := by unfold secF; rw [if_pos hM, if_pos hF1, if_pos hF2]; rw [Int.toNat_natCast, Int.toNat_natCast]
        have hsl : (subL xss i (k + 1)).length = k + 1 - i := subL_length (by omega) (by omega)
        have hnum := formL_nums (sysOf_sub hS.out i (k + 1)) hxa hxc hf4 (by omega)
        rw [formL_length, hsl] at hnum
        replace hsl := Lib.hid hsl
        replace hF := Lib.hid hF
        replace hM := Lib.hid hM
        replace hl := Lib.hid hl
        replace hF1 := Lib.hid hF1
        replace hF2 := Lib.hid hF2
        go_enter Try.func60, Try.ntmps60
        go_wp2_with fail
        obtain ⟨W1, hW⟩ : ∃ W1 : World, (w.alloc (.cells #[.slice (some ⟨b0, o0, none⟩) n c] 40)).alloc (.cells #[.slice none 0 0] 40) = W1 := ⟨_, rfl⟩
        have hz1 : W1.heap.size = w.heap.size + 2 := by rw [← hW]; simp
        rw [hW] at hR hC hB hQ ⊢
        replace hQ := Lib.hid hQ
        clear hW h 
        ((with_reducible refine (l04Code_any (some ⟨b0, o0, none⟩) n c xss x _ _ _ hR (by omega) ⟨hx0, hx1⟩).mono ?_); rintro e w2 ⟨rfl, f2⟩)
        rw [hcode.out]
        have y2 := f2.size
        have B2 : Below W1.heap.size W1 w2 := f2
        have C2 := (f2.cell (p := ⟨w.heap.size, 0, none⟩) (by simp; omega)).trans hC
        have R2 := hR.below f2 (by omega)
        have Q2 := (B2.block (w.heap.size + 1) (by omega)).trans hQ.out
        have CQ2 : w2.cell? ⟨w.heap.size + 1, 0, none⟩ = some (.slice none 0 0) := by rw [cell_of_row _ _ _ _ _ _ Q2]; rfl
        have FQ2 : w2.frozen? ⟨w.heap.size + 1, 0, none⟩ = false := frozen_of_row _ _ _ _ _ Q2
        replace Q2 := Lib.hid Q2
        go_wp2_with fail
        ((with_reducible refine (l04Section_any (flg xss) (some ⟨b0, o0, none⟩) n c xss x i k _ _ rfl rfl _ R2 (by omega) hnc hik hkn (by omega) rfl hf4 hS.out hxa hxc).mono ?_); rintro e w9 ⟨A9, c9, rfl, o9, f9⟩)
        have B9 : Below W1.heap.size W1 w9 := below_then B2 f9 (by omega)
        have Q9 := (B9.block (w.heap.size + 1) (by omega)).trans hQ.out
        have CQ9 : w9.cell? ⟨w.heap.size + 1, 0, none⟩ = some (.slice none 0 0) := by rw [cell_of_row _ _ _ _ _ _ Q9]; rfl
        have FQ9 : w9.frozen? ⟨w.heap.size + 1, 0, none⟩ = false := frozen_of_row _ _ _ _ _ Q9
        replace Q9 := Lib.hid Q9
        go_wp2_with fail
        have g2 := heap_setCell_same _ _ 0 _ _ (Value.slice A9 (k + 1 - i) c9) Q9.out
        (try simp only [Exit.inBlock, Exit.then])
        refine bodyPost_ret (v := .tuple #[.agg #[.slice A9 (k + 1 - i) c9], .int .i64 0]) ?_ rfl ?_
        · exact results_cell_row2 rfl _ _ (w.heap.size + 1) 40 #[.slice A9 (k + 1 - i) c9] (0, 0) _ rfl (by simpa using g2) Try.underlying40 rfl (by kernel_rfl) _ rfl
        · exact ⟨A9, _, c9, _, _, rfl, Lib.hid hF.out.symm, (o9.keep (same_set _ _ _ _ _ (.inl (by simp; omega)))).more (by omega) (by simp), hnum, (hB.trans (B9.mono (by omega))).setCell (by simp) _⟩
set_option maxHeartbeats 4000000 in
theorem i_SectionAt_any (w : World) (A : Option Addr) (n c : Nat) (xss : List (List Int)) {lo hi : Nat} (h : RS w lo hi A n xss) (hhi : hi ≤ w.heap.size) (hnc : n ≤ c) (x : Int) (hx : -9223372036854775808 ≤ x ∧ x ≤ 9223372036854775807) (i : Int) (hi2 : -9223372036854775808 ≤ i ∧ i ≤ 9223372036854775807) (k : Int) (hk2 : -9223372036854775808 ≤ k ∧ k ≤ 9223372036854775807) :
    Calls Try.prog 50 #[.agg #[.slice A n c], .int .i64 x, .int .i64 i, .int .i64 k] w fun e w' => ∃ (A1 : Option Addr) (n1 c1 : Nat) (zss : List (List Int)) (code : Int), e = .returned (.tuple #[.agg #[.slice A1 n1 c1], .int .i64 code]) ∧ Hid ((zss, code) = secF xss x i k) ∧ OwnS w' w.heap.size w'.heap.size 27 2 A1 n1 c1 zss ∧ n1 + numsIn zss ≤ 1048576 ∧ Below w.heap.size w w' := by
  have hm := h.max
  have hl := h.len
  obtain ⟨hx0, hx1⟩ := hx
  obtain ⟨hi3, hi4⟩ := hi2
  obtain ⟨hk3, hk4⟩ := hk2
  have hR := rs_alloc (rs_alloc h hhi (.cells #[.slice A n c] 40)) (by simp; omega) (.cells #[.slice none 0 0] 40)
  have hC : ((w.alloc (.cells #[.slice A n c] 40)).alloc (.cells #[.slice none 0 0] 40)).cell? ⟨w.heap.size, 0, none⟩ = some (.slice A n c) := (al_old _ _ _ _ (by simp)).trans (al_new _ _ _ _ rfl)
  have hQ : ((w.alloc (.cells #[.slice A n c] 40)).alloc (.cells #[.slice none 0 0] 40)).heap[w.heap.size + 1]? = some (.cells #[.slice none 0 0] 40 (0, 0)) := heap_new _ _ _ (by simp)
  have hB : Below w.heap.size w ((w.alloc (.cells #[.slice A n c] 40)).alloc (.cells #[.slice none 0 0] 40)) := ((Below.refl _ _).alloc (Nat.le_refl _) _).alloc (by simp) _
  cases hM : isManB xss with
  | false =>
    have hF : secF xss x i k = ([], 1) := by unfold secF; rw [hM]; rfl
    replace hF := Lib.hid hF
    replace hM := Lib.hid hM
    replace hl := Lib.hid hl
    go_enter Try.func50, Try.ntmps50
    go_wp2_with fail
    obtain ⟨W1, hW⟩ : ∃ W1 : World, (w.alloc (.cells #[.slice A n c] 40)).alloc (.cells #[.slice none 0 0] 40) = W1 := ⟨_, rfl⟩
    have hz1 : W1.heap.size = w.heap.size + 2 := by rw [← hW]; simp
    rw [hW] at hR hC hB hQ ⊢
    replace hQ := Lib.hid hQ
    clear hW h 
    ((with_reducible refine (isMan_any A n c xss _ hR (by omega) hnc).mono ?_); rintro e w2 ⟨rfl, f2⟩)
    rw [hM.out]
    have y2 := f2.size
    have B2 : Below W1.heap.size W1 w2 := f2
    have C2 := (f2.cell (p := ⟨w.heap.size, 0, none⟩) (by simp; omega)).trans hC
    have R2 := hR.below f2 (by omega)
    have Q2 := (B2.block (w.heap.size + 1) (by omega)).trans hQ.out
    have CQ2 : w2.cell? ⟨w.heap.size + 1, 0, none⟩ = some (.slice none 0 0) := by rw [cell_of_row _ _ _ _ _ _ Q2]; rfl
    have FQ2 : w2.frozen? ⟨w.heap.size + 1, 0, none⟩ = false := frozen_of_row _ _ _ _ _ Q2
    replace Q2 := Lib.hid Q2
    go_wp2_with fail
    have g2 := heap_setCell_same _ _ 0 _ _ (Value.slice none 0 0) Q2.out
    (try simp only [Exit.inBlock, Exit.then])
    refine bodyPost_ret (v := .tuple #[.agg #[.slice none 0 0], .int .i64 1]) ?_ rfl ?_
    · exact results_cell_row2 rfl _ _ (w.heap.size + 1) 40 #[.slice none 0 0] (0, 0) _ rfl (by simpa using g2) Try.underlying40 rfl (by kernel_rfl) _ rfl
    · exact ⟨_, 0, _, [], _, rfl, Lib.hid hF.out.symm, OwnS.nil, by simp [numsIn], (hB.trans (B2.mono (by omega))).setCell (by simp) _⟩
  | true =>
    have hP := isManB_iff.1 hM
    have hn1 : 1 ≤ n := by have := hP.r1; omega
    have hn5 : n ≤ 5 := by have := hP.r5; omega
    have hf2 := hP.f2
    have hf4 := hP.f4
    have hS := hP.sys
    replace hP := Lib.hid hP
    replace hS := Lib.hid hS
    cases hF1 : inR 0 ((flg xss : Nat) - 1 : Int) x with
    | false =>
      have hF : secF xss x i k = ([], 2) := by unfold secF; rw [if_pos hM, hF1]; rfl
      replace hF := Lib.hid hF
      replace hM := Lib.hid hM
      replace hl := Lib.hid hl
      replace hF1 := Lib.hid hF1
      go_enter Try.func50, Try.ntmps50
      go_wp2_with fail
      obtain ⟨W1, hW⟩ : ∃ W1 : World, (w.alloc (.cells #[.slice A n c] 40)).alloc (.cells #[.slice none 0 0] 40) = W1 := ⟨_, rfl⟩
      have hz1 : W1.heap.size = w.heap.size + 2 := by rw [← hW]; simp
      rw [hW] at hR hC hB hQ ⊢
      replace hQ := Lib.hid hQ
      clear hW h 
      ((with_reducible refine (isMan_any A n c xss _ hR (by omega) hnc).mono ?_); rintro e w2 ⟨rfl, f2⟩)
      rw [hM.out]
      have y2 := f2.size
      have B2 : Below W1.heap.size W1 w2 := f2
      have C2 := (f2.cell (p := ⟨w.heap.size, 0, none⟩) (by simp; omega)).trans hC
      have R2 := hR.below f2 (by omega)
      have Q2 := (B2.block (w.heap.size + 1) (by omega)).trans hQ.out
      have CQ2 : w2.cell? ⟨w.heap.size + 1, 0, none⟩ = some (.slice none 0 0) := by rw [cell_of_row _ _ _ _ _ _ Q2]; rfl
      have FQ2 : w2.frozen? ⟨w.heap.size + 1, 0, none⟩ = false := frozen_of_row _ _ _ _ _ Q2
      replace Q2 := Lib.hid Q2
      go_wp2_with fail
      ((with_reducible refine (hasFlag_any _ A n c xss x _ C2 R2 (by omega) hf4).mono ?_); rintro e w' ⟨rfl, rfl⟩)
      rw [hF1.out]
      go_wp2_with fail
      have g2 := heap_setCell_same _ _ 0 _ _ (Value.slice none 0 0) Q2.out
      (try simp only [Exit.inBlock, Exit.then])
      refine bodyPost_ret (v := .tuple #[.agg #[.slice none 0 0], .int .i64 2]) ?_ rfl ?_
      · exact results_cell_row2 rfl _ _ (w.heap.size + 1) 40 #[.slice none 0 0] (0, 0) _ rfl (by simpa using g2) Try.underlying40 rfl (by kernel_rfl) _ rfl
      · exact ⟨_, 0, _, [], _, rfl, Lib.hid hF.out.symm, OwnS.nil, by simp [numsIn], (hB.trans (B2.mono (by omega))).setCell (by simp) _⟩
    | true =>
      obtain ⟨hxa, hxb⟩ := inR_iff.1 hF1
      have hxc : x < (flg xss : Nat) := by omega
      cases hF2 : okR xss.length i k with
      | false =>
        have hF : secF xss x i k = ([], 2) := by unfold secF; rw [if_pos hM, if_pos hF1, hF2]; rfl
        replace hF := Lib.hid hF
        replace hM := Lib.hid hM
        replace hl := Lib.hid hl
        replace hF1 := Lib.hid hF1
        replace hF2 := Lib.hid hF2
        go_enter Try.func50, Try.ntmps50
        go_wp2_with fail
        obtain ⟨W1, hW⟩ : ∃ W1 : World, (w.alloc (.cells #[.slice A n c] 40)).alloc (.cells #[.slice none 0 0] 40) = W1 := ⟨_, rfl⟩
        have hz1 : W1.heap.size = w.heap.size + 2 := by rw [← hW]; simp
        rw [hW] at hR hC hB hQ ⊢
        replace hQ := Lib.hid hQ
        clear hW h 
        ((with_reducible refine (isMan_any A n c xss _ hR (by omega) hnc).mono ?_); rintro e w2 ⟨rfl, f2⟩)
        rw [hM.out]
        have y2 := f2.size
        have B2 : Below W1.heap.size W1 w2 := f2
        have C2 := (f2.cell (p := ⟨w.heap.size, 0, none⟩) (by simp; omega)).trans hC
        have R2 := hR.below f2 (by omega)
        have Q2 := (B2.block (w.heap.size + 1) (by omega)).trans hQ.out
        have CQ2 : w2.cell? ⟨w.heap.size + 1, 0, none⟩ = some (.slice none 0 0) := by rw [cell_of_row _ _ _ _ _ _ Q2]; rfl
        have FQ2 : w2.frozen? ⟨w.heap.size + 1, 0, none⟩ = false := frozen_of_row _ _ _ _ _ Q2
        replace Q2 := Lib.hid Q2
        go_wp2_with fail
        ((with_reducible refine (hasFlag_any _ A n c xss x _ C2 R2 (by omega) hf4).mono ?_); rintro e w' ⟨rfl, rfl⟩)
        rw [hF1.out]
        go_wp2_with fail
        ((with_reducible refine (areRanks_any _ A n c xss _ _ _ C2 (by omega) hl.out).mono ?_); rintro e w' ⟨rfl, rfl⟩)
        rw [hF2.out]
        go_wp2_with fail
        have g2 := heap_setCell_same _ _ 0 _ _ (Value.slice none 0 0) Q2.out
        (try simp only [Exit.inBlock, Exit.then])
        refine bodyPost_ret (v := .tuple #[.agg #[.slice none 0 0], .int .i64 2]) ?_ rfl ?_
        · exact results_cell_row2 rfl _ _ (w.heap.size + 1) 40 #[.slice none 0 0] (0, 0) _ rfl (by simpa using g2) Try.underlying40 rfl (by kernel_rfl) _ rfl
        · exact ⟨_, 0, _, [], _, rfl, Lib.hid hF.out.symm, OwnS.nil, by simp [numsIn], (hB.trans (B2.mono (by omega))).setCell (by simp) _⟩
      | true =>
        obtain ⟨hi0, hik0, hkn0⟩ := okR_iff.1 hF2
        rw [hl] at hkn0
        obtain ⟨i, rfl⟩ : ∃ q : Nat, i = q := ⟨i.toNat, by omega⟩
        obtain ⟨k, rfl⟩ : ∃ q : Nat, k = q := ⟨k.toNat, by omega⟩
        obtain ⟨b0, o0, A0, n0, c0, p0, rfl, _, _, _, _, _⟩ := h.at_ (k := 0) (by omega)
        have hik : i ≤ k := by omega
        have hkn : k < n := by omega
        have hci : ¬ c = i := by omega
        have hic : i ≤ c := by omega
        have hI1 : (i : Int) ≤ (k : Int) + 1 := by omega
        have hI2 : (k : Int) + 1 ≤ (n : Int) := by omega
        have hI3 : (k : Int) + 1 ≤ (c : Int) := by omega
        have hF : secF xss x i k = (formL (subL xss i (k + 1)) (flg xss) x, 0) := by unfold secF; rw [if_pos hM, if_pos hF1, if_pos hF2]; rw [Int.toNat_natCast, Int.toNat_natCast]
        have hsl : (subL xss i (k + 1)).length = k + 1 - i := subL_length (by omega) (by omega)
        have hnum := formL_nums (sysOf_sub hS.out i (k + 1)) hxa hxc hf4 (by omega)
        rw [formL_length, hsl] at hnum
        replace hsl := Lib.hid hsl
        replace hF := Lib.hid hF
        replace hM := Lib.hid hM
        replace hl := Lib.hid hl
        replace hF1 := Lib.hid hF1
        replace hF2 := Lib.hid hF2
        go_enter Try.func50, Try.ntmps50
        go_wp2_with fail
        obtain ⟨W1, hW⟩ : ∃ W1 : World, (w.alloc (.cells #[.slice (some ⟨b0, o0, none⟩) n c] 40)).alloc (.cells #[.slice none 0 0] 40) = W1 := ⟨_, rfl⟩
        have hz1 : W1.heap.size = w.heap.size + 2 := by rw [← hW]; simp
        rw [hW] at hR hC hB hQ ⊢
        replace hQ := Lib.hid hQ
        clear hW h 
        ((with_reducible refine (isMan_any (some ⟨b0, o0, none⟩) n c xss _ hR (by omega) hnc).mono ?_); rintro e w2 ⟨rfl, f2⟩)
        rw [hM.out]
        have y2 := f2.size
        have B2 : Below W1.heap.size W1 w2 := f2
        have C2 := (f2.cell (p := ⟨w.heap.size, 0, none⟩) (by simp; omega)).trans hC
        have R2 := hR.below f2 (by omega)
        have Q2 := (B2.block (w.heap.size + 1) (by omega)).trans hQ.out
        have CQ2 : w2.cell? ⟨w.heap.size + 1, 0, none⟩ = some (.slice none 0 0) := by rw [cell_of_row _ _ _ _ _ _ Q2]; rfl
        have FQ2 : w2.frozen? ⟨w.heap.size + 1, 0, none⟩ = false := frozen_of_row _ _ _ _ _ Q2
        replace Q2 := Lib.hid Q2
        go_wp2_with fail
        ((with_reducible refine (hasFlag_any _ (some ⟨b0, o0, none⟩) n c xss x _ C2 R2 (by omega) hf4).mono ?_); rintro e w' ⟨rfl, rfl⟩)
        rw [hF1.out]
        go_wp2_with fail
        ((with_reducible refine (areRanks_any _ (some ⟨b0, o0, none⟩) n c xss _ _ _ C2 (by omega) hl.out).mono ?_); rintro e w' ⟨rfl, rfl⟩)
        rw [hF2.out]
        go_wp2_with fail
        ((with_reducible refine (formFrom_any (flg xss) (some ⟨b0, o0 + i, none⟩) (k + 1 - i) (c - i) (subL xss i (k + 1)) x _ (rs_sub R2 (by omega) (by omega) (fun _ => rfl)) (by omega) (by omega) (by omega) hf4 (sysOf_sub hS.out i (k + 1)) hxa hxc).mono ?_); rintro e w9 ⟨A9, c9, rfl, o9, f9⟩)
        have B9 : Below W1.heap.size W1 w9 := below_then B2 f9 (by omega)
        have Q9 := (B9.block (w.heap.size + 1) (by omega)).trans hQ.out
        have CQ9 : w9.cell? ⟨w.heap.size + 1, 0, none⟩ = some (.slice none 0 0) := by rw [cell_of_row _ _ _ _ _ _ Q9]; rfl
        have FQ9 : w9.frozen? ⟨w.heap.size + 1, 0, none⟩ = false := frozen_of_row _ _ _ _ _ Q9
        replace Q9 := Lib.hid Q9
        go_wp2_with fail
        have g2 := heap_setCell_same _ _ 0 _ _ (Value.slice A9 (k + 1 - i) c9) Q9.out
        (try simp only [Exit.inBlock, Exit.then])
        refine bodyPost_ret (v := .tuple #[.agg #[.slice A9 (k + 1 - i) c9], .int .i64 0]) ?_ rfl ?_
        · exact results_cell_row2 rfl _ _ (w.heap.size + 1) 40 #[.slice A9 (k + 1 - i) c9] (0, 0) _ rfl (by simpa using g2) Try.underlying40 rfl (by kernel_rfl) _ rfl
        · exact ⟨A9, _, c9, _, _, rfl, Lib.hid hF.out.symm, (o9.keep (same_set _ _ _ _ _ (.inl (by simp; omega)))).more (by omega) (by simp), hnum, (hB.trans (B9.mono (by omega))).setCell (by simp) _⟩
end Go.Proofs.Ytdaljeghdiknpaa
/- FaceX -/
namespace Go.Proofs.Ytdaljeghdiknpaa
open Go.RowKit
set_option linter.unusedVariables false
set_option maxRecDepth 100000
/-- what FaceLabels returns -/
noncomputable def fclF (xss : List (List Int)) (x : Int) : List Int × Int :=
  if isManB xss = true then (if (decide ((0 : Int) ≤ x) && decide (x ≤ (xss.length : Int) - 1)) = true then (labL (xss.eraseIdx x.toNat) (flg xss), 0) else ([], 2)) else ([], 1)
set_option maxHeartbeats 4000000 in
theorem i_FaceLabels_any (w : World) (A : Option Addr) (n c : Nat) (xss : List (List Int)) {lo hi : Nat} (h : RS w lo hi A n xss) (hhi : hi ≤ w.heap.size) (hnc : n ≤ c) (x : Int) (hx : -9223372036854775808 ≤ x ∧ x ≤ 9223372036854775807) :
    Calls Try.prog 31 #[.agg #[.slice A n c], .int .i64 x] w fun e w' => ∃ (A1 : Option Addr) (n1 c1 : Nat) (zs : List Int) (code : Int), e = .returned (.tuple #[.slice A1 n1 c1, .int .i64 code]) ∧ Hid ((zs, code) = fclF xss x) ∧ Own w' w.heap.size w'.heap.size 2 A1 n1 c1 (zs.map (Value.int .i64)) ∧ n1 ≤ 1048576 ∧ Below w.heap.size w w' := by
  have hm := h.max
  have hl := h.len
  obtain ⟨hx0, hx1⟩ := hx
  have hR := rs_alloc h hhi (.cells #[.slice A n c] 40)
  have hC : (w.alloc (.cells #[.slice A n c] 40)).cell? ⟨w.heap.size, 0, none⟩ = some (.slice A n c) := al_new _ _ _ _ rfl
  have hB : Below w.heap.size w (w.alloc (.cells #[.slice A n c] 40)) := (Below.refl _ _).alloc (Nat.le_refl _) _
  cases hM : isManB xss with
  | false =>
    have hF : fclF xss x = ([], 1) := by unfold fclF; rw [hM]; rfl
    replace hF := Lib.hid hF
    replace hM := Lib.hid hM
    replace hl := Lib.hid hl
    go_enter Try.func31, Try.ntmps31
    go_wp2_with fail
    obtain ⟨W1, hW⟩ : ∃ W1 : World, w.alloc (.cells #[.slice A n c] 40) = W1 := ⟨_, rfl⟩
    have hz1 : W1.heap.size = w.heap.size + 1 := by rw [← hW]; simp
    rw [hW] at hR hC hB ⊢
    clear hW h 
    ((with_reducible refine (isMan_any A n c xss _ hR (by omega) hnc).mono ?_); rintro e w2 ⟨rfl, f2⟩)
    rw [hM.out]
    have y2 := f2.size
    have B2 : Below W1.heap.size W1 w2 := f2
    have C2 := (f2.cell (p := ⟨w.heap.size, 0, none⟩) (by simp; omega)).trans hC
    have R2 := hR.below f2 (by omega)
    go_wp2_with fail
    go_ret2
    exact ⟨_, 0, _, [], _, rfl, Lib.hid hF.out.symm, Own.nil, by omega, hB.trans (B2.mono (by omega))⟩
  | true =>
    have hP := isManB_iff.1 hM
    have hn1 : 1 ≤ n := by have := hP.r1; omega
    have hn5 : n ≤ 5 := by have := hP.r5; omega
    have hf2 := hP.f2
    have hf4 := hP.f4
    have hS := hP.sys
    replace hP := Lib.hid hP
    replace hS := Lib.hid hS
    cases hF1 : (decide ((0 : Int) ≤ x) && decide (x ≤ (n : Int) - 1)) with
    | false =>
      have hF : fclF xss x = ([], 2) := by unfold fclF; rw [hl]; rw [if_pos hM, hF1]; rfl
      replace hF := Lib.hid hF
      replace hM := Lib.hid hM
      replace hl := Lib.hid hl
      replace hF1 := Lib.hid hF1
      go_enter Try.func31, Try.ntmps31
      go_wp2_with fail
      obtain ⟨W1, hW⟩ : ∃ W1 : World, w.alloc (.cells #[.slice A n c] 40) = W1 := ⟨_, rfl⟩
      have hz1 : W1.heap.size = w.heap.size + 1 := by rw [← hW]; simp
      rw [hW] at hR hC hB ⊢
      clear hW h 
      ((with_reducible refine (isMan_any A n c xss _ hR (by omega) hnc).mono ?_); rintro e w2 ⟨rfl, f2⟩)
      rw [hM.out]
      have y2 := f2.size
      have B2 : Below W1.heap.size W1 w2 := f2
      have C2 := (f2.cell (p := ⟨w.heap.size, 0, none⟩) (by simp; omega)).trans hC
      have R2 := hR.below f2 (by omega)
      go_wp2_with fail
      ((with_reducible refine (hasRank_any _ A n c _ _ C2 (by omega)).mono ?_); rintro e w' ⟨rfl, rfl⟩)
      rw [hF1.out]
      go_wp2_with fail
      go_ret2
      exact ⟨_, 0, _, [], _, rfl, Lib.hid hF.out.symm, Own.nil, by omega, hB.trans (B2.mono (by omega))⟩
    | true =>
      obtain ⟨hxa, hxb⟩ : (0 : Int) ≤ x ∧ x ≤ (n : Int) - 1 := by simpa using hF1
      obtain ⟨x, rfl⟩ : ∃ q : Nat, x = q := ⟨x.toNat, by omega⟩
      have hF : fclF xss x = (labL (xss.eraseIdx x) (flg xss), 0) := by unfold fclF; rw [hl]; rw [if_pos hM, if_pos hF1]; rw [Int.toNat_natCast]
      replace hF := Lib.hid hF
      replace hM := Lib.hid hM
      replace hl := Lib.hid hl
      replace hF1 := Lib.hid hF1
      go_enter Try.func31, Try.ntmps31
      go_wp2_with fail
      obtain ⟨W1, hW⟩ : ∃ W1 : World, w.alloc (.cells #[.slice A n c] 40) = W1 := ⟨_, rfl⟩
      have hz1 : W1.heap.size = w.heap.size + 1 := by rw [← hW]; simp
      rw [hW] at hR hC hB ⊢
      clear hW h 
      ((with_reducible refine (isMan_any A n c xss _ hR (by omega) hnc).mono ?_); rintro e w2 ⟨rfl, f2⟩)
      rw [hM.out]
      have y2 := f2.size
      have B2 : Below W1.heap.size W1 w2 := f2
      have C2 := (f2.cell (p := ⟨w.heap.size, 0, none⟩) (by simp; omega)).trans hC
      have R2 := hR.below f2 (by omega)
      go_wp2_with fail
      ((with_reducible refine (hasRank_any _ A n c _ _ C2 (by omega)).mono ?_); rintro e w' ⟨rfl, rfl⟩)
      rw [hF1.out]
      go_wp2_with fail
      ((with_reducible refine (faces_any _ A n c x xss _ C2 R2 (by omega) (by omega) (by omega) _ rfl hf4 hS.out).mono ?_); rintro e w9 ⟨A9, rfl, o9, f9⟩)
      have B9 : Below W1.heap.size W1 w9 := below_then B2 f9 (by omega)
      go_wp2_with fail
      go_ret2
      exact ⟨_, _, _, _, _, rfl, Lib.hid hF.out.symm, o9.more (by omega) (Nat.le_refl _), by omega, hB.trans (B9.mono (by omega))⟩
end Go.Proofs.Ytdaljeghdiknpaa
/- Lk5 -/
namespace Go.Proofs.Ytdaljeghdiknpaa
open Go.RowKit
set_option linter.unusedVariables false
set_option maxRecDepth 100000
set_option maxHeartbeats 2000000 in
theorem likeRows_any (A : Option Addr) (n c : Nat) (xss : List (List Int)) (A' : Option Addr) (n' c' : Nat) (w : World) {lo hi lo' hi' : Nat} (h : RS w lo hi A n xss) (h' : RS w lo' hi' A' n' xss) (hhi : hi ≤ w.heap.size) (hhi' : hi' ≤ w.heap.size) :
    Calls Try.prog 112 #[.slice A n c, .slice A' n' c'] w fun e w' => e = .returned (.bool true) ∧ Below w.heap.size w w' := by
  have hm := h.max
  have hl := h.len
  have hl' := h'.len
  obtain rfl : n = n' := by omega
  clear hl hl'
  go_enter Try.func112, Try.ntmps112
  go_wp2_with fail
  go_loopw [5] (fun iv wq => ∃ k : Nat, k ≤ n ∧ iv = .int .i64 k ∧ Below w.heap.size w wq) (fun iv _ => n - (intOf iv).toNat)
  case atStart => exact ⟨0, by omega, rfl, Below.refl _ _⟩
  case round =>
    obtain ⟨k, hk, rfl, hB⟩ := hrel
    by_cases hlt : k < n
    · have y1 := hB.size
      have Bd := below_drw hB
      obtain ⟨b1, u1, A1, n1, c1, r1, rfl, _, _, hr1, hc1, hR1⟩ := (h.below Bd hhi).at_ hlt
      obtain ⟨b2, u2, A2, n2, c2, r2, rfl, _, _, hr2, hc2, hR2⟩ := (h'.below Bd hhi').at_ hlt
      obtain rfl : r1 = r2 := by rw [hr1] at hr2; exact Option.some.inj hr2
      have hc1' : wr.cell? ⟨b1, u1 + k, none⟩ = some (.slice A1 n1 c1) := hc1
      have hc2' : wr.cell? ⟨b2, u2 + k, none⟩ = some (.slice A2 n2 c2) := hc2
      have hlk := like_any A1 n1 c1 r1 A2 n2 c2 r1 wr.drew _ _ _ _ hR1 hR2 (by simp; omega) (by simp; omega)
      rw [decide_eq_true (rfl : r1 = r1)] at hlk
      replace hr1 := Lib.hid hr1
      replace hr2 := Lib.hid hr2
      replace hlk := Lib.hid hlk
      replace Bd := Lib.hid Bd
      clear hR1 hR2 hc1 hc2
      go_wp2_with fail
      go_region_law? (refine step_call rfl 15 #[.slice A1 n1 c1, .slice A2 n2 c2] (by go_simp) hlk.out ?_; rintro e w6 ⟨rfl, f6⟩; refine ⟨_, rfl, ?_⟩)
      all_goals
        have B6 : Below w.heap.size w w6 := below_then Bd.out f6 (by simp; omega)
        clear f6
        go_wp2_with fail
        go_roundw
        case measure => simp [intOf]; omega
        case rel => exact ⟨k + 1, by omega, by go_num, B6⟩
    · obtain rfl : k = n := by omega
      go_wp2_with fail
      go_ret
      exact ⟨rfl, hB⟩
theorem like5_any (A : Option Addr) (n c : Nat) (xss : List (List Int)) (A' : Option Addr) (n' c' : Nat) (w : World) {lo hi lo' hi' : Nat} (h : RS w lo hi A n xss) (h' : RS w lo' hi' A' n' xss) (hhi : hi ≤ w.heap.size) (hhi' : hi' ≤ w.heap.size) :
    Calls Try.prog 47 #[.agg #[.slice A n c], .agg #[.slice A' n' c']] w fun e w' => e = .returned (.bool true) ∧ Below w.heap.size w w' := by
  have hm := h.max
  have hR := rs_alloc (rs_alloc h hhi (.cells #[.slice A n c] 40)) (by simp; omega) (.cells #[.slice A' n' c'] 40)
  have hR' := rs_alloc (rs_alloc h' hhi' (.cells #[.slice A n c] 40)) (by simp; omega) (.cells #[.slice A' n' c'] 40)
  have hB : Below w.heap.size w ((w.alloc (.cells #[.slice A n c] 40)).alloc (.cells #[.slice A' n' c'] 40)) := ((Below.refl _ _).alloc (Nat.le_refl _) _).alloc (by simp) _
  have hC : ((w.alloc (.cells #[.slice A n c] 40)).alloc (.cells #[.slice A' n' c'] 40)).cell? ⟨w.heap.size, 0, none⟩ = some (.slice A n c) := (al_old _ _ _ _ (by simp)).trans (al_new _ _ _ _ rfl)
  have hlk := likeRows_any A n c xss A' n' c' _ hR hR' (by simp; omega) (by simp; omega)
  go_enter Try.func47, Try.ntmps47
  go_wp2_with fail
  ((with_reducible refine hlk.mono ?_); rintro e w2 ⟨rfl, f2⟩)
  go_wp2_with fail
  go_ret
  exact ⟨rfl, below_then hB f2 (by simp; omega)⟩
end Go.Proofs.Ytdaljeghdiknpaa
