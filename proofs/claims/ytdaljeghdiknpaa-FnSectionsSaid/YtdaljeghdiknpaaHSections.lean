/- Merged texts: what the statement wants besides (DrwU DrwC DrwM DrwO LabP FsQ FwP SeqP SecP CntP TypP SeqT Face Sec SecX FormX Srl Srt Cpl Cpt Typ TypS TypX Lk5). No condition but those that each lemma names. -/
import Derived.Lib.SlicesCompact
import Derived.Deep.RegionLaw
import Derived.Lib.SliceRun
import Derived.Shelf.SortM.Plain
import Derived.Shelf.SortM.SortNone
import Derived.Test.YtdaljeghdiknpaaProg
import Derived.Sort.OwnSortedInts
import Derived.Shelf.SlicesE.Compact
import Derived.Test.YtdaljeghdiknpaaGd2
/- DrwU -/
namespace Go.Proofs.Ytdaljeghdiknpaa
open Go.RowKit
set_option linter.unusedVariables false
set_option maxRecDepth 100000
set_option maxHeartbeats 4000000 in
theorem ranks_any (w : World) (lo g : Nat) (A : Option Addr) (n c : Nat) (bs : List Int) (i h : Nat) (s : Src w lo g 122 A n c bs i h) (A1 : Option Addr) (m c1 : Nat) (hm6 : m ≤ 6) :
    Calls Try.prog 121 #[.pointer (some ⟨g, 0, none⟩), .agg #[.slice A1 m c1]] w fun e w' => ∃ (x y : Int) (i' h' : Nat), e = .returned (.tuple #[.int .i64 x, .int .i64 y]) ∧ IR64 x ∧ IR64 y ∧ Src w' lo g 122 A n c bs i' h' ∧ Chg g (g + 1) w w' := by
  have Ba : Below w.heap.size w (w.alloc (.cells #[.slice A1 m c1] 40)) := (Below.refl _ _).alloc (Nat.le_refl _) _
  have s1 := s.below Ba s.lt
  have C1 : Chg g (g + 1) w (w.alloc (.cells #[.slice A1 m c1] 40)) := Chg.of_below _ _ Ba
  have hn := nextz_any _ lo g A n c bs _ _ s1 (m : Int) (by omega)
  go_enter Try.func121, Try.ntmps121
  go_wp2_with fail
  ((with_reducible refine hn.mono ?_); rintro e w2 ⟨a, i2, h2, rfl, ha, s2, C2⟩)
  have ha6 : a ≤ 6 := by omega
  have C2' := C1.trans C2 ⟨Nat.le_refl _, Nat.le_refl _⟩ ⟨Nat.le_refl _, Nat.le_refl _⟩
  obtain ⟨d, hd⟩ : ∃ d, (m : Int) - (a : Int) = d := ⟨_, rfl⟩
  have hwd : IntKind.i64.wrap d = d := by rw [IntKind.wrap_i64]; omega
  have hn2 := nextz_any w2 lo g A n c bs _ _ s2 d (by omega)
  clear hn
  go_wp2_with fail
  ((with_reducible refine hn2.mono ?_); rintro e w3 ⟨q, i3, h3, rfl, hq, s3, C3⟩)
  have hq6 : q ≤ 6 := by omega
  have C3' := C2'.trans C3 ⟨Nat.le_refl _, Nat.le_refl _⟩ ⟨Nat.le_refl _, Nat.le_refl _⟩
  obtain ⟨k, hk⟩ : ∃ k : Nat, (a : Int) + (q : Int) = (k : Int) := ⟨a + q, by omega⟩
  have hn3 := next_any w3 lo g A n c bs _ _ s3 20 (by omega) (by omega)
  clear hn2 C1 C2 C3 C2' s1 s2
  go_wp2_with fail
  ((with_reducible refine hn3.mono ?_); rintro e w4 ⟨v, i4, rfl, P⟩)
  have s4 := P.src
  have C4 := C3'.trans P.chg ⟨Nat.le_refl _, Nat.le_refl _⟩ ⟨Nat.le_refl _, Nat.le_refl _⟩
  clear hn3 P C3'
  by_cases hv : v = 0
  · subst hv
    have L5 : RI (w4.alloc (.cells #[.int .i64 (-1), .int .i64 (k : Int), .int .i64 (a : Int), .int .i64 5] 2)) w4.heap.size (w4.heap.size + 1) (some ⟨w4.heap.size, 0, none⟩) 4 [-1, (k : Int), (a : Int), 5] := lit_rd w4 #[.int .i64 (-1), .int .i64 (k : Int), .int .i64 (a : Int), .int .i64 5] 2 (by simp)
    have Bb : Below w4.heap.size w4 (w4.alloc (.cells #[.int .i64 (-1), .int .i64 (k : Int), .int .i64 (a : Int), .int .i64 5] 2)) := (Below.refl _ _).alloc (Nat.le_refl _) _
    have hp := pick_any _ lo g A n c bs _ _ (s4.below Bb s4.lt) _ 4 4 _ L5 (.inr s4.lt) (by simp) (by omega) (by omega)
    go_wp2_with fail
    ((with_reducible refine hp.mono ?_); rintro e w5 ⟨k1, i5, h5, x, rfl, hx, s5, C5, z5⟩)
    have hx2 : IR64 x := by
      have := List.mem_of_getElem? hx
      simp only [List.mem_cons, List.not_mem_nil, or_false] at this
      unfold IR64
      omega
    have C5' := (C4.trans_below Bb).trans C5 ⟨Nat.le_refl _, Nat.le_refl _⟩ ⟨Nat.le_refl _, Nat.le_refl _⟩
    clear hp hx z5
    have L6 : RI (w5.alloc (.cells #[.int .i64 (m : Int), .int .i64 (a : Int), .int .i64 0] 2)) w5.heap.size (w5.heap.size + 1) (some ⟨w5.heap.size, 0, none⟩) 3 [(m : Int), (a : Int), 0] := lit_rd w5 #[.int .i64 (m : Int), .int .i64 (a : Int), .int .i64 0] 2 (by simp)
    have Bc : Below w5.heap.size w5 (w5.alloc (.cells #[.int .i64 (m : Int), .int .i64 (a : Int), .int .i64 0] 2)) := (Below.refl _ _).alloc (Nat.le_refl _) _
    have hp := pick_any _ lo g A n c bs _ _ (s5.below Bc s5.lt) _ 3 3 _ L6 (.inr s5.lt) (by simp) (by omega) (by omega)
    go_wp2_with fail
    ((with_reducible refine hp.mono ?_); rintro e w6 ⟨k2, i6, h6, y, rfl, hy, s6, C6, z6⟩)
    have hy2 : IR64 y := by
      have := List.mem_of_getElem? hy
      simp only [List.mem_cons, List.not_mem_nil, or_false] at this
      unfold IR64
      omega
    have C6' := (C5'.trans_below Bc).trans C6 ⟨Nat.le_refl _, Nat.le_refl _⟩ ⟨Nat.le_refl _, Nat.le_refl _⟩
    clear hp hy z6
    replace hx2 := Lib.hid hx2
    replace hy2 := Lib.hid hy2
    go_wp2_with fail
    go_ret2
    exact ⟨x, y, i6, h6, rfl, hx2.out, hy2.out, s6, C6'⟩
  · have dv : (v == 0) = false := by simpa using hv
    have hx2 : IR64 (a : Int) := by unfold IR64; omega
    have hy2 : IR64 (k : Int) := by unfold IR64; omega
    replace hx2 := Lib.hid hx2
    replace hy2 := Lib.hid hy2
    go_wp2_with fail
    go_ret2
    exact ⟨a, k, i4, _, rfl, hx2.out, hy2.out, s4, C4⟩
set_option maxHeartbeats 4000000 in
theorem drawSection_any (w : World) (A : Option Addr) (n c : Nat) (bs : List Int) (h : Rd w 0 w.heap.size A n (bs.map (Value.int .u8))) (hb : ∀ x ∈ bs, 0 ≤ x ∧ x < 256) (hn : n ≤ 1048576) :
    Calls Try.prog 59 #[.slice A n c] w fun e w' => ∃ (A1 : Option Addr) (m c1 : Nat) (f x y : Int), e = .returned (.tuple #[.agg #[.slice A1 m c1], .int .i64 f, .int .i64 x, .int .i64 y]) ∧ IR64 f ∧ IR64 x ∧ IR64 y ∧ DrwMP w w' A1 m c1 := by
  have B1 : Below w.heap.size w (w.alloc (.cells #[.slice none 0 0] 40)) := (Below.refl _ _).alloc (Nat.le_refl _) _
  have z1 : (w.alloc (.cells #[.slice none 0 0] 40)).heap.size = w.heap.size + 1 := by simp
  have hF := from_any (w.alloc (.cells #[.slice none 0 0] 40)) A n c bs ((h.keep (Same.of_below B1 (Nat.le_refl _))).more (Nat.le_refl _) (by simp)) hb hn
  have g1 : (w.alloc (.cells #[.slice none 0 0] 40)).heap[w.heap.size]? = some (.cells #[.slice none 0 0] 40 (0, 0)) := heap_new _ _ _ rfl
  rw [z1] at hF
  replace hb := Lib.hid hb
  go_enter Try.func59, Try.ntmps59
  go_wp2_with fail
  ((with_reducible refine hF.mono ?_); rintro e w3 ⟨H, rfl, s3, f3⟩)
  have z3 := s3.lt
  have g3 := (f3.block _ (by omega)).trans g1
  have B3 := B1.trans (f3.mono (by omega))
  have hS := l02Spoil_any w3 _ _ A n c bs _ _ s3 60 (by omega) (by omega)
  rw [show ((60 : Nat) : Int) = 60 from rfl] at hS
  clear hF g1 B1 f3
  go_wp2_with fail
  ((with_reducible refine hS.mono ?_); rintro e w4 ⟨A1, m, c1, rfl, D⟩)
  obtain ⟨xss, S⟩ := DxS.start (by omega) (by omega) g3 B3 D
  clear hS D
  go_wp2_with fail
  obtain ⟨b, hb⟩ : ∃ b, w4.heap.size = b := ⟨_, rfl⟩
  obtain ⟨w5, hw5⟩ : ∃ w5, w4.alloc (.cells #[.slice A1 m c1] 40) = w5 := ⟨_, rfl⟩
  rw [hw5] at S ⊢
  rw [hb] at S ⊢
  clear hw5 hb s3
  obtain ⟨i5, h5, s5⟩ := S.src
  have D5 := S.cellM
  have hm6 := S.lens.1
  have hr := ranks_any w5 _ _ A n c bs _ _ s5 A1 m c1 hm6
  go_wp2_with fail
  ((with_reducible refine hr.mono ?_); rintro e w6 ⟨x, y, i6, h6, rfl, hx, hy, s6, C6⟩)
  have S6 := S.step s6 C6
  have D4 := S6.cellM
  have S6d : DxS w _ _ b 122 40 A n c bs w6.drew A1 m c1 xss := S6.below (below_drw (Below.refl _ _))
  obtain ⟨i6', h6', s6'⟩ := S6d.src
  clear hr S S6 s5 s6 C6 D5
  replace S6d := Lib.hid S6d
  replace hx := Lib.hid hx
  replace hy := Lib.hid hy
  go_wp2_with fail
  go_region_law? (refine step_call rfl 89 #[.pointer (some ⟨w.heap.size + 1, 0, none⟩), .agg #[.slice A1 m c1]] (by go_simp) (flag2_any w6.drew _ _ A n c bs _ _ s6' A1 m c1 xss S6d.out.rs (by have := S6d.out.size; omega) S6d.out.lens.2) ?_; rintro e w7 ⟨f, i7, h7, rfl, hf, s7, C7⟩; refine ⟨_, rfl, ?_⟩; have S7 := S6d.out.step s7 C7; have E7 := S7.cellM; have D7 := S7.cell0; have F7 := S7.frz0; replace S7 := Lib.hid S7; replace hf := Lib.hid hf)
  all_goals
    have g9 := heap_setCell_same _ _ 0 _ _ (Value.slice A1 m c1) S7.out.g0
    replace g9 := Lib.hid g9
    go_wp2_with fail
    (try simp only [Exit.inBlock, Exit.then])
    refine bodyPost_ret (v := .tuple #[.agg #[.slice A1 m c1], .int .i64 f, .int .i64 x, .int .i64 y]) ?_ rfl ?_
    · exact results_cell_row4 rfl _ _ w.heap.size 40 #[.slice A1 m c1] (0, 0) _ rfl (by simpa using g9.out) Try.underlying40 rfl (by kernel_rfl) _ _ _ rfl rfl rfl
    · exact ⟨_, _, _, f, x, y, rfl, hf.out, hx.out, hy.out, S7.out.ret _⟩
set_option maxHeartbeats 4000000 in
theorem number_any (w : World) (A : Option Addr) (n c : Nat) (bs : List Int) (h : Rd w 0 w.heap.size A n (bs.map (Value.int .u8))) (hb : ∀ x ∈ bs, 0 ≤ x ∧ x < 256) (hn : n ≤ 1048576) :
    Calls Try.prog 107 #[.slice A n c] w fun e w' => ∃ (A1 : Option Addr) (m c1 : Nat) (x y : Int), e = .returned (.tuple #[.agg #[.slice A1 m c1], .int .i64 x, .int .i64 y]) ∧ IR64 x ∧ IR64 y ∧ DrwMP w w' A1 m c1 := by
  have B1 : Below w.heap.size w (w.alloc (.cells #[.slice none 0 0] 40)) := (Below.refl _ _).alloc (Nat.le_refl _) _
  have z1 : (w.alloc (.cells #[.slice none 0 0] 40)).heap.size = w.heap.size + 1 := by simp
  have hF := from_any (w.alloc (.cells #[.slice none 0 0] 40)) A n c bs ((h.keep (Same.of_below B1 (Nat.le_refl _))).more (Nat.le_refl _) (by simp)) hb hn
  have g1 : (w.alloc (.cells #[.slice none 0 0] 40)).heap[w.heap.size]? = some (.cells #[.slice none 0 0] 40 (0, 0)) := heap_new _ _ _ rfl
  rw [z1] at hF
  replace hb := Lib.hid hb
  go_enter Try.func107, Try.ntmps107
  go_wp2_with fail
  ((with_reducible refine hF.mono ?_); rintro e w3 ⟨H, rfl, s3, f3⟩)
  have z3 := s3.lt
  have g3 := (f3.block _ (by omega)).trans g1
  have B3 := B1.trans (f3.mono (by omega))
  have hS := l02Spoil_any w3 _ _ A n c bs _ _ s3 60 (by omega) (by omega)
  rw [show ((60 : Nat) : Int) = 60 from rfl] at hS
  clear hF g1 B1 f3
  go_wp2_with fail
  ((with_reducible refine hS.mono ?_); rintro e w4 ⟨A1, m, c1, rfl, D⟩)
  obtain ⟨xss, S⟩ := DxS.start (by omega) (by omega) g3 B3 D
  clear hS D
  go_wp2_with fail
  obtain ⟨b, hb⟩ : ∃ b, w4.heap.size = b := ⟨_, rfl⟩
  obtain ⟨w5, hw5⟩ : ∃ w5, w4.alloc (.cells #[.slice A1 m c1] 40) = w5 := ⟨_, rfl⟩
  rw [hw5] at S ⊢
  rw [hb] at S ⊢
  clear hw5 hb s3
  obtain ⟨i5, h5, s5⟩ := S.src
  have D5 := S.cellM
  have hm6 := S.lens.1
  have hn5 := nextz_any w5 _ _ A n c bs _ _ s5 (m : Int) (by omega)
  go_wp2_with fail
  ((with_reducible refine hn5.mono ?_); rintro e w6 ⟨a, i6, h6, rfl, ha, s6, C6⟩)
  have ha6 : a ≤ 6 := by omega
  have S6 := S.step s6 C6
  have hn6 := next_any w6 _ _ A n c bs _ _ s6 20 (by omega) (by omega)
  clear hn5 S s5 C6 D5
  go_wp2_with fail
  ((with_reducible refine hn6.mono ?_); rintro e w7 ⟨v, i7, rfl, P⟩)
  have S7 := S6.step P.src P.chg
  clear hn6 P s6 S6
  obtain ⟨i7', h7, s7⟩ := S7.src
  have D7 := S7.cellM
  go_upto_if 19 with fail
  go_cut [7] from 8 to 25 (fun v7 wx => ∃ x : Int, v7 = .int .i64 x ∧ IR64 x ∧ DxS w (w.heap.size + 1) (w.heap.size + 1) b 122 40 A n c bs wx A1 m c1 xss)
  case first =>
    by_cases hv : v = 0
    · subst hv
      have L8 : RI (w7.alloc (.cells #[.int .i64 (-1), .int .i64 5, .int .i64 (m : Int)] 2)) w7.heap.size (w7.heap.size + 1) (some ⟨w7.heap.size, 0, none⟩) 3 [-1, 5, (m : Int)] := lit_rd w7 #[.int .i64 (-1), .int .i64 5, .int .i64 (m : Int)] 2 (by simp)
      have Bb : Below w7.heap.size w7 (w7.alloc (.cells #[.int .i64 (-1), .int .i64 5, .int .i64 (m : Int)] 2)) := (Below.refl _ _).alloc (Nat.le_refl _) _
      have hp := pick_any _ _ _ A n c bs _ _ (s7.below Bb s7.lt) _ 3 3 _ L8 (.inr s7.lt) (by simp) (by omega) (by omega)
      have S8 := S7.below Bb
      replace S7 := Lib.hid S7
      replace S8 := Lib.hid S8
      go_wp2_with fail
      ((with_reducible refine hp.mono ?_); rintro e w8 ⟨k1, i8, h8, x, rfl, hx, s8, C8, z8⟩)
      have hx2 : IR64 x := by
        have := List.mem_of_getElem? hx
        simp only [List.mem_cons, List.not_mem_nil, or_false] at this
        unfold IR64
        omega
      have S9 := S8.out.step s8 C8
      replace S9 := Lib.hid S9
      replace hx2 := Lib.hid hx2
      clear hp hx z8
      go_wp2_with fail
      go_meet
      exact ⟨x, rfl, hx2.out, S9.out⟩
    · have dv : (v == 0) = false := by simpa using hv
      have hx2 : IR64 (a : Int) := by unfold IR64; omega
      replace S7 := Lib.hid S7
      replace hx2 := Lib.hid hx2
      go_wp2_with fail
      go_meet
      exact ⟨a, rfl, hx2.out, S7.out⟩
  case rest =>
    obtain ⟨x, rfl, hx, S⟩ := hcut
    clear S7 s7 D7
    obtain ⟨i5, h5, s5⟩ := S.src
    have hsz := S.size
    have hgb := S.hb
    have D5 := S.cellM
    have Ba : Below wc.heap.size wc (wc.alloc (.cells #[.int .i64 0, .int .i64 1, .int .i64 3, .int .i64 5] 2)) := (Below.refl _ _).alloc (Nat.le_refl _) _
    have D5a := (S.below Ba).cellM
    have hPk : ∀ wq : World, Below wc.heap.size wc wq → wq.heap[wc.heap.size]? = some (.cells #[.int .i64 0, .int .i64 1, .int .i64 3, .int .i64 5] 2 (0, 0)) → Calls Try.prog 81 #[.pointer (some ⟨w.heap.size + 1, 0, none⟩), .slice (some ⟨wc.heap.size, 0, none⟩) 4 4] wq fun e w' => ∃ (y : Int) (i' h' : Nat), e = .returned (.int .i64 y) ∧ 0 ≤ y ∧ y ≤ 5 ∧ Src w' (w.heap.size + 1) (w.heap.size + 1) 122 A n c bs i' h' ∧ DxS w (w.heap.size + 1) (w.heap.size + 1) b 122 40 A n c bs w' A1 m c1 xss := fun wq hq hz => by
      refine (pick_any wq _ _ A n c bs _ _ (s5.below hq s5.lt) (some ⟨wc.heap.size, 0, none⟩) 4 4 [0, 1, 3, 5] (lo1 := wc.heap.size) (hi1 := wc.heap.size + 1) (Own.ri (T := 2) (c := 4) ⟨blk_own (vs := [.int .i64 0, .int .i64 1, .int .i64 3, .int .i64 5]) hz rfl (Nat.le_refl _) (by simp only [maxLen]; omega), fun a e => by injection e with e; subst e; simp⟩) (.inr (by omega)) (Array.getElem?_eq_some_iff.1 hz).1 (by omega) (by omega)).mono ?_
      rintro e w' ⟨v, i', h', y, rfl, hy, s', C, _⟩
      have hy := List.mem_of_getElem? hy
      simp only [List.mem_cons, List.not_mem_nil, or_false] at hy
      exact ⟨y, i', h', rfl, by omega, by omega, s', (S.below hq).step s' C⟩
    have S0 := S
    replace hPk := Lib.hid hPk
    replace S := Lib.hid S
    replace S0 := Lib.hid S0
    replace hx := Lib.hid hx
    clear Ba
    go_wp2_with fail
    go_region_law? (first
      | (refine step_call rfl 81 #[.pointer (some ⟨w.heap.size + 1, 0, none⟩), .slice (some ⟨wc.heap.size, 0, none⟩) 4 4] (by go_simp) (hPk.out _ (by first | exact below_drw ((Below.refl _ _).alloc (Nat.le_refl _) _) | exact (below_drw (Below.refl _ _)).alloc (Nat.le_refl _) _) (by first | exact heap_new _ _ _ rfl | exact heap_new wc _ _ rfl)) ?_; rintro e w6 ⟨y, i6, h6, rfl, hy0, hy5, s6, S6⟩; refine ⟨_, rfl, ?_⟩; have E6 := S6.cellM; replace S6 := Lib.hid S6)
      | (refine step_call rfl 143 #[.pointer (some ⟨w.heap.size + 1, 0, none⟩), .int .i64 y] (by go_simp) (count_any w6 _ _ A n c bs _ _ s6 y (by omega) (by omega)) ?_; rintro e w7 ⟨z, i7, h7, rfl, hz, s7, C7⟩; refine ⟨_, rfl, ?_⟩; have S7 := S6.out.step s7 C7; have E7 := S7.cellM; have D7 := S7.cell0; have F7 := S7.frz0; replace S7 := Lib.hid S7; replace hz := Lib.hid hz))
    all_goals
      have g9 := heap_setCell_same _ _ 0 _ _ (Value.slice A1 m c1) S7.out.g0
      replace g9 := Lib.hid g9
      go_wp2_with fail
      (try simp only [Exit.inBlock, Exit.then])
      refine bodyPost_ret (v := .tuple #[.agg #[.slice A1 m c1], .int .i64 x, .int .i64 z]) ?_ rfl ?_
      · exact results_cell_row3 rfl _ _ w.heap.size 40 #[.slice A1 m c1] (0, 0) _ rfl (by simpa using g9.out) Try.underlying40 rfl (by kernel_rfl) _ _ rfl rfl
      · exact ⟨_, _, _, x, z, rfl, hx.out, hz.out, S7.out.ret _⟩
set_option maxHeartbeats 4000000 in
theorem drawFace_any (w : World) (A : Option Addr) (n c : Nat) (bs : List Int) (h : Rd w 0 w.heap.size A n (bs.map (Value.int .u8))) (hb : ∀ x ∈ bs, 0 ≤ x ∧ x < 256) (hn : n ≤ 1048576) :
    Calls Try.prog 44 #[.slice A n c] w fun e w' => ∃ (A1 : Option Addr) (m c1 : Nat) (x y : Int), e = .returned (.tuple #[.agg #[.slice A1 m c1], .int .i64 x, .int .i64 y]) ∧ IR64 x ∧ IR64 y ∧ DrwMP w w' A1 m c1 := by
  have B1 : Below w.heap.size w (w.alloc (.cells #[.slice none 0 0] 40)) := (Below.refl _ _).alloc (Nat.le_refl _) _
  have z1 : (w.alloc (.cells #[.slice none 0 0] 40)).heap.size = w.heap.size + 1 := by simp
  have hF := number_any (w.alloc (.cells #[.slice none 0 0] 40)) A n c bs ((h.keep (Same.of_below B1 (Nat.le_refl _))).more (Nat.le_refl _) (by simp)) hb hn
  have g1 : (w.alloc (.cells #[.slice none 0 0] 40)).heap[w.heap.size]? = some (.cells #[.slice none 0 0] 40 (0, 0)) := heap_new _ _ _ rfl
  replace hb := Lib.hid hb
  go_enter Try.func44, Try.ntmps44
  go_wp2_with fail
  ((with_reducible refine hF.mono ?_); rintro e w2 ⟨A1, m, c1, x, y, rfl, hx, hy, xss, hR, hmc, f2⟩)
  have z2 := f2.size
  rw [z1] at z2 hR
  have g2 := (f2.block _ (by simp)).trans g1
  have B2 := B1.trans (f2.mono (by simp))
  clear hF g1
  have Ba : Below w2.heap.size w2 (w2.alloc (.cells #[.slice A1 m c1] 40)) := (Below.refl _ _).alloc (Nat.le_refl _) _
  have g3 := (Ba.block _ (by omega)).trans g2
  have D0 : (w2.alloc (.cells #[.slice A1 m c1] 40)).cell? ⟨w.heap.size, 0, none⟩ = some (.slice none 0 0) := by rw [cell_of_row _ _ _ _ _ _ g3]; rfl
  have F0 : (w2.alloc (.cells #[.slice A1 m c1] 40)).frozen? ⟨w.heap.size, 0, none⟩ = false := frozen_of_row _ _ _ _ _ g3
  have g9 := heap_setCell_same _ _ 0 _ _ (Value.slice A1 m c1) g3
  have hfin : DrwMP w ((w2.alloc (.cells #[.slice A1 m c1] 40)).setCell ⟨w.heap.size, 0, none⟩ (.slice A1 m c1)) A1 m c1 :=
    ⟨xss, ((hR.below Ba (Nat.le_refl _)).same (same_set _ _ _ _ _ (.inl (by simp)))).more (by omega) (by simp), hmc, (B2.trans (Ba.mono (by omega))).setCell (by simp) _⟩
  replace g9 := Lib.hid g9
  replace hfin := Lib.hid hfin
  replace hx := Lib.hid hx
  replace hy := Lib.hid hy
  clear hR
  go_wp2_with fail
  (try simp only [Exit.inBlock, Exit.then])
  refine bodyPost_ret (v := .tuple #[.agg #[.slice A1 m c1], .int .i64 x, .int .i64 y]) ?_ rfl ?_
  · exact results_cell_row3 rfl _ _ w.heap.size 40 #[.slice A1 m c1] (0, 0) _ rfl (by simpa using g9.out) Try.underlying40 rfl (by kernel_rfl) _ _ rfl rfl
  · exact ⟨_, _, _, x, y, rfl, hx.out, hy.out, hfin.out⟩
end Go.Proofs.Ytdaljeghdiknpaa
/- DrwC -/
namespace Go.Proofs.Ytdaljeghdiknpaa
open Go.RowKit
set_option linter.unusedVariables false
set_option maxRecDepth 100000
/-- two lists in rows of their own -/
def PairP (w w' : World) (T : TypeId) (A1 : Option Addr) (n1 c1 : Nat) (A2 : Option Addr) (n2 c2 : Nat) : Prop :=
  ∃ (xs ys : List Int), Own w' w.heap.size w'.heap.size T A1 n1 c1 (xs.map (Value.int .i64)) ∧ Own w' w.heap.size w'.heap.size T A2 n2 c2 (ys.map (Value.int .i64)) ∧ n1 ≤ 402 ∧ n2 ≤ 402 ∧ Below w.heap.size w w'
set_option maxHeartbeats 1000000 in
theorem pair_any (w : World) (A : Option Addr) (n c : Nat) (bs : List Int) (h : Rd w 0 w.heap.size A n (bs.map (Value.int .u8))) (hb : ∀ x ∈ bs, 0 ≤ x ∧ x < 256) (hn : n ≤ 1048576) :
    Calls Try.prog 96 #[.slice A n c] w fun e w' => ∃ (A1 : Option Addr) (n1 c1 : Nat) (A2 : Option Addr) (n2 c2 : Nat), e = .returned (.tuple #[.slice A1 n1 c1, .slice A2 n2 c2]) ∧ PairP w w' 2 A1 n1 c1 A2 n2 c2 := by
  have hF := from_any w A n c bs h hb hn
  replace hb := Lib.hid hb
  go_enter Try.func96, Try.ntmps96
  go_wp2_with fail
  ((with_reducible refine hF.mono ?_); rintro e w1 ⟨H1, rfl, S1, B1⟩)
  clear hF
  go_wp2_with fail
  ((with_reducible refine (size_any w1 _ _ A n c bs _ _ S1).mono ?_); rintro e w2 ⟨m, rfl, hm, i2, h2, S2, C2⟩)
  have g2 := S2.lt
  have s1 := B1.size
  have s2 := C2.size
  go_wp2_with fail
  ((with_reducible refine (spoil_any w2 _ _ A n c bs _ _ S2 m (by omega)).mono ?_); rintro e w3 ⟨A1, c1, rfl, i3, h3, xs, O3, S3, C3⟩)
  have s3 := C3.size
  go_wp2_with fail
  ((with_reducible refine (next_nat w3 _ _ A n c bs _ _ S3 20 (by omega) (by omega)).mono ?_); rintro e w4 ⟨v, rfl, hv, i4, h4, S4, C4⟩)
  have s4 := C4.size
  have O4 := O3.keep (Same.of_chg C4 (Nat.le_refl _) (by omega))
  have D4 := (C2.trans C3 ⟨Nat.le_refl _, Nat.le_refl _⟩ ⟨Nat.le_refl _, Nat.le_refl _⟩).trans C4 ⟨Nat.le_refl _, Nat.le_refl _⟩ ⟨Nat.le_refl _, Nat.le_refl _⟩
  by_cases h0 : v = 0
  · subst h0
    have hS := spoil_any w4 _ _ A n c bs _ _ S4 (m + 1) (by omega)
    rw [show ((m + 1 : Nat) : Int) = (m : Int) + 1 by omega] at hS
    go_wp2_with fail
    ((with_reducible refine hS.mono ?_); rintro e w5 ⟨A2, c2, rfl, i5, h5, ys, O5, S5, C5⟩)
    have s5 := C5.size
    have P5 := O4.keep (Same.of_chg C5 (by omega) (by omega))
    have D5 := D4.trans C5 ⟨Nat.le_refl _, Nat.le_refl _⟩ ⟨Nat.le_refl _, Nat.le_refl _⟩
    have E5 := B1.trans (D5.below (Nat.le_refl _) (by omega))
    clear hS
    go_wp2_with fail
    go_ret2
    exact ⟨A1, m, c1, A2, m + 1, c2, rfl, xs, ys, P5.more (by omega) (by omega), O5.more (by omega) (Nat.le_refl _), by omega, by omega, E5⟩
  · have hS := spoil_any w4 _ _ A n c bs _ _ S4 m (by omega)
    have d0 : ((v : Int) == 0) = false := by simp; omega
    go_wp2_with fail
    ((with_reducible refine hS.mono ?_); rintro e w5 ⟨A2, c2, rfl, i5, h5, ys, O5, S5, C5⟩)
    have s5 := C5.size
    have P5 := O4.keep (Same.of_chg C5 (by omega) (by omega))
    have D5 := D4.trans C5 ⟨Nat.le_refl _, Nat.le_refl _⟩ ⟨Nat.le_refl _, Nat.le_refl _⟩
    have E5 := B1.trans (D5.below (Nat.le_refl _) (by omega))
    clear hS
    go_wp2_with fail
    go_ret2
    exact ⟨A1, m, c1, A2, m, c2, rfl, xs, ys, P5.more (by omega) (by omega), O5.more (by omega) (Nat.le_refl _), by omega, by omega, E5⟩
theorem drawConjugate_any (w : World) (A : Option Addr) (n c : Nat) (bs : List Int) (h : Rd w 0 w.heap.size A n (bs.map (Value.int .u8))) (hb : ∀ x ∈ bs, 0 ≤ x ∧ x < 256) (hn : n ≤ 1048576) :
    Calls Try.prog 38 #[.slice A n c] w fun e w' => ∃ (A1 : Option Addr) (n1 c1 : Nat) (A2 : Option Addr) (n2 c2 : Nat), e = .returned (.tuple #[.slice A1 n1 c1, .slice A2 n2 c2]) ∧ PairP w w' 2 A1 n1 c1 A2 n2 c2 := by
  have hF := pair_any w A n c bs h hb hn
  replace hb := Lib.hid hb
  go_enter Try.func38, Try.ntmps38
  go_wp2_with fail
  ((with_reducible refine hF.mono ?_); rintro e w1 ⟨A1, n1, c1, A2, n2, c2, rfl, P⟩)
  clear hF
  go_wp2_with fail
  go_ret2
  exact ⟨A1, n1, c1, A2, n2, c2, rfl, P⟩
end Go.Proofs.Ytdaljeghdiknpaa
/- DrwM -/
namespace Go.Proofs.Ytdaljeghdiknpaa
open Go.RowKit
set_option linter.unusedVariables false
set_option maxRecDepth 100000
/-- a list of lists of the call's own (blocks from B on), each of at most 402 numbers, and the source -/
structure SmS (w wr : World) (lo g : Nat) (T TS TI : TypeId) (A : Option Addr) (n c : Nat) (bs : List Int) (vs : List Value) (A1 : Option Addr) (c1 : Nat) (xss : List (List Int)) (i' h' : Nat) : Prop where
  row : wr.ownsRow w.heap.size TS 1 (.slice A1 vs.length c1) vs.length vs
  rows : RowsOwn wr w.heap.size wr.heap.size TI vs xss
  len : ∀ xs ∈ xss, xs.length ≤ 402
  src : Src wr lo g T A n c bs i' h'
  chg : Chg g (g + 1) w wr
  old : g < w.heap.size
section
variable {w wr wq : World} {lo g : Nat} {T TS TI : TypeId} {A : Option Addr} {n c : Nat} {bs : List Int} {vs : List Value} {A1 : Option Addr} {c1 : Nat} {xss : List (List Int)} {i' h' i2 h2 : Nat}
/-- the source goes on -/
theorem SmS.next (s : SmS w wr lo g T TS TI A n c bs vs A1 c1 xss i' h') (S : Src wq lo g T A n c bs i2 h2) (C : Chg g (g + 1) wr wq) : SmS w wq lo g T TS TI A n c bs vs A1 c1 xss i2 h2 := by
  have hz := C.size
  have ho := s.old
  have hsz := s.chg.size
  have hs : Same w.heap.size wr.heap.size wr wq := Same.of_chg C (Nat.le_refl _) (by omega)
  exact ⟨((Own.of_row s.row).keep hs).1, (s.rows.keep hs).more (Nat.le_refl _) hz, s.len, S, s.chg.trans C ⟨Nat.le_refl _, Nat.le_refl _⟩ ⟨Nat.le_refl _, Nat.le_refl _⟩, ho⟩
/-- the rows and a fresh row behind them, where the source goes on -/
theorem SmS.keepRows {hi : Nat} (s : SmS w wr lo g T TS TI A n c bs vs A1 c1 xss i' h') (hrow : RowsOwn wr w.heap.size hi TI vs xss) (hh : hi ≤ wr.heap.size) (C : Chg g (g + 1) wr wq) : RowsOwn wq w.heap.size hi TI vs xss :=
  hrow.keep (Same.of_chg C hh (by have := s.old; omega))
theorem SmS.start (s : Src wr lo g T A n c bs i' h') (C : Chg g (g + 1) w wr) (hold : g < w.heap.size) (b0 : wr.ownsRow w.heap.size TS 1 (.slice A1 0 c1) 0 []) : SmS w wr lo g T TS TI A n c bs [] A1 c1 [] i' h' :=
  ⟨b0, RowsOwn.nil, by simp, s, C, hold⟩
/-- a store into a row of the call's own that is none of the list's -/
theorem SmS.set {b N c3 : Nat} {us : List Value} (s : SmS w wr lo g T TS TI A n c bs vs A1 c1 xss i' h') {hi hi2 : Nat} (hrow : RowsOwn wr w.heap.size hi TI vs xss) (h1 : w.heap.size ≤ hi) (h2 : hi ≤ wr.heap.size) (hne : TS ≠ TI)
    (O : Own wr hi hi2 TI (some ⟨b, 0, none⟩) N c3 us) (j : Nat) (u : Value) : SmS w (wr.setCell ⟨b, j, none⟩ u) lo g T TS TI A n c bs vs A1 c1 xss i' h' ∧ RowsOwn (wr.setCell ⟨b, j, none⟩ u) w.heap.size hi TI vs xss := by
  have hb : hi ≤ b := (O.1.lt b rfl).1
  have ho := s.old
  have hr : RowsOwn (wr.setCell ⟨b, j, none⟩ u) w.heap.size hi TI vs xss := hrow.keep (same_set wr _ u _ _ (.inr hb))
  exact ⟨⟨own_kept_ty s.row O.1 hne (O.1.stored j u).2, hr.more (Nat.le_refl _) (by rw [World.size_setCell]; exact h2), s.len, s.src.far (by simp; omega) (by have := s.src.above; simp; omega) u, s.chg.setNew (by simp; omega) u, ho⟩, hr⟩
/-- a row has been appended -/
theorem SmS.app {A2 : Option Addr} {m c2 c3 : Nat} {A3 : Option Addr} {xs : List Int} {hi : Nat} (s : SmS w wr lo g T TS TI A n c bs vs A1 c1 xss i' h') (hne : TI ≠ TS) (hTS : True)
    (ho : Own wr hi wr.heap.size TI A2 m c2 (xs.map (Value.int .i64))) (hrow : RowsOwn wr w.heap.size hi TI vs xss) (h1 : w.heap.size ≤ hi) (hb : hi ≤ wr.heap.size) (hx : xs.length ≤ 402)
    (hg : wr.grownBy wq (Value.slice A1 vs.length c1).ownBlock) (ho2 : wq.ownsRow w.heap.size TS 1 (.slice A3 (vs.length + 1) c3) (vs.length + 1) (vs ++ [.slice A2 m c2])) :
    SmS w wq lo g T TS TI A n c bs (vs ++ [.slice A2 m c2]) A3 c3 (xss ++ [xs]) i' h' := by
  have hz := hg.size
  have hk := hrow.kept_ty s.row hne hg
  have hc := ho.kept_ty s.row hne hg
  have hw := s.chg.size
  have hnew : ∀ q, (Value.slice A1 vs.length c1).ownBlock = some q → w.heap.size ≤ q := fun q hq => (s.row.lt q hq).1
  have hold : ∀ k, k < w.heap.size → wq.heap[k]? = wr.heap[k]? := fun k hk => hg.block k (by omega) (fun e => by have := hnew k e.symm; omega)
  have ho' := s.old
  refine ⟨by rw [List.length_append]; exact ho2, ((hk.snoc hc h1 hb).more (Nat.le_refl _) hz), ?_, ?_, ?_, s.old⟩
  · intro ys hy
    rcases List.mem_append.1 hy with h | h
    · exact s.len ys h
    · rw [List.mem_singleton.1 h]; exact hx
  · exact ⟨(hold g ho').trans s.src.blk, s.src.above, s.src.code.keep fun k _ hk => hold k (by have := s.src.above; omega), s.src.byte, s.src.le, s.src.st⟩
  · exact ⟨hg.os.trans s.chg.os, hg.tape.trans s.chg.tape, hg.output.trans s.chg.output, by omega, fun k hk e => (hold k hk).trans (s.chg.block k hk e)⟩
end
def lenV : Value → Nat
  | .slice _ n _ => n
  | _ => 0
/-- what l01Small leaves -/
def SmallP (w w' : World) (lo g : Nat) (T TS TI : TypeId) (A : Option Addr) (n c : Nat) (bs : List Int) (N : Int) (A1 : Option Addr) (m c1 : Nat) : Prop :=
  ∃ (xss : List (List Int)) (i' h' : Nat), OwnS w' w.heap.size w'.heap.size TS TI A1 m c1 xss ∧ m ≤ 17 ∧ (∀ xs ∈ xss, xs.length ≤ 402) ∧ -1 ≤ N ∧ N ≤ 402 ∧ Src w' lo g T A n c bs i' h' ∧ Chg g (g + 1) w w'
set_option maxHeartbeats 2000000 in
theorem small_any (w : World) (lo g : Nat) (A : Option Addr) (n c : Nat) (bs : List Int) (i h : Nat) (s : Src w lo g 122 A n c bs i h) (most : Nat) (hm : most ≤ 400) :
    Calls Try.prog 63 #[.pointer (some ⟨g, 0, none⟩), .int .i64 most] w fun e w' => ∃ (N : Int) (A1 : Option Addr) (m c1 : Nat), e = .returned (.tuple #[.int .i64 N, .slice A1 m c1]) ∧ SmallP w w' lo g 122 27 2 A n c bs N A1 m c1 := by
  obtain ⟨s0, hs0, hu0, hu1, hu2⟩ := info_parts infoS
  have hgl := s.lt
  have hn := next_nat w lo g A n c bs _ _ s ((most : Int) + 1) (by omega) (by omega)
  go_enter Try.func63, Try.ntmps63
  go_wp2_with fail
  ((with_reducible refine hn.mono ?_); rintro e w1 ⟨N, rfl, hN, i1, h1, S1, C1⟩)
  have s1 := C1.size
  have b0 := World.ownsRow_lit (e := 27) (base := w.heap.size) (size := 1) w1 #[] 0 s1 (by omega) rfl
  have B2 : Below w1.heap.size w1 (w1.alloc (.cells #[] 27)) := (Below.refl _ _).alloc (Nat.le_refl _) _
  have T2 := SmS.start (TI := 2) (S1.below B2 S1.lt) (C1.trans_below B2) hgl b0
  have hn2 := next_nat _ lo g A n c bs _ _ T2.src 4 (by omega) (by omega)
  clear hn
  go_wp2_with fail
  ((with_reducible refine hn2.mono ?_); rintro e w3 ⟨K, rfl, hK, i3, h3, S3, C3⟩)
  have T3 := T2.next S3 C3
  clear hn2 T2 b0
  have hN4 : N ≤ 400 := by omega
  clear hN
  go_wp2_with fail
  go_loopw [7, 8] (fun lv kv wr => ∃ (k : Nat) (vs : List Value) (A1 : Option Addr) (c1 : Nat) (xss : List (List Int)) (i' h' : Nat), lv = .slice A1 vs.length c1 ∧ kv = .int .i64 k ∧ vs.length + k ≤ 3 ∧ Hid (SmS w wr lo g 122 27 2 A n c bs vs A1 c1 xss i' h')) (fun _ kv _ => (intOf kv).toNat)
  case atStart => exact ⟨K, [], _, 0, [], i3, h3, rfl, rfl, by simp; omega, Lib.hid T3⟩
  case round =>
    obtain ⟨k, vs, A1, c1, xss, i', h', rfl, rfl, hvk, hT⟩ := hrel
    have T := hT.out
    have sr := T.chg.size
    by_cases hk : 0 < k
    · have d0 : decide ((0 : Int) < (k : Int)) = true := by simp; omega
      have hD := draw_any wr lo g A n c bs _ _ T.src N (by omega)
      go_wp2_with fail
      ((with_reducible refine hD.mono ?_); rintro e w4 ⟨A2, c2, rfl, i4, h4, ys, O4, P4, S4, C4⟩)
      clear hD
      have s4 := C4.size
      have R4 := T.keepRows T.rows (Nat.le_refl _) C4
      have T4 := T.next S4 C4
      have hl4 : ys.length ≤ 402 := by rw [P4.length_eq, idL_length]; omega
      have hn := next_nat w4 lo g A n c bs _ _ T4.src 3 (by omega) (by omega)
      go_wp2_with fail
      ((with_reducible refine hn.mono ?_); rintro e w5 ⟨v, rfl, hv, i5, h5, S5, C5⟩)
      clear hn
      have s5 := C5.size
      have R5 := T4.keepRows R4 s4 C5
      have T5 := T4.next S5 C5
      have O5 := O4.keep (Same.of_chg C5 (Nat.le_refl _) (by omega))
      by_cases h0 : v = 0
      · subst h0
        have hU := unit_any N w5 (by omega)
        go_wp2_with fail
        ((with_reducible refine hU.mono ?_); rintro e w6 ⟨A3, c3, rfl, O6, B6⟩)
        clear hU
        have s6 := B6.size
        have T6 := T5.next (T5.src.below B6 T5.src.lt) (Chg.of_below _ _ B6)
        have R6 := T5.keepRows T5.rows (Nat.le_refl _) (Chg.of_below g (g + 1) B6)
        have hn := next_nat w6 lo g A n c bs _ _ T6.src 3 (by omega) (by omega)
        go_wp2_with fail
        ((with_reducible refine hn.mono ?_); rintro e w7 ⟨J, rfl, hJ, i7, h7, S7, C7⟩)
        clear hn
        have s7 := C7.size
        have R7 := T6.keepRows R6 s6 C7
        have T7 := T6.next S7 C7
        have O7 := O6.keep (Same.of_chg C7 (Nat.le_refl _) (by omega))
        clear O5 R5 O4 R4 T4 T5 T6 R6 O6 S4 S5 S7 C4 C5 C7 B6 hT T
        go_wp2_with fail
        go_loopw [10] (fun jv wq => ∃ (j : Nat) (us : List Int) (i' h' : Nat), jv = .int .i64 j ∧ j ≤ 2 ∧ Hid (us.length = N) ∧ Hid (SmS w wq lo g 122 27 2 A n c bs vs A1 c1 xss i' h') ∧ RowsOwn wq w.heap.size w5.heap.size 2 vs xss ∧ Own wq w5.heap.size w6.heap.size 2 A3 N c3 (us.map (Value.int .i64)) ∧ w6.heap.size ≤ wq.heap.size) (fun jv _ => (intOf jv).toNat)
        case atStart => exact ⟨J, idL N, i7, h7, rfl, by omega, Lib.hid (idL_length N), Lib.hid T7, R7, O7, s7⟩
        case round =>
          obtain ⟨j, us, i8, h8, rfl, hj2, hul, hT8, R8, O8, s8⟩ := hrel
          have T8 := hT8.out
          by_cases hgo : 0 < j ∧ 1 < N
          · obtain ⟨hj0, hN1⟩ := hgo
            have d1 : decide ((0 : Int) < (j : Int)) = true := by simp; omega
            have d2 : decide ((1 : Int) < (N : Int)) = true := by simp; omega
            have hn := next_nat wr lo g A n c bs _ _ T8.src (N : Int) (by omega) (by omega)
            go_wp2_with fail
            ((with_reducible refine hn.mono ?_); rintro e w9 ⟨a, rfl, ha, i9, h9, S9, C9⟩)
            clear hn
            have s9 := C9.size
            have R9 := T8.keepRows R8 (by omega) C9
            have T9 := T8.next S9 C9
            have O9 := O8.keep (Same.of_chg C9 s8 (by omega))
            have hn := next_nat w9 lo g A n c bs _ _ T9.src (N : Int) (by omega) (by omega)
            go_wp2_with fail
            ((with_reducible refine hn.mono ?_); rintro e wa ⟨b, rfl, hb, ia, ha', Sa, Ca⟩)
            clear hn
            have sa := Ca.size
            have Ra := T9.keepRows R9 (by omega) Ca
            have Ta := T9.next Sa Ca
            have Oa := O9.keep (Same.of_chg Ca (by omega) (by omega))
            obtain ⟨z, x, rfl, hz0, hz2, hz3, hx, -, -, hf⟩ := Oa.at_ (k := a) (by omega)
            simp only [List.getElem?_map, Option.map_eq_some_iff] at hx
            obtain ⟨x, hx, rfl⟩ := hx
            obtain ⟨y, hy⟩ : ∃ y, us[b]? = some y := ⟨_, List.getElem?_eq_getElem (by rw [Oa.lenI]; omega)⟩
            have cJ := Oa.cellI hx
            have cV := Oa.cellI hy
            have fJ := hf a
            clear hf
            have hVy : (us.set a y)[b]? = some y := by
              rw [List.getElem?_set]
              split
              · split
                · rfl
                · rename_i q3 q4; subst q3; rw [List.getElem?_eq_none (by omega)] at hy; cases hy
              · exact hy
            have cV2 := (Oa.setI (k := a) y).cellI hVy
            have fV2 := (Oa.setI (k := a) y).frz b
            obtain ⟨Tb, Rb⟩ := Ta.set Ra (by omega) (by omega) (by decide) Oa a (.int .i64 y)
            obtain ⟨Tc, Rc⟩ := Tb.set Rb (by omega) (by simp; omega) (by decide) (Oa.setI (k := a) y) b (.int .i64 x)
            have Oc := (Oa.setI (k := a) y).setI (k := b) x
            clear hVy
            have k1 : (a : Int) < (N : Int) := by omega
            have k2 : (b : Int) < (N : Int) := by omega
            replace hx := Lib.hid hx
            replace hy := Lib.hid hy
            replace Tb := Lib.hid Tb
            replace Tc := Lib.hid Tc
            go_wp2_with fail
            go_roundw
            case rel => exact ⟨j - 1, (us.set a y).set b x, _, _, by go_num, by omega, Lib.hid (by simpa using hul.out), Lib.hid Tc.out, Rc, Oc, by simp; omega⟩
            case measure => simp [intOf]; omega
          · have hus : us.length ≤ 402 := by rw [hul.out]; omega
            have sr8 := T8.chg.size
            by_cases hj0 : 0 < j
            · have d1 : decide ((0 : Int) < (j : Int)) = true := by simp; omega
              have d2 : decide ((1 : Int) < (N : Int)) = false := by simp; omega
              go_wp2_with (at_builtin; refine wpList_append1 wr rfl (.tmp 64) (.tmp 66) 24 rfl w.heap.size 27 s0 (.slice none 0 0) 24 Try.underlying24 hs0 hu0 hu1 hu2 rfl (by omega) _ vs.length c1 _ (.slice A3 N c3) rfl T8.row _ rfl rfl rfl (by omega) (by omega) ?_)
              intro g2 cx wz ho2 hg2 hlo2 hlt2 hor2
              have TX := T8.app (by decide) trivial (O8.more (Nat.le_refl _) s8) R8 (by omega) (by omega) hus hg2 ho2
              go_wp2_with fail
              go_roundw
              case rel => exact ⟨k - 1, vs ++ [.slice A3 N c3], _, cx, _, _, _, by rw [List.length_append]; rfl, by go_num, by rw [List.length_append]; simp; omega, Lib.hid TX⟩
              case measure => simp [intOf]; omega
            · have d1 : decide ((0 : Int) < (j : Int)) = false := by simp; omega
              go_wp2_with (at_builtin; refine wpList_append1 wr rfl (.tmp 64) (.tmp 66) 24 rfl w.heap.size 27 s0 (.slice none 0 0) 24 Try.underlying24 hs0 hu0 hu1 hu2 rfl (by omega) _ vs.length c1 _ (.slice A3 N c3) rfl T8.row _ rfl rfl rfl (by omega) (by omega) ?_)
              intro g2 cx wz ho2 hg2 hlo2 hlt2 hor2
              have TX := T8.app (by decide) trivial (O8.more (Nat.le_refl _) s8) R8 (by omega) (by omega) hus hg2 ho2
              go_wp2_with fail
              go_roundw
              case rel => exact ⟨k - 1, vs ++ [.slice A3 N c3], _, cx, _, _, _, by rw [List.length_append]; rfl, by go_num, by rw [List.length_append]; simp; omega, Lib.hid TX⟩
              case measure => simp [intOf]; omega
      · have d1 : ((v : Int) == 0) = false := by simp; omega
        go_wp2_with (at_builtin; refine wpList_append1 w5 rfl (.tmp 64) (.tmp 66) 24 rfl w.heap.size 27 s0 (.slice none 0 0) 24 Try.underlying24 hs0 hu0 hu1 hu2 rfl (by omega) _ vs.length c1 _ (.slice A2 N c2) rfl T5.row _ rfl rfl rfl (by omega) (by omega) ?_)
        intro g2 c3 w6 ho2 hg2 hlo2 hlt2 hor2
        have T6 := T5.app (by decide) trivial (O5.more (Nat.le_refl _) s5) R5 (by omega) (by omega) hl4 hg2 ho2
        go_wp2_with fail
        go_roundw
        case rel => exact ⟨k - 1, vs ++ [.slice A2 N c2], _, c3, _, _, _, by rw [List.length_append]; rfl, by go_num, by rw [List.length_append]; simp; omega, Lib.hid T6⟩
        case measure => simp [intOf]; omega
    · have hk0 : k = 0 := by omega
      subst hk0
      have d0 : decide ((0 : Int) < ((0 : Nat) : Int)) = false := by simp
      have hn := next_nat wr lo g A n c bs _ _ T.src 30 (by omega) (by omega)
      have hvl : vs.length ≤ 3 := by omega
      go_wp2_with fail
      ((with_reducible refine hn.mono ?_); rintro e w9 ⟨v, rfl, hv, i9, h9, S9, C9⟩)
      clear hn hvk
      have s9 := C9.size
      have R9 := T.keepRows T.rows (Nat.le_refl _) C9
      have T9 := T.next S9 C9
      clear hT
      by_cases v0 : v = 0
      · subst v0
        have hU := unit_any (N + 1) w9 (by omega)
        rw [show (((N + 1 : Nat)) : Int) = (N : Int) + 1 from rfl] at hU
        have hw1 : IntKind.i64.wrap ((N : Int) + 1) = (N : Int) + 1 := by rw [IntKind.wrap_i64]; omega
        go_wp2_with fail
        ((with_reducible refine hU.mono ?_); rintro e wa ⟨A3, c3, rfl, Oa, Ba⟩)
        clear hU hw1
        have sa := Ba.size
        have Ta := T9.next (T9.src.below Ba T9.src.lt) (Chg.of_below _ _ Ba)
        have Ra := T9.keepRows R9 s9 (Chg.of_below g (g + 1) Ba)
        go_wp2_with (at_builtin; refine wpList_append1 wa rfl (.tmp 72) (.tmp 76) 24 rfl w.heap.size 27 s0 (.slice none 0 0) 24 Try.underlying24 hs0 hu0 hu1 hu2 rfl (by omega) _ vs.length c1 _ (.slice A3 (N + 1) c3) rfl Ta.row _ rfl rfl rfl (by omega) (by omega) ?_)
        intro g2 cx wz ho2 hg2 hlo2 hlt2 hor2
        have TX := Ta.app (by decide) trivial (Oa.more s9 (Nat.le_refl _)) Ra (by omega) (by omega) (by rw [idL_length]; omega) hg2 ho2
        have hml : vs.length + 1 ≤ 17 := by omega
        go_wp2_with fail
        go_ret2
        exact ⟨_, _, _, _, rfl, _, _, _, ⟨_, ⟨ho2, fun ad hd => by cases hd; exact hlt2⟩, TX.rows⟩, hml, TX.len, by omega, by omega, TX.src, TX.chg⟩
      · have e0 : ((v : Int) == 0) = false := by simp; omega
        by_cases v1 : v = 1
        · subst v1
          have hw1 : IntKind.i64.wrap ((N : Int) + 1) = (N : Int) + 1 := by rw [IntKind.wrap_i64]; omega
          have L4 : RI (w9.alloc (.cells #[.int .i64 (-1), .int .i64 401, .int .i64 ((N : Int) + 1)] 2)) w9.heap.size (w9.heap.size + 1) (some ⟨w9.heap.size, 0, none⟩) 3 [-1, 401, (N : Int) + 1] := lit_rd w9 #[.int .i64 (-1), .int .i64 401, .int .i64 ((N : Int) + 1)] 2 (by simp)
          have B4 : Below w9.heap.size w9 (w9.alloc (.cells #[.int .i64 (-1), .int .i64 401, .int .i64 ((N : Int) + 1)] 2)) := (Below.refl _ _).alloc (Nat.le_refl _) _
          have T4 := T9.next (T9.src.below B4 T9.src.lt) (Chg.of_below _ _ B4)
          have hgo := T9.old
          have hch9 := T9.chg.size
          have hp := pick_any _ lo g A n c bs _ _ T4.src _ 3 3 _ L4 (.inr (by omega)) (by simp) (by omega) (by omega)
          go_wp2_with fail
          ((with_reducible refine hp.mono ?_); rintro e w5 ⟨v5, i5, h5, y, rfl, hy, S5, C5, z5⟩)
          have hyb : -1 ≤ y ∧ y ≤ 402 := by
            have := mem_of_get? hy
            simp at this
            rcases this with h | h | h <;> omega
          clear hp hy
          have T5 := T4.next S5 C5
          have hb5 := Own.of_row T5.row
          have hml : vs.length ≤ 17 := by omega
          go_wp2_with fail
          go_ret2
          exact ⟨_, _, _, _, rfl, _, _, _, ⟨_, hb5, T5.rows⟩, hml, T5.len, hyb.1, hyb.2, T5.src, T5.chg⟩
        · have e1 : ((v : Int) == 1) = false := by simp; omega
          by_cases v2 : v = 2
          · subst v2
            replace T9 := Lib.hid T9
            clear R9 T
            go_wp2_with fail
            go_loopw [7] (fun lv wq => ∃ (vs : List Value) (A1 : Option Addr) (c1 : Nat) (xss : List (List Int)) (i' h' : Nat), lv = .slice A1 vs.length c1 ∧ vs.length ≤ 17 ∧ Hid (SmS w wq lo g 122 27 2 A n c bs vs A1 c1 xss i' h')) (fun lv _ => 17 - lenV lv)
            case atStart => exact ⟨vs, A1, c1, xss, i9, h9, rfl, by omega, T9⟩
            case round =>
              clear T9
              obtain ⟨vs, A1, c1, xss, i', h', rfl, hv17, hT⟩ := hrel
              have T := hT.out
              have sr := T.chg.size
              by_cases hl : vs.length < 17
              · have d0 : decide ((vs.length : Int) < 17) = true := by simp; omega
                have hU := unit_any N wr (by omega)
                go_wp2_with fail
                ((with_reducible refine hU.mono ?_); rintro e wa ⟨A3, c3, rfl, Oa, Ba⟩)
                clear hU
                have sa := Ba.size
                have Ta := T.next (T.src.below Ba T.src.lt) (Chg.of_below _ _ Ba)
                have Ra := T.keepRows T.rows (Nat.le_refl _) (Chg.of_below g (g + 1) Ba)
                go_wp2_with (at_builtin; refine wpList_append1 wa rfl (.tmp 90) (.tmp 93) 24 rfl w.heap.size 27 s0 (.slice none 0 0) 24 Try.underlying24 hs0 hu0 hu1 hu2 rfl (by omega) _ vs.length c1 _ (.slice A3 N c3) rfl Ta.row _ rfl rfl rfl (by omega) (by omega) ?_)
                intro g2 cx wz ho2 hg2 hlo2 hlt2 hor2
                have TX := Ta.app (by decide) trivial Oa Ra (by omega) (by omega) (by rw [idL_length]; omega) hg2 ho2
                clear d0
                go_wp2_with fail
                go_roundw
                case rel => exact ⟨vs ++ [.slice A3 N c3], _, cx, _, _, _, by rw [List.length_append]; rfl, by rw [List.length_append]; simp; omega, Lib.hid TX⟩
                case measure => simp [lenV]; omega
              · have d0 : decide ((vs.length : Int) < 17) = false := by simp; omega
                have hb5 := Own.of_row T.row
                go_wp2_with fail
                go_ret2
                exact ⟨_, _, _, _, rfl, _, _, _, ⟨_, hb5, T.rows⟩, hv17, T.len, by omega, by omega, T.src, T.chg⟩
          · have e2 : ((v : Int) == 2) = false := by simp; omega
            have hb5 := Own.of_row T9.row
            have hml : vs.length ≤ 17 := by omega
            go_wp2_with fail
            go_ret2
            exact ⟨_, _, _, _, rfl, _, _, _, ⟨_, hb5, T9.rows⟩, hml, T9.len, by omega, by omega, T9.src, T9.chg⟩
end Go.Proofs.Ytdaljeghdiknpaa
/- DrwO -/
namespace Go.Proofs.Ytdaljeghdiknpaa
open Go.RowKit
set_option linter.unusedVariables false
set_option maxRecDepth 100000
/-- a row of numbers of the call's own, and the source -/
structure WrdS (w wr : World) (lo g : Nat) (T TI : TypeId) (A : Option Addr) (n c : Nat) (bs : List Int) (ys : List Int) (A1 : Option Addr) (c1 : Nat) (i' h' : Nat) : Prop where
  row : wr.ownsRow w.heap.size TI 1 (.slice A1 ys.length c1) ys.length (ys.map (Value.int .i64))
  src : Src wr lo g T A n c bs i' h'
  chg : Chg g (g + 1) w wr
  old : g < w.heap.size
section
variable {w wr wq : World} {lo g : Nat} {T TI : TypeId} {A : Option Addr} {n c : Nat} {bs ys : List Int} {A1 : Option Addr} {c1 : Nat} {i' h' i2 h2 : Nat}
theorem WrdS.next (s : WrdS w wr lo g T TI A n c bs ys A1 c1 i' h') (S : Src wq lo g T A n c bs i2 h2) (C : Chg g (g + 1) wr wq) : WrdS w wq lo g T TI A n c bs ys A1 c1 i2 h2 := by
  have ho := s.old
  have hsz := s.chg.size
  have hs : Same w.heap.size wr.heap.size wr wq := Same.of_chg C (Nat.le_refl _) (by omega)
  exact ⟨((Own.of_row s.row).keep hs).1, S, s.chg.trans C ⟨Nat.le_refl _, Nat.le_refl _⟩ ⟨Nat.le_refl _, Nat.le_refl _⟩, ho⟩
theorem WrdS.app {x : Int} {c3 : Nat} {A3 : Option Addr} (s : WrdS w wr lo g T TI A n c bs ys A1 c1 i' h') (hg : wr.grownBy wq (Value.slice A1 ys.length c1).ownBlock)
    (ho2 : wq.ownsRow w.heap.size TI 1 (.slice A3 (ys.length + 1) c3) (ys.length + 1) ((ys.map (Value.int .i64)) ++ [.int .i64 x])) : WrdS w wq lo g T TI A n c bs (ys ++ [x]) A3 c3 i' h' := by
  have hz := hg.size
  have hw := s.chg.size
  have hnew : ∀ q, (Value.slice A1 ys.length c1).ownBlock = some q → w.heap.size ≤ q := fun q hq => (s.row.lt q hq).1
  have hold : ∀ k, k < w.heap.size → wq.heap[k]? = wr.heap[k]? := fun k hk => hg.block k (by omega) (fun e => by have := hnew k e.symm; omega)
  have ho' := s.old
  refine ⟨by rw [List.length_append, List.map_append]; exact ho2, ?_, ?_, ho'⟩
  · exact ⟨(hold g ho').trans s.src.blk, s.src.above, s.src.code.keep fun k _ hk => hold k (by have := s.src.above; omega), s.src.byte, s.src.le, s.src.st⟩
  · exact ⟨hg.os.trans s.chg.os, hg.tape.trans s.chg.tape, hg.output.trans s.chg.output, by omega, fun k hk e => (hold k hk).trans (s.chg.block k hk e)⟩
end
/-- a number and a system's rows of the call's own -/
def DrwSysP (w w' : World) (TS TI : TypeId) (N : Int) (A1 : Option Addr) (m c1 : Nat) : Prop :=
  ∃ (xss : List (List Int)), OwnS w' w.heap.size w'.heap.size TS TI A1 m c1 xss ∧ m ≤ 17 ∧ (∀ xs ∈ xss, xs.length ≤ 402) ∧ -1 ≤ N ∧ N ≤ 402 ∧ Below w.heap.size w w'
theorem drawOrbit_any (w : World) (A : Option Addr) (n c : Nat) (bs : List Int) (h : Rd w 0 w.heap.size A n (bs.map (Value.int .u8))) (hb : ∀ x ∈ bs, 0 ≤ x ∧ x < 256) (hn : n ≤ 1048576) :
    Calls Try.prog 12 #[.slice A n c] w fun e w' => ∃ (N : Int) (A1 : Option Addr) (m c1 : Nat), e = .returned (.tuple #[.int .i64 N, .slice A1 m c1]) ∧ DrwSysP w w' 27 2 N A1 m c1 := by
  have hF := from_any w A n c bs h hb hn
  replace hb := Lib.hid hb
  go_enter Try.func12, Try.ntmps12
  go_wp2_with fail
  ((with_reducible refine hF.mono ?_); rintro e w1 ⟨H1, rfl, S1, B1⟩)
  clear hF
  have s1 := B1.size
  have g1 := S1.lt
  have hS := small_any w1 _ _ A n c bs _ _ S1 20 (by omega)
  rw [show ((20 : Nat) : Int) = 20 from rfl] at hS
  go_wp2_with fail
  ((with_reducible refine hS.mono ?_); rintro e w2 ⟨N, A1, m, c1, rfl, xss, i', h', O2, hm, hx, hN0, hN1, S2, C2⟩)
  clear hS
  have E2 := B1.trans (C2.below (B := w.heap.size) (Nat.le_refl _) s1)
  go_wp2_with fail
  go_ret2
  exact ⟨N, A1, m, c1, rfl, xss, O2.more s1 (Nat.le_refl _), hm, hx, hN0, hN1, E2⟩
theorem below_nat (w : World) (lo g : Nat) (A : Option Addr) (n c : Nat) (bs : List Int) (i h : Nat) (s : Src w lo g 79 A n c bs i h) (x : Int) (h1 : 1 ≤ x) (hx : x ≤ 1099511627776) :
    Calls Try.prog 17 #[.pointer (some ⟨g, 0, none⟩), .int .i64 x] w fun e w' => ∃ (v : Nat), e = .returned (.int .i64 v) ∧ StepP w w' lo g 79 A n c bs (x - 1).toNat v := by
  refine (below_any w lo g A n c bs i h s x h1 hx).mono ?_
  rintro e w' ⟨v, i', rfl, P⟩
  obtain ⟨V, rfl⟩ := Int.eq_ofNat_of_zero_le P.ge
  have := P.lt
  exact ⟨V, rfl, by omega, i', _, P.src, P.chg⟩
theorem hasInt_any (A : Option Addr) (n c : Nat) (xs : List Int) (x : Int) (w : World) {lo hi : Nat} (h : RI w lo hi A n xs) :
    Calls Try.prog 20 #[.slice A n c, .int .i64 x] w fun e w' => e = .returned (.bool (decide (x ∈ xs))) ∧ w = w' := by
  have hm := h.max
  have hl := Lib.hid h.len
  go_enter Try.func20, Try.ntmps20
  go_wp2_with fail
  go_loopw [5] (fun kv wq => ∃ k : Nat, k ≤ n ∧ kv = .int .i64 k ∧ Hid (x ∉ xs.take k) ∧ w = wq) (fun kv _ => n - (intOf kv).toNat)
  case atStart => exact ⟨0, by omega, rfl, Lib.hid (by simp), by first | rfl | trivial⟩
  case round =>
    obtain ⟨k, hk, rfl, hnx, rfl⟩ := hrel
    by_cases hlt : k < n
    · obtain ⟨b, o, v, rfl, _, _, hv, hcv⟩ := h.at_ hlt
      have htk : xs.take (k + 1) = xs.take k ++ [v] := by rw [List.take_add_one, hv]; rfl
      by_cases hvx : v = x
      · subst hvx
        have hix : decide (v ∈ xs) = true := decide_eq_true (List.mem_of_getElem? hv)
        replace hv := Lib.hid hv
        replace htk := Lib.hid htk
        replace hix := Lib.hid hix
        go_wp2_with fail
        go_ret
        exact ⟨ret_bool hix.out.symm, rfl⟩
      · have hbq : (v == x) = false := by simpa using hvx
        have hn2 : x ∉ xs.take (k + 1) := by rw [htk]; simp only [List.mem_append, List.mem_singleton]; rintro (hh | hh); exact hnx.out hh; exact hvx hh.symm
        replace hn2 := Lib.hid hn2
        replace hv := Lib.hid hv
        replace htk := Lib.hid htk
        go_wp2_with fail
        go_roundw
        case measure => simp [intOf]; omega
        case rel => exact ⟨k + 1, by omega, by go_num, hn2, by first | rfl | trivial⟩
    · have hkn : k = n := by omega
      subst hkn
      have hix : decide (x ∈ xs) = false := by apply decide_eq_false; have := hnx.out; rwa [List.take_of_length_le (by have := hl.out; omega)] at this
      replace hix := Lib.hid hix
      go_wp2_with fail
      go_ret
      exact ⟨ret_bool hix.out.symm, rfl⟩
end Go.Proofs.Ytdaljeghdiknpaa
/- LabP -/
namespace Go.Proofs.Ytdaljeghdiknpaa
set_option linter.unusedVariables false
theorem labOf_le {list : List (List Int)} {n p : Nat} (hs : SysOf list n) (hp : p < n) : labOf list p ≤ cntR list p ∧ (labOf list p = cntR list p ↔ rootB list p = true) := by
  have hr := rootB_rootOf hs hp
  have hle := rootOf_le list p
  unfold labOf
  rcases Nat.lt_or_ge (rootOf list p) p with h | h
  · have := cntR_lt hr h
    refine ⟨by omega, ⟨fun e => by omega, fun e => ?_⟩⟩
    exfalso
    have h1 := (rootOf_spec list p).1
    rw [root_iff] at e
    exact e ⟨_, h, h1⟩
  · have e : rootOf list p = p := by omega
    rw [e] at hr ⊢
    exact ⟨by omega, fun _ => hr, fun _ => rfl⟩
/-- the step of the count, where the label is the count and where it is not -/
theorem lab_step {list : List (List Int)} {n p : Nat} (hs : SysOf list n) (hp : p < n) : (labOf list p = cntR list p ∧ cntR list (p + 1) = cntR list p + 1) ∨ (labOf list p < cntR list p ∧ cntR list (p + 1) = cntR list p) := by
  obtain ⟨h1, h2⟩ := labOf_le hs hp
  have h3 := cntR_succ list p
  by_cases e : labOf list p = cntR list p
  · left
    rw [if_pos (h2.1 e)] at h3
    exact ⟨e, h3⟩
  · right
    rw [if_neg (fun g => e (h2.2 g))] at h3
    exact ⟨by omega, h3⟩
/-- a permutation of the system keeps the labels -/
theorem lab_at {list : List (List Int)} {n p : Nat} {row : List Int} {q : Int} (hs : SysOf list n) (hp : p < n) (hr : row ∈ list) (hq : row[p]? = some q) : ∃ Q : Nat, q = (Q : Int) ∧ Q < n ∧ (labL list n)[Q]? = some (labOf list p) := by
  obtain ⟨h1, h2, h3⟩ := hs row hr
  obtain ⟨h4, h5⟩ := h1 q (List.mem_of_getElem? hq)
  obtain ⟨Q, rfl⟩ := Int.eq_ofNat_of_zero_le h4
  have hQ : Q < n := by omega
  refine ⟨Q, rfl, hQ, ?_⟩
  rw [labL_get hQ]
  have hat : at' row (p : Int) = (Q : Int) := by unfold at'; simp [List.getD_eq_getElem?_getD, hq]
  have hR : Rch list (p : Int) (Q : Int) := by rw [← hat]; exact .step .refl hr
  rw [(labOf_eq_iff hs hp hQ).2 hR]
theorem runW_rch {list : List (List Int)} {n : Nat} (hs : SysOf list n) : ∀ (word : List Int) (x : Int), (∀ g ∈ word, 0 ≤ g ∧ g < list.length) → Rch list x (runW list word x) := by
  intro word
  induction word with
  | nil => intro x _; exact .refl
  | cons g word ih =>
    intro x hw
    obtain ⟨h0, h1⟩ := hw g (by simp)
    obtain ⟨G, rfl⟩ := Int.eq_ofNat_of_zero_le h0
    have hG : G < list.length := by omega
    have hm : list[G] ∈ list := List.getElem_mem hG
    have e : runW list ((G : Int) :: word) x = runW list word (at' list[G] x) := by
      unfold runW at'
      simp [List.getD_eq_getElem?_getD, List.getElem?_eq_getElem hG]
    rw [e]
    exact (Rch.step .refl hm).trans (ih _ fun g hg => hw g (List.mem_cons_of_mem _ hg))
/-- what the law asks at the end -/
theorem apply_in {list : List (List Int)} {n p : Nat} {word : List Int} (hs : isSysB n list = true) (hp : p < n) (hl : word.length ≤ 64) (hw : ∀ g ∈ word, 0 ≤ g ∧ g < list.length) : applyF n list word p = (runW list word p, 0) ∧ decide (runW list word p ∈ plc (labL list n) (labOf list p) n) = true := by
  have hS := (sysOf hs).1
  have hall : allIn 0 ((list.length : Int) - 1) word = true := by
    unfold allIn
    rw [List.all_eq_true]
    intro g hg
    have := hw g hg
    exact inR_iff.2 ⟨this.1, by omega⟩
  refine ⟨?_, decide_eq_true ?_⟩
  · unfold applyF
    rw [if_pos hs, if_pos ⟨inR_iff.2 ⟨by omega, by omega⟩, hl, hall⟩]
  · rw [places_eq hS hp, (sortL_perm _).mem_iff]
    exact (bfs_mem hS (by omega) (by omega)).2 (runW_rch hS word p hw)
theorem orbit_in {list : List (List Int)} {n p : Nat} (hs : isSysB n list = true) (hp : p < n) : orbOF n list p = (plc (labL list n) (labOf list p) n, 0) := by
  unfold orbOF
  rw [if_pos hs, if_pos (inR_iff.2 ⟨by omega, by omega⟩), places_eq (sysOf hs).1 hp]
  rfl
end Go.Proofs.Ytdaljeghdiknpaa
/- FsQ -/
namespace Go.Proofs.Ytdaljeghdiknpaa
set_option linter.unusedVariables false
set_option maxRecDepth 100000
theorem subL_get {xss : List (List Int)} {i j : Nat} {p : List Int} (h : p ∈ subL xss i j) : ∃ k, i ≤ k ∧ k < j ∧ xss[k]? = some p := by
  obtain ⟨k, hk⟩ := List.mem_iff_getElem?.1 h
  unfold subL at hk
  rw [List.getElem?_take] at hk
  by_cases e : k < j - i
  · rw [if_pos e, List.getElem?_drop] at hk
    exact ⟨i + k, by omega, by omega, hk⟩
  · rw [if_neg e] at hk
    exact absurd hk (by simp)
theorem comm_hk {xss : List (List Int)} (hP : ManP xss) (I : Nat) : CommL (subL xss 0 I) (subL xss (I + 1) xss.length) (flg xss) := by
  intro p hp q hq z z0 z1
  obtain ⟨j, _, hj, hjp⟩ := subL_get hp
  obtain ⟨k, hk, _, hkq⟩ := subL_get hq
  have := hP.com j k p q (by omega) hjp hkq
  unfold parB at this
  have := List.all_eq_true.1 this z.toNat (List.mem_range.2 (by omega))
  unfold comB at this
  simp only [Bool.and_eq_true] at this
  have := of_decide_eq_true this.2
  exact this
theorem plc_bfs {list : List (List Int)} {n f : Nat} {y : Int} (hs : SysOf list n) (hf : f < n) (hy : labOf list f = y) : (plc (labL list n) y n).length = (bfs list n (f : Int)).length := by
  have hm := bfs_met hs (x := (f : Int)) (by omega) (by omega)
  have key : ∀ z : Int, z ∈ plc (labL list n) y n ↔ z ∈ bfs list n (f : Int) := by
    intro z
    rw [plc_mem, bfs_mem hs (by omega) (by omega)]
    constructor
    · rintro ⟨z0, z1, e⟩
      obtain ⟨Z, rfl⟩ := Int.eq_ofNat_of_zero_le z0
      rw [Int.toNat_natCast, getD_some (labL_get (by omega)), ← hy] at e
      exact (labOf_eq_iff hs hf (by omega)).1 e
    · intro hz
      have hr := hz.rng hs (by omega) (by omega)
      obtain ⟨Z, rfl⟩ := Int.eq_ofNat_of_zero_le hr.1
      refine ⟨by omega, by omega, ?_⟩
      rw [Int.toNat_natCast, getD_some (labL_get (by omega)), ← hy]
      exact (labOf_eq_iff hs hf (by omega)).2 hz
  exact Nat.le_antisymm (nodup_sub_len _ _ (plc_nodup _ _ _) fun z hz => (key z).1 hz) (nodup_sub_len _ _ hm.nd fun z hz => (key z).2 hz)
theorem flg_form {xss : List (List Int)} {n : Nat} {x : Int} (h : 1 ≤ xss.length) : flg (formL xss n x) = (bfs xss n x).length := by
  obtain ⟨p, hp⟩ : ∃ p, xss[0]? = some p := ⟨_, List.getElem?_eq_getElem (by omega)⟩
  unfold flg formL
  rw [getD_some (x := ixF (bfs xss n x) p) (by rw [List.getElem?_map, hp]; rfl), ixF_length]
theorem bfs_same_mem {hs ks : List (List Int)} {n : Nat} {x : Int} (hH : SysOf hs n) (hK : SysOf ks n) (hm : ∀ p, p ∈ hs ↔ p ∈ ks) (h0 : 0 ≤ x) (h1 : x < n) : (bfs hs n x).length = (bfs ks n x).length := by
  have a := bfs_met hH h0 h1
  have b := bfs_met hK h0 h1
  have up : ∀ (l l' : List (List Int)), (∀ p, p ∈ l → p ∈ l') → ∀ u, Rch l x u → Rch l' x u := by
    intro l l' hll u hu
    induction hu with
    | refl => exact .refl
    | step _ hp ih => exact ih.step (hll _ hp)
  exact Nat.le_antisymm (nodup_sub_len _ _ a.nd fun z hz => (bfs_mem hK h0 h1).2 (up _ _ (fun p => (hm p).1) z (a.rch z hz))) (nodup_sub_len _ _ b.nd fun z hz => (bfs_mem hH h0 h1).2 (up _ _ (fun p => (hm p).2) z (b.rch z hz)))
/-- the numbers of flags of a face, of its maniplex and its coface -/
theorem fs_facts {xss : List (List Int)} (hP : ManP xss) {N I fl : Nat} {y : Int} (hN : flg xss = N) (hI : I < xss.length) (hfl : fl < N) (hy : labOf (xss.eraseIdx I) fl = y) :
    (plc (labL (xss.eraseIdx I) N) y N).length = (bfs (xss.eraseIdx I) N (fl : Int)).length ∧
    (∀ z ∈ plc (labL (xss.eraseIdx I) N) y N, (bfs (subL xss 0 I) N z).length = (bfs (subL xss 0 I) N (fl : Int)).length) ∧
    (bfs (subL xss 0 I) N (fl : Int)).length ∣ (bfs (xss.eraseIdx I) N (fl : Int)).length ∧
    (bfs (subL xss (I + 1) xss.length) N (fl : Int)).length ∣ (bfs (xss.eraseIdx I) N (fl : Int)).length ∧
    (bfs (xss.eraseIdx I) N (fl : Int)).length ≤ (bfs (subL xss (I + 1) xss.length) N (fl : Int)).length * (bfs (subL xss 0 I) N (fl : Int)).length ∧
    (I + 1 = xss.length → (bfs (xss.eraseIdx I) N (fl : Int)).length = (bfs (subL xss 0 I) N (fl : Int)).length) := by
  have hS : SysOf xss N := by rw [← hN]; exact hP.sys
  have hL : SysOf (xss.eraseIdx I) N := fun p hp => hS p (List.mem_of_mem_eraseIdx hp)
  have hH := sysOf_sub hS 0 I
  have hK := sysOf_sub hS (I + 1) xss.length
  have hc : CommL (subL xss 0 I) (subL xss (I + 1) xss.length) N := by rw [← hN]; exact comm_hk hP I
  have hl : ∀ p ∈ xss.eraseIdx I, p ∈ subL xss 0 I ∨ p ∈ subL xss (I + 1) xss.length := fun p hp => (erase_two p).1 hp
  have h0 : (0 : Int) ≤ (fl : Int) := by omega
  have h1 : (fl : Int) < N := by omega
  refine ⟨plc_bfs hL hfl hy, fun z hz => ?_, ?_, ?_, ?_, fun e => ?_⟩
  · obtain ⟨z0, z1, e⟩ := plc_mem.1 hz
    obtain ⟨Z, rfl⟩ := Int.eq_ofNat_of_zero_le z0
    rw [Int.toNat_natCast, getD_some (labL_get (by omega)), ← hy] at e
    exact (orb_size hH hK hl hc h0 h1 ((labOf_eq_iff hL hfl (by omega)).1 e)).2.2
  · exact orb_dvd hH hK hL hl (fun p hp => (erase_two p).2 (.inl hp)) hc h0 h1
  · exact orb_dvd hK hH hL (fun p hp => (hl p hp).symm) (fun p hp => (erase_two p).2 (.inr hp)) hc.symm h0 h1
  · exact orb_mul hH hK hL hl hc (fun p hp => (erase_two p).2 (.inr hp)) h0 h1
  · refine bfs_same_mem hL hH (fun p => ?_) h0 h1
    rw [erase_two]
    have : subL xss (I + 1) xss.length = [] := by unfold subL; rw [e]; simp
    rw [this]
    simp
end Go.Proofs.Ytdaljeghdiknpaa
/- FwP -/
namespace Go.Proofs.Ytdaljeghdiknpaa
set_option linter.unusedVariables false
set_option maxRecDepth 100000
theorem all_take_succ' {α : Type} {xs : List α} {k : Nat} {x : α} {f : α → Bool} (h : xs[k]? = some x) : (xs.take (k + 1)).all f = ((xs.take k).all f && f x) := by
  rw [take_succ_of h, List.all_append]; simp
/-- the first move that leads nearer -/
def nearB (D : List Int) (f : Int) (p : List Int) : Bool := decide (dat D (at' p f) < dat D f)
def stepK (xss : List (List Int)) (D : List Int) (f : Int) : Nat := xss.findIdx (nearB D f)
def fwL (xss : List (List Int)) (D : List Int) : Nat → Int → List Int
  | 0, _ => []
  | d + 1, f => (stepK xss D f : Int) :: fwL xss D d (at' (xss.getD (stepK xss D f) []) f)
theorem fwL_length (xss : List (List Int)) (D : List Int) : ∀ (d : Nat) (f : Int), (fwL xss D d f).length = d := by
  intro d
  induction d with
  | zero => intro f; rfl
  | succ d ih => intro f; unfold fwL; rw [List.length_cons, ih]
/-- each move is its own inverse -/
def Invo (xss : List (List Int)) (n : Nat) : Prop := ∀ p ∈ xss, ∀ z : Int, 0 ≤ z → z < n → at' p (at' p z) = z
theorem near_iff {xss : List (List Int)} {n : Nat} {x f : Int} {D p : List Int} (hs : SysOf xss n) (hi : Invo xss n) (h : DFin xss n x D) (h0 : 0 ≤ f) (h1 : f < n) (hp : p ∈ xss) : dat D (at' p f) < dat D f ↔ dat D (at' p f) = dat D f - 1 := by
  have hr := at'_rng (hs p hp).1 (hs p hp).2.2 h0 h1
  have h2 := h.lip (at' p f) p hr.1 hr.2 hp
  rw [hi p hp f h0 h1] at h2
  constructor
  · intro h3; omega
  · intro h3; omega
theorem near_ex {xss : List (List Int)} {n : Nat} {x f : Int} {D : List Int} (hs : SysOf xss n) (hi : Invo xss n) (h : DFin xss n x D) (h0 : 0 ≤ f) (h1 : f < n) (hne : f ≠ x) : ∃ p ∈ xss, nearB D f p = true := by
  obtain ⟨y, p, hp, y0, y1, e, hd⟩ := h.par f h0 h1 hne
  refine ⟨p, hp, ?_⟩
  unfold nearB
  rw [e, hi p hp y y0 y1, ← e]
  exact decide_eq_true (by omega)
theorem dist_zero {xss : List (List Int)} {n : Nat} {x f : Int} {D : List Int} (h : DFin xss n x D) (h0 : 0 ≤ f) (h1 : f < n) : f = x ↔ dat D f = 0 := by
  constructor
  · rintro rfl; exact h.zero
  · intro hd
    by_cases e : f = x
    · exact e
    · obtain ⟨y, p, _, y0, y1, _, hd2⟩ := h.par f h0 h1 e
      have := h.rng y y0 y1
      omega
theorem stepK_eq {xss : List (List Int)} {D p : List Int} {f : Int} {k : Nat} (hp : xss[k]? = some p) (hn : nearB D f p = true) (hall : (xss.take k).all (fun q => !(nearB D f q)) = true) : stepK xss D f = k := by
  have hk := (List.getElem?_eq_some_iff.1 hp).1
  have hpe := (List.getElem?_eq_some_iff.1 hp).2
  unfold stepK
  rw [List.findIdx_eq hk]
  refine ⟨by rw [hpe]; exact hn, fun j hj => ?_⟩
  have := List.all_eq_true.1 hall (xss[j]) (by rw [List.mem_take_iff_getElem]; exact ⟨j, by omega, rfl⟩)
  simpa using this
theorem fwL_step {xss : List (List Int)} {D p : List Int} {f : Int} {k d : Nat} (hp : xss[k]? = some p) (hk : stepK xss D f = k) : fwL xss D (d + 1) f = (k : Int) :: fwL xss D d (at' p f) := by
  show (stepK xss D f : Int) :: fwL xss D d (at' (xss.getD (stepK xss D f) []) f) = _
  rw [hk, getD_some hp]
theorem ManP.invo {xss : List (List Int)} (h : ManP xss) : Invo xss (flg xss) := by
  intro p hp z z0 z1
  obtain ⟨_, hf, hl⟩ := mvB_iff.1 (h.mv p hp)
  unfold freeB at hf
  have h1 := (of_decide_eq_true hf z.toNat (by omega)).2
  rw [Int.toNat_of_nonneg z0] at h1
  exact h1
end Go.Proofs.Ytdaljeghdiknpaa
/- SeqP -/
namespace Go.Proofs.Ytdaljeghdiknpaa
set_option linter.unusedVariables false
set_option maxRecDepth 100000
theorem bfs_head {list : List (List Int)} {n : Nat} {x : Int} : (bfs list n x)[0]? = some x := by
  have key : ∀ (f : Nat) (out : List Int) (i : Nat), out[0]? = some x → (bfsGo list f out i)[0]? = some x := by
    intro f
    induction f with
    | zero => intro out i h; exact h
    | succ f ih =>
      intro out i h
      cases hx : out[i]? with
      | none =>
        rw [bfsGo_stop (List.getElem?_eq_none_iff.1 hx)]
        exact h
      | some y =>
        rw [bfsGo_step hx]
        refine ih _ _ ?_
        have : ∀ (ps : List (List Int)) (o : List Int), o[0]? = some x → (bfsStep ps y o)[0]? = some x := by
          intro ps
          induction ps with
          | nil => intro o ho; exact ho
          | cons p t ih2 =>
            intro o ho
            show (bfsStep t y (if at' p y ∈ o then o else o ++ [at' p y]))[0]? = some x
            refine ih2 _ ?_
            by_cases hm : at' p y ∈ o
            · rw [if_pos hm]; exact ho
            · rw [if_neg hm, List.getElem?_append_left (List.getElem?_eq_some_iff.1 ho).1]; exact ho
        exact this list out h
  exact key _ _ _ rfl
/-- what is carried over from a form -/
def phi (xss : List (List Int)) (n : Nat) (x : Int) (j : Int) : Int := (bfs xss n x).getD j.toNat 0
theorem phi_zero {xss : List (List Int)} {n : Nat} {x : Int} : phi xss n x 0 = x := getD_some bfs_head
theorem form_iso' {xss : List (List Int)} {n : Nat} {x : Int} (hs : SysOf xss n) (h0 : 0 ≤ x) (h1 : x < n) : Iso (formL xss n x) xss (bfs xss n x).length n (phi xss n x) := form_iso hs h0 h1
theorem free_iff {p : List Int} {n : Nat} (hl : p.length = n) : freeB p = true ↔ ∀ z : Int, 0 ≤ z → z < n → at' p z ≠ z ∧ at' p (at' p z) = z := by
  unfold freeB
  rw [decide_eq_true_iff]
  constructor
  · intro h z z0 z1
    have := h z.toNat (by omega)
    rw [Int.toNat_of_nonneg z0] at this
    exact this
  · intro h i hi
    have := h (i : Int) (by omega) (by omega)
    unfold at' at this
    rw [Int.toNat_natCast] at this
    exact this
theorem com_iff {a b : List Int} {n : Nat} : parB n a b = true ↔ ∀ z : Int, 0 ≤ z → z < n → at' a z ≠ at' b z ∧ at' b (at' a z) = at' a (at' b z) := by
  unfold parB comB
  rw [List.all_eq_true]
  constructor
  · intro h z z0 z1
    have := h z.toNat (List.mem_range.2 (by omega))
    simp only [Bool.and_eq_true, decide_eq_true_eq] at this
    exact this
  · intro h f hf
    have := h (f : Int) (by omega) (by have := List.mem_range.1 hf; omega)
    simp only [Bool.and_eq_true, decide_eq_true_eq]
    unfold at' at this
    rw [Int.toNat_natCast] at this
    exact this
/-- a section of a maniplex is a maniplex -/
theorem sec_man {xss : List (List Int)} (hP : ManP xss) {N I J : Nat} {f : Int} (hN : flg xss = N) (hIJ : I < J) (hJ : J ≤ xss.length) (f0 : 0 ≤ f) (f1 : f < N) : ManP (formL (subL xss I J) N f) ∧ flg (formL (subL xss I J) N f) = (bfs (subL xss I J) N f).length := by
  have hS : SysOf xss N := by rw [← hN]; exact hP.sys
  have hT := sysOf_sub hS I J
  have hTl := subL_length (xss := xss) hJ (by omega : I ≤ J)
  have hfl := flg_form (xss := subL xss I J) (n := N) (x := f) (by omega)
  have hI := form_iso' hT f0 f1
  have hF := form_sys hT f0 f1
  have hm := bfs_met hT f0 f1
  have hM400 : (bfs (subL xss I J) N f).length ≤ 400 := by have := hm.len; have := hP.f4; omega
  have hmem : ∀ p ∈ subL xss I J, p ∈ xss := fun p hp => List.mem_of_mem_drop (List.mem_of_mem_take hp)
  have hfree : ∀ p ∈ subL xss I J, ∀ z : Int, 0 ≤ z → z < N → at' p z ≠ z ∧ at' p (at' p z) = z := by
    intro p hp
    obtain ⟨_, h2, h3⟩ := mvB_iff.1 (hP.mv p (hmem p hp))
    rw [hN] at h3
    exact (free_iff h3).1 h2
  obtain ⟨p0, hp0⟩ : ∃ p, (subL xss I J)[0]? = some p := ⟨_, List.getElem?_eq_getElem (by omega)⟩
  have hM2 : 2 ≤ (bfs (subL xss I J) N f).length := by
    have hne := (hfree p0 (mem_of_get? hp0) f f0 f1).1
    have hb : at' p0 f ∈ bfs (subL xss I J) N f := bfs_closed hT f0 f1 hm.start (mem_of_get? hp0)
    exact nodup_sub_len [f, at' p0 f] _ (by simp; exact fun e => hne e.symm) (fun z hz => by
      simp only [List.mem_cons, List.not_mem_nil, or_false] at hz
      rcases hz with rfl | rfl
      · exact hm.start
      · exact hb)
  have hrow : ∀ (j : Nat) q, (formL (subL xss I J) N f)[j]? = some q → ∃ p, (subL xss I J)[j]? = some p ∧ ∀ z : Int, 0 ≤ z → z < (bfs (subL xss I J) N f).length → phi (subL xss I J) N f (at' q z) = at' p (phi (subL xss I J) N f z) := by
    intro j q hq
    have hj : j < (subL xss I J).length := by have := (List.getElem?_eq_some_iff.1 hq).1; rw [formL_length] at this; exact this
    exact ⟨_, List.getElem?_eq_getElem hj, hI.com j q _ hq (List.getElem?_eq_getElem hj)⟩
  refine ⟨⟨by rw [formL_length]; omega, by rw [formL_length]; have := hP.r5; omega, by rw [hfl]; exact hM2, by rw [hfl]; exact hM400, fun q hq => ?_, fun i k a b hik ha hb => ?_, ?_⟩, hfl⟩
  · rw [hfl, mvB_iff]
    obtain ⟨q1, q2, q3⟩ := hF q hq
    refine ⟨⟨by omega, by rw [q3]; exact q1, q2⟩, (free_iff q3).2 (fun z z0 z1 => ?_), q3⟩
    obtain ⟨j, hj⟩ := List.mem_iff_getElem?.1 hq
    obtain ⟨p, hp, hc⟩ := hrow j q hj
    have hr := at'_rng q1 q3 z0 z1
    have hzr := hI.rng z z0 z1
    obtain ⟨h1, h2⟩ := hfree p (mem_of_get? hp) _ hzr.1 hzr.2
    have e1 := hc z z0 z1
    have e2 := hc _ hr.1 hr.2
    have hr2 := at'_rng q1 q3 hr.1 hr.2
    refine ⟨fun e => ?_, ?_⟩
    · rw [e] at e1
      exact h1 e1.symm
    · refine hI.inj _ _ hr2.1 hr2.2 z0 z1 ?_
      rw [e2, e1]
      exact h2
  · rw [hfl, com_iff]
    intro z z0 z1
    obtain ⟨p, hp, hc⟩ := hrow i a ha
    obtain ⟨q, hq, hd⟩ := hrow k b hb
    have ha' := hF a (mem_of_get? ha)
    have hb' := hF b (mem_of_get? hb)
    have ra := at'_rng ha'.1 ha'.2.2 z0 z1
    have rb := at'_rng hb'.1 hb'.2.2 z0 z1
    have hzr := hI.rng z z0 z1
    have hp2 : xss[I + i]? = some p := by
      unfold subL at hp
      rw [List.getElem?_take] at hp
      by_cases e : i < J - I
      · rw [if_pos e, List.getElem?_drop] at hp; exact hp
      · rw [if_neg e] at hp; exact absurd hp (by simp)
    have hq2 : xss[I + k]? = some q := by
      unfold subL at hq
      rw [List.getElem?_take] at hq
      by_cases e : k < J - I
      · rw [if_pos e, List.getElem?_drop] at hq; exact hq
      · rw [if_neg e] at hq; exact absurd hq (by simp)
    have hcm := hP.com (I + i) (I + k) p q (by omega) hp2 hq2
    rw [hN] at hcm
    obtain ⟨h1, h2⟩ := com_iff.1 hcm _ hzr.1 hzr.2
    have ea := hc z z0 z1
    have eb := hd z z0 z1
    have eba := hd _ ra.1 ra.2
    have eab := hc _ rb.1 rb.2
    have rba := at'_rng hb'.1 hb'.2.2 ra.1 ra.2
    have rab := at'_rng ha'.1 ha'.2.2 rb.1 rb.2
    refine ⟨fun e => ?_, ?_⟩
    · rw [e, eb] at ea
      exact h1 ea.symm
    · refine hI.inj _ _ rba.1 rba.2 rab.1 rab.2 ?_
      rw [eba, eab, ea, eb]
      exact h2
  · rw [hfl, conn_iff hF (by omega)]
    have := iso_len hF hI (x := 0) (by omega) (by omega)
    rw [phi_zero] at this
    exact this.symm
theorem subL_sub {xss : List (List Int)} {I J a b : Nat} (h : I + b ≤ J) : subL (subL xss I J) a b = subL xss (I + a) (I + b) := by
  unfold subL
  rw [List.drop_take, List.drop_drop, List.take_take]
  congr 1
  omega
/-- a section of a section is a section -/
theorem sec_sec {xss : List (List Int)} {N I J a b : Nat} {f : Int} (hS : SysOf xss N) (h : I + b ≤ J) (f0 : 0 ≤ f) (f1 : f < N) : formL (subL (formL (subL xss I J) N f) a b) (bfs (subL xss I J) N f).length 0 = formL (subL xss (I + a) (I + b)) N f := by
  have hT := sysOf_sub hS I J
  have hF := form_sys hT f0 f1
  have hpos : 1 ≤ (bfs (subL xss I J) N f).length := List.length_pos_of_mem (bfs_met hT f0 f1).start
  have := iso_form (sysOf_sub hF a b) ((form_iso' hT f0 f1).sub a b) (x := 0) (by omega) (by omega)
  rw [phi_zero, subL_sub h] at this
  exact this.symm
/-- a form is its own form -/
theorem form_form {xss : List (List Int)} {N : Nat} {f : Int} (hS : SysOf xss N) (f0 : 0 ≤ f) (f1 : f < N) : formL (formL xss N f) (bfs xss N f).length 0 = formL xss N f := by
  have hF := form_sys hS f0 f1
  have hpos : 1 ≤ (bfs xss N f).length := List.length_pos_of_mem (bfs_met hS f0 f1).start
  have := iso_form hF (form_iso' hS f0 f1) (x := 0) (by omega) (by omega)
  rw [phi_zero] at this
  exact this.symm
end Go.Proofs.Ytdaljeghdiknpaa
/- SecP -/
namespace Go.Proofs.Ytdaljeghdiknpaa
set_option linter.unusedVariables false
set_option maxRecDepth 100000
/-- two ranks in order -/
def okR (n : Nat) (i k : Int) : Bool := decide (0 ≤ i ∧ i ≤ k ∧ k ≤ (n : Int) - 1)
theorem okR_iff {n : Nat} {i k : Int} : okR n i k = true ↔ 0 ≤ i ∧ i ≤ k ∧ k ≤ (n : Int) - 1 := by unfold okR; simp
/-- the reference's code -/
noncomputable def codeF (xss : List (List Int)) (x i k : Int) : Int :=
  if isManB xss = true then (if inR 0 ((flg xss : Nat) - 1 : Int) x = true then (if okR xss.length i k = true then 0 else 2) else 2) else 1
/-- what SectionAt returns -/
noncomputable def secF (xss : List (List Int)) (x i k : Int) : List (List Int) × Int :=
  if isManB xss = true then (if inR 0 ((flg xss : Nat) - 1 : Int) x = true then (if okR xss.length i k = true then (formL (subL xss i.toNat (k.toNat + 1)) (flg xss) x, 0) else ([], 2)) else ([], 2)) else ([], 1)
/-- what FacetAt and VertexFigureAt return -/
noncomputable def fctF (xss : List (List Int)) (x : Int) : List (List Int) × Int :=
  if isManB xss = true then (if inR 0 ((flg xss : Nat) - 1 : Int) x = true then (if decide (xss.length ≠ 1) = true then (formL (subL xss 0 (xss.length - 1)) (flg xss) x, 0) else ([], 5)) else ([], 2)) else ([], 1)
noncomputable def vfgF (xss : List (List Int)) (x : Int) : List (List Int) × Int :=
  if isManB xss = true then (if inR 0 ((flg xss : Nat) - 1 : Int) x = true then (if decide (xss.length ≠ 1) = true then (formL (subL xss 1 xss.length) (flg xss) x, 0) else ([], 5)) else ([], 2)) else ([], 1)
end Go.Proofs.Ytdaljeghdiknpaa
/- CntP -/
namespace Go.Proofs.Ytdaljeghdiknpaa
set_option linter.unusedVariables false
set_option maxRecDepth 100000
open Classical
theorem list_rev {P : List Int → Prop} (h0 : P []) (hs : ∀ t x, P t → P (t ++ [x])) : ∀ l, P l := by
  have key : ∀ (n : Nat) (l : List Int), l.length = n → P l := by
    intro n
    induction n with
    | zero => intro l hl; rw [List.eq_nil_of_length_eq_zero hl]; exact h0
    | succ n ih =>
      intro l hl
      rcases List.eq_nil_or_concat l with rfl | ⟨t, x, rfl⟩
      · exact h0
      · rw [List.concat_eq_append] at hl ⊢
        exact hs t x (ih t (by simpa using hl))
  exact fun l => key l.length l rfl
/-- one more than the greatest of some numbers -/
def grt (l : List Int) : Int := l.foldl (fun m x => if m ≤ x then x + 1 else m) 0
theorem grt_snoc (l : List Int) (x : Int) : grt (l ++ [x]) = if grt l ≤ x then x + 1 else grt l := by unfold grt; rw [List.foldl_append]; rfl
theorem grt_nonneg (l : List Int) : (∀ x ∈ l, 0 ≤ x) → 0 ≤ grt l := by
  refine list_rev (P := fun l => (∀ x ∈ l, 0 ≤ x) → 0 ≤ grt l) (fun _ => Int.le_refl _) (fun t x ih h => ?_) l
  have := ih (fun y hy => h y (by simp [hy]))
  have := h x (by simp)
  rw [grt_snoc]
  split <;> omega
theorem grt_lt (l : List Int) : ∀ x ∈ l, x < grt l := by
  refine list_rev (P := fun l => ∀ x ∈ l, x < grt l) (fun x hx => by simp at hx) (fun t y ih x hx => ?_) l
  rw [grt_snoc]
  rcases List.mem_append.1 hx with hx | hx
  · have := ih x hx
    split <;> omega
  · simp at hx
    subst hx
    split <;> omega
theorem grt_mem (l : List Int) : grt l = 0 ∨ grt l - 1 ∈ l := by
  refine list_rev (P := fun l => grt l = 0 ∨ grt l - 1 ∈ l) (.inl rfl) (fun t y ih => ?_) l
  rw [grt_snoc]
  split
  · right; simp
  · rcases ih with ih | ih
    · exact .inl ih
    · right; simp [ih]
theorem lab_lt {list : List (List Int)} {n x : Nat} (hs : SysOf list n) (hx : x < n) : labOf list x < cntR list n := by
  have hr := rootB_rootOf hs hx
  have hle := rootOf_le list x
  have h1 := cntR_mono list (show rootOf list x + 1 ≤ n by omega)
  rw [cntR_succ, if_pos hr] at h1
  unfold labOf
  omega
theorem lab_top {list : List (List Int)} : ∀ n : Nat, cntR list n = 0 ∨ ∃ x : Nat, x < n ∧ labOf list x = (cntR list n : Int) - 1 := by
  intro n
  induction n with
  | zero => left; simp [cntR]
  | succ n ih =>
    rw [cntR_succ]
    by_cases hr : rootB list n = true
    · rw [if_pos hr]
      right
      refine ⟨n, by omega, ?_⟩
      have hroot : rootOf list n = n := rootOf_eq Rch.refl (fun j hj hh => root_iff.1 hr ⟨j, hj, hh⟩)
      unfold labOf
      rw [hroot]
      omega
    · rw [if_neg hr, Nat.add_zero]
      rcases ih with ih | ⟨x, h1, h2⟩
      · exact .inl ih
      · exact .inr ⟨x, by omega, h2⟩
/-- the greatest label and one -/
theorem grt_lab {list : List (List Int)} {n : Nat} (hs : SysOf list n) : grt (labL list n) = (cntR list n : Int) := by
  have hmem : ∀ v ∈ labL list n, ∃ x : Nat, x < n ∧ v = labOf list x := by
    intro v hv
    obtain ⟨x, hx, rfl⟩ := List.mem_map.1 hv
    exact ⟨x, List.mem_range.1 hx, rfl⟩
  have h0 := grt_nonneg (labL list n) (fun v hv => by obtain ⟨x, _, rfl⟩ := hmem v hv; exact labOf_nonneg list x)
  have hle : grt (labL list n) ≤ (cntR list n : Int) := by
    rcases grt_mem (labL list n) with e | e
    · rw [e]; omega
    · obtain ⟨x, hx, e⟩ := hmem _ e
      have := lab_lt hs hx
      omega
  have hge : (cntR list n : Int) ≤ grt (labL list n) := by
    rcases lab_top (list := list) n with e | ⟨x, hx, e⟩
    · rw [e]; exact h0
    · have := grt_lt (labL list n) (labOf list x) (List.mem_map.2 ⟨x, List.mem_range.2 hx, rfl⟩)
      omega
  omega
/-- the numbers of faces -/
noncomputable def cntsL (xss : List (List Int)) (n : Nat) : List Int := (List.range xss.length).map fun i => (cntR (xss.eraseIdx i) n : Int)
theorem cntsL_length (xss : List (List Int)) (n : Nat) : (cntsL xss n).length = xss.length := by simp [cntsL]
theorem cntsL_get {xss : List (List Int)} {n k : Nat} (h : k < xss.length) : (cntsL xss n)[k]? = some (cntR (xss.eraseIdx k) n : Int) := by simp [cntsL, h]
/-- the alternating sum -/
def eulGo (l : List Int) (k : Nat) : Int := (List.range k).foldl (fun (s : Int) (i : Nat) => if i % 2 = 0 then s + l.getD i 0 else s - l.getD i 0) (0 : Int)
theorem eulGo_succ (l : List Int) (k : Nat) : eulGo l (k + 1) = if k % 2 = 0 then eulGo l k + l.getD k 0 else eulGo l k - l.getD k 0 := by unfold eulGo; rw [List.range_succ, List.foldl_append]; rfl
theorem eulGo_bound {l : List Int} {B : Int} (hB : 0 ≤ B) (h : ∀ x ∈ l, -B ≤ x ∧ x ≤ B) : ∀ k : Nat, -(B * k) ≤ eulGo l k ∧ eulGo l k ≤ B * k := by
  intro k
  induction k with
  | zero => simp [eulGo]
  | succ k ih =>
    have hx : -B ≤ l.getD k 0 ∧ l.getD k 0 ≤ B := by
      by_cases hk : k < l.length
      · exact h _ (mem_of_get? (get?_getD 0 hk))
      · rw [show l.getD k 0 = 0 by simp [List.getD, show l.length ≤ k by omega]]; omega
    rw [eulGo_succ]
    have e : B * ((k + 1 : Nat) : Int) = B * k + B := by rw [Int.natCast_add, Int.mul_add]; simp
    rw [e]
    split <;> omega
theorem cntR_le_n {list : List (List Int)} (n : Nat) : cntR list n ≤ n := by
  unfold cntR
  have := List.length_filter_le (rootB list) (List.range n)
  simpa using this
end Go.Proofs.Ytdaljeghdiknpaa
/- TypP -/
namespace Go.Proofs.Ytdaljeghdiknpaa
set_option linter.unusedVariables false
set_option maxRecDepth 100000
/-- how often each of the numbers below c stands in the list -/
def hist (l : List Int) (c : Nat) : List Int := (List.range c).map fun (j : Nat) => (l.count (j : Int) : Int)
theorem hist_length (l : List Int) (c : Nat) : (hist l c).length = c := by simp [hist]
theorem hist_get {l : List Int} {c j : Nat} (h : j < c) : (hist l c)[j]? = some (l.count (j : Int) : Int) := by simp [hist, h]
theorem hist_nil (c : Nat) : hist [] c = List.replicate c 0 := by
  apply List.ext_getElem?
  intro j
  by_cases h : j < c
  · rw [hist_get h]; simp [h]
  · rw [List.getElem?_eq_none (by rw [hist_length]; omega), List.getElem?_eq_none (by simp; omega)]
theorem hist_snoc {l : List Int} {c : Nat} {v : Int} (h0 : 0 ≤ v) (h1 : v < c) : hist (l ++ [v]) c = (hist l c).set v.toNat ((l.count v : Int) + 1) := by
  apply List.ext_getElem?
  intro j
  by_cases h : j < c
  · rw [hist_get h, List.getElem?_set, hist_length]
    by_cases e : v.toNat = j
    · rw [if_pos e, if_pos (by omega)]
      have : (j : Int) = v := by omega
      rw [this]
      simp
    · rw [if_neg e, hist_get h]
      have : ¬ v = (j : Int) := by omega
      simp [this]
  · rw [List.getElem?_eq_none (by rw [hist_length]; omega), List.getElem?_eq_none (by rw [List.length_set, hist_length]; omega)]
theorem hist_le (l : List Int) (c : Nat) : ∀ x ∈ hist l c, 0 ≤ x ∧ x ≤ l.length := by
  intro x hx
  obtain ⟨j, _, rfl⟩ := List.mem_map.1 hx
  have := List.count_le_length (a := (j : Int)) (l := l)
  omega
/-- each number once, in the order of their first places -/
def nub (l : List Int) : List Int := l.foldl (fun o p => if p ∈ o then o else o ++ [p]) []
theorem nub_snoc (l : List Int) (x : Int) : nub (l ++ [x]) = if x ∈ nub l then nub l else nub l ++ [x] := by unfold nub; rw [List.foldl_append]; rfl
theorem nub_mem (l : List Int) : ∀ x, x ∈ nub l ↔ x ∈ l := by
  refine list_rev (P := fun l => ∀ x, x ∈ nub l ↔ x ∈ l) (by simp [nub]) (fun t y ih x => ?_) l
  rw [nub_snoc]
  split
  · next h =>
    rw [ih, List.mem_append, List.mem_singleton]
    constructor
    · exact .inl
    · rintro (h1 | rfl)
      · exact h1
      · exact (ih x).1 h
  · rw [List.mem_append, List.mem_append, ih]
theorem nub_nodup (l : List Int) : (nub l).Nodup := by
  refine list_rev (P := fun l => (nub l).Nodup) (by simp [nub]) (fun t y ih => ?_) l
  rw [nub_snoc]
  split
  · exact ih
  · next h =>
    rw [List.nodup_append]
    refine ⟨ih, by simp, fun a ha b hb => ?_⟩
    simp at hb
    subst hb
    intro e
    subst e
    exact h ha
theorem nub_length (l : List Int) : (nub l).length ≤ l.length := by
  refine list_rev (P := fun l => (nub l).length ≤ l.length) (by simp [nub]) (fun t y ih => ?_) l
  rw [nub_snoc]
  split <;> simp <;> omega
/-- the set of the numbers in ascending order -/
def setL (l : List Int) : List Int := sortL (nub l)
theorem setL_mem (l : List Int) (x : Int) : x ∈ setL l ↔ x ∈ l := ((sortL_perm (nub l)).mem_iff).trans (nub_mem l x)
theorem lt_of_sorted_nodup {l : List Int} (h : Sorted l) (hn : l.Nodup) : l.Pairwise (· < ·) := by
  unfold Sorted at h
  unfold List.Nodup at hn
  exact h.imp₂ (fun a b h1 h2 => by omega) hn
theorem setL_lt (l : List Int) : (setL l).Pairwise (· < ·) := lt_of_sorted_nodup (sortL_sorted _) ((sortL_perm _).nodup_iff.2 (nub_nodup l))
theorem strict_unique {xs ys : List Int} (h1 : xs.Pairwise (· < ·)) (h2 : ys.Pairwise (· < ·)) (h : ∀ x, x ∈ xs ↔ x ∈ ys) : xs = ys := by
  have n1 : xs.Nodup := h1.imp (by intro a b h; omega)
  have n2 : ys.Nodup := h2.imp (by intro a b h; omega)
  exact sorted_unique ((List.perm_ext_iff_of_nodup n1 n2).2 h) (h1.imp (by intro a b h; omega)) (h2.imp (by intro a b h; omega))
theorem setL_unique {ys l : List Int} (h : ys.Pairwise (· < ·)) (hm : ∀ x, x ∈ ys ↔ x ∈ l) : ys = setL l := strict_unique h (setL_lt l) (fun x => (hm x).trans (setL_mem l x).symm)
theorem setL_congr {l l' : List Int} (h : ∀ x, x ∈ l ↔ x ∈ l') : setL l = setL l' := setL_unique (setL_lt l) (fun x => (setL_mem l x).trans (h x))
theorem setL_length (l : List Int) : (setL l).length ≤ l.length := by unfold setL; rw [sortL_length]; exact nub_length l
/-- of a sorted list the neighbours that differ -/
theorem compactUpTo_spec {d : Array Int} (hd : Sorted d.toList) : ∀ m, m ≤ d.size → (Lib.compactUpTo d m).Pairwise (· < ·) ∧ (∀ x, x ∈ Lib.compactUpTo d m ↔ x ∈ d.toList.take m) := by
  intro m
  induction m with
  | zero => intro _; simp [Lib.compactUpTo]
  | succ m ih =>
    intro hm
    obtain ⟨i1, i2⟩ := ih (by omega)
    have hget : d[m]! = d[m] := getElem!_pos d m (by omega)
    have htk : d.toList.take (m + 1) = d.toList.take m ++ [d[m]!] := by
      rw [hget]
      exact take_succ_of (by simp)
    have hle : ∀ x ∈ d.toList.take m, x ≤ d[m]! := by
      intro x hx
      obtain ⟨j, hj, e⟩ := List.mem_iff_getElem.1 hx
      have hjm : j < m := by simp at hj; omega
      have := List.pairwise_iff_getElem.1 hd j m (by simp; omega) (by simp; omega) hjm
      rw [hget]
      simp at e this
      omega
    rw [Lib.compactUpTo_succ, htk]
    by_cases hk : Lib.keeps d m = true
    · rw [if_pos hk]
      refine ⟨?_, fun x => by rw [List.mem_append, List.mem_append, i2]⟩
      rw [List.pairwise_append]
      refine ⟨i1, by simp, fun a ha b hb => ?_⟩
      simp at hb
      subst hb
      have h1 := (i2 a).1 ha
      have h2 := hle a h1
      unfold Lib.keeps at hk
      have hk := of_decide_eq_true hk
      rcases hk with h0 | hne
      · subst h0; simp at h1
      · have h3 : a ≤ d[m - 1]! := by
          obtain ⟨j, hj, e⟩ := List.mem_iff_getElem.1 h1
          have hjm : j < m := by simp at hj; omega
          rw [getElem!_pos d (m - 1) (by omega)]
          by_cases e1 : j = m - 1
          · subst e1; simp at e; omega
          · have := List.pairwise_iff_getElem.1 hd j (m - 1) (by simp; omega) (by simp; omega) (by omega)
            simp at e this
            omega
        have h4 : d[m - 1]! ≤ d[m]! := by
          by_cases h0 : m = 0
          · subst h0; simp at h1
          · refine hle _ ?_
            rw [getElem!_pos d (m - 1) (by omega)]
            refine List.mem_iff_getElem.2 ⟨m - 1, by simp; omega, by simp⟩
        omega
    · rw [if_neg hk, List.append_nil]
      refine ⟨i1, fun x => ?_⟩
      rw [i2, List.mem_append]
      constructor
      · exact .inl
      · rintro (h | h)
        · exact h
        · simp at h
          subst h
          unfold Lib.keeps at hk
          have hk : ¬ (m = 0 ∨ d[m]! ≠ d[m - 1]!) := fun h => hk (decide_eq_true h)
          have h0 : m ≠ 0 := fun h => hk (.inl h)
          have h1 : d[m]! = d[m - 1]! := Classical.byContradiction fun h => hk (.inr h)
          rw [h1, getElem!_pos d (m - 1) (by omega)]
          exact List.mem_iff_getElem.2 ⟨m - 1, by simp; omega, by simp⟩
theorem compact_sorted {zs : List Int} (h : Sorted zs) : Lib.compact zs = setL zs := by
  obtain ⟨h1, h2⟩ := compactUpTo_spec (d := zs.toArray) (by simpa using h) zs.length (by simp)
  refine setL_unique h1 (fun x => ?_)
  have := h2 x
  simpa [Lib.compact] using this
theorem compact_sortL (zs : List Int) : Lib.compact (sortL zs) = setL zs := by
  rw [compact_sorted (sortL_sorted zs)]
  exact setL_congr fun x => (sortL_perm zs).mem_iff
/-- half of each -/
def halves (l : List Int) : List Int := l.map fun s => Int.tdiv s 2
/-- the halves of the numbers of points of the orbits -/
def typI (list : List (List Int)) (n : Nat) : List Int := setL ((List.range n).map fun (f : Nat) => Int.tdiv ((bfs list n (f : Int)).length : Int) 2)
theorem plcCount {xs : List Int} {x : Int} : ∀ k, k ≤ xs.length → (plc xs x k).length = (xs.take k).count x := by
  intro k hk
  induction k with
  | zero => simp [plc]
  | succ k ih =>
    have hg : xs[k]? = some xs[k] := List.getElem?_eq_getElem (by omega)
    rw [take_succ_of hg, List.count_append, plc_succ, List.length_append, ih (by omega), getD_some hg]
    congr 1
    by_cases e : x = xs[k]
    · rw [if_pos e, ← e]; simp
    · rw [if_neg e]
      have e2 : ¬ xs[k] = x := fun h => e h.symm
      simp [e2]
theorem lab_onto {list : List (List Int)} : ∀ n j : Nat, j < cntR list n → ∃ x : Nat, x < n ∧ labOf list x = (j : Int) := by
  intro n
  induction n with
  | zero => intro j hj; simp [cntR] at hj
  | succ n ih =>
    intro j hj
    rw [cntR_succ] at hj
    by_cases hr : rootB list n = true
    · rw [if_pos hr] at hj
      by_cases e : j = cntR list n
      · have hroot : rootOf list n = n := rootOf_eq Rch.refl (fun j hj hh => root_iff.1 hr ⟨j, hj, hh⟩)
        refine ⟨n, by omega, ?_⟩
        unfold labOf
        rw [hroot, e]
      · obtain ⟨x, h1, h2⟩ := ih j (by omega)
        exact ⟨x, by omega, h2⟩
    · rw [if_neg hr, Nat.add_zero] at hj
      obtain ⟨x, h1, h2⟩ := ih j hj
      exact ⟨x, by omega, h2⟩
theorem typI_eq {list : List (List Int)} {n : Nat} (hs : SysOf list n) : setL (halves (hist (labL list n) (cntR list n))) = typI list n := by
  have hcount : ∀ x : Nat, x < n → ((labL list n).count (labOf list x) : Int) = ((bfs list n (x : Int)).length : Int) := by
    intro x hx
    have h1 := places_eq hs hx
    have h2 := plcCount (xs := labL list n) (x := labOf list x) n (by rw [labL_length]; exact Nat.le_refl _)
    rw [List.take_of_length_le (by rw [labL_length]; exact Nat.le_refl _)] at h2
    rw [← h2, h1, sortL_length]
  unfold typI
  refine setL_congr fun v => ?_
  unfold halves
  simp only [List.mem_map]
  constructor
  · rintro ⟨s, hs1, rfl⟩
    obtain ⟨j, hj, rfl⟩ := List.mem_map.1 hs1
    have hj := List.mem_range.1 hj
    obtain ⟨x, hx, e⟩ := lab_onto n j hj
    exact ⟨x, List.mem_range.2 hx, by rw [← hcount x hx, e]⟩
  · rintro ⟨x, hx, rfl⟩
    have hx := List.mem_range.1 hx
    have hl := lab_lt hs hx
    have h0 := labOf_nonneg list x
    refine ⟨((labL list n).count (labOf list x) : Int), ?_, by rw [hcount x hx]⟩
    refine List.mem_map.2 ⟨(labOf list x).toNat, List.mem_range.2 (by omega), by rw [Int.toNat_of_nonneg h0]⟩
theorem typI_ne {list : List (List Int)} {n : Nat} (hn : 0 < n) : ∃ x, (typI list n)[0]? = some x := by
  have h : ∃ y, y ∈ typI list n := ⟨_, (setL_mem _ _).2 (List.mem_map.2 ⟨0, List.mem_range.2 hn, rfl⟩)⟩
  obtain ⟨y, hy⟩ := h
  cases e : typI list n with
  | nil => rw [e] at hy; simp at hy
  | cons a l => exact ⟨a, rfl⟩
theorem typI_length (list : List (List Int)) (n : Nat) : (typI list n).length ≤ n := by
  have := setL_length ((List.range n).map fun (f : Nat) => Int.tdiv ((bfs list n (f : Int)).length : Int) 2)
  rw [List.length_map, List.length_range] at this
  exact this
/-- the type -/
def typL (xss : List (List Int)) (n : Nat) : List (List Int) := (List.range (xss.length - 1)).map fun i => typI (subL xss i (i + 2)) n
theorem typL_length (xss : List (List Int)) (n : Nat) : (typL xss n).length = xss.length - 1 := by simp [typL]
theorem typL_get {xss : List (List Int)} {n k : Nat} (h : k < xss.length - 1) : (typL xss n)[k]? = some (typI (subL xss k (k + 2)) n) := by simp [typL, h]
end Go.Proofs.Ytdaljeghdiknpaa
/- SeqT -/
namespace Go.Proofs.Ytdaljeghdiknpaa
set_option linter.unusedVariables false
set_option maxRecDepth 100000
theorem sec_zero {xss zss : List (List Int)} {x i k : Int} (h : (zss, (0 : Int)) = secF xss x i k) : ∃ F I K : Nat, isManB xss = true ∧ x = (F : Int) ∧ i = (I : Int) ∧ k = (K : Int) ∧ F < flg xss ∧ I ≤ K ∧ K < xss.length ∧ zss = formL (subL xss I (K + 1)) (flg xss) (F : Int) := by
  unfold secF at h
  by_cases h1 : isManB xss = true
  · rw [if_pos h1] at h
    by_cases h2 : inR 0 ((flg xss : Nat) - 1 : Int) x = true
    · rw [if_pos h2] at h
      by_cases h3 : okR xss.length i k = true
      · rw [if_pos h3] at h
        have e := (Prod.mk.inj h).1
        obtain ⟨x0, x1⟩ := inR_iff.1 h2
        obtain ⟨i0, ik, k1⟩ := okR_iff.1 h3
        obtain ⟨F, rfl⟩ := Int.eq_ofNat_of_zero_le x0
        obtain ⟨I, rfl⟩ := Int.eq_ofNat_of_zero_le i0
        obtain ⟨K, rfl⟩ := Int.eq_ofNat_of_zero_le (show 0 ≤ k by omega)
        rw [Int.toNat_natCast, Int.toNat_natCast] at e
        exact ⟨F, I, K, h1, rfl, rfl, rfl, by omega, by omega, by omega, e⟩
      · rw [if_neg h3] at h; have := (Prod.mk.inj h).2; omega
    · rw [if_neg h2] at h; have := (Prod.mk.inj h).2; omega
  · rw [if_neg h1] at h; have := (Prod.mk.inj h).2; omega
theorem sec_val {xss : List (List Int)} {F I K : Nat} (hM : isManB xss = true) (hF : F < flg xss) (hIK : I ≤ K) (hK : K < xss.length) : secF xss (F : Int) (I : Int) (K : Int) = (formL (subL xss I (K + 1)) (flg xss) (F : Int), 0) := by
  unfold secF
  rw [if_pos hM, if_pos (inR_iff.2 (by omega)), if_pos (okR_iff.2 (by omega)), Int.toNat_natCast, Int.toNat_natCast]
theorem typI_mem {list : List (List Int)} {n : Nat} {v : Int} : v ∈ typI list n ↔ ∃ g : Nat, g < n ∧ v = Int.tdiv ((bfs list n (g : Int)).length : Int) 2 := by
  unfold typI
  rw [setL_mem, List.mem_map]
  constructor
  · rintro ⟨g, hg, rfl⟩
    exact ⟨g, List.mem_range.1 hg, rfl⟩
  · rintro ⟨g, hg, rfl⟩
    exact ⟨g, List.mem_range.2 hg, rfl⟩
/-- a polygon of a section is one of the maniplex -/
theorem typ_sub {xss : List (List Int)} {N I J j : Nat} {f : Int} (hS : SysOf xss N) (h : I + (j + 2) ≤ J) (f0 : 0 ≤ f) (f1 : f < N) : ∀ v ∈ typI (subL (formL (subL xss I J) N f) j (j + 2)) (bfs (subL xss I J) N f).length, v ∈ typI (subL xss (I + j) (I + j + 2)) N := by
  intro v hv
  have hT := sysOf_sub hS I J
  have hF := form_sys hT f0 f1
  have hI := form_iso' hT f0 f1
  obtain ⟨g, hg, rfl⟩ := typI_mem.1 hv
  have hr := hI.rng (g : Int) (by omega) (by omega)
  have e := iso_len (sysOf_sub hF j (j + 2)) (hI.sub j (j + 2)) (x := (g : Int)) (by omega) (by omega)
  rw [subL_sub h] at e
  obtain ⟨z, hz⟩ := Int.eq_ofNat_of_zero_le hr.1
  rw [hz] at e hr
  exact typI_mem.2 ⟨z, by omega, by rw [← e]; rfl⟩
end Go.Proofs.Ytdaljeghdiknpaa
/- Face -/
namespace Go.Proofs.Ytdaljeghdiknpaa
open Go.RowKit
set_option linter.unusedVariables false
set_option maxRecDepth 100000
theorem sysOf_erase {xss : List (List Int)} {n : Nat} (h : SysOf xss n) (i : Nat) : SysOf (xss.eraseIdx i) n := fun p hp => h p (List.mem_of_mem_eraseIdx hp)
theorem rowsAt_erase {w : World} {lo hi : Nat} {vs : List Value} {xss : List (List Int)} (h : RowsAt w lo hi vs xss) (i : Nat) : RowsAt w lo hi (vs.eraseIdx i) (xss.eraseIdx i) := by
  refine ⟨by rw [List.length_eraseIdx, List.length_eraseIdx, h.1], fun k v xs h1 h2 => ?_⟩
  rw [List.getElem?_eraseIdx] at h1 h2
  by_cases hk : k < i
  · rw [if_pos hk] at h1 h2; exact h.2 k v xs h1 h2
  · rw [if_neg hk] at h1 h2; exact h.2 (k + 1) v xs h1 h2
theorem rowsAt_one {w : World} {lo hi : Nat} {vs : List Value} {xss : List (List Int)} (h : RowsAt w lo hi vs xss) : ∀ v ∈ vs, v.oneCell' = true := by
  intro v hv
  obtain ⟨k, hk⟩ := List.mem_iff_getElem?.1 hv
  have hlt := (List.getElem?_eq_some_iff.1 hk).1
  obtain ⟨A, n, c, rfl, _⟩ := h.2 k v _ hk (List.getElem?_eq_getElem (by have := h.1; omega))
  rfl
theorem rowsAt_snoc {w : World} {lo hi n c : Nat} {A : Option Addr} {vs : List Value} {xss : List (List Int)} {xs : List Int} (h : RowsAt w lo hi vs xss) (hr : RI w lo hi A n xs) : RowsAt w lo hi (vs ++ [.slice A n c]) (xss ++ [xs]) := by
  refine ⟨by simp [h.1], fun k v ys h1 h2 => ?_⟩
  by_cases hk : k < vs.length
  · rw [List.getElem?_append_left hk] at h1
    rw [List.getElem?_append_left (by have := h.1; omega)] at h2
    exact h.2 k v ys h1 h2
  · have hk2 := (List.getElem?_eq_some_iff.1 h1).1
    simp at hk2
    have e : k = vs.length := by omega
    subst e
    rw [List.getElem?_append_right (Nat.le_refl _)] at h1
    rw [List.getElem?_append_right (by have := h.1; omega)] at h2
    have hl := h.1
    simp at h1
    simp [hl] at h2
    subst h1; subst h2
    exact ⟨A, n, c, rfl, hr⟩
theorem below_cells {B b : Nat} {a : World} (hb : B ≤ b) : ∀ (vs : List Value) (o : Nat) (w : World), Below B a w → Below B a (w.setCells b o vs) := by
  intro vs
  induction vs with
  | nil => intro o w h; exact h
  | cons v t ih => intro o w h; exact ih _ _ (h.setCell (p := ⟨b, o, none⟩) hb v)
theorem cloneSS_any (A : Option Addr) (n c : Nat) (vs : List Value) (w : World) {lo hi : Nat} (h : Rd w lo hi A n vs) (hhi : hi ≤ w.heap.size) (h1 : ∀ v ∈ vs, v.oneCell' = true) (hn : 0 < n) (hn2 : n ≤ 1048576) :
    Calls Try.prog 161 #[.slice A n c] w fun e w' => ∃ (A1 : Option Addr) (c1 : Nat), e = .returned (.slice A1 n c1) ∧ Own w' w.heap.size w'.heap.size 27 A1 n c1 vs ∧ Below w.heap.size w w' := by
  obtain ⟨s0, hs0, hu0, hu1, hu2⟩ := info_parts infoS
  obtain ⟨b, o, v0, rfl, _, _, _, _⟩ := h.at_ hn
  have h0 := World.ownsRow_lit (e := 27) (base := w.heap.size) (size := 1) w #[] 0 (Nat.le_refl _) (by omega) rfl
  have hr := h.keep (same_alloc w (.cells #[] 27) lo hi hhi)
  have heq : ∀ w' : World, (binOp .eql 24 (.slice (some ⟨b, o, none⟩) n c) (.slice none 0 0)).run Try.prog w' = .ok (.bool false) w' := fun w' => Lib.run_eql_slice_nil w' _ _ _ _ _ _ _ Try.underlying24
  replace h1 := Lib.hid h1
  go_enter Try.func161, Try.ntmps161
  go_wp2_with (at_builtin; refine wpList_appendL (w.alloc (.cells #[] 27)) rfl (.tmp 5) (.tmp 6) 24 rfl w.heap.size 27 s0 (.slice none 0 0) 24 Try.underlying24 hs0 hu0 hu1 hu2 rfl (by omega) _ 0 0 [] rfl h0 _ n c vs lo hi rfl hr h1.out (by omega) (by simp) ?_)
  intro A2 c2 w2 ho hg hor
  have hb : Below w.heap.size w w2 := ((Below.refl _ _).alloc (Nat.le_refl _) _).grown hg (by simp) (fun q hq => by have := (h0.lt q hq).1; omega)
  go_wp2_with fail
  go_ret
  exact ⟨A2, c2, rfl, Own.of_row ho, hb⟩
theorem zeroS (w : World) : (zeroValue 27).run Try.prog w = .ok (.slice none 0 0) w := Try.zeroValue27 w
set_option maxHeartbeats 4000000 in
theorem deleteSS_any (g n c i j : Nat) (hij : j = i + 1) (vs : List Value) (w : World) {lo hi : Nat} (ho : Own w lo hi 27 (some ⟨g, 0, none⟩) n c vs) (h1 : ∀ v ∈ vs, v.oneCell' = true) (hi0 : i < n) (hn2 : n ≤ 1048576) :
    Calls Try.prog 160 #[.slice (some ⟨g, 0, none⟩) n c, .int .i64 i, .int .i64 j] w fun e w' => e = .returned (.slice (some ⟨g, 0, none⟩) (n - 1) c) ∧ Rd w' lo hi (some ⟨g, 0, none⟩) (n - 1) (vs.eraseIdx i) ∧ Below lo w w' := by
  obtain ⟨s0, hs0, hu0, hu1, hu2⟩ := info_parts infoS
  have hcap := ho.cap
  have hvl := ho.len
  have hlo : lo ≤ g ∧ g < hi ∧ g < w.heap.size := by
    obtain ⟨b, v, e, q1, q2, q3, _⟩ := ho.at_ hi0
    injection e with e; injection e with e _ _; subst e
    exact ⟨q1, q2, q3⟩
  have hcm : c ≤ 9223372036854775807 := by
    rcases ho.1.2 with ⟨hv, _⟩ | ⟨g', cap, cur, hv, _, _, _, hcm, _⟩
    · cases hv
    · injection hv with _ _ e3
      subst e3
      simp only [maxLen] at hcm
      omega
  have hcell : ∀ k, k < n → w.cell? ⟨g, k, none⟩ = vs[k]? := fun k hk => ho.1.cellAt k (by omega)
  have hfrz : ∀ k, w.frozen? ⟨g, k, none⟩ = false := fun k => ho.frz k
  obtain ⟨k, rfl⟩ : ∃ k, n = j + k := ⟨n - j, by omega⟩
  obtain ⟨news, hnews⟩ : ∃ news, news = vs.drop j := ⟨_, rfl⟩
  have hlen : news.length = k := by rw [hnews]; simp; omega
  have hget : ∀ t, t < k → news[t]? = vs[j + t]? := by intro t ht; rw [hnews, List.getElem?_drop]
  obtain ⟨A, hA, hsrc⟩ : ∃ A : Addr, (if c = j then some (⟨g, 0, none⟩ : Addr) else some ⟨g, j, none⟩) = some A ∧ Hid (∀ t u, news[t]? = some u → w.drew.cell? (A.add t) = some u) := by
    by_cases h : c = j
    · refine ⟨⟨g, 0, none⟩, by simp [h], Lib.hid fun t u hu => ?_⟩
      have h0 : news.length = 0 := by rw [hlen]; omega
      rw [List.length_eq_zero_iff.1 h0] at hu
      simp at hu
    · refine ⟨⟨g, j, none⟩, by simp [h], Lib.hid fun t u hu => ?_⟩
      have ht : t < k := by have := (List.getElem?_eq_some_iff.1 hu).1; omega
      rw [hget t ht] at hu
      rw [Addr.add_lit]
      exact (hcell (j + t) (by omega)).trans hu
  have s1 : Hid (news.length = k * 1) := Lib.hid (by rw [Nat.mul_one]; exact hlen)
  have s2 : Hid (∀ u ∈ news, u.oneCell' = true) := Lib.hid (by intro u hu; rw [hnews] at hu; exact h1 u (List.mem_of_mem_drop hu))
  have hsome : ∀ t, t < j + k → (w.cell? ⟨g, t, none⟩).isSome = true := fun t ht => by rw [hcell t ht, List.getElem?_eq_getElem (by omega)]; rfl
  have s3 : Hid (∀ t, t < news.length → (w.drew.cell? ⟨g, 0 + i * 1 + t, none⟩).isSome = true ∧ w.drew.frozen? ⟨g, 0 + i * 1 + t, none⟩ = false) := Lib.hid (by
    intro t ht
    rw [hlen] at ht
    rw [Nat.mul_one, Nat.zero_add]
    exact ⟨hsome (i + t) (by omega), hfrz _⟩)
  obtain ⟨W1, hW1⟩ : ∃ W1, W1 = w.drew.setCells g (0 + i * 1) news := ⟨_, rfl⟩
  have hW : Hid (W1 = w.drew.setCells g (0 + i * 1) news) := Lib.hid hW1
  have hsome1 : ∀ t, t < j + k → (W1.cell? ⟨g, t, none⟩).isSome = true := fun t ht => by rw [hW1]; exact World.isSome_setCells g news (0 + i * 1) w.drew ⟨g, t, none⟩ (hsome t ht)
  have hfrz1 : ∀ t, W1.frozen? ⟨g, t, none⟩ = false := fun t => by rw [hW1, World.frozen?_setCells]; exact hfrz t
  have hcl : ∀ ty, (Builtin.clear_ #[24] ty #[.slice (some ⟨g, i + k, none⟩) 1 (c - (i + k))]).run Try.prog W1 = .ok (.tuple #[]) (W1.setCells g (i + k) (List.replicate 1 (.slice none 0 0))) :=
    fun ty => Lib.run_clear_slice W1 _ _ ty _ Try.underlying24 zeroS rfl rfl g (i + k) _ _ (by omega) (fun t ht => hsome1 (i + k + t) (by omega)) (fun t ht => hfrz1 (i + k + t))
  have hfin : ∀ t, t < i + k → (W1.setCells g (i + k) [.slice none 0 0]).cell? ⟨g, t, none⟩ = (vs.eraseIdx i)[t]? := by
    intro t ht
    rw [World.cell?_setCells_out g _ _ _ _ (fun _ _ => .inl (by simpa using ht)), List.getElem?_eraseIdx, hW1]
    by_cases hti : t < i
    · rw [if_pos hti, World.cell?_setCells_out g _ _ _ _ (fun _ _ => .inl (by simp; omega))]
      exact hcell t (by omega)
    · rw [if_neg hti]
      obtain ⟨s, rfl⟩ : ∃ s, t = i + s := ⟨t - i, by omega⟩
      have hin := World.cell?_setCells_in g news (0 + i * 1) w.drew (fun q hq => by rw [Nat.mul_one, Nat.zero_add]; exact hsome (i + q) (by omega)) s (by omega)
      rw [Nat.mul_one, Nat.zero_add] at hin ⊢
      rw [hin]
      have h2 := hget s (by omega)
      rw [List.getElem?_eq_getElem (by omega)] at h2
      rw [h2, hij]
      congr 1
      omega
  have hbel : Below lo w (W1.setCells g (i + k) [.slice none 0 0]) := by
    rw [hW1]
    exact below_cells hlo.1 _ _ _ (below_cells hlo.1 _ _ _ (below_drew (Below.refl lo w)))
  have hrd : Rd (W1.setCells g (i + k) [.slice none 0 0]) lo hi (some ⟨g, 0, none⟩) (i + k) (vs.eraseIdx i) := by
    refine ⟨by rw [List.length_eraseIdx, if_pos (by omega)]; omega, by omega, fun _ => ⟨g, 0, rfl, hlo.1, hlo.2.1, fun t v hv => ?_⟩⟩
    have ht := (List.getElem?_eq_some_iff.1 hv).1
    rw [List.length_eraseIdx, if_pos (by omega)] at ht
    rw [Nat.zero_add, hfin t (by omega)]
    exact hv
  replace hfin := Lib.hid hfin
  replace hbel := Lib.hid hbel
  replace hrd := Lib.hid hrd
  have hijl : i ≤ j := by omega
  have hjkI : (j : Int) ≤ (j : Int) + (k : Int) := by omega
  have hikI : (i : Int) + (k : Int) ≤ (j : Int) + (k : Int) := by omega
  have hijk : j + k - (i + k) = 1 := by omega
  have hij2 : ¬ (i = j) := by omega
  have hjn : j ≤ j + k := by omega
  replace hij := Lib.hid hij
  have hic : i ≤ c := by omega
  have hjc : j ≤ c := by omega
  clear hW1 hget hnews hlen hsome hsome1 hcell hfrz hfrz1
  go_enter Try.func160, Try.ntmps160
  go_wp2_with fail
  go_region_law (refine step_append_room rfl (.tmp 22) (.tmp 25) 24 rfl 27 s0 1 Try.underlying24 hs0 hu1 g 0 i c (by simp [Act.eval, Act.put]) A k (c - j) news (by simp [Act.eval, Act.put]) s1.out hsrc.out s2.out (by omega) s3.out ?_; rw [← hW.out])
  go_wp2_with fail
  go_ret
  have e : j + k - 1 = i + k := by have := hij.out; omega
  rw [e]
  exact ⟨rfl, hrd.out, hbel.out⟩
theorem without_any (b : Nat) (A : Option Addr) (n c i : Nat) (xss : List (List Int)) (w : World) (hc : w.cell? ⟨b, 0, none⟩ = some (.slice A n c)) {lo hi : Nat} (h : RS w lo hi A n xss) (hhi : hi ≤ w.heap.size) (hi0 : i < n) (hn2 : n ≤ 1048576) :
    Calls Try.prog 142 #[.pointer (some ⟨b, 0, none⟩), .int .i64 i] w fun e w' => ∃ (A1 : Option Addr) (c1 : Nat), e = .returned (.slice A1 (n - 1) c1) ∧ RS w' 0 w'.heap.size A1 (n - 1) (xss.eraseIdx i) ∧ Below w.heap.size w w' := by
  obtain ⟨vs, hrd, hrw⟩ := h
  have h1 := rowsAt_one hrw
  have hcl := cloneSS_any A n c vs w hrd hhi h1 (by omega) hn2
  replace h1 := Lib.hid h1
  go_enter Try.func142, Try.ntmps142
  go_wp2_with fail
  ((with_reducible refine hcl.mono ?_); rintro e w2 ⟨A2, c2, rfl, o2, f2⟩)
  obtain ⟨g, v0, rfl, _, _, _, _⟩ := o2.at_ (k := 0) (by omega)
  have hd := deleteSS_any g n c2 i (i + 1) rfl vs w2 o2 h1.out hi0 hn2
  rw [show (((i + 1 : Nat)) : Int) = (i : Int) + 1 from by omega] at hd
  clear hcl
  go_wp2_with fail
  ((with_reducible refine hd.mono ?_); rintro e w3 ⟨rfl, r3, f3⟩)
  have y2 := f2.size
  have y3 := f3.size
  have B3 : Below w.heap.size w w3 := f2.trans f3
  clear hd
  go_wp2_with fail
  go_ret
  exact ⟨_, c2, rfl, ⟨vs.eraseIdx i, r3.more (by omega) y3, rowsAt_erase ((hrw.keep (Same.of_below B3 hhi)).more (by omega) (by omega)) i⟩, B3⟩
theorem faces_any (b : Nat) (A : Option Addr) (n c i : Nat) (xss : List (List Int)) (w : World) (hc : w.cell? ⟨b, 0, none⟩ = some (.slice A n c)) {lo hi : Nat} (h : RS w lo hi A n xss) (hhi : hi ≤ w.heap.size) (hi0 : i < n) (hn2 : n ≤ 1048576) (N : Nat) (hN : flg xss = N) (h4 : N ≤ 400) (hs : SysOf xss N) :
    Calls Try.prog 85 #[.pointer (some ⟨b, 0, none⟩), .int .i64 i] w fun e w' => ∃ A1, e = .returned (.tuple #[.slice A1 N N, .int .i64 (cntR (xss.eraseIdx i) N)]) ∧ Own w' w.heap.size w'.heap.size 2 A1 N N ((labL (xss.eraseIdx i) N).map (Value.int .i64)) ∧ Below w.heap.size w w' := by
  have hwo := without_any b A n c i xss w hc h hhi hi0 hn2
  replace hs := Lib.hid hs
  go_enter Try.func85, Try.ntmps85
  go_wp2_with fail
  ((with_reducible refine (flags_any _ A n c xss _ hc h (by omega)).mono ?_); rintro e w' ⟨rfl, rfl⟩)
  rw [hN]
  go_wp2_with fail
  ((with_reducible refine hwo.mono ?_); rintro e w2 ⟨A2, c2, rfl, r2, f2⟩)
  have y2 := f2.size
  clear hwo
  go_wp2_with fail
  ((with_reducible refine (orbitLabels_any N A2 (n - 1) c2 (xss.eraseIdx i) _ r2 (Nat.le_refl _) h4 (sysOf_erase hs.out i)).mono ?_); rintro e w3 ⟨A3, rfl, o3, f3⟩)
  go_wp2_with fail
  go_ret2
  exact ⟨A3, rfl, o3.more y2 (Nat.le_refl _), below_then f2 f3 y2⟩
theorem hasRank_any (b : Nat) (A : Option Addr) (n c : Nat) (x : Int) (w : World) (hc : w.cell? ⟨b, 0, none⟩ = some (.slice A n c)) (hn : n ≤ 1048576) :
    Calls Try.prog 84 #[.pointer (some ⟨b, 0, none⟩), .int .i64 x] w fun e w' => e = .returned (.bool (decide ((0 : Int) ≤ x) && decide (x ≤ (n : Int) - 1))) ∧ w = w' := by
  go_enter Try.func84, Try.ntmps84
  go_wp2_with fail
  ((with_reducible refine (rank_any _ A n c _ hc (by omega)).mono ?_); rintro e w' ⟨rfl, rfl⟩)
  go_wp2_with fail
  ((with_reducible refine (within_any _ _ _ _).mono ?_); rintro e w' ⟨rfl, rfl⟩)
  go_wp2_with fail
  go_ret
  exact ⟨rfl, rfl⟩
/-- the first index of x, or -1 -/
def idxI (xs : List Int) (x : Int) : Int := if x ∈ xs then (xs.idxOf x : Int) else -1
theorem idx_first {xs : List Int} {k : Nat} {x : Int} (h : xs[k]? = some x) (hn : x ∉ xs.take k) : xs.idxOf x = k := by
  have hk := (List.getElem?_eq_some_iff.1 h).1
  have hm := mem_of_get? h
  have h1 := get?_idxOf hm
  have hle : ¬ xs.idxOf x < k := by
    intro hlt
    refine hn ?_
    have : (xs.take k)[xs.idxOf x]? = some x := by rw [List.getElem?_take_of_lt hlt]; exact h1
    exact mem_of_get? this
  have hge : ¬ k < xs.idxOf x := by
    intro hlt
    have e := List.take_append_drop k xs
    have hl : (xs.take k).length = k := by simp; omega
    have e2 : xs.idxOf x = ((xs.take k) ++ (xs.drop k)).idxOf x := by rw [e]
    rw [List.idxOf_append, if_neg hn, hl] at e2
    have e3 : xs.drop k = x :: xs.drop (k + 1) := by
      rw [List.drop_eq_getElem_cons hk]
      congr 1
      have := (List.getElem?_eq_some_iff.1 h).2
      exact this
    rw [e3, List.idxOf_cons_self] at e2
    omega
  omega
theorem l01Index_any (A : Option Addr) (n c : Nat) (xs : List Int) (x : Int) (w : World) {lo hi : Nat} (h : RI w lo hi A n xs) :
    Calls Try.prog 148 #[.slice A n c, .int .i64 x] w fun e w' => e = .returned (.int .i64 (idxI xs x)) ∧ w = w' := by
  have hm := h.max
  have hl := Lib.hid h.len
  go_enter Try.func148, Try.ntmps148
  go_wp2_with fail
  go_loopw [5] (fun kv wq => ∃ k : Nat, k ≤ n ∧ kv = .int .i64 k ∧ Hid (x ∉ xs.take k) ∧ w = wq) (fun kv _ => n - (intOf kv).toNat)
  case atStart => exact ⟨0, by omega, rfl, Lib.hid (by simp), by first | rfl | trivial⟩
  case round =>
    obtain ⟨k, hk, rfl, hnx, rfl⟩ := hrel
    by_cases hlt : k < n
    · obtain ⟨b, o, v, rfl, _, _, hv, hcv⟩ := h.at_ hlt
      have htk := take_succ_of hv
      by_cases hvx : v = x
      · subst hvx
        have hix : idxI xs v = k := by unfold idxI; rw [if_pos (mem_of_get? hv), idx_first hv hnx.out]
        replace hv := Lib.hid hv
        replace htk := Lib.hid htk
        replace hix := Lib.hid hix
        go_wp2_with fail
        go_ret
        exact ⟨ret_int hix.out.symm, rfl⟩
      · have hbq : (v == x) = false := by simpa using hvx
        have hn2 : x ∉ xs.take (k + 1) := by rw [htk]; simp only [List.mem_append, List.mem_singleton]; rintro (hh | hh); exact hnx.out hh; exact hvx hh.symm
        replace hn2 := Lib.hid hn2
        replace hv := Lib.hid hv
        replace htk := Lib.hid htk
        go_wp2_with fail
        go_roundw
        case measure => simp [intOf]; omega
        case rel => exact ⟨k + 1, by omega, by go_num, hn2, by first | rfl | trivial⟩
    · have hkn : k = n := by omega
      subst hkn
      have hix : idxI xs x = -1 := by unfold idxI; rw [if_neg]; have := hnx.out; rwa [List.take_of_length_le (by have := hl.out; omega)] at this
      replace hix := Lib.hid hix
      go_wp2_with fail
      go_ret
      exact ⟨ret_int hix.out.symm, rfl⟩
theorem l01Has_any (A : Option Addr) (n c : Nat) (xs : List Int) (x : Int) (w : World) {lo hi : Nat} (h : RI w lo hi A n xs) :
    Calls Try.prog 179 #[.slice A n c, .int .i64 x] w fun e w' => e = .returned (.bool (decide (x ∈ xs))) ∧ w = w' := by
  have hix : decide (idxI xs x ≥ 0) = decide (x ∈ xs) := by
    unfold idxI
    by_cases hx : x ∈ xs
    · rw [if_pos hx]; simp [hx]
    · rw [if_neg hx]; simp [hx]
  replace hix := Lib.hid hix
  go_enter Try.func179, Try.ntmps179
  go_wp2_with fail
  ((with_reducible refine (l01Index_any A n c xs x _ h).mono ?_); rintro e w' ⟨rfl, rfl⟩)
  go_wp2_with fail
  go_ret
  exact ⟨ret_bool (by first | exact hix.out | (rw [← hix.out])), rfl⟩
end Go.Proofs.Ytdaljeghdiknpaa
/- Sec -/
namespace Go.Proofs.Ytdaljeghdiknpaa
open Go.RowKit
set_option linter.unusedVariables false
set_option maxRecDepth 100000
theorem areRanks_any (b : Nat) (A : Option Addr) (n c : Nat) (xss : List (List Int)) (i k : Int) (w : World) (hc : w.cell? ⟨b, 0, none⟩ = some (.slice A n c)) (hn : n ≤ 1048576) (hl : xss.length = n) :
    Calls Try.prog 114 #[.pointer (some ⟨b, 0, none⟩), .int .i64 i, .int .i64 k] w fun e w' => e = .returned (.bool (okR xss.length i k)) ∧ w = w' := by
  rw [hl]
  cases h1 : (decide ((0 : Int) ≤ i) && decide (i ≤ (n : Int) - 1)) with
  | false =>
    have hr : okR n i k = false := by
      cases hq : okR n i k with
      | false => rfl
      | true => have := okR_iff.1 hq; simp at h1; omega
    replace h1 := Lib.hid h1
    replace hr := Lib.hid hr
    go_enter Try.func114, Try.ntmps114
    go_wp2_with fail
    ((with_reducible refine (hasRank_any _ A n c i _ hc hn).mono ?_); rintro e w' ⟨rfl, rfl⟩)
    rw [h1.out]
    go_wp2_with fail
    go_ret
    exact ⟨ret_bool hr.out.symm, rfl⟩
  | true =>
    cases h2 : (decide ((0 : Int) ≤ k) && decide (k ≤ (n : Int) - 1)) with
    | false =>
      have hr : okR n i k = false := by
        cases hq : okR n i k with
        | false => rfl
        | true => have := okR_iff.1 hq; simp at h2; omega
      replace h1 := Lib.hid h1
      replace h2 := Lib.hid h2
      replace hr := Lib.hid hr
      go_enter Try.func114, Try.ntmps114
      go_wp2_with fail
      ((with_reducible refine (hasRank_any _ A n c i _ hc hn).mono ?_); rintro e w' ⟨rfl, rfl⟩)
      rw [h1.out]
      go_wp2_with fail
      ((with_reducible refine (hasRank_any _ A n c k _ hc hn).mono ?_); rintro e w' ⟨rfl, rfl⟩)
      rw [h2.out]
      go_wp2_with fail
      go_ret
      exact ⟨ret_bool hr.out.symm, rfl⟩
    | true =>
      have hr : okR n i k = decide (i ≤ k) := by
        unfold okR
        simp at h1 h2
        by_cases h3 : i ≤ k
        · simp [h3]; omega
        · simp [h3]
      replace h1 := Lib.hid h1
      replace h2 := Lib.hid h2
      replace hr := Lib.hid hr
      go_enter Try.func114, Try.ntmps114
      go_wp2_with fail
      ((with_reducible refine (hasRank_any _ A n c i _ hc hn).mono ?_); rintro e w' ⟨rfl, rfl⟩)
      rw [h1.out]
      go_wp2_with fail
      ((with_reducible refine (hasRank_any _ A n c k _ hc hn).mono ?_); rintro e w' ⟨rfl, rfl⟩)
      rw [h2.out]
      go_wp2_with fail
      go_ret
      exact ⟨ret_bool hr.out.symm, rfl⟩
set_option maxHeartbeats 2000000 in
theorem l04Code_any (A : Option Addr) (n c : Nat) (xss : List (List Int)) (x i k : Int) (w : World) {lo hi : Nat} (h : RS w lo hi A n xss) (hhi : hi ≤ w.heap.size) (hx : -9223372036854775808 ≤ x ∧ x ≤ 9223372036854775807) :
    Calls Try.prog 122 #[.agg #[.slice A n c], .int .i64 x, .int .i64 i, .int .i64 k] w fun e w' => e = .returned (.int .i64 (codeF xss x i k)) ∧ Below w.heap.size w w' := by
  have hm := h.max
  have hl := h.len
  have hR := rs_alloc h hhi (.cells #[.slice A n c] 40)
  have hC : (w.alloc (.cells #[.slice A n c] 40)).cell? ⟨w.heap.size, 0, none⟩ = some (.slice A n c) := al_new _ _ _ _ rfl
  have hB : Below w.heap.size w (w.alloc (.cells #[.slice A n c] 40)) := (Below.refl _ _).alloc (Nat.le_refl _) _
  cases hM : isManB xss with
  | false =>
    have hF : codeF xss x i k = 1 := by unfold codeF; rw [hM]; rfl
    replace hF := Lib.hid hF
    replace hM := Lib.hid hM
    replace hl := Lib.hid hl
    go_enter Try.func122, Try.ntmps122
    go_wp2_with fail
    ((with_reducible refine (l02Is_any A n c xss _ hR (by simp; omega)).mono ?_); rintro e w2 ⟨rfl, f2⟩)
    rw [hM.out]
    go_wp2_with fail
    go_ret
    exact ⟨ret_int hF.out.symm, hB.trans (f2.mono (by simp))⟩
  | true =>
    have hP := isManB_iff.1 hM
    have hn1 : 1 ≤ n := by have := hP.r1; omega
    have hn5 : n ≤ 5 := by have := hP.r5; omega
    have hf4 := hP.f4
    clear hP
    cases hF1 : inR 0 ((flg xss : Nat) - 1 : Int) x with
    | false =>
      have hF : codeF xss x i k = 2 := by unfold codeF; rw [if_pos hM, hF1]; rfl
      replace hF := Lib.hid hF
      replace hM := Lib.hid hM
      replace hl := Lib.hid hl
      replace hF1 := Lib.hid hF1
      go_enter Try.func122, Try.ntmps122
      go_wp2_with fail
      obtain ⟨W1, hW⟩ : ∃ W1 : World, w.alloc (.cells #[.slice A n c] 40) = W1 := ⟨_, rfl⟩
      have hz1 : W1.heap.size = w.heap.size + 1 := by rw [← hW]; simp
      rw [hW] at hR hC hB ⊢
      clear hW h
      ((with_reducible refine (l02Is_any A n c xss _ hR (by omega)).mono ?_); rintro e w2 ⟨rfl, f2⟩)
      rw [hM.out]
      have y2 := f2.size
      have C2 := (f2.cell (p := ⟨w.heap.size, 0, none⟩) (by simp; omega)).trans hC
      have R2 := hR.below f2 (by omega)
      go_wp2_with fail
      ((with_reducible refine (l02Flag_any A n c xss x _ R2 (by omega) (by omega) hf4).mono ?_); rintro e w3 ⟨rfl, f3⟩)
      rw [hF1.out]
      have B3 : Below W1.heap.size W1 w3 := below_then f2 f3 (by omega)
      go_wp2_with fail
      go_ret
      exact ⟨ret_int hF.out.symm, hB.trans (B3.mono (by omega))⟩
    | true =>
      have hF : codeF xss x i k = if okR xss.length i k = true then 0 else 2 := by unfold codeF; rw [if_pos hM, if_pos hF1]
      rw [hl] at hF
      have key : okR n i k = true ∧ 0 ≤ i ∧ i ≤ k ∧ k ≤ (n : Int) - 1 ∨ okR n i k = false ∧ (i < 0 ∨ (0 ≤ i ∧ k < i) ∨ (0 ≤ i ∧ i ≤ k ∧ (n : Int) - 1 < k)) := by
        cases hq : okR n i k with
        | true => have := okR_iff.1 hq; exact .inl ⟨rfl, this⟩
        | false =>
          refine .inr ⟨rfl, ?_⟩
          have : ¬ (0 ≤ i ∧ i ≤ k ∧ k ≤ (n : Int) - 1) := fun hh => by rw [okR_iff.2 hh] at hq; cases hq
          omega
      replace hM := Lib.hid hM
      replace hl := Lib.hid hl
      replace hF1 := Lib.hid hF1
      rcases key with ⟨hok, k1, k2, k3⟩ | ⟨hok, k1 | ⟨k0, k1⟩ | ⟨k0, k2, k1⟩⟩
      · have e1 : decide (i < 0) = false := by simp; omega
        have e2 : decide (k < i) = false := by simp; omega
        have e3 : decide ((n : Int) - 1 < k) = false := by simp; omega
        have e4 : decide (k > (n : Int) - 1) = false := by simp; omega
        rw [hok] at hF
        replace hF : Hid (codeF xss x i k = 0) := Lib.hid (hF.trans rfl)
        replace hok := Lib.hid hok
        go_enter Try.func122, Try.ntmps122
        go_wp2_with fail
        obtain ⟨W1, hW⟩ : ∃ W1 : World, w.alloc (.cells #[.slice A n c] 40) = W1 := ⟨_, rfl⟩
        have hz1 : W1.heap.size = w.heap.size + 1 := by rw [← hW]; simp
        rw [hW] at hR hC hB ⊢
        clear hW h
        ((with_reducible refine (l02Is_any A n c xss _ hR (by omega)).mono ?_); rintro e w2 ⟨rfl, f2⟩)
        rw [hM.out]
        have y2 := f2.size
        have C2 := (f2.cell (p := ⟨w.heap.size, 0, none⟩) (by simp; omega)).trans hC
        have R2 := hR.below f2 (by omega)
        go_wp2_with fail
        ((with_reducible refine (l02Flag_any A n c xss x _ R2 (by omega) (by omega) hf4).mono ?_); rintro e w3 ⟨rfl, f3⟩)
        rw [hF1.out]
        have C3 := (f3.cell (p := ⟨w.heap.size, 0, none⟩) (by simp; omega)).trans C2
        have B3 : Below W1.heap.size W1 w3 := below_then f2 f3 (by omega)
        go_wp2_with fail
        go_ret
        exact ⟨ret_int hF.out.symm, hB.trans (B3.mono (by omega))⟩
      · have e1 : decide (i < 0) = true := by simp; omega
        rw [hok] at hF
        replace hF : Hid (codeF xss x i k = 2) := Lib.hid (hF.trans rfl)
        replace hok := Lib.hid hok
        go_enter Try.func122, Try.ntmps122
        go_wp2_with fail
        obtain ⟨W1, hW⟩ : ∃ W1 : World, w.alloc (.cells #[.slice A n c] 40) = W1 := ⟨_, rfl⟩
        have hz1 : W1.heap.size = w.heap.size + 1 := by rw [← hW]; simp
        rw [hW] at hR hC hB ⊢
        clear hW h
        ((with_reducible refine (l02Is_any A n c xss _ hR (by omega)).mono ?_); rintro e w2 ⟨rfl, f2⟩)
        rw [hM.out]
        have y2 := f2.size
        have C2 := (f2.cell (p := ⟨w.heap.size, 0, none⟩) (by simp; omega)).trans hC
        have R2 := hR.below f2 (by omega)
        go_wp2_with fail
        ((with_reducible refine (l02Flag_any A n c xss x _ R2 (by omega) (by omega) hf4).mono ?_); rintro e w3 ⟨rfl, f3⟩)
        rw [hF1.out]
        have C3 := (f3.cell (p := ⟨w.heap.size, 0, none⟩) (by simp; omega)).trans C2
        have B3 : Below W1.heap.size W1 w3 := below_then f2 f3 (by omega)
        go_wp2_with fail
        go_ret
        exact ⟨ret_int hF.out.symm, hB.trans (B3.mono (by omega))⟩
      · have e1 : decide (i < 0) = false := by simp; omega
        have e2 : decide (k < i) = true := by simp; omega
        rw [hok] at hF
        replace hF : Hid (codeF xss x i k = 2) := Lib.hid (hF.trans rfl)
        replace hok := Lib.hid hok
        go_enter Try.func122, Try.ntmps122
        go_wp2_with fail
        obtain ⟨W1, hW⟩ : ∃ W1 : World, w.alloc (.cells #[.slice A n c] 40) = W1 := ⟨_, rfl⟩
        have hz1 : W1.heap.size = w.heap.size + 1 := by rw [← hW]; simp
        rw [hW] at hR hC hB ⊢
        clear hW h
        ((with_reducible refine (l02Is_any A n c xss _ hR (by omega)).mono ?_); rintro e w2 ⟨rfl, f2⟩)
        rw [hM.out]
        have y2 := f2.size
        have C2 := (f2.cell (p := ⟨w.heap.size, 0, none⟩) (by simp; omega)).trans hC
        have R2 := hR.below f2 (by omega)
        go_wp2_with fail
        ((with_reducible refine (l02Flag_any A n c xss x _ R2 (by omega) (by omega) hf4).mono ?_); rintro e w3 ⟨rfl, f3⟩)
        rw [hF1.out]
        have C3 := (f3.cell (p := ⟨w.heap.size, 0, none⟩) (by simp; omega)).trans C2
        have B3 : Below W1.heap.size W1 w3 := below_then f2 f3 (by omega)
        go_wp2_with fail
        go_ret
        exact ⟨ret_int hF.out.symm, hB.trans (B3.mono (by omega))⟩
      · have e1 : decide (i < 0) = false := by simp; omega
        have e2 : decide (k < i) = false := by simp; omega
        have e3 : decide ((n : Int) - 1 < k) = true := by simp; omega
        have e4 : decide (k > (n : Int) - 1) = true := by simp; omega
        rw [hok] at hF
        replace hF : Hid (codeF xss x i k = 2) := Lib.hid (hF.trans rfl)
        replace hok := Lib.hid hok
        go_enter Try.func122, Try.ntmps122
        go_wp2_with fail
        obtain ⟨W1, hW⟩ : ∃ W1 : World, w.alloc (.cells #[.slice A n c] 40) = W1 := ⟨_, rfl⟩
        have hz1 : W1.heap.size = w.heap.size + 1 := by rw [← hW]; simp
        rw [hW] at hR hC hB ⊢
        clear hW h
        ((with_reducible refine (l02Is_any A n c xss _ hR (by omega)).mono ?_); rintro e w2 ⟨rfl, f2⟩)
        rw [hM.out]
        have y2 := f2.size
        have C2 := (f2.cell (p := ⟨w.heap.size, 0, none⟩) (by simp; omega)).trans hC
        have R2 := hR.below f2 (by omega)
        go_wp2_with fail
        ((with_reducible refine (l02Flag_any A n c xss x _ R2 (by omega) (by omega) hf4).mono ?_); rintro e w3 ⟨rfl, f3⟩)
        rw [hF1.out]
        have C3 := (f3.cell (p := ⟨w.heap.size, 0, none⟩) (by simp; omega)).trans C2
        have B3 : Below W1.heap.size W1 w3 := below_then f2 f3 (by omega)
        go_wp2_with fail
        go_ret
        exact ⟨ret_int hF.out.symm, hB.trans (B3.mono (by omega))⟩
set_option maxHeartbeats 8000000 in
theorem l04Section_any (N : Nat) (A : Option Addr) (n c : Nat) (XSS : List (List Int)) (x : Int) (i k : Nat) (ii ki : Int) (hii : ii = i) (hki : ki = k) (w : World) {lo hi : Nat} (h : RS w lo hi A n XSS) (hhi : hi ≤ w.heap.size) (hnc : n ≤ c) (hik : i ≤ k) (hkn : k < n) (hn5 : n ≤ 20) (hN : flg XSS = N) (hn : N ≤ 400) (hS : SysOf XSS N) (hx0 : 0 ≤ x) (hx1 : x < N) :
    Calls Try.prog 111 #[.agg #[.slice A n c], .int .i64 x, .int .i64 ii, .int .i64 ki] w fun e w' => ∃ (A1 : Option Addr) (c1 : Nat), e = .returned (.agg #[.slice A1 (k + 1 - i) c1]) ∧ OwnS w' w.heap.size w'.heap.size 27 2 A1 (k + 1 - i) c1 (formL (subL XSS i (k + 1)) N x) ∧ Below w.heap.size w w' := by
  subst hii
  subst hki
  obtain ⟨j0, hj0, hy0, hy1, hy2⟩ := info_parts infoI
  obtain ⟨s0, hs0, hu0, hu1, hu2⟩ := info_parts infoS
  have hl := h.len
  obtain ⟨b0, o0, A0, n0, c0, p0, rfl, _, _, _, _, _⟩ := h.at_ (k := 0) (by omega)
  have hR0 := rs_alloc (rs_alloc h hhi (.cells #[.slice (some ⟨b0, o0, none⟩) n c] 40)) (by simp; omega) (.cells #[.slice none 0 0] 40)
  have hB0 : Below w.heap.size w ((w.alloc (.cells #[.slice (some ⟨b0, o0, none⟩) n c] 40)).alloc (.cells #[.slice none 0 0] 40)) := ((Below.refl _ _).alloc (Nat.le_refl _) _).alloc (by simp) _
  have hC0 : ((w.alloc (.cells #[.slice (some ⟨b0, o0, none⟩) n c] 40)).alloc (.cells #[.slice none 0 0] 40)).cell? ⟨w.heap.size, 0, none⟩ = some (.slice (some ⟨b0, o0, none⟩) n c) := (al_old _ _ _ _ (by simp)).trans (al_new _ _ _ _ rfl)
  have hQ0 : ((w.alloc (.cells #[.slice (some ⟨b0, o0, none⟩) n c] 40)).alloc (.cells #[.slice none 0 0] 40)).heap[w.heap.size + 1]? = some (.cells #[.slice none 0 0] 40 (0, 0)) := heap_new _ _ _ (by simp)
  have hs : SysOf (subL XSS i (k + 1)) N := sysOf_sub hS i (k + 1)
  have hxl : (subL XSS i (k + 1)).length = k + 1 - i := subL_length (by omega) (by omega)
  have hsub : RS w lo hi (some ⟨b0, o0 + i, none⟩) (k + 1 - i) (subL XSS i (k + 1)) := rs_sub h (by omega) (by omega) (fun _ => rfl)
  have hnf := l01Orbit_any N (some ⟨b0, o0 + i, none⟩) (k + 1 - i) (c - i) (subL XSS i (k + 1)) x _ ((hsub.keep (Same.of_below hB0 hhi))) (by simp; omega) hn hs hx0 hx1
  have hmet := bfs_met hs hx0 hx1
  have hclo : ∀ y ∈ bfs (subL XSS i (k + 1)) N x, ∀ p ∈ subL XSS i (k + 1), at' p y ∈ bfs (subL XSS i (k + 1)) N x := fun y hy p hp => bfs_closed hs hx0 hx1 hy hp
  have hfl : formL (subL XSS i (k + 1)) N x = (subL XSS i (k + 1)).map (ixF (bfs (subL XSS i (k + 1)) N x)) := rfl
  rw [hfl]
  clear hfl
  generalize bfs (subL XSS i (k + 1)) N x = ord at *
  generalize subL XSS i (k + 1) = xss at *
  have hol := hmet.len
  have hci : ¬ c = i := by omega
  have hic : i ≤ c := by omega
  have hI1 : (i : Int) ≤ (k : Int) + 1 := by omega
  have hI2 : (k : Int) + 1 ≤ (n : Int) := by omega
  have hI3 : (k : Int) + 1 ≤ (c : Int) := by omega
  obtain ⟨m, hmk⟩ : ∃ m, k + 1 - i = m := ⟨_, rfl⟩
  rw [hmk] at hxl hsub hnf ⊢
  have hm1 : 1 ≤ m := by omega
  have hm20 : m ≤ 20 := by omega
  replace hmet := Lib.hid hmet
  replace hclo := Lib.hid hclo
  replace hs := Lib.hid hs
  replace hS := Lib.hid hS
  replace hl := Lib.hid hl
  replace hxl := Lib.hid hxl
  go_enter Try.func111, Try.ntmps111
  go_wp2_with fail
  ((with_reducible refine hnf.mono ?_); rintro e w1 ⟨A5, n5, c5, rfl, o5, f1⟩)
  have B1 : Below w.heap.size w w1 := hB0.trans (f1.mono (by simp; omega))
  have C1 := (f1.cell (p := ⟨w.heap.size, 0, none⟩) (by simp; omega)).trans hC0
  have g4 := (f1.block (w.heap.size + 1) (by simp)).trans hQ0
  have z1 : w.heap.size + 2 ≤ w1.heap.size := by have := f1.size; simp at this; omega
  have e5 := o5.lenI
  subst e5
  have hR1 := h.below B1 hhi
  have hsub1 := hsub.below B1 hhi
  have o5 := o5.more (lo' := w.heap.size) (hi' := w1.heap.size) (by simp <;> omega) (Nat.le_refl _)
  replace g4 := Lib.hid g4
  clear f1 hnf hR0 hC0 hQ0 hB0
  go_wp2_with fail
  ((with_reducible refine (l02Flags_any (some ⟨b0, o0, none⟩) n c XSS _ hR1 (by omega) (by omega)).mono ?_); rintro e w1b ⟨rfl, f1b⟩)
  rw [hN]
  have y1b := f1b.size
  have B1b : Below w1.heap.size w1 w1b := f1b
  go_wp2_with (at_make; refine wpList_make_full _ rfl _ _ 27 rfl w1b.heap.size 2 j0 (.int .i64 0) 1 Try.underlying27 hj0 hy0 hy1 _ _ _ _ N rfl rfl rfl rfl ?c1 ?c2 (Nat.le_refl _) ?_)
  case c1 => rw [hy2]; omega
  case c2 => simp only [maxLen]; omega
  intro w2 hown hg
  have B2 : Below w1b.heap.size w1b w2 := (Below.refl _ _).grown hg (Nat.le_refl _) (by simp)
  have z2 : w1b.heap.size < w2.heap.size := (hown.lt w1b.heap.size (by simp [Value.ownBlock])).2
  have o6 : Own w2 w1b.heap.size w2.heap.size 2 (some ⟨w1b.heap.size, 0, none⟩) N N ((List.replicate N 0).map (Value.int .i64)) := by
    have := Own.of_row hown
    simpa [toList_madeCells_one, Value.cells] using this
  have o5b := o5.below B1b (Nat.le_refl _)
  clear hown hg f1b
  go_wp2_with fail
  go_loopw [12] (fun kv wq => ∃ (q : Nat) (ns : List Int), q ≤ ord.length ∧ kv = .int .i64 q ∧ Hid (NumI ord N q ns) ∧ Own wq w1b.heap.size w2.heap.size 2 (some ⟨w1b.heap.size, 0, none⟩) N N (ns.map (Value.int .i64)) ∧ w2.heap.size ≤ wq.heap.size ∧ Below w1b.heap.size w1b wq) (fun kv _ => ord.length - (intOf kv).toNat)
  case atStart => exact ⟨0, _, by omega, rfl, Lib.hid (NumI.zero ord N), o6, Nat.le_refl _, B2⟩
  case round =>
    clear o6 B2
    obtain ⟨q, ns, hq, rfl, hns, ho, hz, hb⟩ := hrel
    by_cases hlt : q < ord.length
    · obtain ⟨b5, f, rfl, _, _, _, hf, hcf, _⟩ := (o5b.below hb (by omega)).atI hlt
      obtain ⟨hf0, hf1⟩ := hmet.out.rng f (mem_of_get? hf)
      obtain ⟨f, rfl⟩ : ∃ q : Nat, f = q := ⟨f.toNat, by omega⟩
      have hcn := ho.cellI (hns.out.2 f (by omega))
      have hfr := ho.frz f
      have hfn : f < N := by omega
      have hst := hns.out.step hmet.out.nd hf
      replace hst := Lib.hid hst
      replace hf := Lib.hid hf
      generalize (if (f : Int) ∈ ord.take q then (ord.idxOf (f : Int) : Int) else 0) = old at *
      go_wp2_with fail
      go_roundw
      case measure => simp [intOf]; omega
      case rel => exact ⟨q + 1, ns.set f (q : Int), by omega, by go_num, hst, ho.setI (q : Int), by simp; omega, hb.setCell (by simp) _⟩
    · have hko : q = ord.length := by omega
      subst hko
      have hnum : ∀ z : Nat, z < N → (z : Int) ∈ ord → ns[z]? = some (ord.idxOf (z : Int) : Int) := fun z hz' hm => hns.out.get hz' hm
      replace hnum := Lib.hid hnum
      go_wp2_with fail
      obtain ⟨w3, rfl⟩ : ∃ w3 : World, w3 = wr := ⟨_, rfl⟩
      have g9 : (w3.alloc (.cells #[.slice none 0 0] 40)).heap[w3.heap.size]? = some (.cells #[.slice none 0 0] 40 (0, 0)) := heap_new _ _ _ rfl
      go_loopw [14] (fun kv wq => ∃ (q : Nat) (vs : List Value) (A2 : Option Addr) (c2 : Nat), q ≤ m ∧ vs.length = q ∧ kv = .int .i64 q ∧ wq.heap[w3.heap.size]? = some (.cells #[.slice A2 q c2] 40 (0, 0)) ∧
          Own wq (w3.heap.size + 1) wq.heap.size 27 A2 q c2 vs ∧ RowsOwn wq (w3.heap.size + 1) wq.heap.size 2 vs ((xss.take q).map (ixF ord)) ∧ w3.heap.size + 1 ≤ wq.heap.size ∧ Below w3.heap.size w3 wq) (fun kv _ => m - (intOf kv).toNat)
      case atStart => exact ⟨0, [], none, 0, by omega, rfl, rfl, g9, Own.nil, by simpa using RowsOwn.nil, by simp, (Below.refl _ _).alloc (Nat.le_refl _) _⟩
      case round =>
        clear g9
        obtain ⟨q, vs, A2, c2, hq, hvk, rfl, g9, ho9, hrows, hz9, hb9⟩ := hrel
        have C9 : wr.cell? ⟨w3.heap.size, 0, none⟩ = some (.slice A2 q c2) := by rw [cell_of_row _ _ _ _ _ _ g9]; rfl
        have F9 : wr.frozen? ⟨w3.heap.size, 0, none⟩ = false := frozen_of_row _ _ _ _ _ g9
        have hbw : Below w1b.heap.size w1b wr := hb.trans (hb9.mono (by omega))
        have hb1 : Below w1.heap.size w1 wr := B1b.trans (hbw.mono y1b)
        have ho6 := ho.below hb9 hz
        by_cases hkm : q < m
        · obtain ⟨bb, oo, Ak, nk, ck, p, e, _, _, hp, hpc, hpr⟩ := (hsub1.below hb1 (by omega)).at_ hkm
          injection e with e
          injection e with e1 e2 _
          subst e1; subst e2
          have hpm := mem_of_get? hp
          obtain ⟨hpr0, hpn, hpl⟩ := hs.out p hpm
          have hnk := hpr.len
          have hkk : nk = N := by omega
          subst hkk
          have htk := take_succ_of hp
          replace hp := Lib.hid hp
          replace htk := Lib.hid htk
          replace hpr0 := Lib.hid hpr0
          replace hpl := Lib.hid hpl
          replace g9 := Lib.hid g9
          have hnk1 := hpr.max
          go_wp2_with fail
          obtain ⟨wo, rfl⟩ : ∃ wo : World, wo = wr := ⟨_, rfl⟩
          have hlit := World.ownsRow_lit (e := 2) (base := wo.heap.size) (size := 1) wo #[] 0 (Nat.le_refl _) (by omega) rfl
          go_loopw [15, 16] (fun lv kv wq => ∃ (j : Nat) (ys : List Int) (A3 : Option Addr) (c3 : Nat), j ≤ ord.length ∧ ys.length = j ∧ lv = .slice A3 j c3 ∧ kv = .int .i64 j ∧ Hid (ys = (ixF ord p).take j) ∧ Own wq wo.heap.size wq.heap.size 2 A3 j c3 (ys.map (Value.int .i64)) ∧ wo.heap.size ≤ wq.heap.size ∧ Below wo.heap.size wo wq) (fun _ kv _ => ord.length - (intOf kv).toNat)
          case atStart => exact ⟨0, [], _, 0, by omega, rfl, rfl, rfl, Lib.hid rfl, by simpa using Own.of_row hlit, by simp, (Below.refl _ _).alloc (Nat.le_refl _) _⟩
          case round =>
            clear hlit
            obtain ⟨j, ys, A3, c3, hj, hyl, rfl, rfl, hys, ho3, hz3, hb3⟩ := hrel
            by_cases hjo : j < ord.length
            · obtain ⟨b5, f, hA5, _, _, _, hf, hcf, _⟩ := ((o5b.below hbw (by omega)).below hb3 (by omega)).atI hjo
              subst hA5
              have hfm := mem_of_get? hf
              obtain ⟨hf0, hf1⟩ := hmet.out.rng f hfm
              obtain ⟨f, rfl⟩ : ∃ q : Nat, f = q := ⟨f.toNat, by omega⟩
              have hfn : f < nk := by omega
              obtain ⟨bp, oq, v, rfl, _, _, hv, hvc⟩ := (hpr.below hb3 (by omega)).at_ hfn
              have hva : at' p f = v := by unfold at'; rw [Int.toNat_natCast]; exact getD_some hv
              have hvo := hclo.out _ hfm p hpm
              rw [hva] at hvo
              obtain ⟨hv0, hv1⟩ := hpr0.out v (mem_of_get? hv)
              obtain ⟨v, rfl⟩ : ∃ q : Nat, v = q := ⟨v.toNat, by omega⟩
              have hvn : v < nk := by omega
              have hcn := (ho6.below hb3 (by omega)).cellI (hnum.out v hvn hvo)
              have hpc3 := (hb3.cell (p := ⟨b0, o0 + i + q, none⟩) (by simp; omega)).trans hpc
              have hst : ys ++ [(ord.idxOf (v : Int) : Int)] = (ixF ord p).take (j + 1) := by
                rw [take_succ_of (x := (ord.idxOf (v : Int) : Int)) (by simp [ixF, hf, hva]), ← hys.out]
              replace hst := Lib.hid hst
              replace hf := Lib.hid hf
              replace hfm := Lib.hid hfm
              replace hv := Lib.hid hv
              replace hva := Lib.hid hva
              replace hvo := Lib.hid hvo
              generalize (ord.idxOf (v : Int) : Int) = u at *
              have hown' : Hid ((wr.alloc (.cells #[.int .i64 u] 2)).drew.ownsRow wo.heap.size 2 1 (.slice A3 j c3) j (ys.map (Value.int .i64))) := Lib.hid (ho3.1.alloc _)
              have hnew' : Hid (∀ q v, [Value.int .i64 u][q]? = some v → (wr.alloc (.cells #[.int .i64 u] 2)).drew.cell? ((⟨wr.heap.size, 0, none⟩ : Addr).add q) = some v) := Lib.hid (cell_one_new wr _ _)
              have hml : Hid (j + 1 ≤ maxLen) := Lib.hid (by simp only [maxLen]; omega)
              have hbs : wo.heap.size ≤ (wr.alloc (.cells #[.int .i64 u] 2)).drew.heap.size := by simp; omega
              have hbA : Below wo.heap.size wo (wr.alloc (.cells #[.int .i64 u] 2)).drew := below_drew (hb3.alloc hz3 _)
              have hlo3 : ∀ q, (Value.slice A3 j c3).ownBlock = some q → wo.heap.size ≤ q := fun q hq => (ho3.1.lt q hq).1
              replace hbs := Lib.hid hbs
              replace hbA := Lib.hid hbA
              replace hlo3 := Lib.hid hlo3
              go_wp2_with fail
              go_region_law (refine step_append_lies _ rfl (.tmp 56) (.tmp 70) 27 rfl wo.heap.size 2 j0 (.int .i64 0) 1 8 Try.underlying27 hj0 hy0 hy1 hy2 rfl (by decide) (.slice A3 j c3) j (ys.map (Value.int .i64)) (by simp [Act.eval]) hown'.out ⟨wr.heap.size, 0, none⟩ 1 1 [.int .i64 u] (by simp [Act.eval]) rfl hnew'.out (by simp [Value.oneCell']) (by decide) hml.out (by omega) hbs.out _ rfl ?_; intro g4 c4 w5 ho5 hg5 hor5 hlt5)
              all_goals
                have hb5 : Below wo.heap.size wo w5 := hbA.out.grown hg5 hbs.out (fun q hq => hlo3.out q hq)
                have hz5 : wo.heap.size ≤ w5.heap.size := hb5.size
                clear hcf hvc hcn ho3 hb3 hg5 hpc3
                go_wp2_with fail
                go_roundw
                case measure => simp [intOf]; omega
                case rel => exact ⟨j + 1, ys ++ [u], _, c4, by omega, by simp; omega, rfl, by go_num, hst, by simpa using Own.of_row ho5, by omega, hb5⟩
            · have hjo' : j = ord.length := by omega
              subst hjo'
              have hyf : ys = ixF ord p := by have := hys.out; rwa [List.take_of_length_le (by rw [ixF_length]; exact Nat.le_refl _)] at this
              have ho9' := ho9.below hb3 (Nat.le_refl _)
              have hrows' := hrows.keep (Same.of_below hb3 (Nat.le_refl _))
              have g9' := (hb3.block w3.heap.size (by omega)).trans g9.out
              have C9' : wr.cell? ⟨w3.heap.size, 0, none⟩ = some (.slice A2 q c2) := by rw [cell_of_row _ _ _ _ _ _ g9']; rfl
              have F9' : wr.frozen? ⟨w3.heap.size, 0, none⟩ = false := frozen_of_row _ _ _ _ _ g9'
              replace g9' := Lib.hid g9'
              replace hyf := Lib.hid hyf
              replace hyl := Lib.hid hyl
              go_wp2_with (at_builtin; refine wpList_append1 wr rfl (.tmp 73) (.tmp 75) 24 rfl (w3.heap.size + 1) 27 s0 (.slice none 0 0) 24 Try.underlying24 hs0 hu0 hu1 hu2 rfl (by omega) A2 q c2 _ (.slice A3 ord.length c3) rfl ho9'.1 _ rfl rfl rfl (by omega) (by omega) ?_)
              intro g4' c4 w5 ho5 hg5 hlo5 hlt5 hor5
              have g5 := (hg5.block w3.heap.size (by omega) (fun e => by have := (ho9'.1.lt _ e.symm).1; omega)).trans g9'.out
              have C5 : w5.cell? ⟨w3.heap.size, 0, none⟩ = some (.slice A2 q c2) := by rw [cell_of_row _ _ _ _ _ _ g5]; rfl
              have F5 : w5.frozen? ⟨w3.heap.size, 0, none⟩ = false := frozen_of_row _ _ _ _ _ g5
              have hrw5 := (hrows'.kept_ty ho9'.1 (by decide) hg5).snoc (ho3.kept_ty ho9'.1 (by decide) hg5) (by omega) hz3
              have hz5 := hg5.size
              have hb5 : Below w3.heap.size w3 w5 := (hb9.trans (hb3.mono (by omega))).grown hg5 (by omega) (fun q' hq' => by have := (ho9'.1.lt q' hq').1; omega)
              have ho5' := Own.of_row ho5
              replace g5 := Lib.hid g5
              clear C9 F9 C9' F9' ho9 ho9' hrows hrows' ho3 hg5 ho5
              go_wp2_with fail
              go_roundw
              case measure => simp [intOf]; omega
              case rel =>
                refine ⟨q + 1, vs ++ [.slice A3 ord.length c3], _, c4, by omega, by simp; omega, by go_num, ?_, (ho5'.far (.inl (by simp)) _).more (Nat.le_refl _) (by simp), ?_, by simp; omega, hb5.setCell (by simp) _⟩
                · have := heap_setCell_same _ _ 0 _ _ (Value.slice (some ⟨g4', 0, none⟩) (q + 1) c4) g5.out
                  simpa using this
                · rw [htk.out, List.map_append, List.map_singleton, ← hyf.out]
                  exact (hrw5.keep (same_set _ _ _ _ _ (.inl (by simp)))).more (Nat.le_refl _) (by simp; omega)
        · have hkm' : q = m := by omega
          subst hkm'
          have g4' := (hb1.block (w.heap.size + 1) (by omega)).trans g4.out
          have C4 : wr.cell? ⟨w.heap.size + 1, 0, none⟩ = some (.slice none 0 0) := by rw [cell_of_row _ _ _ _ _ _ g4']; rfl
          have F4 : wr.frozen? ⟨w.heap.size + 1, 0, none⟩ = false := frozen_of_row _ _ _ _ _ g4'
          replace g4' := Lib.hid g4'
          replace g9 := Lib.hid g9
          go_wp2_with fail
          have g2 := heap_setCell_same _ _ 0 _ _ (Value.slice A2 q c2) g4'.out
          (try simp only [Exit.inBlock, Exit.then])
          refine bodyPost_ret (v := .agg #[.slice A2 q c2]) ?_ rfl ?_
          · exact results_cell_row rfl _ _ (w.heap.size + 1) 40 #[.slice A2 q c2] (0, 0) _ rfl (by simpa using g2) Try.underlying40 rfl (by kernel_rfl)
          · have e : xss.take q = xss := List.take_of_length_le (by have := hxl.out; omega)
            rw [e] at hrows
            refine ⟨A2, c2, rfl, ⟨vs, ?_, ?_⟩, (B1.trans (hb1.mono (by omega))).setCell (by simp) _⟩
            · exact (ho9.keep (same_set _ _ _ _ _ (.inl (by simp; omega)))).more (by omega) (by simp)
            · exact (hrows.keep (same_set _ _ _ _ _ (.inl (by simp; omega)))).more (by omega) (by simp)
end Go.Proofs.Ytdaljeghdiknpaa
/- SecX -/
namespace Go.Proofs.Ytdaljeghdiknpaa
open Go.RowKit
set_option linter.unusedVariables false
set_option maxRecDepth 100000
set_option maxHeartbeats 4000000 in
theorem s_SectionAt_any (w : World) (A : Option Addr) (n c : Nat) (xss : List (List Int)) {lo hi : Nat} (h : RS w lo hi A n xss) (hhi : hi ≤ w.heap.size) (hnc : n ≤ c) (x : Int) (hx : -9223372036854775808 ≤ x ∧ x ≤ 9223372036854775807) (i : Int) (hi2 : -9223372036854775808 ≤ i ∧ i ≤ 9223372036854775807) (k : Int) (hk2 : -9223372036854775808 ≤ k ∧ k ≤ 9223372036854775807) :
    Calls Try.prog 60 #[.agg #[.slice A n c], .int .i64 x, .int .i64 i, .int .i64 k] w fun e w' => ∃ (A1 : Option Addr) (n1 c1 : Nat) (zss : List (List Int)) (code : Int), e = .returned (.tuple #[.agg #[.slice A1 n1 c1], .int .i64 code]) ∧ Hid ((zss, code) = secF xss x i k) ∧ OwnS w' w.heap.size w'.heap.size 27 2 A1 n1 c1 zss ∧ n1 + numsIn zss ≤ 1048576 ∧ Below w.heap.size w w' := by
  have hm := h.max
  have hl := h.len
  obtain ⟨hx0, hx1⟩ := hx
  obtain ⟨hi3, hi4⟩ := hi2
  obtain ⟨hk3, hk4⟩ := hk2
  have hR := rs_alloc (rs_alloc h hhi (.cells #[.slice A n c] 40)) (by simp; omega) (.cells #[.slice none 0 0] 40)
  have hC : ((w.alloc (.cells #[.slice A n c] 40)).alloc (.cells #[.slice none 0 0] 40)).cell? ⟨w.heap.size, 0, none⟩ = some (.slice A n c) := (al_old _ _ _ _ (by simp)).trans (al_new _ _ _ _ rfl)
  have hQ : ((w.alloc (.cells #[.slice A n c] 40)).alloc (.cells #[.slice none 0 0] 40)).heap[w.heap.size + 1]? = some (.cells #[.slice none 0 0] 40 (0, 0)) := heap_new _ _ _ (by simp)
  have hB : Below w.heap.size w ((w.alloc (.cells #[.slice A n c] 40)).alloc (.cells #[.slice none 0 0] 40)) := ((Below.refl _ _).alloc (Nat.le_refl _) _).alloc (by simp) _
  cases hM : isManB xss with
  | false =>
    have hF : secF xss x i k = ([], 1) := by unfold secF; rw [hM]; rfl
    replace hF := Lib.hid hF
    have hcode : codeF xss x i k = 1 := by unfold codeF; rw [hM]; try rfl
    replace hcode := Lib.hid hcode
    replace hM := Lib.hid hM
    replace hl := Lib.hid hl
    go_enter Try.func60, Try.ntmps60
    go_wp2_with fail
    obtain ⟨W1, hW⟩ : ∃ W1 : World, (w.alloc (.cells #[.slice A n c] 40)).alloc (.cells #[.slice none 0 0] 40) = W1 := ⟨_, rfl⟩
    have hz1 : W1.heap.size = w.heap.size + 2 := by rw [← hW]; simp
    rw [hW] at hR hC hB hQ ⊢
    replace hQ := Lib.hid hQ
    clear hW h 
    ((with_reducible refine (l04Code_any A n c xss x _ _ _ hR (by omega) ⟨hx0, hx1⟩).mono ?_); rintro e w2 ⟨rfl, f2⟩)
    rw [hcode.out]
    have y2 := f2.size
    have B2 : Below W1.heap.size W1 w2 := f2
    have C2 := (f2.cell (p := ⟨w.heap.size, 0, none⟩) (by simp; omega)).trans hC
    have R2 := hR.below f2 (by omega)
    have Q2 := (B2.block (w.heap.size + 1) (by omega)).trans hQ.out
    have CQ2 : w2.cell? ⟨w.heap.size + 1, 0, none⟩ = some (.slice none 0 0) := by rw [cell_of_row _ _ _ _ _ _ Q2]; rfl
    have FQ2 : w2.frozen? ⟨w.heap.size + 1, 0, none⟩ = false := frozen_of_row _ _ _ _ _ Q2
    replace Q2 := Lib.hid Q2
    go_wp2_with fail
    have g2 := heap_setCell_same _ _ 0 _ _ (Value.slice none 0 0) Q2.out
    (try simp only [Exit.inBlock, Exit.then])
    refine bodyPost_ret (v := .tuple #[.agg #[.slice none 0 0], .int .i64 1]) ?_ rfl ?_
    · exact results_cell_row2 rfl _ _ (w.heap.size + 1) 40 #[.slice none 0 0] (0, 0) _ rfl (by simpa using g2) Try.underlying40 rfl (by kernel_rfl) _ rfl
    · exact ⟨_, 0, _, [], _, rfl, Lib.hid hF.out.symm, OwnS.nil, by simp [numsIn], (hB.trans (B2.mono (by omega))).setCell (by simp) _⟩
  | true =>
    have hP := isManB_iff.1 hM
    have hn1 : 1 ≤ n := by have := hP.r1; omega
    have hn5 : n ≤ 5 := by have := hP.r5; omega
    have hf2 := hP.f2
    have hf4 := hP.f4
    have hS := hP.sys
    replace hP := Lib.hid hP
    replace hS := Lib.hid hS
    cases hF1 : inR 0 ((flg xss : Nat) - 1 : Int) x with
    | false =>
      have hF : secF xss x i k = ([], 2) := by unfold secF; rw [if_pos hM, hF1]; rfl
      replace hF := Lib.hid hF
      have hcode : codeF xss x i k = 2 := by unfold codeF; rw [if_pos hM, hF1]; try rfl
      replace hcode := Lib.hid hcode
      replace hM := Lib.hid hM
      replace hl := Lib.hid hl
      replace hF1 := Lib.hid hF1
      go_enter Try.func60, Try.ntmps60
      go_wp2_with fail
      obtain ⟨W1, hW⟩ : ∃ W1 : World, (w.alloc (.cells #[.slice A n c] 40)).alloc (.cells #[.slice none 0 0] 40) = W1 := ⟨_, rfl⟩
      have hz1 : W1.heap.size = w.heap.size + 2 := by rw [← hW]; simp
      rw [hW] at hR hC hB hQ ⊢
      replace hQ := Lib.hid hQ
      clear hW h 
      ((with_reducible refine (l04Code_any A n c xss x _ _ _ hR (by omega) ⟨hx0, hx1⟩).mono ?_); rintro e w2 ⟨rfl, f2⟩)
      rw [hcode.out]
      have y2 := f2.size
      have B2 : Below W1.heap.size W1 w2 := f2
      have C2 := (f2.cell (p := ⟨w.heap.size, 0, none⟩) (by simp; omega)).trans hC
      have R2 := hR.below f2 (by omega)
      have Q2 := (B2.block (w.heap.size + 1) (by omega)).trans hQ.out
      have CQ2 : w2.cell? ⟨w.heap.size + 1, 0, none⟩ = some (.slice none 0 0) := by rw [cell_of_row _ _ _ _ _ _ Q2]; rfl
      have FQ2 : w2.frozen? ⟨w.heap.size + 1, 0, none⟩ = false := frozen_of_row _ _ _ _ _ Q2
      replace Q2 := Lib.hid Q2
      go_wp2_with fail
      have g2 := heap_setCell_same _ _ 0 _ _ (Value.slice none 0 0) Q2.out
      (try simp only [Exit.inBlock, Exit.then])
      refine bodyPost_ret (v := .tuple #[.agg #[.slice none 0 0], .int .i64 2]) ?_ rfl ?_
      · exact results_cell_row2 rfl _ _ (w.heap.size + 1) 40 #[.slice none 0 0] (0, 0) _ rfl (by simpa using g2) Try.underlying40 rfl (by kernel_rfl) _ rfl
      · exact ⟨_, 0, _, [], _, rfl, Lib.hid hF.out.symm, OwnS.nil, by simp [numsIn], (hB.trans (B2.mono (by omega))).setCell (by simp) _⟩
    | true =>
      obtain ⟨hxa, hxb⟩ := inR_iff.1 hF1
      have hxc : x < (flg xss : Nat) := by omega
      cases hF2 : okR xss.length i k with
      | false =>
        have hF : secF xss x i k = ([], 2) := by unfold secF; rw [if_pos hM, if_pos hF1, hF2]; rfl
        replace hF := Lib.hid hF
        have hcode : codeF xss x i k = 2 := by unfold codeF; rw [if_pos hM, if_pos hF1, hF2]; try rfl
        replace hcode := Lib.hid hcode
        replace hM := Lib.hid hM
        replace hl := Lib.hid hl
        replace hF1 := Lib.hid hF1
        replace hF2 := Lib.hid hF2
        go_enter Try.func60, Try.ntmps60
        go_wp2_with fail
        obtain ⟨W1, hW⟩ : ∃ W1 : World, (w.alloc (.cells #[.slice A n c] 40)).alloc (.cells #[.slice none 0 0] 40) = W1 := ⟨_, rfl⟩
        have hz1 : W1.heap.size = w.heap.size + 2 := by rw [← hW]; simp
        rw [hW] at hR hC hB hQ ⊢
        replace hQ := Lib.hid hQ
        clear hW h 
        ((with_reducible refine (l04Code_any A n c xss x _ _ _ hR (by omega) ⟨hx0, hx1⟩).mono ?_); rintro e w2 ⟨rfl, f2⟩)
        rw [hcode.out]
        have y2 := f2.size
        have B2 : Below W1.heap.size W1 w2 := f2
        have C2 := (f2.cell (p := ⟨w.heap.size, 0, none⟩) (by simp; omega)).trans hC
        have R2 := hR.below f2 (by omega)
        have Q2 := (B2.block (w.heap.size + 1) (by omega)).trans hQ.out
        have CQ2 : w2.cell? ⟨w.heap.size + 1, 0, none⟩ = some (.slice none 0 0) := by rw [cell_of_row _ _ _ _ _ _ Q2]; rfl
        have FQ2 : w2.frozen? ⟨w.heap.size + 1, 0, none⟩ = false := frozen_of_row _ _ _ _ _ Q2
        replace Q2 := Lib.hid Q2
        go_wp2_with fail
        have g2 := heap_setCell_same _ _ 0 _ _ (Value.slice none 0 0) Q2.out
        (try simp only [Exit.inBlock, Exit.then])
        refine bodyPost_ret (v := .tuple #[.agg #[.slice none 0 0], .int .i64 2]) ?_ rfl ?_
        · exact results_cell_row2 rfl _ _ (w.heap.size + 1) 40 #[.slice none 0 0] (0, 0) _ rfl (by simpa using g2) Try.underlying40 rfl (by kernel_rfl) _ rfl
        · exact ⟨_, 0, _, [], _, rfl, Lib.hid hF.out.symm, OwnS.nil, by simp [numsIn], (hB.trans (B2.mono (by omega))).setCell (by simp) _⟩
      | true =>
        obtain ⟨hi0, hik0, hkn0⟩ := okR_iff.1 hF2
        rw [hl] at hkn0
        obtain ⟨i, rfl⟩ : ∃ q : Nat, i = q := ⟨i.toNat, by omega⟩
        obtain ⟨k, rfl⟩ : ∃ q : Nat, k = q := ⟨k.toNat, by omega⟩
        obtain ⟨b0, o0, A0, n0, c0, p0, rfl, _, _, _, _, _⟩ := h.at_ (k := 0) (by omega)
        have hik : i ≤ k := by omega
        have hkn : k < n := by omega
        have hci : ¬ c = i := by omega
        have hic : i ≤ c := by omega
        have hI1 : (i : Int) ≤ (k : Int) + 1 := by omega
        have hI2 : (k : Int) + 1 ≤ (n : Int) := by omega
        have hI3 : (k : Int) + 1 ≤ (c : Int) := by omega
        have hcode : codeF xss x i k = 0 := by unfold codeF; rw [if_pos hM, if_pos hF1, if_pos hF2]; try rfl
        replace hcode := Lib.hid hcode
        have hF : secF xss x i k = (formL (subL xss i (k + 1)) (flg xss) x, 0) := by unfold secF; rw [if_pos hM, if_pos hF1, if_pos hF2]; rw [Int.toNat_natCast, Int.toNat_natCast]
        have hsl : (subL xss i (k + 1)).length = k + 1 - i := subL_length (by omega) (by omega)
        have hnum := formL_nums (sysOf_sub hS.out i (k + 1)) hxa hxc hf4 (by omega)
        rw [formL_length, hsl] at hnum
        replace hsl := Lib.hid hsl
        replace hF := Lib.hid hF
        replace hM := Lib.hid hM
        replace hl := Lib.hid hl
        replace hF1 := Lib.hid hF1
        replace hF2 := Lib.hid hF2
        go_enter Try.func60, Try.ntmps60
        go_wp2_with fail
        obtain ⟨W1, hW⟩ : ∃ W1 : World, (w.alloc (.cells #[.slice (some ⟨b0, o0, none⟩) n c] 40)).alloc (.cells #[.slice none 0 0] 40) = W1 := ⟨_, rfl⟩
        have hz1 : W1.heap.size = w.heap.size + 2 := by rw [← hW]; simp
        rw [hW] at hR hC hB hQ ⊢
        replace hQ := Lib.hid hQ
        clear hW h 
        ((with_reducible refine (l04Code_any (some ⟨b0, o0, none⟩) n c xss x _ _ _ hR (by omega) ⟨hx0, hx1⟩).mono ?_); rintro e w2 ⟨rfl, f2⟩)
        rw [hcode.out]
        have y2 := f2.size
        have B2 : Below W1.heap.size W1 w2 := f2
        have C2 := (f2.cell (p := ⟨w.heap.size, 0, none⟩) (by simp; omega)).trans hC
        have R2 := hR.below f2 (by omega)
        have Q2 := (B2.block (w.heap.size + 1) (by omega)).trans hQ.out
        have CQ2 : w2.cell? ⟨w.heap.size + 1, 0, none⟩ = some (.slice none 0 0) := by rw [cell_of_row _ _ _ _ _ _ Q2]; rfl
        have FQ2 : w2.frozen? ⟨w.heap.size + 1, 0, none⟩ = false := frozen_of_row _ _ _ _ _ Q2
        replace Q2 := Lib.hid Q2
        go_wp2_with fail
        ((with_reducible refine (l04Section_any (flg xss) (some ⟨b0, o0, none⟩) n c xss x i k _ _ rfl rfl _ R2 (by omega) hnc hik hkn (by omega) rfl hf4 hS.out hxa hxc).mono ?_); rintro e w9 ⟨A9, c9, rfl, o9, f9⟩)
        have B9 : Below W1.heap.size W1 w9 := below_then B2 f9 (by omega)
        have Q9 := (B9.block (w.heap.size + 1) (by omega)).trans hQ.out
        have CQ9 : w9.cell? ⟨w.heap.size + 1, 0, none⟩ = some (.slice none 0 0) := by rw [cell_of_row _ _ _ _ _ _ Q9]; rfl
        have FQ9 : w9.frozen? ⟨w.heap.size + 1, 0, none⟩ = false := frozen_of_row _ _ _ _ _ Q9
        replace Q9 := Lib.hid Q9
        go_wp2_with fail
        have g2 := heap_setCell_same _ _ 0 _ _ (Value.slice A9 (k + 1 - i) c9) Q9.out
        (try simp only [Exit.inBlock, Exit.then])
        refine bodyPost_ret (v := .tuple #[.agg #[.slice A9 (k + 1 - i) c9], .int .i64 0]) ?_ rfl ?_
        · exact results_cell_row2 rfl _ _ (w.heap.size + 1) 40 #[.slice A9 (k + 1 - i) c9] (0, 0) _ rfl (by simpa using g2) Try.underlying40 rfl (by kernel_rfl) _ rfl
        · exact ⟨A9, _, c9, _, _, rfl, Lib.hid hF.out.symm, (o9.keep (same_set _ _ _ _ _ (.inl (by simp; omega)))).more (by omega) (by simp), hnum, (hB.trans (B9.mono (by omega))).setCell (by simp) _⟩
set_option maxHeartbeats 4000000 in
theorem i_SectionAt_any (w : World) (A : Option Addr) (n c : Nat) (xss : List (List Int)) {lo hi : Nat} (h : RS w lo hi A n xss) (hhi : hi ≤ w.heap.size) (hnc : n ≤ c) (x : Int) (hx : -9223372036854775808 ≤ x ∧ x ≤ 9223372036854775807) (i : Int) (hi2 : -9223372036854775808 ≤ i ∧ i ≤ 9223372036854775807) (k : Int) (hk2 : -9223372036854775808 ≤ k ∧ k ≤ 9223372036854775807) :
    Calls Try.prog 50 #[.agg #[.slice A n c], .int .i64 x, .int .i64 i, .int .i64 k] w fun e w' => ∃ (A1 : Option Addr) (n1 c1 : Nat) (zss : List (List Int)) (code : Int), e = .returned (.tuple #[.agg #[.slice A1 n1 c1], .int .i64 code]) ∧ Hid ((zss, code) = secF xss x i k) ∧ OwnS w' w.heap.size w'.heap.size 27 2 A1 n1 c1 zss ∧ n1 + numsIn zss ≤ 1048576 ∧ Below w.heap.size w w' := by
  have hm := h.max
  have hl := h.len
  obtain ⟨hx0, hx1⟩ := hx
  obtain ⟨hi3, hi4⟩ := hi2
  obtain ⟨hk3, hk4⟩ := hk2
  have hR := rs_alloc (rs_alloc h hhi (.cells #[.slice A n c] 40)) (by simp; omega) (.cells #[.slice none 0 0] 40)
  have hC : ((w.alloc (.cells #[.slice A n c] 40)).alloc (.cells #[.slice none 0 0] 40)).cell? ⟨w.heap.size, 0, none⟩ = some (.slice A n c) := (al_old _ _ _ _ (by simp)).trans (al_new _ _ _ _ rfl)
  have hQ : ((w.alloc (.cells #[.slice A n c] 40)).alloc (.cells #[.slice none 0 0] 40)).heap[w.heap.size + 1]? = some (.cells #[.slice none 0 0] 40 (0, 0)) := heap_new _ _ _ (by simp)
  have hB : Below w.heap.size w ((w.alloc (.cells #[.slice A n c] 40)).alloc (.cells #[.slice none 0 0] 40)) := ((Below.refl _ _).alloc (Nat.le_refl _) _).alloc (by simp) _
  cases hM : isManB xss with
  | false =>
    have hF : secF xss x i k = ([], 1) := by unfold secF; rw [hM]; rfl
    replace hF := Lib.hid hF
    replace hM := Lib.hid hM
    replace hl := Lib.hid hl
    go_enter Try.func50, Try.ntmps50
    go_wp2_with fail
    obtain ⟨W1, hW⟩ : ∃ W1 : World, (w.alloc (.cells #[.slice A n c] 40)).alloc (.cells #[.slice none 0 0] 40) = W1 := ⟨_, rfl⟩
    have hz1 : W1.heap.size = w.heap.size + 2 := by rw [← hW]; simp
    rw [hW] at hR hC hB hQ ⊢
    replace hQ := Lib.hid hQ
    clear hW h 
    ((with_reducible refine (isMan_any A n c xss _ hR (by omega) hnc).mono ?_); rintro e w2 ⟨rfl, f2⟩)
    rw [hM.out]
    have y2 := f2.size
    have B2 : Below W1.heap.size W1 w2 := f2
    have C2 := (f2.cell (p := ⟨w.heap.size, 0, none⟩) (by simp; omega)).trans hC
    have R2 := hR.below f2 (by omega)
    have Q2 := (B2.block (w.heap.size + 1) (by omega)).trans hQ.out
    have CQ2 : w2.cell? ⟨w.heap.size + 1, 0, none⟩ = some (.slice none 0 0) := by rw [cell_of_row _ _ _ _ _ _ Q2]; rfl
    have FQ2 : w2.frozen? ⟨w.heap.size + 1, 0, none⟩ = false := frozen_of_row _ _ _ _ _ Q2
    replace Q2 := Lib.hid Q2
    go_wp2_with fail
    have g2 := heap_setCell_same _ _ 0 _ _ (Value.slice none 0 0) Q2.out
    (try simp only [Exit.inBlock, Exit.then])
    refine bodyPost_ret (v := .tuple #[.agg #[.slice none 0 0], .int .i64 1]) ?_ rfl ?_
    · exact results_cell_row2 rfl _ _ (w.heap.size + 1) 40 #[.slice none 0 0] (0, 0) _ rfl (by simpa using g2) Try.underlying40 rfl (by kernel_rfl) _ rfl
    · exact ⟨_, 0, _, [], _, rfl, Lib.hid hF.out.symm, OwnS.nil, by simp [numsIn], (hB.trans (B2.mono (by omega))).setCell (by simp) _⟩
  | true =>
    have hP := isManB_iff.1 hM
    have hn1 : 1 ≤ n := by have := hP.r1; omega
    have hn5 : n ≤ 5 := by have := hP.r5; omega
    have hf2 := hP.f2
    have hf4 := hP.f4
    have hS := hP.sys
    replace hP := Lib.hid hP
    replace hS := Lib.hid hS
    cases hF1 : inR 0 ((flg xss : Nat) - 1 : Int) x with
    | false =>
      have hF : secF xss x i k = ([], 2) := by unfold secF; rw [if_pos hM, hF1]; rfl
      replace hF := Lib.hid hF
      replace hM := Lib.hid hM
      replace hl := Lib.hid hl
      replace hF1 := Lib.hid hF1
      go_enter Try.func50, Try.ntmps50
      go_wp2_with fail
      obtain ⟨W1, hW⟩ : ∃ W1 : World, (w.alloc (.cells #[.slice A n c] 40)).alloc (.cells #[.slice none 0 0] 40) = W1 := ⟨_, rfl⟩
      have hz1 : W1.heap.size = w.heap.size + 2 := by rw [← hW]; simp
      rw [hW] at hR hC hB hQ ⊢
      replace hQ := Lib.hid hQ
      clear hW h 
      ((with_reducible refine (isMan_any A n c xss _ hR (by omega) hnc).mono ?_); rintro e w2 ⟨rfl, f2⟩)
      rw [hM.out]
      have y2 := f2.size
      have B2 : Below W1.heap.size W1 w2 := f2
      have C2 := (f2.cell (p := ⟨w.heap.size, 0, none⟩) (by simp; omega)).trans hC
      have R2 := hR.below f2 (by omega)
      have Q2 := (B2.block (w.heap.size + 1) (by omega)).trans hQ.out
      have CQ2 : w2.cell? ⟨w.heap.size + 1, 0, none⟩ = some (.slice none 0 0) := by rw [cell_of_row _ _ _ _ _ _ Q2]; rfl
      have FQ2 : w2.frozen? ⟨w.heap.size + 1, 0, none⟩ = false := frozen_of_row _ _ _ _ _ Q2
      replace Q2 := Lib.hid Q2
      go_wp2_with fail
      ((with_reducible refine (hasFlag_any _ A n c xss x _ C2 R2 (by omega) hf4).mono ?_); rintro e w' ⟨rfl, rfl⟩)
      rw [hF1.out]
      go_wp2_with fail
      have g2 := heap_setCell_same _ _ 0 _ _ (Value.slice none 0 0) Q2.out
      (try simp only [Exit.inBlock, Exit.then])
      refine bodyPost_ret (v := .tuple #[.agg #[.slice none 0 0], .int .i64 2]) ?_ rfl ?_
      · exact results_cell_row2 rfl _ _ (w.heap.size + 1) 40 #[.slice none 0 0] (0, 0) _ rfl (by simpa using g2) Try.underlying40 rfl (by kernel_rfl) _ rfl
      · exact ⟨_, 0, _, [], _, rfl, Lib.hid hF.out.symm, OwnS.nil, by simp [numsIn], (hB.trans (B2.mono (by omega))).setCell (by simp) _⟩
    | true =>
      obtain ⟨hxa, hxb⟩ := inR_iff.1 hF1
      have hxc : x < (flg xss : Nat) := by omega
      cases hF2 : okR xss.length i k with
      | false =>
        have hF : secF xss x i k = ([], 2) := by unfold secF; rw [if_pos hM, if_pos hF1, hF2]; rfl
        replace hF := Lib.hid hF
        replace hM := Lib.hid hM
        replace hl := Lib.hid hl
        replace hF1 := Lib.hid hF1
        replace hF2 := Lib.hid hF2
        go_enter Try.func50, Try.ntmps50
        go_wp2_with fail
        obtain ⟨W1, hW⟩ : ∃ W1 : World, (w.alloc (.cells #[.slice A n c] 40)).alloc (.cells #[.slice none 0 0] 40) = W1 := ⟨_, rfl⟩
        have hz1 : W1.heap.size = w.heap.size + 2 := by rw [← hW]; simp
        rw [hW] at hR hC hB hQ ⊢
        replace hQ := Lib.hid hQ
        clear hW h 
        ((with_reducible refine (isMan_any A n c xss _ hR (by omega) hnc).mono ?_); rintro e w2 ⟨rfl, f2⟩)
        rw [hM.out]
        have y2 := f2.size
        have B2 : Below W1.heap.size W1 w2 := f2
        have C2 := (f2.cell (p := ⟨w.heap.size, 0, none⟩) (by simp; omega)).trans hC
        have R2 := hR.below f2 (by omega)
        have Q2 := (B2.block (w.heap.size + 1) (by omega)).trans hQ.out
        have CQ2 : w2.cell? ⟨w.heap.size + 1, 0, none⟩ = some (.slice none 0 0) := by rw [cell_of_row _ _ _ _ _ _ Q2]; rfl
        have FQ2 : w2.frozen? ⟨w.heap.size + 1, 0, none⟩ = false := frozen_of_row _ _ _ _ _ Q2
        replace Q2 := Lib.hid Q2
        go_wp2_with fail
        ((with_reducible refine (hasFlag_any _ A n c xss x _ C2 R2 (by omega) hf4).mono ?_); rintro e w' ⟨rfl, rfl⟩)
        rw [hF1.out]
        go_wp2_with fail
        ((with_reducible refine (areRanks_any _ A n c xss _ _ _ C2 (by omega) hl.out).mono ?_); rintro e w' ⟨rfl, rfl⟩)
        rw [hF2.out]
        go_wp2_with fail
        have g2 := heap_setCell_same _ _ 0 _ _ (Value.slice none 0 0) Q2.out
        (try simp only [Exit.inBlock, Exit.then])
        refine bodyPost_ret (v := .tuple #[.agg #[.slice none 0 0], .int .i64 2]) ?_ rfl ?_
        · exact results_cell_row2 rfl _ _ (w.heap.size + 1) 40 #[.slice none 0 0] (0, 0) _ rfl (by simpa using g2) Try.underlying40 rfl (by kernel_rfl) _ rfl
        · exact ⟨_, 0, _, [], _, rfl, Lib.hid hF.out.symm, OwnS.nil, by simp [numsIn], (hB.trans (B2.mono (by omega))).setCell (by simp) _⟩
      | true =>
        obtain ⟨hi0, hik0, hkn0⟩ := okR_iff.1 hF2
        rw [hl] at hkn0
        obtain ⟨i, rfl⟩ : ∃ q : Nat, i = q := ⟨i.toNat, by omega⟩
        obtain ⟨k, rfl⟩ : ∃ q : Nat, k = q := ⟨k.toNat, by omega⟩
        obtain ⟨b0, o0, A0, n0, c0, p0, rfl, _, _, _, _, _⟩ := h.at_ (k := 0) (by omega)
        have hik : i ≤ k := by omega
        have hkn : k < n := by omega
        have hci : ¬ c = i := by omega
        have hic : i ≤ c := by omega
        have hI1 : (i : Int) ≤ (k : Int) + 1 := by omega
        have hI2 : (k : Int) + 1 ≤ (n : Int) := by omega
        have hI3 : (k : Int) + 1 ≤ (c : Int) := by omega
        have hF : secF xss x i k = (formL (subL xss i (k + 1)) (flg xss) x, 0) := by unfold secF; rw [if_pos hM, if_pos hF1, if_pos hF2]; rw [Int.toNat_natCast, Int.toNat_natCast]
        have hsl : (subL xss i (k + 1)).length = k + 1 - i := subL_length (by omega) (by omega)
        have hnum := formL_nums (sysOf_sub hS.out i (k + 1)) hxa hxc hf4 (by omega)
        rw [formL_length, hsl] at hnum
        replace hsl := Lib.hid hsl
        replace hF := Lib.hid hF
        replace hM := Lib.hid hM
        replace hl := Lib.hid hl
        replace hF1 := Lib.hid hF1
        replace hF2 := Lib.hid hF2
        go_enter Try.func50, Try.ntmps50
        go_wp2_with fail
        obtain ⟨W1, hW⟩ : ∃ W1 : World, (w.alloc (.cells #[.slice (some ⟨b0, o0, none⟩) n c] 40)).alloc (.cells #[.slice none 0 0] 40) = W1 := ⟨_, rfl⟩
        have hz1 : W1.heap.size = w.heap.size + 2 := by rw [← hW]; simp
        rw [hW] at hR hC hB hQ ⊢
        replace hQ := Lib.hid hQ
        clear hW h 
        ((with_reducible refine (isMan_any (some ⟨b0, o0, none⟩) n c xss _ hR (by omega) hnc).mono ?_); rintro e w2 ⟨rfl, f2⟩)
        rw [hM.out]
        have y2 := f2.size
        have B2 : Below W1.heap.size W1 w2 := f2
        have C2 := (f2.cell (p := ⟨w.heap.size, 0, none⟩) (by simp; omega)).trans hC
        have R2 := hR.below f2 (by omega)
        have Q2 := (B2.block (w.heap.size + 1) (by omega)).trans hQ.out
        have CQ2 : w2.cell? ⟨w.heap.size + 1, 0, none⟩ = some (.slice none 0 0) := by rw [cell_of_row _ _ _ _ _ _ Q2]; rfl
        have FQ2 : w2.frozen? ⟨w.heap.size + 1, 0, none⟩ = false := frozen_of_row _ _ _ _ _ Q2
        replace Q2 := Lib.hid Q2
        go_wp2_with fail
        ((with_reducible refine (hasFlag_any _ (some ⟨b0, o0, none⟩) n c xss x _ C2 R2 (by omega) hf4).mono ?_); rintro e w' ⟨rfl, rfl⟩)
        rw [hF1.out]
        go_wp2_with fail
        ((with_reducible refine (areRanks_any _ (some ⟨b0, o0, none⟩) n c xss _ _ _ C2 (by omega) hl.out).mono ?_); rintro e w' ⟨rfl, rfl⟩)
        rw [hF2.out]
        go_wp2_with fail
        ((with_reducible refine (formFrom_any (flg xss) (some ⟨b0, o0 + i, none⟩) (k + 1 - i) (c - i) (subL xss i (k + 1)) x _ (rs_sub R2 (by omega) (by omega) (fun _ => rfl)) (by omega) (by omega) (by omega) hf4 (sysOf_sub hS.out i (k + 1)) hxa hxc).mono ?_); rintro e w9 ⟨A9, c9, rfl, o9, f9⟩)
        have B9 : Below W1.heap.size W1 w9 := below_then B2 f9 (by omega)
        have Q9 := (B9.block (w.heap.size + 1) (by omega)).trans hQ.out
        have CQ9 : w9.cell? ⟨w.heap.size + 1, 0, none⟩ = some (.slice none 0 0) := by rw [cell_of_row _ _ _ _ _ _ Q9]; rfl
        have FQ9 : w9.frozen? ⟨w.heap.size + 1, 0, none⟩ = false := frozen_of_row _ _ _ _ _ Q9
        replace Q9 := Lib.hid Q9
        go_wp2_with fail
        have g2 := heap_setCell_same _ _ 0 _ _ (Value.slice A9 (k + 1 - i) c9) Q9.out
        (try simp only [Exit.inBlock, Exit.then])
        refine bodyPost_ret (v := .tuple #[.agg #[.slice A9 (k + 1 - i) c9], .int .i64 0]) ?_ rfl ?_
        · exact results_cell_row2 rfl _ _ (w.heap.size + 1) 40 #[.slice A9 (k + 1 - i) c9] (0, 0) _ rfl (by simpa using g2) Try.underlying40 rfl (by kernel_rfl) _ rfl
        · exact ⟨A9, _, c9, _, _, rfl, Lib.hid hF.out.symm, (o9.keep (same_set _ _ _ _ _ (.inl (by simp; omega)))).more (by omega) (by simp), hnum, (hB.trans (B9.mono (by omega))).setCell (by simp) _⟩
end Go.Proofs.Ytdaljeghdiknpaa
/- FormX -/
namespace Go.Proofs.Ytdaljeghdiknpaa
open Go.RowKit
set_option linter.unusedVariables false
set_option maxRecDepth 100000
/-- what FormFrom returns -/
noncomputable def formF (xss : List (List Int)) (x : Int) : List (List Int) × Int :=
  if isManB xss = true then (if inR 0 ((flg xss : Nat) - 1 : Int) x = true then (formL xss (flg xss) x, 0) else ([], 2)) else ([], 1)
set_option maxHeartbeats 4000000 in
theorem i_FormFrom_any (w : World) (A : Option Addr) (n c : Nat) (xss : List (List Int)) {lo hi : Nat} (h : RS w lo hi A n xss) (hhi : hi ≤ w.heap.size) (hnc : n ≤ c) (x : Int) (hx : -9223372036854775808 ≤ x ∧ x ≤ 9223372036854775807) :
    Calls Try.prog 61 #[.agg #[.slice A n c], .int .i64 x] w fun e w' => ∃ (A1 : Option Addr) (n1 c1 : Nat) (zss : List (List Int)) (code : Int), e = .returned (.tuple #[.agg #[.slice A1 n1 c1], .int .i64 code]) ∧ Hid ((zss, code) = formF xss x) ∧ OwnS w' w.heap.size w'.heap.size 27 2 A1 n1 c1 zss ∧ n1 + numsIn zss ≤ 1048576 ∧ Below w.heap.size w w' := by
  have hm := h.max
  have hl := h.len
  obtain ⟨hx0, hx1⟩ := hx
  have hR := rs_alloc (rs_alloc h hhi (.cells #[.slice A n c] 40)) (by simp; omega) (.cells #[.slice none 0 0] 40)
  have hC : ((w.alloc (.cells #[.slice A n c] 40)).alloc (.cells #[.slice none 0 0] 40)).cell? ⟨w.heap.size, 0, none⟩ = some (.slice A n c) := (al_old _ _ _ _ (by simp)).trans (al_new _ _ _ _ rfl)
  have hQ : ((w.alloc (.cells #[.slice A n c] 40)).alloc (.cells #[.slice none 0 0] 40)).heap[w.heap.size + 1]? = some (.cells #[.slice none 0 0] 40 (0, 0)) := heap_new _ _ _ (by simp)
  have hB : Below w.heap.size w ((w.alloc (.cells #[.slice A n c] 40)).alloc (.cells #[.slice none 0 0] 40)) := ((Below.refl _ _).alloc (Nat.le_refl _) _).alloc (by simp) _
  cases hM : isManB xss with
  | false =>
    have hF : formF xss x = ([], 1) := by unfold formF; rw [hM]; rfl
    replace hF := Lib.hid hF
    replace hM := Lib.hid hM
    replace hl := Lib.hid hl
    go_enter Try.func61, Try.ntmps61
    go_wp2_with fail
    obtain ⟨W1, hW⟩ : ∃ W1 : World, (w.alloc (.cells #[.slice A n c] 40)).alloc (.cells #[.slice none 0 0] 40) = W1 := ⟨_, rfl⟩
    have hz1 : W1.heap.size = w.heap.size + 2 := by rw [← hW]; simp
    rw [hW] at hR hC hB hQ ⊢
    replace hQ := Lib.hid hQ
    clear hW h 
    ((with_reducible refine (isMan_any A n c xss _ hR (by omega) hnc).mono ?_); rintro e w2 ⟨rfl, f2⟩)
    rw [hM.out]
    have y2 := f2.size
    have B2 : Below W1.heap.size W1 w2 := f2
    have C2 := (f2.cell (p := ⟨w.heap.size, 0, none⟩) (by simp; omega)).trans hC
    have R2 := hR.below f2 (by omega)
    have Q2 := (B2.block (w.heap.size + 1) (by omega)).trans hQ.out
    have CQ2 : w2.cell? ⟨w.heap.size + 1, 0, none⟩ = some (.slice none 0 0) := by rw [cell_of_row _ _ _ _ _ _ Q2]; rfl
    have FQ2 : w2.frozen? ⟨w.heap.size + 1, 0, none⟩ = false := frozen_of_row _ _ _ _ _ Q2
    replace Q2 := Lib.hid Q2
    go_wp2_with fail
    have g2 := heap_setCell_same _ _ 0 _ _ (Value.slice none 0 0) Q2.out
    (try simp only [Exit.inBlock, Exit.then])
    refine bodyPost_ret (v := .tuple #[.agg #[.slice none 0 0], .int .i64 1]) ?_ rfl ?_
    · exact results_cell_row2 rfl _ _ (w.heap.size + 1) 40 #[.slice none 0 0] (0, 0) _ rfl (by simpa using g2) Try.underlying40 rfl (by kernel_rfl) _ rfl
    · exact ⟨_, 0, _, [], _, rfl, Lib.hid hF.out.symm, OwnS.nil, by simp [numsIn], (hB.trans (B2.mono (by omega))).setCell (by simp) _⟩
  | true =>
    have hP := isManB_iff.1 hM
    have hn1 : 1 ≤ n := by have := hP.r1; omega
    have hn5 : n ≤ 5 := by have := hP.r5; omega
    have hf2 := hP.f2
    have hf4 := hP.f4
    have hS := hP.sys
    replace hP := Lib.hid hP
    replace hS := Lib.hid hS
    cases hF1 : inR 0 ((flg xss : Nat) - 1 : Int) x with
    | false =>
      have hF : formF xss x = ([], 2) := by unfold formF; rw [if_pos hM, hF1]; rfl
      replace hF := Lib.hid hF
      replace hM := Lib.hid hM
      replace hl := Lib.hid hl
      replace hF1 := Lib.hid hF1
      go_enter Try.func61, Try.ntmps61
      go_wp2_with fail
      obtain ⟨W1, hW⟩ : ∃ W1 : World, (w.alloc (.cells #[.slice A n c] 40)).alloc (.cells #[.slice none 0 0] 40) = W1 := ⟨_, rfl⟩
      have hz1 : W1.heap.size = w.heap.size + 2 := by rw [← hW]; simp
      rw [hW] at hR hC hB hQ ⊢
      replace hQ := Lib.hid hQ
      clear hW h 
      ((with_reducible refine (isMan_any A n c xss _ hR (by omega) hnc).mono ?_); rintro e w2 ⟨rfl, f2⟩)
      rw [hM.out]
      have y2 := f2.size
      have B2 : Below W1.heap.size W1 w2 := f2
      have C2 := (f2.cell (p := ⟨w.heap.size, 0, none⟩) (by simp; omega)).trans hC
      have R2 := hR.below f2 (by omega)
      have Q2 := (B2.block (w.heap.size + 1) (by omega)).trans hQ.out
      have CQ2 : w2.cell? ⟨w.heap.size + 1, 0, none⟩ = some (.slice none 0 0) := by rw [cell_of_row _ _ _ _ _ _ Q2]; rfl
      have FQ2 : w2.frozen? ⟨w.heap.size + 1, 0, none⟩ = false := frozen_of_row _ _ _ _ _ Q2
      replace Q2 := Lib.hid Q2
      go_wp2_with fail
      ((with_reducible refine (hasFlag_any _ A n c xss x _ C2 R2 (by omega) hf4).mono ?_); rintro e w' ⟨rfl, rfl⟩)
      rw [hF1.out]
      go_wp2_with fail
      have g2 := heap_setCell_same _ _ 0 _ _ (Value.slice none 0 0) Q2.out
      (try simp only [Exit.inBlock, Exit.then])
      refine bodyPost_ret (v := .tuple #[.agg #[.slice none 0 0], .int .i64 2]) ?_ rfl ?_
      · exact results_cell_row2 rfl _ _ (w.heap.size + 1) 40 #[.slice none 0 0] (0, 0) _ rfl (by simpa using g2) Try.underlying40 rfl (by kernel_rfl) _ rfl
      · exact ⟨_, 0, _, [], _, rfl, Lib.hid hF.out.symm, OwnS.nil, by simp [numsIn], (hB.trans (B2.mono (by omega))).setCell (by simp) _⟩
    | true =>
      obtain ⟨hxa, hxb⟩ := inR_iff.1 hF1
      have hxc : x < (flg xss : Nat) := by omega
      have hF : formF xss x = (formL xss (flg xss) x, 0) := by unfold formF; rw [if_pos hM, if_pos hF1]
      have hnum := formL_nums hS.out hxa hxc hf4 (by omega)
      rw [formL_length, hl] at hnum
      replace hF := Lib.hid hF
      replace hM := Lib.hid hM
      replace hl := Lib.hid hl
      replace hF1 := Lib.hid hF1
      go_enter Try.func61, Try.ntmps61
      go_wp2_with fail
      obtain ⟨W1, hW⟩ : ∃ W1 : World, (w.alloc (.cells #[.slice A n c] 40)).alloc (.cells #[.slice none 0 0] 40) = W1 := ⟨_, rfl⟩
      have hz1 : W1.heap.size = w.heap.size + 2 := by rw [← hW]; simp
      rw [hW] at hR hC hB hQ ⊢
      replace hQ := Lib.hid hQ
      clear hW h 
      ((with_reducible refine (isMan_any A n c xss _ hR (by omega) hnc).mono ?_); rintro e w2 ⟨rfl, f2⟩)
      rw [hM.out]
      have y2 := f2.size
      have B2 : Below W1.heap.size W1 w2 := f2
      have C2 := (f2.cell (p := ⟨w.heap.size, 0, none⟩) (by simp; omega)).trans hC
      have R2 := hR.below f2 (by omega)
      have Q2 := (B2.block (w.heap.size + 1) (by omega)).trans hQ.out
      have CQ2 : w2.cell? ⟨w.heap.size + 1, 0, none⟩ = some (.slice none 0 0) := by rw [cell_of_row _ _ _ _ _ _ Q2]; rfl
      have FQ2 : w2.frozen? ⟨w.heap.size + 1, 0, none⟩ = false := frozen_of_row _ _ _ _ _ Q2
      replace Q2 := Lib.hid Q2
      go_wp2_with fail
      ((with_reducible refine (hasFlag_any _ A n c xss x _ C2 R2 (by omega) hf4).mono ?_); rintro e w' ⟨rfl, rfl⟩)
      rw [hF1.out]
      go_wp2_with fail
      ((with_reducible refine (formFrom_any (flg xss) A n c xss x _ R2 (by omega) (by omega) (by omega) hf4 hS.out hxa hxc).mono ?_); rintro e w9 ⟨A9, c9, rfl, o9, f9⟩)
      have B9 : Below W1.heap.size W1 w9 := below_then B2 f9 (by omega)
      have Q9 := (B9.block (w.heap.size + 1) (by omega)).trans hQ.out
      have CQ9 : w9.cell? ⟨w.heap.size + 1, 0, none⟩ = some (.slice none 0 0) := by rw [cell_of_row _ _ _ _ _ _ Q9]; rfl
      have FQ9 : w9.frozen? ⟨w.heap.size + 1, 0, none⟩ = false := frozen_of_row _ _ _ _ _ Q9
      replace Q9 := Lib.hid Q9
      go_wp2_with fail
      have g2 := heap_setCell_same _ _ 0 _ _ (Value.slice A9 n c9) Q9.out
      (try simp only [Exit.inBlock, Exit.then])
      refine bodyPost_ret (v := .tuple #[.agg #[.slice A9 n c9], .int .i64 0]) ?_ rfl ?_
      · exact results_cell_row2 rfl _ _ (w.heap.size + 1) 40 #[.slice A9 n c9] (0, 0) _ rfl (by simpa using g2) Try.underlying40 rfl (by kernel_rfl) _ rfl
      · exact ⟨A9, n, c9, _, _, rfl, Lib.hid hF.out.symm, (o9.keep (same_set _ _ _ _ _ (.inl (by simp; omega)))).more (by omega) (by simp), hnum, (hB.trans (B9.mono (by omega))).setCell (by simp) _⟩
end Go.Proofs.Ytdaljeghdiknpaa
/- Srl -/
namespace Go.Proofs
open Go.Shelf
def Ytdaljeghdiknpaa.laysSort_ren : Go.Shelf.Ren := ⟨fun | 5 => 106 | 8 => 145 | 7 => 144 | 19 => 171 | 20 => 172 | 10 => 162 | 11 => 163 | 12 => 164 | 13 => 165 | 14 => 166 | 15 => 167 | 16 => 168 | 17 => 169 | 18 => 170 | 30 => 180 | 31 => 181 | 32 => 182 | 33 => 183 | 34 => 184 | 35 => 185 | 40 => 187 | n => n, fun | 23 => 27 | 25 => 2 | 3 => 3 | 32 => 80 | 22 => 27 | 0 => 0 | 44 => 153 | 46 => 33 | 4 => 4 | 36 => 146 | 35 => 145 | 41 => 150 | 5 => 5 | 9 => 9 | 53 => 160 | 57 => 164 | 63 => 166 | 64 => 167 | n => n, fun | n => n⟩
theorem Ytdaljeghdiknpaa.laysSort : Go.Proofs.SlLaysM.n5 Try.prog Ytdaljeghdiknpaa.laysSort_ren := {
  mixed := by kernel_rfl
  f5 := ⟨Try.f106.name, by decide, Try.func106.trans (congrArg some (by kernel_rfl))⟩
  f7 := ⟨Try.f144.name, by decide, Try.func144.trans (congrArg some (by kernel_rfl))⟩
  f8 := Try.func145.trans (congrArg some (by kernel_rfl))
  f10 := ⟨Try.f162.name, by decide, Try.func162.trans (congrArg some (by kernel_rfl))⟩
  f11 := ⟨Try.f163.name, by decide, Try.func163.trans (congrArg some (by kernel_rfl))⟩
  f12 := ⟨Try.f164.name, by decide, Try.func164.trans (congrArg some (by kernel_rfl))⟩
  f13 := ⟨Try.f165.name, by decide, Try.func165.trans (congrArg some (by kernel_rfl))⟩
  f14 := ⟨Try.f166.name, by decide, Try.func166.trans (congrArg some (by kernel_rfl))⟩
  f15 := ⟨Try.f167.name, by decide, Try.func167.trans (congrArg some (by kernel_rfl))⟩
  f16 := ⟨Try.f168.name, by decide, Try.func168.trans (congrArg some (by kernel_rfl))⟩
  f17 := ⟨Try.f169.name, by decide, Try.func169.trans (congrArg some (by kernel_rfl))⟩
  f18 := ⟨Try.f170.name, by decide, Try.func170.trans (congrArg some (by kernel_rfl))⟩
  f19 := Try.func171.trans (congrArg some (by kernel_rfl))
  f20 := Try.func172.trans (congrArg some (by kernel_rfl))
  f30 := ⟨Try.f180.name, by decide, Try.func180.trans (congrArg some (by kernel_rfl))⟩
  f31 := Try.func181.trans (congrArg some (by kernel_rfl))
  f32 := Try.func182.trans (congrArg some (by kernel_rfl))
  f33 := ⟨Try.f183.name, by decide, Try.func183.trans (congrArg some (by kernel_rfl))⟩
  f34 := ⟨Try.f184.name, by decide, Try.func184.trans (congrArg some (by kernel_rfl))⟩
  f35 := ⟨Try.f185.name, by decide, Try.func185.trans (congrArg some (by kernel_rfl))⟩
  f40 := ⟨Try.f187.name, by decide, Try.func187.trans (congrArg some (by kernel_rfl))⟩
  t0 := Try.underlying0
  a0 := Try.isAgg0
  z0 := Try.sizeOf0
  v0 := Try.zeroValue0
  t3 := Try.underlying3
  a3 := Try.isAgg3
  z3 := Try.sizeOf3
  v3 := Try.zeroValue3
  t4 := Try.underlying4
  a4 := Try.isAgg4
  z4 := Try.sizeOf4
  v4 := Try.zeroValue4
  t5 := Try.underlying5
  a5 := Try.isAgg5
  z5 := Try.sizeOf5
  v5 := Try.zeroValue5
  t9 := Try.underlying9
  a9 := Try.isAgg9
  z9 := Try.sizeOf9
  v9 := Try.zeroValue9
  t22 := Try.underlying27
  a22 := Try.isAgg27
  z22 := Try.sizeOf27
  v22 := Try.zeroValue27
  t23 := Try.underlying27
  a23 := Try.isAgg27
  z23 := Try.sizeOf27
  v23 := Try.zeroValue27
  t25 := Try.underlying2
  a25 := Try.isAgg2
  z25 := Try.sizeOf2
  v25 := Try.zeroValue2
  t32 := Try.underlying80
  a32 := Try.isAgg80
  z32 := Try.sizeOf80
  v32 := Try.zeroValue80
  t35 := Try.underlying145
  a35 := Try.isAgg145
  z35 := Try.sizeOf145
  v35 := Try.zeroValue145
  t36 := Try.underlying146
  a36 := Try.isAgg146
  z36 := Try.sizeOf146
  v36 := Try.zeroValue146
  t41 := Try.underlying150
  a41 := Try.isAgg150
  z41 := Try.sizeOf150
  v41 := Try.zeroValue150
  t44 := Try.underlying153
  a44 := Try.isAgg153
  z44 := Try.sizeOf153
  v44 := Try.zeroValue153
  t46 := Try.underlying33
  a46 := Try.isAgg33
  z46 := Try.sizeOf33
  v46 := Try.zeroValue33
  t53 := Try.underlying160
  a53 := Try.isAgg160
  z53 := Try.sizeOf160
  v53 := Try.zeroValue160
  t57 := Try.underlying164
  a57 := Try.isAgg164
  z57 := Try.sizeOf164
  v57 := Try.zeroValue164
  t63 := Try.underlying166
  a63 := Try.isAgg166
  z63 := Try.sizeOf166
  v63 := Try.zeroValue166
  t64 := Try.underlying167
  a64 := Try.isAgg167
  z64 := Try.sizeOf167
  v64 := Try.zeroValue167 }
open Go.Sort Go.RowKit in
theorem Ytdaljeghdiknpaa.slices_Sort_i64 (blk off cap : Nat) (zs : List Int) (w : World) (hH : Holds (Value.int .i64) w blk off zs.toArray) (hblk : blk < w.heap.size) (hsz : zs.length < 4611686018427387904) :
    Calls Try.prog 106 #[.slice (some ⟨blk, off, none⟩) zs.length cap] w fun e w' =>
      e = .returned (.tuple #[]) ∧ ∃ n os, w' = grow (putRow (Value.int .i64) (Sort.ahead w n) blk off (zs.mergeSort fun x y => decide (x ≤ y)).toArray) os := AnyM.slices_Sort_int Ytdaljeghdiknpaa.laysSort blk off cap zs w hH hblk hsz
theorem Ytdaljeghdiknpaa.slices_Sort_i64_none (p : Option Addr) (cap : Nat) (w : World) :
    Calls Try.prog 106 #[.slice p 0 cap] w fun e w' => e = .returned (.tuple #[]) ∧ w' = w := AnyM.slices_Sort_int_none Ytdaljeghdiknpaa.laysSort p cap w
end Go.Proofs
/- Srt -/
namespace Go.Proofs.Ytdaljeghdiknpaa
open Go.RowKit
set_option linter.unusedVariables false
theorem isort_any (A : Option Addr) (k c : Nat) (zs : List Int) (w : World) {lo : Nat} (h : w.ownsRow lo 2 1 (.slice A k c) k (zs.map (Value.int .i64))) (hk : k ≤ 1048576) (hlo : lo ≤ w.heap.size) :
    Calls Try.prog 106 #[.slice A k c] w fun e w' => e = .returned (.tuple #[]) ∧ w'.ownsRow lo 2 1 (.slice A k c) k ((sortL zs).map (Value.int .i64)) ∧ Below lo w w' := by
  have hl : zs.length = k := by have := h.1; simpa using this
  rcases h.2 with ⟨hv, hn⟩ | ⟨g, cap, cur, hv, hb, hg, hnc, hcm, hcs, htake⟩
  · cases hv
    have hz : zs = [] := List.length_eq_zero_iff.1 hl
    subst hz
    refine (slices_Sort_i64_none none 0 w).mono ?_
    rintro e w' ⟨rfl, rfl⟩
    exact ⟨rfl, by simpa [sortL] using h, Below.refl _ _⟩
  · cases hv
    subst hl
    refine (slices_Sort_i64 g 0 c zs w (holds_of_blockI hg (by simpa using htake)) (Array.getElem?_eq_some_iff.1 hg).1 (by omega)).mono ?_
    rintro e w' ⟨rfl, n, os, rfl⟩
    refine ⟨rfl, ?_, ?_⟩
    · exact ownsRow_sortedI (sortL_length zs) hb hg hnc hcm hcs
    · exact (Below.refl lo w).grown (grownBy_sortedI _) hlo (fun q e => by cases e; exact hb)
end Go.Proofs.Ytdaljeghdiknpaa
/- Cpl -/
namespace Go.Proofs
open Go.Shelf
def Ytdaljeghdiknpaa.laysCompact_ren : Go.Shelf.Ren := ⟨fun | 43 => 153 | n => n, fun | 22 => 27 | 23 => 2 | 3 => 3 | 4 => 4 | 0 => 0 | n => n, fun | n => n⟩
theorem Ytdaljeghdiknpaa.laysCompact : Go.Proofs.SlLaysE.n43 Try.prog Ytdaljeghdiknpaa.laysCompact_ren := {
  mixed := by kernel_rfl
  f43 := ⟨Try.f153.name, by decide, Try.func153.trans (congrArg some (by kernel_rfl))⟩
  t0 := Try.underlying0
  a0 := Try.isAgg0
  z0 := Try.sizeOf0
  v0 := Try.zeroValue0
  t3 := Try.underlying3
  a3 := Try.isAgg3
  z3 := Try.sizeOf3
  v3 := Try.zeroValue3
  t4 := Try.underlying4
  a4 := Try.isAgg4
  z4 := Try.sizeOf4
  v4 := Try.zeroValue4
  t22 := Try.underlying27
  a22 := Try.isAgg27
  z22 := Try.sizeOf27
  v22 := Try.zeroValue27
  a23 := Try.isAgg2
  z23 := Try.sizeOf2 }
open Go.Sort Go.RowKit in
theorem Ytdaljeghdiknpaa.slices_Compact_i64 (blk off cap : Nat) (d : Array Int) (w : World) (hH : Holds (Value.int .i64) w blk off d) (hsz : d.size ≤ 9223372036854775807) (hcap : d.size ≤ cap) :
    Calls Try.prog 153 #[.slice (some ⟨blk, off, none⟩) d.size cap] w fun e w' => e = .returned (.slice (some ⟨blk, off, none⟩) (Lib.compactUpTo d d.size).length cap) ∧ ∃ q, w' = putRow (Value.int .i64) (Sort.ahead w q) blk off (Lib.compactUpTo d d.size ++ List.replicate (d.size - (Lib.compactUpTo d d.size).length) 0).toArray := AnyE.slices_Compact Ytdaljeghdiknpaa.laysCompact (Value.int .i64) (fun _ => rfl) (EqlAt.intD _ _ .i64) (NeqAt.intD _ _ .i64) 0 Try.zeroValue2 blk off cap d w hH hsz hcap
end Go.Proofs
/- Cpt -/
namespace Go.Proofs.Ytdaljeghdiknpaa
open Go.RowKit
set_option linter.unusedVariables false
set_option maxRecDepth 100000
theorem grow_none (w : World) : Sort.grow w #[] = w := by simp [Sort.grow]
theorem isort_grown (A : Option Addr) (k c : Nat) (zs : List Int) (w : World) {lo : Nat} (h : w.ownsRow lo 2 1 (.slice A k c) k (zs.map (Value.int .i64))) (hk : k ≤ 1048576) (hlo : lo ≤ w.heap.size) :
    Calls Try.prog 106 #[.slice A k c] w fun e w' => e = .returned (.tuple #[]) ∧ w'.ownsRow lo 2 1 (.slice A k c) k ((sortL zs).map (Value.int .i64)) ∧ w.grownBy w' (Value.slice A k c).ownBlock := by
  have hl : zs.length = k := by have := h.1; simpa using this
  rcases h.2 with ⟨hv, hn⟩ | ⟨g, cap, cur, hv, hb, hg, hnc, hcm, hcs, htake⟩
  · cases hv
    have hz : zs = [] := List.length_eq_zero_iff.1 hl
    subst hz
    refine (slices_Sort_i64_none none 0 w).mono ?_
    rintro e w' ⟨rfl, rfl⟩
    exact ⟨rfl, by simpa [sortL] using h, World.grownBy.refl _ _⟩
  · cases hv
    subst hl
    refine (slices_Sort_i64 g 0 c zs w (holds_of_blockI hg (by simpa using htake)) (Array.getElem?_eq_some_iff.1 hg).1 (by omega)).mono ?_
    rintro e w' ⟨rfl, n, os, rfl⟩
    exact ⟨rfl, ownsRow_sortedI (sortL_length zs) hb hg hnc hcm hcs, grownBy_sortedI _⟩
theorem icompact_none (c : Nat) (w : World) : Calls Try.prog 153 #[.slice none 0 c] w fun e w' => e = .returned (.slice none 0 c) ∧ w = w' := by
  go_enter Try.func153, Try.ntmps153
  go_wp2_with fail
  go_ret
  exact ⟨rfl, rfl⟩
theorem icompact_any (A : Option Addr) (k c : Nat) (zs : List Int) (w : World) {lo : Nat} (h : w.ownsRow lo 2 1 (.slice A k c) k (zs.map (Value.int .i64))) (hk : k ≤ 1048576) (hlo : lo ≤ w.heap.size) (hz : Sorted zs) :
    Calls Try.prog 153 #[.slice A k c] w fun e w' => ∃ k', e = .returned (.slice A k' c) ∧ k' ≤ k ∧ w'.ownsRow lo 2 1 (.slice A k' c) k' ((setL zs).map (Value.int .i64)) ∧ w.grownBy w' (Value.slice A k c).ownBlock := by
  have hl : zs.length = k := by have := h.1; simpa using this
  rcases h.2 with ⟨hv, hn⟩ | ⟨g, cap, cur, hv, hb, hg, hnc, hcm, hcs, htake⟩
  · cases hv
    have hz : zs = [] := List.length_eq_zero_iff.1 hl
    subst hz
    refine (icompact_none 0 w).mono ?_
    rintro e w' ⟨rfl, rfl⟩
    exact ⟨0, rfl, Nat.le_refl _, by simpa [setL, nub, sortL] using h, World.grownBy.refl _ _⟩
  · cases hv
    subst hl
    have hcm' := compact_sorted hz
    have hH := holds_of_blockI hg (ss := zs) (by simpa using htake)
    have hc := slices_Compact_i64 g 0 c zs.toArray w hH (by simp; omega) (by simpa using hnc)
    have e1 : Lib.compactUpTo zs.toArray zs.toArray.size = setL zs := by rw [← hcm']; simp [Lib.compact]
    rw [e1] at hc
    have hlen : (setL zs).length ≤ zs.length := setL_length zs
    have hsz : zs.toArray.size = zs.length := by simp
    rw [hsz] at hc
    refine hc.mono ?_
    rintro e w' ⟨rfl, q, hw⟩
    rw [← grow_none (Sort.putRow _ _ _ _ _)] at hw
    subst hw
    refine ⟨(setL zs).length, rfl, hlen, ?_, grownBy_sortedI _⟩
    have hL : (setL zs ++ List.replicate (zs.length - (setL zs).length) 0).length = zs.length := by simp; omega
    have ht := take_putCellsI cur (setL zs ++ List.replicate (zs.length - (setL zs).length) 0) (by omega)
    refine ⟨by simp, .inr ⟨g, c, _, rfl, hb, heap_sortedI _ hg, by omega, hcm, by simp [Sort.putCells, hcs], ?_⟩⟩
    rw [Nat.mul_one]
    have h2 := congrArg (List.take (setL zs).length) ht
    rw [List.take_take, Nat.min_eq_left (by omega)] at h2
    rw [h2, ← List.map_take, List.take_left]
end Go.Proofs.Ytdaljeghdiknpaa
/- Typ -/
namespace Go.Proofs.Ytdaljeghdiknpaa
open Go.RowKit
set_option linter.unusedVariables false
set_option maxRecDepth 100000
set_option maxHeartbeats 2000000 in
theorem orbitSizes_any (n : Nat) (A : Option Addr) (m c : Nat) (xss : List (List Int)) (w : World) {lo hi : Nat} (h : RS w lo hi A m xss) (hhi : hi ≤ w.heap.size) (hn : n ≤ 400) (hs : SysOf xss n) :
    Calls Try.prog 152 #[.int .i64 n, .slice A m c] w fun e w' => ∃ A1, e = .returned (.slice A1 (cntR xss n) (cntR xss n)) ∧ Own w' w.heap.size w'.heap.size 2 A1 (cntR xss n) (cntR xss n) ((hist (labL xss n) (cntR xss n)).map (Value.int .i64)) ∧ Below w.heap.size w w' := by
  obtain ⟨j0, hj0, hy0, hy1, hy2⟩ := info_parts infoI
  have hlab := orbitLabels_any n A m c xss w h hhi hn hs
  have hlt : ∀ (k : Nat) (v : Int), (labL xss n)[k]? = some v → 0 ≤ v ∧ v < cntR xss n := by
    intro k v hv
    obtain ⟨x, hx, rfl⟩ := List.mem_map.1 (mem_of_get? hv)
    exact ⟨labOf_nonneg _ _, lab_lt hs (List.mem_range.1 hx)⟩
  have hll := labL_length xss n
  have hcn := cntR_le_n (list := xss) n
  generalize labL xss n = ls at *
  generalize cntR xss n = q at *
  replace hlt := Lib.hid hlt
  replace hll := Lib.hid hll
  replace hs := Lib.hid hs
  go_enter Try.func152, Try.ntmps152
  go_wp2_with fail
  ((with_reducible refine hlab.mono ?_); rintro e w1 ⟨A1, rfl, o1, f1⟩)
  clear hlab
  have y1 := f1.size
  go_wp2_with (at_make; refine wpList_make_full _ rfl _ _ 27 rfl w1.heap.size 2 j0 (.int .i64 0) 1 Try.underlying27 hj0 hy0 hy1 _ _ _ _ q rfl rfl rfl rfl ?c1 ?c2 (Nat.le_refl _) ?_)
  case c1 => rw [hy2]; omega
  case c2 => simp only [maxLen]; omega
  intro w2 hown hg
  have B2 : Below w1.heap.size w1 w2 := (Below.refl _ _).grown hg (Nat.le_refl _) (by simp)
  have z2 : w1.heap.size < w2.heap.size := (hown.lt w1.heap.size (by simp [Value.ownBlock])).2
  have o6 : Own w2 w1.heap.size w2.heap.size 2 (some ⟨w1.heap.size, 0, none⟩) q q ((List.replicate q 0).map (Value.int .i64)) := by
    have := Own.of_row hown
    simpa [toList_madeCells_one, Value.cells] using this
  have o6 : Own w2 w1.heap.size w2.heap.size 2 (some ⟨w1.heap.size, 0, none⟩) q q ((hist (ls.take 0) q).map (Value.int .i64)) := by simpa [hist_nil] using o6
  clear hown hg
  go_wp2_with fail
  go_loopw [20] (fun kv wq => ∃ (k : Nat), k ≤ n ∧ kv = .int .i64 k ∧ Own wq w1.heap.size w2.heap.size 2 (some ⟨w1.heap.size, 0, none⟩) q q ((hist (ls.take k) q).map (Value.int .i64)) ∧ w2.heap.size ≤ wq.heap.size ∧ Below w1.heap.size w1 wq) (fun kv _ => n - (intOf kv).toNat)
  case atStart => exact ⟨0, by omega, rfl, o6, Nat.le_refl _, B2⟩
  case round =>
    clear o6 B2
    obtain ⟨k, hk, rfl, ho, hz, hb⟩ := hrel
    by_cases hkn : k < n
    · obtain ⟨b5, v, rfl, _, _, _, hv, hcv, _⟩ := (o1.below hb (by omega)).atI hkn
      obtain ⟨hv0, hv1⟩ := hlt.out k v hv
      obtain ⟨v, rfl⟩ : ∃ z : Nat, v = z := ⟨v.toNat, by omega⟩
      have hst := hist_snoc (l := ls.take k) (c := q) hv0 hv1
      rw [← take_succ_of hv, Int.toNat_natCast] at hst
      have hgv : (hist (ls.take k) q)[v]? = some ((ls.take k).count (v : Int) : Int) := hist_get (by omega)
      have hcl : (ls.take k).count (v : Int) ≤ n := by
        have h1 := List.count_le_length (a := (v : Int)) (l := ls.take k)
        rw [List.length_take] at h1
        omega
      have hcc := ho.cellI hgv
      have hfr := ho.frz v
      replace hst := Lib.hid hst
      replace hgv := Lib.hid hgv
      replace hv := Lib.hid hv
      generalize (ls.take k).count (v : Int) = u at *
      have hvq : v < q := by omega
      go_wp2_with fail
      go_roundw
      case measure => simp [intOf]; omega
      case rel =>
        refine ⟨k + 1, by omega, by go_num, ?_, by simp; omega, hb.setCell (by simp) _⟩
        rw [hst.out]
        exact ho.setI _
    · have hkn' : k = n := by omega
      subst hkn'
      rw [List.take_of_length_le (by have := hll.out; omega)] at ho
      go_wp2_with fail
      go_ret
      exact ⟨_, rfl, ho.more y1 hz, below_then f1 hb y1⟩
theorem setL_sortL (l : List Int) : setL (sortL l) = setL l := setL_congr fun x => (sortL_perm l).mem_iff
/-- the first k numbers halved -/
def halfTo (zs : List Int) (k : Nat) : List Int := halves (zs.take k) ++ zs.drop k
theorem halfTo_length (zs : List Int) (k : Nat) : (halfTo zs k).length = zs.length := by unfold halfTo halves; simp; omega
theorem halfTo_get {zs : List Int} {k : Nat} {v : Int} (h : zs[k]? = some v) : (halfTo zs k)[k]? = some v := by
  have hk := (List.getElem?_eq_some_iff.1 h).1
  unfold halfTo
  have e : (halves (zs.take k)).length = k := by unfold halves; simp; omega
  rw [List.getElem?_append_right (by omega), e, Nat.sub_self, List.getElem?_drop, Nat.add_zero, h]
theorem halfTo_set {zs : List Int} {k : Nat} {v : Int} (h : zs[k]? = some v) : (halfTo zs k).set k (Int.tdiv v 2) = halfTo zs (k + 1) := by
  have hk := (List.getElem?_eq_some_iff.1 h).1
  have e : (halves (zs.take k)).length = k := by unfold halves; simp; omega
  unfold halfTo
  rw [List.set_append_right _ _ (by omega), e, Nat.sub_self, take_succ_of h]
  have hd : zs.drop k = v :: zs.drop (k + 1) := by
    rw [List.drop_eq_getElem_cons hk]
    congr 1
    exact (List.getElem?_eq_some_iff.1 h).2
  rw [hd]
  unfold halves
  simp
theorem halfTo_all {zs : List Int} {k : Nat} (h : zs.length ≤ k) : halfTo zs k = halves zs := by unfold halfTo; rw [List.take_of_length_le h, List.drop_eq_nil_of_le h, List.append_nil]
theorem halfTo_zero (zs : List Int) : halfTo zs 0 = zs := by simp [halfTo, halves]
set_option maxHeartbeats 4000000 in
theorem typeOf_any (b : Nat) (A : Option Addr) (n c : Nat) (xss : List (List Int)) (w : World) (hc : w.cell? ⟨b, 0, none⟩ = some (.slice A n c)) (hbs : b < w.heap.size) {lo hi : Nat} (h : RS w lo hi A n xss) (hhi : hi ≤ w.heap.size) (hn1 : 1 ≤ n) (hn5 : n ≤ 5) (hnc : n ≤ c) (N : Nat) (hN : flg xss = N) (h4 : N ≤ 400) (hs : SysOf xss N) :
    Calls Try.prog 123 #[.pointer (some ⟨b, 0, none⟩)] w fun e w' => ∃ (A1 : Option Addr) (c1 : Nat), e = .returned (.slice A1 (n - 1) c1) ∧ OwnS w' w.heap.size w'.heap.size 27 2 A1 (n - 1) c1 (typL xss N) ∧ Below w.heap.size w w' := by
  obtain ⟨j0, hj0, hy0, hy1, hy2⟩ := info_parts infoI
  obtain ⟨s0, hs0, hu0, hu1, hu2⟩ := info_parts infoS
  have hl := h.len
  have htl := typL_length xss N
  rw [hl] at htl
  have hget : ∀ k, k < n - 1 → (typL xss N)[k]? = some (typI (subL xss k (k + 2)) N) := fun k hk => typL_get (by omega)
  obtain ⟨b0, o0, A0, n0, c0, p0, rfl, _, _, _, _, _⟩ := h.at_ (k := 0) (by omega)
  generalize hcs : typL xss N = cs at *
  replace hcs := Lib.hid hcs
  replace hget := Lib.hid hget
  replace htl := Lib.hid htl
  replace hl := Lib.hid hl
  have hsub : ∀ k, k < n - 1 → RS w lo hi (some ⟨b0, o0 + k, none⟩) (k + 2 - k) (subL xss k (k + 2)) := fun k hk => rs_sub h (by omega) (by omega) (fun _ => rfl)
  replace hs := Lib.hid hs
  replace hsub := Lib.hid hsub
  go_enter Try.func123, Try.ntmps123
  go_wp2_with fail
  ((with_reducible refine (rank_any _ _ n c _ hc (by omega)).mono ?_); rintro e w' ⟨rfl, rfl⟩)
  go_wp2_with fail
  go_loopw [3, 10] (fun sv kv wq => ∃ (k : Nat) (vs : List Value) (A2 : Option Addr) (c2 : Nat), k ≤ n - 1 ∧ vs.length = k ∧ sv = .slice A2 k c2 ∧ kv = .int .i64 k ∧ Own wq w.heap.size wq.heap.size 27 A2 k c2 vs ∧ RowsOwn wq w.heap.size wq.heap.size 2 vs (cs.take k) ∧ Below w.heap.size w wq) (fun _ kv _ => n - (intOf kv).toNat)
  case atStart => exact ⟨0, [], none, 0, by omega, rfl, rfl, rfl, Own.nil, by simpa using RowsOwn.nil, Below.refl _ _⟩
  case round =>
    obtain ⟨k, vs, A2, c2, hk, hvk, rfl, rfl, ho, hrows, hb⟩ := hrel
    have hz := hb.size
    by_cases hlt : k < n - 1
    · have hCk := (hb.cell (p := ⟨b, 0, none⟩) (by simp; omega)).trans hc
      have htk := take_succ_of (hget.out k hlt)
      replace htk := Lib.hid htk
      have hRd := rs_drew (h.below hb hhi)
      have hbd := below_drew hb
      have hF1 := flags_any b (some ⟨b0, o0, none⟩) n c xss wr.drew hCk hRd (by omega)
      have hF2 := orbitSizes_any N (some ⟨b0, o0 + k, none⟩) (k + 2 - k) (c - k) (subL xss k (k + 2)) wr.drew (rs_drew ((hsub.out k hlt).below hb hhi)) (show _ ≤ wr.heap.size by omega) h4 (sysOf_sub hs.out k (k + 2))
      rw [hN] at hF1
      have hteq := typI_eq (sysOf_sub hs.out k (k + 2))
      have hzb := hist_le (labL (subL xss k (k + 2)) N) (cntR (subL xss k (k + 2)) N)
      rw [labL_length] at hzb
      have hq4 := cntR_le_n (list := subL xss k (k + 2)) N
      generalize hist (labL (subL xss k (k + 2)) N) (cntR (subL xss k (k + 2)) N) = zs at *
      generalize cntR (subL xss k (k + 2)) N = q at *
      replace hteq := Lib.hid hteq
      replace hzb := Lib.hid hzb
      have hci : ¬ c = k := by omega
      have hic : k ≤ c := by omega
      have hI1 : (k : Int) ≤ (k : Int) + 2 := by omega
      have hI2 : (k : Int) + 2 ≤ (n : Int) := by omega
      have hI3 : (k : Int) + 2 ≤ (c : Int) := by omega
      have hI0 : (0 : Int) ≤ (k : Int) := by omega
      have hI4 : (0 : Int) ≤ (k : Int) + 2 := by omega
      have hw2 : IntKind.i64.wrap ((k : Int) + 2) = (k : Int) + 2 := wrap_in rfl (by omega) (by omega)
      go_wp2_with fail
      go_region_with (first
        | (go_at_call 94; refine hF1.mono ?_; rintro e w' ⟨rfl, rfl⟩)
        | (go_at_call 152; refine hF2.mono ?_; rintro e w2 ⟨A5, rfl, o5, f5⟩))
      all_goals
        clear hF2 hF1 hbd hRd
        obtain ⟨wo, rfl⟩ : ∃ wo : World, wo = wr := ⟨_, rfl⟩
        have y2 : wo.heap.size ≤ w2.heap.size := f5.size
        have f2 : Below wo.heap.size wo w2 := ⟨f5.os, f5.tape, f5.output, f5.size, f5.block⟩
        have o2 : Own w2 wo.heap.size w2.heap.size 2 A5 q q ((halfTo zs 0).map (Value.int .i64)) := by rw [halfTo_zero]; exact o5
        have hzl : zs.length = q := o5.lenI
        replace hzl := Lib.hid hzl
        clear f5 o5
        go_wp2_with fail
        go_loopw [26] (fun kv wq => ∃ (j : Nat), j ≤ q ∧ kv = .int .i64 j ∧ Own wq wo.heap.size w2.heap.size 2 A5 q q ((halfTo zs j).map (Value.int .i64)) ∧ w2.heap.size ≤ wq.heap.size ∧ Below wo.heap.size wo wq) (fun kv _ => q - (intOf kv).toNat)
        case atStart => exact ⟨0, by omega, rfl, o2, Nat.le_refl _, f2⟩
        case round =>
          clear o2 f2
          obtain ⟨j, hj, rfl, o2, z2, f2⟩ := hrel
          by_cases hjq : j < q
          · obtain ⟨b5, v, rfl, hb5, _, _, hv, hcv, hfr⟩ := o2.atI hjq
            have hv' : zs[j]? = some v := by
              have hg : zs[j]? = some (zs.getD j 0) := get?_getD 0 (by have := hzl.out; omega)
              rw [halfTo_get hg] at hv
              rw [hg, hv]
            obtain ⟨hv0, hv1⟩ := hzb.out v (mem_of_get? hv')
            have hst := halfTo_set hv'
            have hw3 : IntKind.i64.wrap (Int.tdiv v 2) = Int.tdiv v 2 := by
              rw [Int.tdiv_eq_ediv_of_nonneg hv0]
              exact wrap_in rfl (by omega) (by omega)
            have o3 := o2.setI (b := b5) (k := j) (Int.tdiv v 2)
            rw [hst] at o3
            replace hst := Lib.hid hst
            replace hv := Lib.hid hv
            replace hv' := Lib.hid hv'
            go_wp2_with fail
            go_roundw
            case measure => simp [intOf]; omega
            case rel => exact ⟨j + 1, by omega, by go_num, by simpa using o3, by simp; omega, f2.setCell (by simp; omega) _⟩
          · have hjq' : j = q := by omega
            subst hjq'
            rw [halfTo_all (by have := hzl.out; omega)] at o2
            have o2r : wr.ownsRow wo.heap.size 2 1 (.slice A5 j j) j ((halves zs).map (Value.int .i64)) := o2.1
            go_wp2_with fail
            ((with_reducible refine (isort_any A5 j j (halves zs) _ o2r (by omega) (by omega)).mono ?_); rintro e w3 ⟨rfl, o3, f3⟩)
            have y3 := f3.size
            go_wp2_with fail
            ((with_reducible refine (icompact_any A5 j j _ _ o3 (by omega) (by omega) (sortL_sorted _)).mono ?_); rintro e w4 ⟨q2, rfl, hq2, o4, hg4⟩)
            rw [setL_sortL, hteq.out] at o4
            have f4 : Below wo.heap.size wo w4 := (f2.trans f3).grown hg4 (by omega) (fun z hz' => (o3.lt z hz').1)
            have y4 := f4.size
            have o4 := Own.of_row o4
            have ho' := ho.below f4 (Nat.le_refl _)
            have hrows' := hrows.keep (Same.of_below f4 (Nat.le_refl _))
            have hb4 := hb.trans (f4.mono hz)
            clear ho hrows hb o3 f3 hg4 o2 o2r f2
            go_wp2_with (at_builtin; refine wpList_append1 w4 rfl (.tmp 38) (.tmp 41) 24 rfl w.heap.size 27 s0 (.slice none 0 0) 24 Try.underlying24 hs0 hu0 hu1 hu2 rfl (by omega) A2 k c2 _ (.slice A5 q2 j) rfl (ho'.more (Nat.le_refl _) y4).1 _ rfl rfl rfl (by omega) (by omega) ?_)
            intro g4 c4 w5 ho5 hg5 hlo5 hlt5 hor5
            have hrw5 := (hrows'.kept_ty ho'.1 (by decide) hg5).snoc (o4.kept_ty ho'.1 (by decide) hg5) (by omega) (by omega)
            have hz5 := hg5.size
            have hb5 := hb4.grown hg5 (by omega) (fun q hq => by have := (ho'.1.lt q hq).1; omega)
            have ho5' := Own.of_row ho5
            clear ho' hrows' o4 hg5 ho5 f4
            go_wp2_with fail
            go_roundw
            case measure => simp [intOf]; omega
            case rel =>
              refine ⟨k + 1, vs ++ [.slice A5 q2 j], _, c4, by omega, by simp; omega, rfl, by go_num, by simpa using ho5', ?_, hb5⟩
              rw [htk.out]
              exact hrw5.more (Nat.le_refl _) (by omega)
    · have hkn : k = n - 1 := by omega
      subst hkn
      go_wp2_with fail
      go_ret
      rw [List.take_of_length_le (by have := htl.out; omega)] at hrows
      exact ⟨A2, c2, rfl, ⟨vs, ho, hrows⟩, hb⟩
end Go.Proofs.Ytdaljeghdiknpaa
/- TypS -/
namespace Go.Proofs.Ytdaljeghdiknpaa
open Go.RowKit
set_option linter.unusedVariables false
set_option maxRecDepth 100000
/-- the halves of the numbers of points of the orbits, point by point -/
def orbH (list : List (List Int)) (n : Nat) : List Int := (List.range n).map fun (f : Nat) => Int.tdiv ((bfs list n (f : Int)).length : Int) 2
theorem orbH_get {list : List (List Int)} {n f : Nat} (h : f < n) : (orbH list n)[f]? = some (Int.tdiv ((bfs list n (f : Int)).length : Int) 2) := by simp [orbH, h]
theorem orbH_length (list : List (List Int)) (n : Nat) : (orbH list n).length = n := by simp [orbH]
theorem typI_orbH (list : List (List Int)) (n : Nat) : typI list n = sortL (nub (orbH list n)) := rfl
end Go.Proofs.Ytdaljeghdiknpaa
/- TypX -/
namespace Go.Proofs.Ytdaljeghdiknpaa
open Go.RowKit
set_option linter.unusedVariables false
set_option maxRecDepth 100000
/-- what TypeOf returns -/
noncomputable def typF (xss : List (List Int)) : List (List Int) × Int := if isManB xss = true then (typL xss (flg xss), 0) else ([], 1)
/-- the first of each -/
def polL (xss : List (List Int)) (n : Nat) : List Int := (typL xss n).map fun l => l.getD 0 0
/-- what SmallestPolygons returns -/
noncomputable def polF (xss : List (List Int)) : List Int × Int := if isManB xss = true then (polL xss (flg xss), 0) else ([], 1)
theorem typL_nums {xss : List (List Int)} {n N : Nat} (hl : xss.length = n) (hn : n ≤ 5) (hN : N ≤ 400) : n - 1 + numsIn (typL xss N) ≤ 1048576 := by
  have h := numsIn_le (xss := typL xss N) (n := N) (fun p hp => by
    obtain ⟨i, _, rfl⟩ := List.mem_map.1 hp
    exact typI_length _ _)
  rw [typL_length, hl] at h
  have := Nat.mul_le_mul (show n - 1 ≤ 4 by omega) hN
  omega
theorem typL_ne {xss : List (List Int)} {N k : Nat} {l : List Int} (hN : 0 < N) (h : (typL xss N)[k]? = some l) : 0 < l.length := by
  obtain ⟨i, _, rfl⟩ := List.mem_map.1 (mem_of_get? h)
  obtain ⟨x, hx⟩ := typI_ne (list := subL xss i (i + 2)) hN
  exact (List.getElem?_eq_some_iff.1 hx).1
set_option maxHeartbeats 4000000 in
theorem i_TypeOf_any (w : World) (A : Option Addr) (n c : Nat) (xss : List (List Int)) {lo hi : Nat} (h : RS w lo hi A n xss) (hhi : hi ≤ w.heap.size) (hnc : n ≤ c) :
    Calls Try.prog 62 #[.agg #[.slice A n c]] w fun e w' => ∃ (A1 : Option Addr) (n1 c1 : Nat) (zss : List (List Int)) (code : Int), e = .returned (.tuple #[.slice A1 n1 c1, .int .i64 code]) ∧ Hid ((zss, code) = typF xss) ∧ OwnS w' w.heap.size w'.heap.size 27 2 A1 n1 c1 zss ∧ n1 + numsIn zss ≤ 1048576 ∧ Below w.heap.size w w' := by
  have hm := h.max
  have hl := h.len
  have hR := rs_alloc h hhi (.cells #[.slice A n c] 40)
  have hC : (w.alloc (.cells #[.slice A n c] 40)).cell? ⟨w.heap.size, 0, none⟩ = some (.slice A n c) := al_new _ _ _ _ rfl
  have hB : Below w.heap.size w (w.alloc (.cells #[.slice A n c] 40)) := (Below.refl _ _).alloc (Nat.le_refl _) _
  cases hM : isManB xss with
  | false =>
    have hF : typF xss = ([], 1) := by unfold typF; rw [hM]; rfl
    replace hF := Lib.hid hF
    replace hM := Lib.hid hM
    replace hl := Lib.hid hl
    go_enter Try.func62, Try.ntmps62
    go_wp2_with fail
    obtain ⟨W1, hW⟩ : ∃ W1 : World, w.alloc (.cells #[.slice A n c] 40) = W1 := ⟨_, rfl⟩
    have hz1 : W1.heap.size = w.heap.size + 1 := by rw [← hW]; simp
    rw [hW] at hR hC hB ⊢
    clear hW h 
    ((with_reducible refine (isMan_any A n c xss _ hR (by omega) hnc).mono ?_); rintro e w2 ⟨rfl, f2⟩)
    rw [hM.out]
    have y2 := f2.size
    have B2 : Below W1.heap.size W1 w2 := f2
    have C2 := (f2.cell (p := ⟨w.heap.size, 0, none⟩) (by simp; omega)).trans hC
    have R2 := hR.below f2 (by omega)
    go_wp2_with fail
    go_ret2
    exact ⟨_, 0, _, [], _, rfl, Lib.hid hF.out.symm, OwnS.nil, by simp [numsIn], hB.trans (B2.mono (by omega))⟩
  | true =>
    have hP := isManB_iff.1 hM
    have hn1 : 1 ≤ n := by have := hP.r1; omega
    have hn5 : n ≤ 5 := by have := hP.r5; omega
    have hf2 := hP.f2
    have hf4 := hP.f4
    have hS := hP.sys
    replace hP := Lib.hid hP
    replace hS := Lib.hid hS
    have hF : typF xss = (typL xss (flg xss), 0) := by unfold typF; rw [if_pos hM]
    have hnum := typL_nums hl hn5 hf4
    replace hF := Lib.hid hF
    replace hM := Lib.hid hM
    replace hl := Lib.hid hl
    go_enter Try.func62, Try.ntmps62
    go_wp2_with fail
    obtain ⟨W1, hW⟩ : ∃ W1 : World, w.alloc (.cells #[.slice A n c] 40) = W1 := ⟨_, rfl⟩
    have hz1 : W1.heap.size = w.heap.size + 1 := by rw [← hW]; simp
    rw [hW] at hR hC hB ⊢
    clear hW h 
    ((with_reducible refine (isMan_any A n c xss _ hR (by omega) hnc).mono ?_); rintro e w2 ⟨rfl, f2⟩)
    rw [hM.out]
    have y2 := f2.size
    have B2 : Below W1.heap.size W1 w2 := f2
    have C2 := (f2.cell (p := ⟨w.heap.size, 0, none⟩) (by simp; omega)).trans hC
    have R2 := hR.below f2 (by omega)
    go_wp2_with fail
    ((with_reducible refine (typeOf_any _ A n c xss _ C2 (by omega) R2 (by omega) (by omega) (by omega) hnc _ rfl hf4 hS.out).mono ?_); rintro e w9 ⟨A9, c9, rfl, o9, f9⟩)
    have B9 : Below W1.heap.size W1 w9 := below_then B2 f9 (by omega)
    go_wp2_with fail
    go_ret2
    exact ⟨_, _, _, _, _, rfl, Lib.hid hF.out.symm, o9.more (by omega) (Nat.le_refl _), hnum, hB.trans (B9.mono (by omega))⟩
end Go.Proofs.Ytdaljeghdiknpaa
/- Lk5 -/
namespace Go.Proofs.Ytdaljeghdiknpaa
open Go.RowKit
set_option linter.unusedVariables false
set_option maxRecDepth 100000
set_option maxHeartbeats 2000000 in
theorem likeRows_any (A : Option Addr) (n c : Nat) (xss : List (List Int)) (A' : Option Addr) (n' c' : Nat) (w : World) {lo hi lo' hi' : Nat} (h : RS w lo hi A n xss) (h' : RS w lo' hi' A' n' xss) (hhi : hi ≤ w.heap.size) (hhi' : hi' ≤ w.heap.size) :
    Calls Try.prog 112 #[.slice A n c, .slice A' n' c'] w fun e w' => e = .returned (.bool true) ∧ Below w.heap.size w w' := by
  have hm := h.max
  have hl := h.len
  have hl' := h'.len
  obtain rfl : n = n' := by omega
  clear hl hl'
  go_enter Try.func112, Try.ntmps112
  go_wp2_with fail
  go_loopw [5] (fun iv wq => ∃ k : Nat, k ≤ n ∧ iv = .int .i64 k ∧ Below w.heap.size w wq) (fun iv _ => n - (intOf iv).toNat)
  case atStart => exact ⟨0, by omega, rfl, Below.refl _ _⟩
  case round =>
    obtain ⟨k, hk, rfl, hB⟩ := hrel
    by_cases hlt : k < n
    · have y1 := hB.size
      have Bd := below_drw hB
      obtain ⟨b1, u1, A1, n1, c1, r1, rfl, _, _, hr1, hc1, hR1⟩ := (h.below Bd hhi).at_ hlt
      obtain ⟨b2, u2, A2, n2, c2, r2, rfl, _, _, hr2, hc2, hR2⟩ := (h'.below Bd hhi').at_ hlt
      obtain rfl : r1 = r2 := by rw [hr1] at hr2; exact Option.some.inj hr2
      have hc1' : wr.cell? ⟨b1, u1 + k, none⟩ = some (.slice A1 n1 c1) := hc1
      have hc2' : wr.cell? ⟨b2, u2 + k, none⟩ = some (.slice A2 n2 c2) := hc2
      have hlk := like_any A1 n1 c1 r1 A2 n2 c2 r1 wr.drew _ _ _ _ hR1 hR2 (by simp; omega) (by simp; omega)
      rw [decide_eq_true (rfl : r1 = r1)] at hlk
      replace hr1 := Lib.hid hr1
      replace hr2 := Lib.hid hr2
      replace hlk := Lib.hid hlk
      replace Bd := Lib.hid Bd
      clear hR1 hR2 hc1 hc2
      go_wp2_with fail
      go_region_law? (refine step_call rfl 15 #[.slice A1 n1 c1, .slice A2 n2 c2] (by go_simp) hlk.out ?_; rintro e w6 ⟨rfl, f6⟩; refine ⟨_, rfl, ?_⟩)
      all_goals
        have B6 : Below w.heap.size w w6 := below_then Bd.out f6 (by simp; omega)
        clear f6
        go_wp2_with fail
        go_roundw
        case measure => simp [intOf]; omega
        case rel => exact ⟨k + 1, by omega, by go_num, B6⟩
    · obtain rfl : k = n := by omega
      go_wp2_with fail
      go_ret
      exact ⟨rfl, hB⟩
theorem like5_any (A : Option Addr) (n c : Nat) (xss : List (List Int)) (A' : Option Addr) (n' c' : Nat) (w : World) {lo hi lo' hi' : Nat} (h : RS w lo hi A n xss) (h' : RS w lo' hi' A' n' xss) (hhi : hi ≤ w.heap.size) (hhi' : hi' ≤ w.heap.size) :
    Calls Try.prog 47 #[.agg #[.slice A n c], .agg #[.slice A' n' c']] w fun e w' => e = .returned (.bool true) ∧ Below w.heap.size w w' := by
  have hm := h.max
  have hR := rs_alloc (rs_alloc h hhi (.cells #[.slice A n c] 40)) (by simp; omega) (.cells #[.slice A' n' c'] 40)
  have hR' := rs_alloc (rs_alloc h' hhi' (.cells #[.slice A n c] 40)) (by simp; omega) (.cells #[.slice A' n' c'] 40)
  have hB : Below w.heap.size w ((w.alloc (.cells #[.slice A n c] 40)).alloc (.cells #[.slice A' n' c'] 40)) := ((Below.refl _ _).alloc (Nat.le_refl _) _).alloc (by simp) _
  have hC : ((w.alloc (.cells #[.slice A n c] 40)).alloc (.cells #[.slice A' n' c'] 40)).cell? ⟨w.heap.size, 0, none⟩ = some (.slice A n c) := (al_old _ _ _ _ (by simp)).trans (al_new _ _ _ _ rfl)
  have hlk := likeRows_any A n c xss A' n' c' _ hR hR' (by simp; omega) (by simp; omega)
  go_enter Try.func47, Try.ntmps47
  go_wp2_with fail
  ((with_reducible refine hlk.mono ?_); rintro e w2 ⟨rfl, f2⟩)
  go_wp2_with fail
  go_ret
  exact ⟨rfl, below_then hB f2 (by simp; omega)⟩
end Go.Proofs.Ytdaljeghdiknpaa
