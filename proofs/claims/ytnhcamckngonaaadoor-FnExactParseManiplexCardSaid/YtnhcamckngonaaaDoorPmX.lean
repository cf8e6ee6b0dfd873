/- Walks of ParseManiplex: the program's and the reference's. No condition but the sizes of memory, strconv's table and errors, a cell of bytealg that holds a number. -/
import Derived.Test.YtnhcamckngonaaaDoorPmx
import Derived.Test.YtnhcamckngonaaaDoorPmS
namespace Go.Proofs.YtnhcamckngonaaaDoor
open Go.RowKit
set_option linter.unusedVariables false
set_option maxRecDepth 100000
theorem pmr_res {L : List UInt8} {zss : List (List Int)} (h : PmR L zss true) : (zss, (0 : Int)) = pmF L := by unfold PmR at h; rw [if_pos rfl] at h; exact h.symm
theorem pmr_err {L : List UInt8} {zss : List (List Int)} (h : PmR L zss false) : (([] : List (List Int)), (6 : Int)) = pmF L := by unfold PmR at h; rw [if_neg (by decide)] at h; exact h.symm
theorem pm_val {L : List UInt8} : pmF L = if isManB (valM L) = true then (valM L, 0) else ([], 6) := rfl
theorem own_lit0t (w : World) (T : TypeId) : Own (w.alloc (.cells #[] T)) w.heap.size (w.alloc (.cells #[] T)).heap.size T (some ⟨w.heap.size, 0, none⟩) 0 0 (([] : List Int).map (Value.int .i64)) := own_lit0s w T
theorem l01Split47 (L : List UInt8) (hL : L.length ≤ 1048577) (w : World) :
    Calls Tryd.prog 36 #[.string (strB L), .int .u8 47] w fun e w' => ∃ (A1 : Option Addr) (c1 : Nat), e = .returned (.slice A1 (spl 47 L).length c1) ∧ Rd w' w.heap.size w'.heap.size A1 (spl 47 L).length ((spl 47 L).map fun p => .string (strB p)) ∧ Below w.heap.size w w' := l01Split_any 47 L hL w
theorem l01Split44 (L : List UInt8) (hL : L.length ≤ 1048577) (w : World) :
    Calls Tryd.prog 36 #[.string (strB L), .int .u8 44] w fun e w' => ∃ (A1 : Option Addr) (c1 : Nat), e = .returned (.slice A1 (spl 44 L).length c1) ∧ Rd w' w.heap.size w'.heap.size A1 (spl 44 L).length ((spl 44 L).map fun p => .string (strB p)) ∧ Below w.heap.size w w' := l01Split_any 44 L hL w
set_option maxHeartbeats 8000000 in
theorem i_ParseManiplex_any (L : List UInt8) (hL : L.length ≤ 1048576) (w : World) {B : Nat} (hT : T10 B w) (hE : EV B w) (hM : MX B w) (hB : B ≤ w.heap.size) :
    Calls Tryd.prog 15 #[.string (strB L)] w fun e w' => ∃ (A1 : Option Addr) (n1 c1 : Nat) (zss : List (List Int)) (code : Int), e = .returned (.tuple #[.agg #[.slice A1 n1 c1], .int .i64 code]) ∧ Hid ((zss, code) = pmF L) ∧ OwnS w' w.heap.size w'.heap.size 24 2 A1 n1 c1 zss ∧ n1 + numsIn zss ≤ 1048576 ∧ Below w.heap.size w w' := by
  have hQ : (w.alloc (.cells #[.slice none 0 0] 35)).heap[w.heap.size]? = some (.cells #[.slice none 0 0] 35 (0, 0)) := heap_new _ _ _ rfl
  have hB0 : Below w.heap.size w (w.alloc (.cells #[.slice none 0 0] 35)) := (Below.refl _ _).alloc (Nat.le_refl _) _
  have hP := parseManiplex_any L hL (w.alloc (.cells #[.slice none 0 0] 35)) (hT.on (hB0.mono hB)) (hE.on (hB0.mono hB)) (hM.on (hB0.mono hB)) (by simp; omega)
  go_enter Tryd.func15, Tryd.ntmps15
  go_wp2_with fail
  obtain ⟨W1, hW⟩ : ∃ W1 : World, w.alloc (.cells #[.slice none 0 0] 35) = W1 := ⟨_, rfl⟩
  have hz1 : W1.heap.size = w.heap.size + 1 := by rw [← hW]; simp
  rw [hW] at hQ hB0 hP ⊢
  clear hW
  ((with_reducible refine hP.mono ?_); rintro e w2 ⟨A1, n1, c1, zss, ok, rfl, hr, oS, hnum, f2⟩)
  clear hP
  have y2 := f2.size
  have Q2 := (f2.block w.heap.size (by omega)).trans hQ
  have B2 : Below w.heap.size w w2 := hB0.trans (f2.mono (by omega))
  have gN : (w2.alloc (.cells #[.slice A1 n1 c1] 35)).heap[w2.heap.size]? = some (.cells #[.slice A1 n1 c1] 35 (0, 0)) := heap_new _ _ _ rfl
  have gQ : (w2.alloc (.cells #[.slice A1 n1 c1] 35)).heap[w.heap.size]? = some (.cells #[.slice none 0 0] 35 (0, 0)) := (((Below.refl w2.heap.size w2).alloc (Nat.le_refl _) _).block w.heap.size (by omega)).trans Q2
  have F2 : w2.frozen? ⟨w.heap.size, 0, none⟩ = false := frozen_of_row _ _ _ _ _ Q2
  have C2 : w2.cell? ⟨w.heap.size, 0, none⟩ = some (.slice none 0 0) := by rw [cell_of_row _ _ _ _ _ _ Q2]; rfl
  have Fa : (w2.alloc (.cells #[.slice A1 n1 c1] 35)).frozen? ⟨w.heap.size, 0, none⟩ = false := frozen_of_row _ _ _ _ _ gQ
  have Ca : (w2.alloc (.cells #[.slice A1 n1 c1] 35)).cell? ⟨w.heap.size, 0, none⟩ = some (.slice none 0 0) := by rw [cell_of_row _ _ _ _ _ _ gQ]; rfl
  have Cn : (w2.alloc (.cells #[.slice A1 n1 c1] 35)).cell? ⟨w2.heap.size, 0, none⟩ = some (.slice A1 n1 c1) := by rw [cell_of_row _ _ _ _ _ _ gN]; rfl
  have B3 : Below w.heap.size w (w2.alloc (.cells #[.slice A1 n1 c1] 35)) := B2.alloc (by omega) _
  have oS3 := oS.below ((Below.refl w2.heap.size w2).alloc (Nat.le_refl _) (.cells #[.slice A1 n1 c1] 35)) (Nat.le_refl _)
  replace gN := Lib.hid gN
  replace gQ := Lib.hid gQ
  cases ok with
  | true =>
    replace hr := Lib.hid (pmr_res hr.out)
    go_wp2_with fail
    have g2 := heap_setCell_same _ _ 0 _ _ (Value.slice A1 n1 c1) gQ.out
    (try simp only [Exit.inBlock, Exit.then])
    refine bodyPost_ret (v := .tuple #[.agg #[.slice A1 n1 c1], .int .i64 0]) ?_ rfl ?_
    · exact results_cell_row2 rfl _ _ w.heap.size 35 #[.slice A1 n1 c1] (0, 0) _ rfl (by simpa using g2) Tryd.underlying35 rfl (by kernel_rfl) _ rfl
    · exact ⟨A1, n1, c1, zss, 0, rfl, hr, (oS3.keep (same_set _ _ _ _ _ (.inl (by simp; omega)))).more (by omega) (by simp), hnum, B3.setCell (by simp) _⟩
  | false =>
    replace hr := Lib.hid (pmr_err hr.out)
    go_wp2_with fail
    have g2 := heap_setCell_same _ _ 0 _ _ (Value.slice none 0 0) gQ.out
    (try simp only [Exit.inBlock, Exit.then])
    refine bodyPost_ret (v := .tuple #[.agg #[.slice none 0 0], .int .i64 6]) ?_ rfl ?_
    · exact results_cell_row2 rfl _ _ w.heap.size 35 #[.slice none 0 0] (0, 0) _ rfl (by simpa using g2) Tryd.underlying35 rfl (by kernel_rfl) _ rfl
    · exact ⟨_, 0, _, [], 6, rfl, hr, OwnS.nil, by simp [numsIn], B3.setCell (by simp) _⟩
set_option maxHeartbeats 8000000 in
theorem s_ParseManiplex_any (L : List UInt8) (hL : L.length ≤ 1048576) (w : World) :
    Calls Tryd.prog 14 #[.string (strB L)] w fun e w' => ∃ (A1 : Option Addr) (n1 c1 : Nat) (zss : List (List Int)) (code : Int), e = .returned (.tuple #[.agg #[.slice A1 n1 c1], .int .i64 code]) ∧ Hid ((zss, code) = pmF L) ∧ OwnS w' w.heap.size w'.heap.size 24 2 A1 n1 c1 zss ∧ n1 + numsIn zss ≤ 1048576 ∧ Below w.heap.size w w' := by
  obtain ⟨s0, hs0, hu0, hu1, hu2⟩ := info_parts infoS
  obtain ⟨j0, hj0, hy0, hy1, hy2⟩ := info_parts infoI
  have B0 : Below w.heap.size w (w.alloc (.cells #[.slice none 0 0] 35)) := (Below.refl _ _).alloc (Nat.le_refl _) _
  have gr : (w.alloc (.cells #[.slice none 0 0] 35)).heap[w.heap.size]? = some (.cells #[.slice none 0 0] 35 (0, 0)) := heap_new _ _ _ rfl
  have hS := l01Split47 L (by omega) (w.alloc (.cells #[.slice none 0 0] 35))
  have hPl := spl_sum 47 L
  have hPm := spl_mem_len 47 L
  have hval : valM L = (spl 47 L).map fun P => (spl 44 P).map valB := rfl
  have hF : pmF L = if isManB (valM L) = true then (valM L, 0) else ([], 6) := rfl
  rw [hval] at hF
  clear hval
  generalize spl 47 L = Ps at *
  replace hPm := Lib.hid hPm
  replace hF := Lib.hid hF
  go_enter Tryd.func14, Tryd.ntmps14
  go_wp2_with fail
  obtain ⟨W1, hW⟩ : ∃ W1 : World, w.alloc (.cells #[.slice none 0 0] 35) = W1 := ⟨_, rfl⟩
  have hz1 : w.heap.size < W1.heap.size := by rw [← hW]; simp
  rw [hW] at B0 gr hS ⊢
  clear hW
  ((with_reducible refine hS.mono ?_); rintro e w2 ⟨AP, cP, rfl, rd2, f2⟩)
  clear hS
  have y2 := f2.size
  have B2 : Below w.heap.size w (w2.alloc (.cells #[.slice none 0 0] 35)) := (B0.trans (f2.mono (by omega))).alloc (by omega) _
  have gm3 : (w2.alloc (.cells #[.slice none 0 0] 35)).heap[w2.heap.size]? = some (.cells #[.slice none 0 0] 35 (0, 0)) := heap_new _ _ _ rfl
  have gr3 : (w2.alloc (.cells #[.slice none 0 0] 35)).heap[w.heap.size]? = some (.cells #[.slice none 0 0] 35 (0, 0)) := (((Below.refl w2.heap.size w2).alloc (Nat.le_refl _) _).block w.heap.size (by omega)).trans ((f2.block w.heap.size (by omega)).trans gr)
  have rd3 := rd2.below ((Below.refl w2.heap.size w2).alloc (Nat.le_refl _) (.cells #[.slice none 0 0] 35)) (Nat.le_refl _)
  clear gr rd2 f2 B0
  go_wp2_with fail
  obtain ⟨w3, hW⟩ : ∃ w3 : World, w2.alloc (.cells #[.slice none 0 0] 35) = w3 := ⟨_, rfl⟩
  have hz3 : w3.heap.size = w2.heap.size + 1 := by rw [← hW]; simp
  rw [hW] at B2 gm3 gr3 rd3 ⊢
  clear hW
  go_loopw [6] (fun kv wq => ∃ (k : Nat) (A2 : Option Addr) (c2 : Nat), k ≤ Ps.length ∧ kv = .int .i64 k ∧ wq.heap[w2.heap.size]? = some (.cells #[.slice A2 k c2] 35 (0, 0)) ∧ wq.heap[w.heap.size]? = some (.cells #[.slice none 0 0] 35 (0, 0)) ∧
      OwnS wq w3.heap.size wq.heap.size 24 2 A2 k c2 ((Ps.take k).map fun P => (spl 44 P).map valB) ∧ Rd wq W1.heap.size w2.heap.size AP Ps.length (Ps.map fun p => .string (strB p)) ∧ w3.heap.size ≤ wq.heap.size ∧ Below w.heap.size w wq) (fun kv _ => Ps.length - (intOf kv).toNat)
  case atStart => exact ⟨0, none, 0, by omega, rfl, gm3, gr3, by simpa using OwnS.nil, rd3, Nat.le_refl _, B2⟩
  case round =>
    clear gm3 gr3 rd3 B2
    obtain ⟨k, A2, c2, hk, rfl, gm, gr, oS, rd, hz, hB9⟩ := hrel
    by_cases hlt : k < Ps.length
    · obtain ⟨P, hP⟩ : ∃ P, Ps[k]? = some P := ⟨Ps[k], List.getElem?_eq_getElem hlt⟩
      obtain ⟨bP, oP, vP, rfl, _, _, hvP, hcP⟩ := rd.at_ hlt
      have hvP2 : vP = .string (strB P) := by
        rw [List.getElem?_map, hP] at hvP
        simpa using hvP.symm
      subst hvP2
      have hPL := hPm.out P (List.mem_of_getElem? hP)
      have hS2 := fun V (hV : Below wr.heap.size wr V) => l01Split44 P (by omega) V
      have hQl := spl_sum 44 P
      have hQm := spl_mem_len 44 P
      have hms : (Ps.take (k + 1)).map (fun P => (spl 44 P).map valB) = (Ps.take k).map (fun P => (spl 44 P).map valB) ++ [(spl 44 P).map valB] := by rw [List.take_add_one, hP]; simp
      replace hvP := Lib.hid hvP
      generalize spl 44 P = Qs at hQl hQm hms hS2
      replace hms := Lib.hid hms
      replace hQm := Lib.hid hQm
      replace hP := Lib.hid hP
      replace gm := Lib.hid gm
      replace gr := Lib.hid gr
      have hS3 := hS2 wr (Below.refl _ _)
      clear hS2
      obtain ⟨wo, rfl⟩ : ∃ wo : World, wo = wr := ⟨_, rfl⟩
      have hzw := hB9.size
      go_wp2_with fail
      ((with_reducible refine hS3.mono ?_); rintro e w4 ⟨AQ, cQ, rfl, rd4, f4⟩)
      clear hS3
      have y4 := f4.size
      have o4 := own_lit0t w4 2
      have f5 := (Below.refl w4.heap.size w4).alloc (Nat.le_refl _) (.cells #[] 2)
      go_wp2_with fail
      obtain ⟨w5, hW⟩ : ∃ w5 : World, w4.alloc (.cells #[] 2) = w5 := ⟨_, rfl⟩
      have hz5 : w4.heap.size ≤ w5.heap.size := by rw [← hW]; simp
      rw [hW] at o4 f5 ⊢
      clear hW
      go_loopw [9, 8] (fun kv lv wq => ∃ (j : Nat) (A3 : Option Addr) (c3 : Nat), j ≤ Qs.length ∧ kv = .int .i64 j ∧ lv = .slice A3 j c3 ∧ Own wq w4.heap.size wq.heap.size 2 A3 j c3 (((Qs.take j).map valB).map (Value.int .i64)) ∧ w4.heap.size ≤ wq.heap.size ∧ Below w4.heap.size w4 wq) (fun kv _ _ => Qs.length - (intOf kv).toNat)
      case atStart => exact ⟨0, _, 0, by omega, rfl, rfl, by simpa using o4, hz5, f5⟩
      case round =>
        obtain ⟨j, A3, c3, hj, rfl, rfl, ho3, hz6, hb3⟩ := hrel
        have hbo : Below wo.heap.size wo wr := f4.trans (hb3.mono y4)
        by_cases hjo : j < Qs.length
        · obtain ⟨u, hu⟩ : ∃ u, Qs[j]? = some u := ⟨Qs[j], List.getElem?_eq_getElem hjo⟩
          obtain ⟨bQ, oQ, vQ, rfl, _, _, hvQ, hcQ⟩ := (rd4.below hb3 (Nat.le_refl _)).at_ hjo
          have hvQ2 : vQ = .string (strB u) := by
            rw [List.getElem?_map, hu] at hvQ
            simpa using hvQ.symm
          subst hvQ2
          have huL := hQm.out u (List.mem_of_getElem? hu)
          have hR := l01Value_any u (by omega) wr
          have hst : (Qs.take (j + 1)).map valB = (Qs.take j).map valB ++ [valB u] := by rw [List.take_add_one, hu]; simp
          replace hst := Lib.hid hst
          replace hu := Lib.hid hu
          replace hvQ := Lib.hid hvQ
          generalize valB u = x at *
          go_wp2_with fail
          ((with_reducible refine hR.mono ?_); rintro e w5 ⟨rfl, rfl⟩)
          clear hR
          go_wp2_with (at_builtin; refine wpList_append1 _ rfl (.tmp 31) (.tmp 37) 24 rfl w4.heap.size 2 j0 (.int .i64 0) 8 Tryd.underlying24 hj0 hy0 hy1 hy2 rfl (by omega) A3 j c3 _ (.int .i64 x) rfl ho3.1 _ rfl rfl rfl (by omega) (by omega) ?_)
          intro g4 c4 w6 ho6 hg6 hlo6 hlt6 hor6
          have hb6 : Below w4.heap.size w4 w6 := hb3.grown hg6 (by omega) (fun q hq => by have := (ho3.1.lt q hq).1; omega)
          have hz6 := hg6.size
          have ho7 : Own w6 w4.heap.size w6.heap.size 2 (some ⟨g4, 0, none⟩) (j + 1) c4 (((Qs.take (j + 1)).map valB).map (Value.int .i64)) := by rw [hst.out]; simpa using Own.of_row ho6
          clear ho3 hb3 hg6 ho6 hcQ
          go_wp2_with fail
          go_roundw
          case measure => simp [intOf]; omega
          case rel => exact ⟨j + 1, _, c4, by omega, by go_num, rfl, ho7, by omega, hb6⟩
        · have hjo' : j = Qs.length := by omega
          subst hjo'
          rw [List.take_of_length_le (Nat.le_refl _)] at ho3
          have gm5 := (hbo.block w2.heap.size (by omega)).trans gm.out
          have gr5 := (hbo.block w.heap.size (by omega)).trans gr.out
          have C5 : wr.cell? ⟨w2.heap.size, 0, none⟩ = some (.slice A2 k c2) := by rw [cell_of_row _ _ _ _ _ _ gm5]; rfl
          obtain ⟨vs, ho9, hrows⟩ := oS.below hbo (Nat.le_refl _)
          have rd5 := rd.below hbo (by omega)
          have hbw : Below w.heap.size w wr := hB9.trans (hbo.mono hzw)
          replace gm5 := Lib.hid gm5
          replace gr5 := Lib.hid gr5
          replace rd5 := Lib.hid rd5
          go_wp2_with (at_builtin; refine wpList_append1 wr rfl (.tmp 40) (.tmp 42) 33 rfl w3.heap.size 24 s0 (.slice none 0 0) 24 Tryd.underlying33 hs0 hu0 hu1 hu2 rfl (by omega) A2 k c2 _ (.slice A3 Qs.length c3) rfl (ho9.more (Nat.le_refl _) (by omega)).1 _ rfl rfl rfl (by omega) (by omega) ?_)
          intro g4 c4 w5 ho5 hg5 hlo5 hlt5 hor5
          have hown9 : ∀ q, (Value.slice A2 k c2).ownBlock = some q → w3.heap.size ≤ q := fun q hq => (ho9.1.lt q hq).1
          have g5 := (hg5.block w2.heap.size (by omega) (fun e => by have := hown9 _ e.symm; omega)).trans gm5.out
          have g6 := (hg5.block w.heap.size (by omega) (fun e => by have := hown9 _ e.symm; omega)).trans gr5.out
          have C6 : w5.cell? ⟨w2.heap.size, 0, none⟩ = some (.slice A2 k c2) := by rw [cell_of_row _ _ _ _ _ _ g5]; rfl
          have F6 : w5.frozen? ⟨w2.heap.size, 0, none⟩ = false := frozen_of_row _ _ _ _ _ g5
          have hrw5 := (hrows.kept_ty ho9.1 (by decide) hg5).snoc ((ho3.kept_ty ho9.1 (by decide) hg5).more (by omega) (Nat.le_refl _)) (by omega) (by omega)
          rw [← hms.out] at hrw5
          have hz5 := hg5.size
          have hb5 : Below w.heap.size w w5 := hbw.grown hg5 (by omega) (fun q hq => by have := hown9 q hq; omega)
          have hb6 : Below w3.heap.size wr w5 := (Below.refl _ _).grown hg5 (by omega) (fun q hq => hown9 q hq)
          have ho5' := Own.of_row ho5
          replace rd5 := rd5.out.below hb6 (by omega)
          replace g5 := Lib.hid g5
          replace g6 := Lib.hid g6
          clear C5 ho9 hrows ho3 hg5 ho5
          go_wp2_with fail
          go_roundw
          case measure => simp [intOf]; omega
          case rel =>
            refine ⟨k + 1, some ⟨g4, 0, none⟩, c4, by omega, by go_num, ?_, ?_, ⟨vs ++ [.slice A3 Qs.length c3], ?_, ?_⟩, ?_, by simp; omega, hb5.setCell (show w.heap.size ≤ w2.heap.size by omega) _⟩
            · have := heap_setCell_same _ _ 0 _ _ (Value.slice (some ⟨g4, 0, none⟩) (k + 1) c4) g5.out
              simpa using this
            · exact (Below.heap_setCell _ _ _ _ (by simp; omega)).trans g6.out
            · exact (ho5'.keep (same_set _ _ _ _ _ (.inl (by first | (show w2.heap.size < w3.heap.size; omega) | (show w2.heap.size < w2.heap.size + 1; omega))))).more (by omega) (by simp)
            · exact (hrw5.keep (same_set _ _ _ _ _ (.inl (by first | (show w2.heap.size < w3.heap.size; omega) | (show w2.heap.size < w2.heap.size + 1; omega))))).more (by omega) (by simp; omega)
            · exact rd5.keep (same_set _ _ _ _ _ (.inr (show w2.heap.size ≤ w2.heap.size by omega)))
    · have hkn : k = Ps.length := by omega
      subst hkn
      rw [List.take_of_length_le (Nat.le_refl _)] at oS
      have C5 : wr.cell? ⟨w2.heap.size, 0, none⟩ = some (.slice A2 Ps.length c2) := by rw [cell_of_row _ _ _ _ _ _ gm]; rfl
      have hyB := hB9.size
      generalize Ps.map (fun P => (spl 44 P).map valB) = xss at *
      have hI := l02Is_any A2 Ps.length c2 xss wr oS.rs (Nat.le_refl _)
      have hsm : isManB xss = true → Ps.length + numsIn xss ≤ 1048576 := by
        intro hh
        have h3 := man_ent hh
        have h4 := numsIn_le (n := 400) (fun p hp => (h3.2.2 p hp).2.1)
        have h5 := oS.len
        have := h3.2.1
        have := Nat.mul_le_mul_right 400 this
        omega
      replace hF := hF.out
      replace hsm := Lib.hid hsm
      replace gm := Lib.hid gm
      replace gr := Lib.hid gr
      generalize isManB xss = bm at *
      replace hF := Lib.hid hF
      go_wp2_with fail
      ((with_reducible refine hI.mono ?_); rintro e w5 ⟨rfl, f5⟩)
      clear hI C5
      have y5 := f5.size
      have hb5 : Below w.heap.size w w5 := hB9.trans (f5.mono hyB)
      have gr5 := (f5.block w.heap.size (by omega)).trans gr.out
      have gm5 := (f5.block w2.heap.size (by omega)).trans gm.out
      have F5 : w5.frozen? ⟨w.heap.size, 0, none⟩ = false := frozen_of_row _ _ _ _ _ gr5
      have C5 : w5.cell? ⟨w.heap.size, 0, none⟩ = some (.slice none 0 0) := by rw [cell_of_row _ _ _ _ _ _ gr5]; rfl
      have C6 : w5.cell? ⟨w2.heap.size, 0, none⟩ = some (.slice A2 Ps.length c2) := by rw [cell_of_row _ _ _ _ _ _ gm5]; rfl
      have oS5 := oS.below f5 (Nat.le_refl _)
      replace gr5 := Lib.hid gr5
      replace gm5 := Lib.hid gm5
      replace hF := hF.out
      cases bm with
      | true =>
        replace hF : Hid ((xss, (0 : Int)) = pmF L) := Lib.hid (by rw [hF]; simp)
        go_wp2_with fail
        have g2 := heap_setCell_same _ _ 0 _ _ (Value.slice A2 Ps.length c2) gr5.out
        (try simp only [Exit.inBlock, Exit.then])
        refine bodyPost_ret (v := .tuple #[.agg #[.slice A2 Ps.length c2], .int .i64 0]) ?_ rfl ?_
        · exact results_cell_row2 rfl _ _ w.heap.size 35 #[.slice A2 Ps.length c2] (0, 0) _ rfl (by simpa using g2) Tryd.underlying35 rfl (by kernel_rfl) _ rfl
        · exact ⟨A2, Ps.length, c2, xss, 0, rfl, hF, (oS5.keep (same_set _ _ _ _ _ (.inl (by simp; omega)))).more (by omega) (by simp; omega), hsm.out (by simp), hb5.setCell (by simp) _⟩
      | false =>
        replace hF : Hid ((([] : List (List Int)), (6 : Int)) = pmF L) := Lib.hid (by rw [hF]; simp)
        go_wp2_with fail
        have g2 := heap_setCell_same _ _ 0 _ _ (Value.slice none 0 0) gr5.out
        (try simp only [Exit.inBlock, Exit.then])
        refine bodyPost_ret (v := .tuple #[.agg #[.slice none 0 0], .int .i64 6]) ?_ rfl ?_
        · exact results_cell_row2 rfl _ _ w.heap.size 35 #[.slice none 0 0] (0, 0) _ rfl (by simpa using g2) Tryd.underlying35 rfl (by kernel_rfl) _ rfl
        · exact ⟨_, 0, _, [], 6, rfl, hF, OwnS.nil, by simp [numsIn], hb5.setCell (by simp) _⟩
end Go.Proofs.YtnhcamckngonaaaDoor
