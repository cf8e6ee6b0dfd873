/- ParseManiplex of the program. No condition but the sizes of memory, strconv's table and errors, a cell of bytealg that holds a number. -/
import Derived.Test.YtnhcamckngonaaaDoorRdN
import Derived.Test.YtnhcamckngonaaaDoorFormS
namespace Go.Proofs.YtnhcamckngonaaaDoor
open Go.RowKit
set_option linter.unusedVariables false
set_option maxRecDepth 100000
theorem RowsOwn.nilv {w : World} {lo hi : Nat} {T : TypeId} : RowsOwn w lo hi T [] [] := RowsOwn.nil
theorem pm_fail {L : List UInt8} {P w : List UInt8} {k j : Nat} (hP : (spl 47 L)[k]? = some P) (hw : (spl 44 P)[j]? = some w) (h : ∀ y : Int, 0 ≤ y → y < 400 → Lib.itoa y ≠ w) : pmF L = ([], 6) :=
  pm_word (List.mem_of_getElem? hP) (List.mem_of_getElem? hw) h
/-- what parseManiplex returns -/
def PmR (L : List UInt8) (zss : List (List Int)) (ok : Bool) : Prop := pmF L = if ok = true then (zss, 0) else ([], 6)
set_option maxHeartbeats 8000000 in
theorem parseManiplex_any (L : List UInt8) (hL : L.length ≤ 1048576) (w : World) {B : Nat} (hT : T10 B w) (hE : EV B w) (hM : MX B w) (hB : B ≤ w.heap.size) :
    Calls Tryd.prog 39 #[.string (strB L)] w fun e w' => ∃ (A1 : Option Addr) (n1 c1 : Nat) (zss : List (List Int)) (ok : Bool), e = .returned (.tuple #[.agg #[.slice A1 n1 c1], .bool ok]) ∧ Hid (PmR L zss ok) ∧ OwnS w' w.heap.size w'.heap.size 24 2 A1 n1 c1 zss ∧ n1 + numsIn zss ≤ 1048576 ∧ Below w.heap.size w w' := by
  obtain ⟨s0, hs0, hu0, hu1, hu2⟩ := info_parts infoS
  obtain ⟨j0, hj0, hy0, hy1, hy2⟩ := info_parts infoI
  have B0 : Below w.heap.size w ((w.alloc (.cells #[.slice none 0 0] 35)).alloc (.cells #[.slice none 0 0] 35)) := ((Below.refl _ _).alloc (Nat.le_refl _) _).alloc (by simp) _
  have gr : ((w.alloc (.cells #[.slice none 0 0] 35)).alloc (.cells #[.slice none 0 0] 35)).heap[w.heap.size]? = some (.cells #[.slice none 0 0] 35 (0, 0)) := by
    refine (((Below.refl _ _).alloc (Nat.le_refl _) _).block w.heap.size (by simp)).trans ?_
    exact heap_new _ _ _ rfl
  have gm : ((w.alloc (.cells #[.slice none 0 0] 35)).alloc (.cells #[.slice none 0 0] 35)).heap[w.heap.size + 1]? = some (.cells #[.slice none 0 0] 35 (0, 0)) := heap_new _ _ _ (by simp)
  by_cases hlong : 10000 < L.length
  · have hF : PmR L [] false := pm_long hlong
    have d1 : (10000 : Int) < (L.length : Int) := by omega
    have c1 : ((w.alloc (.cells #[.slice none 0 0] 35)).alloc (.cells #[.slice none 0 0] 35)).frozen? ⟨w.heap.size, 0, none⟩ = false := frozen_of_row _ _ _ _ _ gr
    have c3 : ((w.alloc (.cells #[.slice none 0 0] 35)).alloc (.cells #[.slice none 0 0] 35)).cell? ⟨w.heap.size + 1, 0, none⟩ = some (.slice none 0 0) := by rw [cell_of_row _ _ _ _ _ _ gm]; rfl
    have c2 : ((w.alloc (.cells #[.slice none 0 0] 35)).alloc (.cells #[.slice none 0 0] 35)).cell? ⟨w.heap.size, 0, none⟩ = some (.slice none 0 0) := by rw [cell_of_row _ _ _ _ _ _ gr]; rfl
    replace hF := Lib.hid hF
    go_enter Tryd.func39, Tryd.ntmps39
    go_wp2_with fail
    obtain ⟨W1, hW⟩ : ∃ W1 : World, (w.alloc (.cells #[.slice none 0 0] 35)).alloc (.cells #[.slice none 0 0] 35) = W1 := ⟨_, rfl⟩
    have hz1 : w.heap.size + 2 ≤ W1.heap.size := by rw [← hW]; simp
    rw [hW] at B0 gr gm c1 c2 c3 ⊢
    clear hW
    replace gr := Lib.hid gr
    (try go_wp2_with fail)
    have g2 := heap_setCell_same _ _ 0 _ _ (Value.slice none 0 0) gr.out
    (try simp only [Exit.inBlock, Exit.then])
    refine bodyPost_ret (v := .tuple #[.agg #[.slice none 0 0], .bool false]) ?_ rfl ?_
    · exact results_cell_row2 rfl _ _ w.heap.size 35 #[.slice none 0 0] (0, 0) _ rfl (by first | simpa using g2 | exact gr.out) Tryd.underlying35 rfl (by kernel_rfl) _ rfl
    · exact ⟨_, 0, _, [], false, rfl, hF, OwnS.nil, by simp [numsIn], by first | exact B0.setCell (by simp) _ | exact B0⟩
  · have d1 : ¬ (10000 : Int) < (L.length : Int) := by omega
    have hS := split1_any 47 L (by omega) _ (hM.on (B0.mono hB))
    have hPl := spl_sum 47 L
    have hPm := spl_mem_len 47 L
    have hpm : ∀ xss, MatR xss (spl 47 L) → PmR L (if isManB xss = true then xss else []) (isManB xss) := by
      intro xss h
      unfold PmR
      rw [pm_of h]
      by_cases hh : isManB xss = true
      · rw [if_pos hh, if_pos hh, if_pos hh]
      · rw [if_neg hh, if_neg hh]
    have hpf : ∀ (P w : List UInt8) (k j : Nat), (spl 47 L)[k]? = some P → (spl 44 P)[j]? = some w → (∀ y : Int, 0 ≤ y → y < 400 → Lib.itoa y ≠ w) → PmR L [] false := fun P w k j h1 h2 h3 => pm_fail h1 h2 h3
    generalize spl 47 L = Ps at *
    replace hpm := Lib.hid hpm
    replace hpf := Lib.hid hpf
    replace hPm := Lib.hid hPm
    go_enter Tryd.func39, Tryd.ntmps39
    go_wp2_with fail
    obtain ⟨W1, hW⟩ : ∃ W1 : World, (w.alloc (.cells #[.slice none 0 0] 35)).alloc (.cells #[.slice none 0 0] 35) = W1 := ⟨_, rfl⟩
    have hz1 : w.heap.size + 2 ≤ W1.heap.size := by rw [← hW]; simp
    rw [hW] at B0 gr gm hS ⊢
    clear hW
    ((with_reducible refine hS.mono ?_); rintro e w3 ⟨rfl, rd3, f3⟩)
    clear hS
    have y3 := f3.size
    have B3 : Below w.heap.size w w3 := B0.trans (f3.mono (by omega))
    have gr3 := (f3.block w.heap.size (by omega)).trans gr
    have gm3 := (f3.block (w.heap.size + 1) (by omega)).trans gm
    clear gr gm B0 f3
    have hlo : ∃ lo0, lo0 = w3.heap.size := ⟨_, rfl⟩
    go_wp2_with fail
    go_loopw [19] (fun kv wq => ∃ (k : Nat) (xss : List (List Int)) (A2 : Option Addr) (c2 : Nat), k ≤ Ps.length ∧ kv = .int .i64 k ∧ Hid (MatR xss (Ps.take k)) ∧ wq.heap[w.heap.size + 1]? = some (.cells #[.slice A2 k c2] 35 (0, 0)) ∧ wq.heap[w.heap.size]? = some (.cells #[.slice none 0 0] 35 (0, 0)) ∧
        OwnS wq w3.heap.size wq.heap.size 24 2 A2 k c2 xss ∧ Rd wq W1.heap.size w3.heap.size (some ⟨W1.heap.size, 0, none⟩) Ps.length (Ps.map fun p => .string (strB p)) ∧ w3.heap.size ≤ wq.heap.size ∧ Below w.heap.size w wq) (fun kv _ => Ps.length - (intOf kv).toNat)
    case atStart => exact ⟨0, [], none, 0, by omega, rfl, Lib.hid (by simpa using MatR.zero), gm3, gr3, OwnS.nil, rd3, Nat.le_refl _, B3⟩
    case round =>
      clear gm3 gr3 rd3 B3
      obtain ⟨k, xss, A2, c2, hk, rfl, hmat, gm, gr, oS, rd, hz, hB9⟩ := hrel
      by_cases hlt : k < Ps.length
      · obtain ⟨P, hP⟩ : ∃ P, Ps[k]? = some P := ⟨Ps[k], List.getElem?_eq_getElem hlt⟩
        have hcP : wr.cell? ⟨W1.heap.size, k, none⟩ = some (.string (strB P)) := by
          have := rd.cell (k := k) (v := .string (strB P)) (by simp [hP])
          simpa using this
        have hPL := hPm.out P (List.mem_of_getElem? hP)
        have hS2 := fun V (hV : Below wr.heap.size wr V) => split1_any 44 P (by omega) V (hM.on ((hB9.mono hB).trans (hV.mono (by have := hB9.size; omega))))
        have hQl := spl_sum 44 P
        have hQm := spl_mem_len 44 P
        have hpf2 : ∀ (w : List UInt8) (j : Nat), (spl 44 P)[j]? = some w → (∀ y : Int, 0 ≤ y → y < 400 → Lib.itoa y ≠ w) → PmR L [] false := fun w j h2 h3 => hpf.out P w k j hP h2 h3
        have hms : ∀ xs, RowR xs (spl 44 P) → MatR (xss ++ [xs]) (Ps.take (k + 1)) := fun xs hx => hmat.out.snoc hP hx
        generalize spl 44 P = Qs at *
        replace hpf2 := Lib.hid hpf2
        replace hms := Lib.hid hms
        replace hQm := Lib.hid hQm
        replace hP := Lib.hid hP
        replace gm := Lib.hid gm
        replace gr := Lib.hid gr
        have hS3 := hS2 wr (Below.refl _ _)
        clear hS2
        obtain ⟨wo, rfl⟩ : ∃ wo : World, wo = wr := ⟨_, rfl⟩
        have hzw := hB9.size
        go_wp2_with fail
        ((with_reducible refine hS3.mono ?_); rintro e w4 ⟨rfl, rd4, f4⟩)
        clear hS3
        have y4 := f4.size
        go_wp2_with fail
        go_loopw [26, 7] (fun kv lv wq => ∃ (j : Nat) (ys : List Int) (A3 : Option Addr) (c3 : Nat), j ≤ Qs.length ∧ kv = .int .i64 j ∧ lv = .slice A3 j c3 ∧ Hid (RowR ys (Qs.take j)) ∧ Own wq w4.heap.size wq.heap.size 2 A3 j c3 (ys.map (Value.int .i64)) ∧ w4.heap.size ≤ wq.heap.size ∧ Below w4.heap.size w4 wq) (fun kv _ _ => Qs.length - (intOf kv).toNat)
        case atStart => exact ⟨0, [], none, 0, by omega, rfl, rfl, Lib.hid (by simpa using RowR.zero), Own.nil, Nat.le_refl _, Below.refl _ _⟩
        case round =>
          obtain ⟨j, ys, A3, c3, hj, rfl, rfl, hrow, ho3, hz3, hb3⟩ := hrel
          have hbo : Below wo.heap.size wo wr := f4.trans (hb3.mono y4)
          by_cases hjo : j < Qs.length
          · obtain ⟨u, hu⟩ : ∃ u, Qs[j]? = some u := ⟨Qs[j], List.getElem?_eq_getElem hjo⟩
            have hcu : wr.cell? ⟨wo.heap.size, j, none⟩ = some (.string (strB u)) := by
              have := (rd4.below hb3 (Nat.le_refl _)).cell (k := j) (v := .string (strB u)) (by simp [hu])
              simpa using this
            have huL := hQm.out u (List.mem_of_getElem? hu)
            have hbw : Below w.heap.size w wr := hB9.trans (hbo.mono hzw)
            have hR := readNumber_any u (by omega) wr (hT.on (hbw.mono hB)) (hE.on (hbw.mono hB)) (by omega)
            go_wp2_with fail
            ((with_reducible refine hR.mono ?_); rintro e w5 ⟨⟨x, ok, rfl, hok, hno⟩, f5⟩)
            clear hR
            have y5 := f5.size
            have hb5 : Below w4.heap.size w4 w5 := hb3.trans (f5.mono hz3)
            have hbw5 : Below w.heap.size w w5 := hbw.trans (f5.mono (by omega))
            cases ok with
            | false =>
              have hF := hpf2.out u j hu (hno rfl)
              have gr5 := (f5.block w.heap.size (by omega)).trans ((hbo.block w.heap.size (by omega)).trans gr.out)
              have F5 : w5.frozen? ⟨w.heap.size, 0, none⟩ = false := frozen_of_row _ _ _ _ _ gr5
              have C5 : w5.cell? ⟨w.heap.size, 0, none⟩ = some (.slice none 0 0) := by rw [cell_of_row _ _ _ _ _ _ gr5]; rfl
              replace hF := Lib.hid hF
              replace gr5 := Lib.hid gr5
              clear hok hno
              go_wp2_with fail
              have g2 := heap_setCell_same _ _ 0 _ _ (Value.slice none 0 0) gr5.out
              (try simp only [Exit.inBlock, Exit.then])
              refine bodyPost_ret (v := .tuple #[.agg #[.slice none 0 0], .bool false]) ?_ rfl ?_
              · exact results_cell_row2 rfl _ _ w.heap.size 35 #[.slice none 0 0] (0, 0) _ rfl (by simpa using g2) Tryd.underlying35 rfl (by kernel_rfl) _ rfl
              · exact ⟨_, 0, _, [], false, rfl, hF, OwnS.nil, by simp [numsIn], hbw5.setCell (by simp) _⟩
            | true =>
              have hst := hrow.out.snoc hu (hok rfl)
              replace hst := Lib.hid hst
              replace hu := Lib.hid hu
              have ho5 := (ho3.below f5 (Nat.le_refl _))
              clear hok hno hcu
              go_wp2_with (at_builtin; refine wpList_append1 w5 rfl (.tmp 38) (.tmp 40) 24 rfl w4.heap.size 2 j0 (.int .i64 0) 8 Tryd.underlying24 hj0 hy0 hy1 hy2 rfl (by omega) A3 j c3 _ (.int .i64 x) rfl ho5.1 _ rfl rfl rfl (by omega) (by omega) ?_)
              intro g4 c4 w6 ho6 hg6 hlo6 hlt6 hor6
              have hb6 : Below w4.heap.size w4 w6 := hb5.grown hg6 (by omega) (fun q hq => by have := (ho5.1.lt q hq).1; omega)
              have hz6 := hg6.size
              clear ho3 ho5 hb3 hg6
              go_wp2_with fail
              go_roundw
              case measure => simp [intOf]; omega
              case rel => exact ⟨j + 1, ys ++ [x], _, c4, by omega, by go_num, rfl, hst, by simpa using Own.of_row ho6, by omega, hb6⟩
          · have hjo' : j = Qs.length := by omega
            subst hjo'
            have hrw : RowR ys Qs := by have := hrow.out; rwa [List.take_of_length_le (Nat.le_refl _)] at this
            have hst := hms.out ys hrw
            have gm5 := (hbo.block (w.heap.size + 1) (by omega)).trans gm.out
            have gr5 := (hbo.block w.heap.size (by omega)).trans gr.out
            have C5 : wr.cell? ⟨w.heap.size + 1, 0, none⟩ = some (.slice A2 k c2) := by rw [cell_of_row _ _ _ _ _ _ gm5]; rfl
            obtain ⟨vs, ho9, hrows⟩ := oS.below hbo (Nat.le_refl _)
            have hyl := hrw.1
            have rd5 := rd.below hbo hz
            have hbw : Below w.heap.size w wr := hB9.trans (hbo.mono hzw)
            replace hst := Lib.hid hst
            replace gm5 := Lib.hid gm5
            replace gr5 := Lib.hid gr5
            replace rd5 := Lib.hid rd5
            replace hrw := Lib.hid hrw
            go_wp2_with (at_builtin; refine wpList_append1 wr rfl (.tmp 44) (.tmp 46) 33 rfl w3.heap.size 24 s0 (.slice none 0 0) 24 Tryd.underlying33 hs0 hu0 hu1 hu2 rfl (by omega) A2 k c2 _ (.slice A3 Qs.length c3) rfl (ho9.more (Nat.le_refl _) (by omega)).1 _ rfl rfl rfl (by omega) (by omega) ?_)
            intro g4 c4 w5 ho5 hg5 hlo5 hlt5 hor5
            have hown9 : ∀ q, (Value.slice A2 k c2).ownBlock = some q → w3.heap.size ≤ q := fun q hq => (ho9.1.lt q hq).1
            have g5 := (hg5.block (w.heap.size + 1) (by omega) (fun e => by have := hown9 _ e.symm; omega)).trans gm5.out
            have g6 := (hg5.block w.heap.size (by omega) (fun e => by have := hown9 _ e.symm; omega)).trans gr5.out
            have C6 : w5.cell? ⟨w.heap.size + 1, 0, none⟩ = some (.slice A2 k c2) := by rw [cell_of_row _ _ _ _ _ _ g5]; rfl
            have F6 : w5.frozen? ⟨w.heap.size + 1, 0, none⟩ = false := frozen_of_row _ _ _ _ _ g5
            have hrw5 := (hrows.kept_ty ho9.1 (by decide) hg5).snoc ((ho3.kept_ty ho9.1 (by decide) hg5).more (by omega) (Nat.le_refl _)) (by omega) (by omega)
            have hz5 := hg5.size
            have hb5 : Below w.heap.size w w5 := hbw.grown hg5 (by omega) (fun q hq => by have := hown9 q hq; omega)
            have hb6 : Below w3.heap.size wr w5 := (Below.refl _ _).grown hg5 (by omega) (fun q hq => hown9 q hq)
            have ho5' := Own.of_row ho5
            replace rd5 := rd5.out.below hb6 (Nat.le_refl _)
            replace g5 := Lib.hid g5
            replace g6 := Lib.hid g6
            clear C5 ho9 hrows ho3 hg5 ho5
            go_wp2_with fail
            go_roundw
            case measure => simp [intOf]; omega
            case rel =>
              refine ⟨k + 1, xss ++ [ys], _, c4, by omega, by go_num, hst, ?_, ?_, ⟨vs ++ [.slice A3 Qs.length c3], (ho5'.far (.inl (by simp; omega)) _).more (Nat.le_refl _) (by simp), ?_⟩, rd5.far (.inl (by simp; omega)) _, by simp; omega, hb5.setCell (by simp) _⟩
              · have := heap_setCell_same _ _ 0 _ _ (Value.slice (some ⟨g4, 0, none⟩) (k + 1) c4) g5.out
                simpa using this
              · exact (Below.heap_setCell _ _ _ _ (by simp)).trans g6.out
              · exact (hrw5.keep (same_set _ _ _ _ _ (.inl (by simp; omega)))).more (Nat.le_refl _) (by simp; omega)
      · have hkn : k = Ps.length := by omega
        subst hkn
        have hmt : MatR xss Ps := by have := hmat.out; rwa [List.take_of_length_le (Nat.le_refl _)] at this
        have hF := hpm.out xss hmt
        have C5 : wr.cell? ⟨w.heap.size + 1, 0, none⟩ = some (.slice A2 Ps.length c2) := by rw [cell_of_row _ _ _ _ _ _ gm]; rfl
        have hyB := hB9.size
        have hI := isMan_any A2 Ps.length c2 xss wr oS.rs (Nat.le_refl _) (by obtain ⟨vs, h1, _⟩ := oS; exact own_cap h1)
        have hsm : isManB xss = true → Ps.length + numsIn xss ≤ 1048576 := by
          intro hh
          have h3 := man_ent hh
          have h4 := numsIn_le (n := 400) (fun p hp => (h3.2.2 p hp).2.1)
          have h5 := oS.len
          have := h3.2.1
          have := Nat.mul_le_mul_right 400 this
          omega
        replace hsm := Lib.hid hsm
        replace hmt := Lib.hid hmt
        replace gm := Lib.hid gm
        replace gr := Lib.hid gr
        generalize isManB xss = bm at *
        go_wp2_with fail
        ((with_reducible refine hI.mono ?_); rintro e w5 ⟨rfl, f5⟩)
        clear hI C5
        have y5 := f5.size
        have hb5 : Below w.heap.size w w5 := hB9.trans (f5.mono hyB)
        have gr5 := (f5.block w.heap.size (by omega)).trans gr.out
        have gm5 := (f5.block (w.heap.size + 1) (by omega)).trans gm.out
        have F5 : w5.frozen? ⟨w.heap.size, 0, none⟩ = false := frozen_of_row _ _ _ _ _ gr5
        have C5 : w5.cell? ⟨w.heap.size, 0, none⟩ = some (.slice none 0 0) := by rw [cell_of_row _ _ _ _ _ _ gr5]; rfl
        have C6 : w5.cell? ⟨w.heap.size + 1, 0, none⟩ = some (.slice A2 Ps.length c2) := by rw [cell_of_row _ _ _ _ _ _ gm5]; rfl
        have oS5 := oS.below f5 (Nat.le_refl _)
        replace gr5 := Lib.hid gr5
        replace gm5 := Lib.hid gm5
        cases bm with
        | true =>
          rw [if_pos rfl] at hF
          replace hF := Lib.hid hF
          go_wp2_with fail
          have g2 := heap_setCell_same _ _ 0 _ _ (Value.slice A2 Ps.length c2) gr5.out
          (try simp only [Exit.inBlock, Exit.then])
          refine bodyPost_ret (v := .tuple #[.agg #[.slice A2 Ps.length c2], .bool true]) ?_ rfl ?_
          · exact results_cell_row2 rfl _ _ w.heap.size 35 #[.slice A2 Ps.length c2] (0, 0) _ rfl (by simpa using g2) Tryd.underlying35 rfl (by kernel_rfl) _ rfl
          · exact ⟨A2, Ps.length, c2, xss, true, rfl, hF, (oS5.keep (same_set _ _ _ _ _ (.inl (by simp; omega)))).more (by omega) (by simp; omega), hsm.out (by simp), hb5.setCell (by simp) _⟩
        | false =>
          rw [if_neg (by decide)] at hF
          replace hF := Lib.hid hF
          go_wp2_with fail
          have g2 := heap_setCell_same _ _ 0 _ _ (Value.slice none 0 0) gr5.out
          (try simp only [Exit.inBlock, Exit.then])
          refine bodyPost_ret (v := .tuple #[.agg #[.slice none 0 0], .bool false]) ?_ rfl ?_
          · exact results_cell_row2 rfl _ _ w.heap.size 35 #[.slice none 0 0] (0, 0) _ rfl (by simpa using g2) Tryd.underlying35 rfl (by kernel_rfl) _ rfl
          · exact ⟨_, 0, _, [], false, rfl, hF, OwnS.nil, by simp [numsIn], hb5.setCell (by simp) _⟩
end Go.Proofs.YtnhcamckngonaaaDoor
