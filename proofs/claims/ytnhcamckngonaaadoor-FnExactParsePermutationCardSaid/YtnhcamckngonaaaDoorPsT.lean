/- ParsePermutation of the reference. No condition but the sizes of memory. -/
import Derived.Test.YtnhcamckngonaaaDoorPsS
namespace Go.Proofs.YtnhcamckngonaaaDoor
open Go.RowKit
set_option linter.unusedVariables false
set_option maxRecDepth 100000
theorem sa_drew {w : World} {lo hi : Nat} : Same lo hi w w.drew := fun _ _ _ => rfl
theorem strB_drop1 (P : List UInt8) : (strB P).extract 1 P.length = strB (P.drop 1) := by
  rw [strB_cut, List.take_of_length_le (by simp)]
set_option maxHeartbeats 8000000 in
theorem s_ParsePermutation_any (x : Int) (hx : -9223372036854775808 ≤ x ∧ x ≤ 9223372036854775807) (L : List UInt8) (hL : L.length ≤ 1048576) (w : World) :
    Calls Tryd.prog 13 #[.int .i64 x, .string (strB L)] w fun e w' => ∃ (A1 : Option Addr) (n1 c1 : Nat) (zs : List Int) (code : Int), e = .returned (.tuple #[.slice A1 n1 c1, .int .i64 code]) ∧ Hid ((zs, code) = psF x L) ∧ Own w' w.heap.size w'.heap.size 2 A1 n1 c1 (zs.map (Value.int .i64)) ∧ n1 ≤ 1048576 ∧ Below w.heap.size w w' := by
  obtain ⟨j0, hj0, hy0, hy1, hy2⟩ := info_parts infoI
  have hW := in_any x 0 400 w
  cases hin : (decide (0 ≤ x) && decide (x ≤ 400)) with
  | false =>
    have hF : (([] : List Int), (2 : Int)) = psF x L := (psf_out hin L).symm
    rw [hin] at hW
    replace hF := Lib.hid hF
    clear hin
    go_enter Tryd.func13, Tryd.ntmps13
    go_wp2_with fail
    ((with_reducible refine hW.mono ?_); rintro e w' ⟨rfl, rfl⟩)
    go_wp2_with fail
    go_ret2
    exact ⟨_, 0, _, [], 2, rfl, hF, Own.nil, by omega, Below.refl _ _⟩
  | true =>
    obtain ⟨n, rfl, hn⟩ := dec400 hin
    rw [hin] at hW
    clear hin hx
    rw [psf_in hn]
    have hU := l01Unit_any n (by omega) w
    have hS := fun V => l01SplitC 41 41 rfl L (by omega) V
    have hPl := spl_sum 41 L
    have hPm := spl_mem_len 41 L
    have hok := rs_ok n L
    have hor : ∀ g, GotF n L g → isPermB g = true → permB g = L → psG n L = (g, 0) := fun g h1 h2 h3 => h1.yes h2 h3
    generalize spl 41 L = Rs at *
    replace hPm := Lib.hid hPm
    replace hok := Lib.hid hok
    replace hor := Lib.hid hor
    go_enter Tryd.func13, Tryd.ntmps13
    go_wp2_with fail
    ((with_reducible refine hW.mono ?_); rintro e w ⟨rfl, rfl⟩)
    go_wp2_with fail
    ((with_reducible refine hU.mono ?_); rintro e w1 ⟨A1, cu, rfl, o1, f1⟩)
    clear hU hW
    have y1 := f1.size
    have hS1 := hS w1
    clear hS
    go_wp2_with fail
    ((with_reducible refine hS1.mono ?_); rintro e w2 ⟨AP, cP, rfl, rd2, f2⟩)
    clear hS1
    have y2 := f2.size
    have B2 : Below w.heap.size w w2 := f1.trans (f2.mono y1)
    have o2 := o1.below f2 (Nat.le_refl _)
    clear o1 f1 f2
    go_wp2_with fail
    obtain ⟨wb, rfl⟩ : ∃ wb : World, wb = w2 := ⟨_, rfl⟩
    go_loopw [8] (fun kv wq => ∃ (k : Nat) (g : List Int), k ≤ Rs.length ∧ kv = .int .i64 k ∧ Hid (GotI n L k g) ∧ Own wq w.heap.size w1.heap.size 2 A1 n cu (g.map (Value.int .i64)) ∧ Rd wq w1.heap.size wb.heap.size AP Rs.length (Rs.map fun p => .string (strB p)) ∧ wb.heap.size ≤ wq.heap.size ∧ Below w.heap.size w wq) (fun kv _ => Rs.length - (intOf kv).toNat)
    case atStart => exact ⟨0, idL n, by omega, rfl, Lib.hid (GotI.zero n L), o2, rd2, Nat.le_refl _, B2⟩
    case round =>
      clear o2 rd2 B2
      obtain ⟨k, g, hk, rfl, hgot, oG, rd, hz, hB9⟩ := hrel
      by_cases hgo : k + 1 < Rs.length ∧ L ≠ [40, 41]
      · obtain ⟨hlt, hLn⟩ := hgo
        have d1 : (k : Int) + 1 < (Rs.length : Int) := by omega
        have d2 : (L == [40, 41]) = false := by simpa using hLn
        obtain ⟨P, hP⟩ : ∃ P, Rs[k]? = some P := ⟨Rs[k]'(by omega), List.getElem?_eq_getElem (by omega)⟩
        obtain ⟨bP, oP, vP, rfl, _, _, hvP, hcP⟩ := rd.at_ (show k < Rs.length by omega)
        have hvP2 : vP = .string (strB P) := by
          rw [List.getElem?_map, hP] at hvP
          simpa using hvP.symm
        subst hvP2
        have hPL := hPm.out P (List.mem_of_getElem? hP)
        have hpart := hok.out.at_ hP hlt hLn
        replace hvP := Lib.hid hvP
        replace hP := Lib.hid hP
        replace hLn := Lib.hid hLn
        by_cases hP0 : P = []
        · have hF : (([] : List Int), (6 : Int)) = psG n L := (psG_no (fun ⟨q, hq⟩ => by
            obtain ⟨c, _, e⟩ := hpart q hq
            rw [hP0] at e; simp at e)).symm
          have d3 : (P.length : Int) < 1 := by rw [hP0]; simp
          replace hF := Lib.hid hF
          replace hP0 := Lib.hid hP0
          clear hpart
          go_wp2_with fail
          go_ret2
          exact ⟨_, 0, _, [], 6, rfl, hF, Own.nil, by omega, hB9⟩
        · have hpl : 0 < P.length := List.length_pos_iff.2 hP0
          have d3 : ¬ (P.length : Int) < 1 := by omega
          obtain ⟨u0, hu0⟩ : ∃ u, P[0]? = some u := ⟨P[0], List.getElem?_eq_getElem hpl⟩
          have hix := strB_at hu0
          by_cases h40 : u0 = 40
          · have d4 : ((u0.toNat : Int) == 40) = true := by rw [h40]; rfl
            have hS2 := fun V => l01SplitC 32 32 rfl (P.drop 1) (by rw [List.length_drop]; omega) V
            have hQl := spl_sum 32 (P.drop 1)
            have hQm := spl_mem_len 32 (P.drop 1)
            have hdl : (P.drop 1).length ≤ P.length := by rw [List.length_drop]; omega
            have hrow0 : RowI n L k (spl 32 (P.drop 1)) 0 [] := RowI.zero (fun q hq => by
              obtain ⟨c, hc, e⟩ := hpart q hq
              exact ⟨c, hc, by rw [e]; rfl⟩)
            have hdr := strB_drop1 P
            rw [← hdr] at hS2
            generalize spl 32 (P.drop 1) = Qs at *
            replace hQl : Qs.length ≤ 1048578 := by omega
            replace hQm : Hid (∀ p ∈ Qs, p.length ≤ 1048577) := Lib.hid (fun p hp => by have := hQm p hp; omega)
            replace hrow0 := Lib.hid hrow0
            clear hdr hpart hP0 h40 hu0
            obtain ⟨wo, rfl⟩ : ∃ wo : World, wo = wr := ⟨_, rfl⟩
            have hzw := hB9.size
            have hS3 := hS2 wo
            clear hS2
            go_wp2_with fail
            ((with_reducible refine hS3.mono ?_); rintro e w4 ⟨AQ, cQ, rfl, rd4, f4⟩)
            clear hS3
            have y4 := f4.size
            have o4 := own_lit0s w4 2
            have f5 := (Below.refl w4.heap.size w4).alloc (Nat.le_refl _) (.cells #[] 2)
            go_wp2_with fail
            obtain ⟨w5, hW⟩ : ∃ w5 : World, w4.alloc (.cells #[] 2) = w5 := ⟨_, rfl⟩
            have hz5 : w4.heap.size ≤ w5.heap.size := by rw [← hW]; simp
            rw [hW] at o4 f5 ⊢
            clear hW
            go_loopw [11, 10] (fun kv lv wq => ∃ (j : Nat) (ys : List Int) (A3 : Option Addr) (c3 : Nat), j ≤ Qs.length ∧ kv = .int .i64 j ∧ lv = .slice A3 j c3 ∧ Hid (RowI n L k Qs j ys) ∧ Own wq w4.heap.size wq.heap.size 2 A3 j c3 (ys.map (Value.int .i64)) ∧ w4.heap.size ≤ wq.heap.size ∧ Below w4.heap.size w4 wq) (fun kv _ _ => Qs.length - (intOf kv).toNat)
            case atStart => exact ⟨0, [], _, 0, by omega, rfl, rfl, hrow0, o4, hz5, f5⟩
            case round =>
              clear hrow0 o4 hz5 f5
              obtain ⟨j, ys, A3, c3, hj, rfl, rfl, hrow, ho3, hz3, hb3⟩ := hrel
              have hbo : Below wo.heap.size wo wr := f4.trans (hb3.mono y4)
              have hbw : Below w.heap.size w wr := hB9.trans (hbo.mono hzw)
              by_cases hjo : j < Qs.length
              · obtain ⟨u, hu⟩ : ∃ u, Qs[j]? = some u := ⟨Qs[j], List.getElem?_eq_getElem hjo⟩
                obtain ⟨bQ, oQ, vQ, rfl, _, _, hvQ, hcQ⟩ := (rd4.below hb3 (Nat.le_refl _)).at_ hjo
                have hvQ2 : vQ = .string (strB u) := by
                  rw [List.getElem?_map, hu] at hvQ
                  simpa using hvQ.symm
                subst hvQ2
                have huL := hQm.out u (List.mem_of_getElem? hu)
                have hR := l01Value_any u (by omega) wr
                have hbad : ¬ (0 ≤ valB u ∧ valB u < (n : Int)) → ¬ ∃ q, PT n L q := fun h => hrow.out.badV hu h
                have hst : 0 ≤ valB u → valB u < (n : Int) → RowI n L k Qs (j + 1) (ys ++ [valB u]) := fun h0 h1 => hrow.out.snocV hu h0 h1
                have hW2 := in_any (valB u) 0 ((n : Int) - 1) wr
                replace hu := Lib.hid hu
                replace hvQ := Lib.hid hvQ
                generalize valB u = x at *
                cases hin : (decide (0 ≤ x) && decide (x ≤ (n : Int) - 1)) with
                | false =>
                  have hF : (([] : List Int), (6 : Int)) = psG n L := (psG_no (hbad (fun h => by simp at hin; omega))).symm
                  rw [hin] at hW2
                  replace hF := Lib.hid hF
                  clear hbad hst hin
                  go_wp2_with fail
                  ((with_reducible refine hR.mono ?_); rintro e w' ⟨rfl, rfl⟩)
                  clear hR
                  go_wp2_with fail
                  ((with_reducible refine hW2.mono ?_); rintro e w' ⟨rfl, rfl⟩)
                  clear hW2
                  go_wp2_with fail
                  go_ret2
                  exact ⟨_, 0, _, [], 6, rfl, hF, Own.nil, by omega, hbw⟩
                | true =>
                  have hin2 : 0 ≤ x ∧ x < (n : Int) := by simp at hin; omega
                  have hst := hst hin2.1 hin2.2
                  rw [hin] at hW2
                  replace hst := Lib.hid hst
                  clear hbad hin hin2
                  go_wp2_with fail
                  ((with_reducible refine hR.mono ?_); rintro e wr ⟨rfl, rfl⟩)
                  clear hR
                  go_wp2_with fail
                  ((with_reducible refine hW2.mono ?_); rintro e wr ⟨rfl, rfl⟩)
                  clear hW2
                  go_wp2_with (at_builtin; refine wpList_append1 wr rfl (.tmp 69) (.tmp 71) 24 rfl w4.heap.size 2 j0 (.int .i64 0) 8 Tryd.underlying24 hj0 hy0 hy1 hy2 rfl (by omega) A3 j c3 _ (.int .i64 x) rfl ho3.1 _ rfl rfl rfl (by omega) (by omega) ?_)
                  intro g4 c4 w6 ho6 hg6 hlo6 hlt6 hor6
                  have hb6 : Below w4.heap.size w4 w6 := hb3.grown hg6 (by omega) (fun q hq => by have := (ho3.1.lt q hq).1; omega)
                  have hz6 := hg6.size
                  clear ho3 hb3 hg6 hcQ
                  go_wp2_with fail
                  go_roundw
                  case measure => simp [intOf]; omega
                  case rel => exact ⟨j + 1, ys ++ [x], _, c4, by omega, by go_num, rfl, hst, by simpa using Own.of_row ho6, by omega, hb6⟩
              · have hjo' : j = Qs.length := by omega
                subst hjo'
                have oG5 := (oG.below hbo (by omega))
                have rd5 := rd.below hbo hz
                have hri := ho3.ri
                have hs0 : StoI n L k ys 0 g := StoI.zero hrow.out hgot.out
                have hyl := hrow.out.1
                have hgl := hgot.out.1
                have hrng := hrow.out.2.1
                replace hs0 := Lib.hid hs0
                replace hrng := Lib.hid hrng
                clear hrow oG rd ho3 hb3 rd4
                obtain ⟨wi, rfl⟩ : ∃ wi : World, wi = wr := ⟨_, rfl⟩
                have hzi := hbo.size
                go_wp2_with fail
                go_loopw [13] (fun kv wq => ∃ (i : Nat) (g' : List Int), i ≤ Qs.length ∧ kv = .int .i64 i ∧ g'.length = n ∧ Hid (StoI n L k ys i g') ∧ Own wq w.heap.size w1.heap.size 2 A1 n cu (g'.map (Value.int .i64)) ∧ Rd wq w1.heap.size wb.heap.size (some ⟨bP, oP, none⟩) Rs.length (Rs.map fun p => .string (strB p)) ∧ RI wq w4.heap.size wi.heap.size A3 Qs.length ys ∧ wi.heap.size ≤ wq.heap.size ∧ Below w.heap.size w wq) (fun kv _ => Qs.length - (intOf kv).toNat)
                case atStart => exact ⟨0, g, by omega, rfl, hgl, hs0, oG5, rd5, hri, Nat.le_refl _, hbw⟩
                case round =>
                  clear oG5 rd5 hri hs0
                  obtain ⟨i, g', hi, rfl, hgl, hs', oG, rd, hri, hzr, hbw⟩ := hrel
                  by_cases hil : i < Qs.length
                  · obtain ⟨b3, o3, y, rfl, _, _, hy, hcy⟩ := hri.at_ hil
                    have hyr := hrng.out y (List.mem_of_getElem? hy)
                    obtain ⟨u, rfl⟩ := Int.eq_ofNat_of_zero_le hyr.1
                    have hun : u < n := by omega
                    have hml : (i + 1) % Qs.length < Qs.length := Nat.mod_lt _ (by omega)
                    obtain ⟨b4, o4, v, e4, _, _, hv, hcv⟩ := hri.at_ hml
                    injection e4 with e4
                    injection e4 with e41 e42 _
                    subst e41; subst e42
                    have hmod : ((i : Int) + 1) % (Qs.length : Int) = (((i + 1) % Qs.length : Nat) : Int) := by push_cast; rfl
                    have hst := hs'.out.step hy (by rw [show ys.length = Qs.length from hyl]; exact hv)
                    replace hst := Lib.hid hst
                    generalize (i + 1) % Qs.length = m at *
                    obtain ⟨z, hz0⟩ : ∃ z, g'[u]? = some z := ⟨g'[u]'(by omega), List.getElem?_eq_getElem (by omega)⟩
                    obtain ⟨b6, y6, rfl, hb61, hb62, _, hy6, _, _⟩ := oG.atI hun
                    have hcg := oG.cellI hz0
                    have hfr := oG.frz u
                    replace hy := Lib.hid hy
                    replace hv := Lib.hid hv
                    have hyB := hbw.size
                    go_wp2_with fail
                    go_region
                    all_goals
                      go_wp2_with fail
                      go_roundw
                      case measure => simp [intOf]; omega
                      case rel =>
                        have q1 := oG.setI (k := u) v
                        have q2 := rd.keep (same_set wr ⟨b6, u, none⟩ (.int .i64 v) _ _ (.inl hb62))
                        have q3 := hri.keep (same_set wr ⟨b6, u, none⟩ (.int .i64 v) _ _ (.inl (show b6 < w4.heap.size by omega)))
                        have q4 := hbw.setCell (p := ⟨b6, u, none⟩) hb61 (.int .i64 v)
                        exact ⟨i + 1, g'.set u v, by omega, by go_num, by simp [hgl], Lib.hid (by simpa using hst.out), q1.keep sa_drew, q2.keep sa_drew, q3.keep sa_drew, by simp; omega, ⟨q4.os, q4.tape, q4.output, q4.size, q4.block⟩⟩
                  · have : i = Qs.length := by omega
                    subst this
                    have hfin : GotI n L (k + 1) g' := by
                      have := hs'.out
                      rw [← hyl] at this
                      exact this.done
                    replace hfin := Lib.hid hfin
                    go_wp2_with fail
                    go_roundw
                    case measure => simp [intOf]; omega
                    case rel => exact ⟨k + 1, g', by omega, by go_num, hfin, oG, rd, by omega, hbw⟩
          · have hF : (([] : List Int), (6 : Int)) = psG n L := (psG_no (fun ⟨q, hq⟩ => by
              obtain ⟨c, _, e⟩ := hpart q hq
              rw [e] at hu0; simp at hu0; exact h40 hu0.symm)).symm
            have d4 : ((u0.toNat : Int) == 40) = false := by
              simp only [beq_eq_false_iff_ne, ne_eq]
              intro e
              exact h40 (UInt8.toNat.inj (by show u0.toNat = 40; omega))
            replace hF := Lib.hid hF
            clear hpart hP0 h40 hu0
            go_wp2_with fail
            go_ret2
            exact ⟨_, 0, _, [], 6, rfl, hF, Own.nil, by omega, hB9⟩
      · have hfin := hok.out.fin hgot.out (by
          by_cases h : k + 1 < Rs.length
          · exact .inr (Classical.byContradiction fun h2 => hgo ⟨h, h2⟩)
          · exact .inl (by omega))
        have hgl := hfin.1
        have hIP := l01Perm_any A1 n cu g wr _ _ oG.ri (by have := hB9.size; omega)
        have hyB := hB9.size
        have hexit : (¬ ((k : Int) + 1 < (Rs.length : Int))) ∨ ((k : Int) + 1 < (Rs.length : Int) ∧ (L == [40, 41]) = true) := by
          by_cases h : k + 1 < Rs.length
          · exact .inr ⟨by omega, by simpa using Classical.byContradiction fun h2 => hgo ⟨h, h2⟩⟩
          · exact .inl (by omega)
        clear hgo
        cases hpb : isPermB g with
        | false =>
          have hF : (([] : List Int), (6 : Int)) = psG n L := (hfin.no (.inl hpb)).symm
          rw [hpb] at hIP
          replace hF := Lib.hid hF
          clear hfin
          rcases hexit with d1 | ⟨d1, d2⟩
          all_goals
            go_wp2_with fail
            ((with_reducible refine hIP.mono ?_); rintro e w5 ⟨rfl, f5⟩)
            clear hIP
            have hb5 : Below w.heap.size w w5 := hB9.trans (f5.mono hyB)
            go_wp2_with fail
            go_ret2
            exact ⟨_, 0, _, [], 6, rfl, hF, Own.nil, by omega, hb5⟩
        | true =>
          rw [hpb] at hIP
          have hprm : isPermP g := of_decide_eq_true hpb
          have hrg := hprm.rng
          rw [hgl] at hrg
          have hPT := fun V (hV : Below wr.heap.size wr V) => l01Text_any A1 n cu g V (oG.ri.below hV (by omega)) (by have := hV.size; omega) hn hrg
          by_cases hte : permB g = L
          · have hF : (g, (0 : Int)) = psG n L := (hfin.yes hpb hte).symm
            have het : (permB g == L) = true := by simpa using hte
            replace hte := Lib.hid hte
            generalize permB g = tx at *
            replace hF := Lib.hid hF
            replace hrg := Lib.hid hrg
            replace hprm := Lib.hid hprm
            clear hfin
            rcases hexit with d1 | ⟨d1, d2⟩
            all_goals
              go_wp2_with fail
              ((with_reducible refine hIP.mono ?_); rintro e w5 ⟨rfl, f5⟩)
              clear hIP
              have y5 := f5.size
              have hPT5 := hPT _ f5
              clear hPT
              have hb5 : Below w.heap.size w w5 := hB9.trans (f5.mono hyB)
              go_wp2_with fail
              ((with_reducible refine hPT5.mono ?_); rintro e w6 ⟨rfl, f6⟩)
              clear hPT5
              have hb6 : Below w.heap.size w w6 := hb5.trans (f6.mono (by omega))
              have oG6 := (oG.below f5 (by omega)).below f6 (by omega)
              have y6 := f6.size
              go_wp2_with fail
              go_ret2
              exact ⟨A1, n, cu, g, 0, rfl, hF, oG6.more (Nat.le_refl _) (by omega), by omega, hb6⟩
          · have hF : (([] : List Int), (6 : Int)) = psG n L := (hfin.no (.inr hte)).symm
            have het : (permB g == L) = false := by simpa using hte
            replace hte := Lib.hid hte
            generalize permB g = tx at *
            replace hF := Lib.hid hF
            replace hrg := Lib.hid hrg
            replace hprm := Lib.hid hprm
            clear hfin
            rcases hexit with d1 | ⟨d1, d2⟩
            all_goals
              go_wp2_with fail
              ((with_reducible refine hIP.mono ?_); rintro e w5 ⟨rfl, f5⟩)
              clear hIP
              have y5 := f5.size
              have hPT5 := hPT _ f5
              clear hPT
              have hb5 : Below w.heap.size w w5 := hB9.trans (f5.mono hyB)
              go_wp2_with fail
              ((with_reducible refine hPT5.mono ?_); rintro e w6 ⟨rfl, f6⟩)
              clear hPT5
              have hb6 : Below w.heap.size w w6 := hb5.trans (f6.mono (by omega))
              go_wp2_with fail
              go_ret2
              exact ⟨_, 0, _, [], 6, rfl, hF, Own.nil, by omega, hb6⟩
end Go.Proofs.YtnhcamckngonaaaDoor
