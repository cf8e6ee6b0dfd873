/- ParsePermutation of the program. No condition but the sizes of memory, strconv's table and errors, a cell of bytealg that holds a number. -/
import Derived.Test.YtnhcamckngonaaaDoorPsP
import Derived.Test.YtnhcamckngonaaaDoorRdN
import Derived.Test.YtnhcamckngonaaaDoorPtx
import Derived.Test.YtnhcamckngonaaaDoorPow
import Derived.Test.YtnhcamckngonaaaDoorShc
namespace Go.Proofs.YtnhcamckngonaaaDoor
open Go.RowKit
set_option linter.unusedVariables false
set_option maxRecDepth 100000
/-- strings.Split at the two bytes ")(" -/
theorem split2_any (L : List UInt8) (hL : L.length ≤ 1048577) (w : World) {B : Nat} (hM : MX B w) :
    Calls Tryd.prog 53 #[.string (strB L), .string ⟨#[41, 40]⟩] w fun e w' => e = .returned (.slice (some ⟨w.heap.size, 0, none⟩) (spl2 L).length (spl2 L).length) ∧ Rd w' w.heap.size w'.heap.size (some ⟨w.heap.size, 0, none⟩) (spl2 L).length ((spl2 L).map fun p => .string (strB p)) ∧ Below w.heap.size w w' ∧ (spl2 L).length ≤ 1048578 := by
  obtain ⟨m, hm⟩ := hM
  have hS := strings_Split (strB L) ⟨#[41, 40]⟩ m w (by rw [strB_size]; omega) (hm w (Below.refl _ _)) (by decide)
  have hc : Lib.countB (strB L) ⟨#[41, 40]⟩ = Lib.count L [41, 40] := by
    show Lib.count (strB L).data.toList [41, 40] = _
    rw [strB_data]
  have hle := Lib.countB_le ⟨#[41, 40]⟩ (by decide) _ (strB L) (Nat.le_refl _)
  rw [hc, strB_size] at hle
  have hdat := Lib.splitB_data (⟨#[41, 40]⟩ : ByteArray) 0 (Lib.count L [41, 40]) (strB L)
  have e2 : (Lib.splitB ⟨#[41, 40]⟩ 0 (Lib.count L [41, 40]) (strB L)).map (·.data.toList) = spl2 L := by
    rw [hdat, strB_data]
    rfl
  have e3 : (Lib.splitB ⟨#[41, 40]⟩ 0 (Lib.count L [41, 40]) (strB L)).map Value.string = (spl2 L).map fun p => Value.string (strB p) := by
    rw [← e2, List.map_map]
    refine List.map_congr_left fun x _ => ?_
    show Value.string x = Value.string ⟨x.data.toList.toArray⟩
    cases x; simp
  have e1 : Lib.count L [41, 40] + 1 = (spl2 L).length := by
    have h := congrArg List.length e2
    rw [List.length_map, Lib.splitB_all (⟨#[41, 40]⟩ : ByteArray) (by decide) 0 (Lib.count L [41, 40]) (strB L) hc] at h
    exact h
  rw [hc, e3, e1] at hS
  refine hS.mono fun e w' ⟨he, hw⟩ => ⟨he, ?_, ?_, by omega⟩
  · subst hw
    refine ⟨by simp, by omega, fun _ => ⟨w.heap.size, 0, rfl, Nat.le_refl _, by simp, fun k v hk => ?_⟩⟩
    rw [Nat.zero_add, cell_of_row _ _ _ _ _ _ (heap_new w _ _ rfl)]
    simpa using hk
  · subst hw
    exact (Below.refl _ _).alloc (Nat.le_refl _) _
theorem spl2_mem_len : ∀ (k : Nat) (L : List UInt8), ∀ p ∈ Lib.splitK [41, 40] 0 k L, p.length ≤ L.length
  | 0, L, p, h => by simp [Lib.splitK] at h; subst h; exact Nat.le_refl _
  | k + 1, L, p, h => by
    unfold Lib.splitK at h
    split at h
    · simp at h; subst h; exact Nat.le_refl _
    · rcases List.mem_cons.1 h with h | h
      · subst h; rw [List.length_take]; omega
      · have := spl2_mem_len k _ p h
        simp at this
        omega
/-- the text without its first and last sign -/
def midB (L : List UInt8) : List UInt8 := Lib.trimSuffix (Lib.trimPrefix L [40]) [41]
theorem PT.mid {n : Nat} {L : List UInt8} {q : List Int} (h : PT n L q) : Lib.hasPrefix L [40] = true ∧ Lib.hasSuffix (Lib.trimPrefix L [40]) [41] = true ∧ midB L = innerB q := by
  have ht := h.text
  have h1 : Lib.hasPrefix L [40] = true := by rw [ht]; simp [Lib.hasPrefix, List.isPrefixOf]
  have h2 : Lib.trimPrefix L [40] = innerB q ++ [41] := by
    unfold Lib.trimPrefix
    rw [if_pos h1, ht]; rfl
  have h3 : Lib.hasSuffix (innerB q ++ [41]) [41] = true := by
    unfold Lib.hasSuffix
    rw [List.isSuffixOf_iff_suffix]
    exact ⟨innerB q, rfl⟩
  refine ⟨h1, by rw [h2]; exact h3, ?_⟩
  unfold midB
  rw [h2]
  unfold Lib.trimSuffix
  rw [if_pos h3]
  simp
theorem mid_len (L : List UInt8) : (midB L).length ≤ L.length := by
  unfold midB Lib.trimSuffix Lib.trimPrefix
  split <;> split <;> simp <;> omega
theorem mid_ok (n : Nat) (L : List UInt8) : PsOk n L (spl2 (midB L)) := fun q hq => by
  rw [hq.mid.2.2]
  exact hq.inner
theorem cutP_any (L : List UInt8) (w : World) : Calls Tryd.prog 51 #[.string (strB L), .string ⟨#[40]⟩] w fun e w' => e = .returned (.tuple #[.string (strB (Lib.trimPrefix L [40])), .bool (Lib.hasPrefix L [40])]) ∧ w' = w := by
  have h := strings_CutPrefix (strB L) ⟨#[40]⟩ w
  rw [strB_data] at h
  exact h
theorem cutS_any (L : List UInt8) (hL : L.length ≤ 1048577) (w : World) : Calls Tryd.prog 52 #[.string (strB L), .string ⟨#[41]⟩] w fun e w' => e = .returned (.tuple #[.string (strB (Lib.trimSuffix L [41])), .bool (Lib.hasSuffix L [41])]) ∧ w' = w := by
  have h := strings_CutSuffix (strB L) ⟨#[41]⟩ w (by rw [strB_size]; omega)
  rw [strB_data] at h
  exact h
theorem trimP_len (L : List UInt8) (hL : L.length ≤ 1048576) : (Lib.trimPrefix L [40]).length ≤ 1048577 := by
  unfold Lib.trimPrefix
  split
  · rw [List.length_drop]; omega
  · omega
/-- what parsePermutation returns -/
def PsR (n : Nat) (L : List UInt8) (zs : List Int) (ok : Bool) : Prop := psG n L = if ok = true then (zs, 0) else ([], 6)
set_option maxHeartbeats 8000000 in
theorem parsePermutation_any (n : Nat) (hn : n ≤ 400) (L : List UInt8) (hL : L.length ≤ 1048576) (w : World) {B : Nat} (hT : T10 B w) (hE : EV B w) (hM : MX B w) (hB : B ≤ w.heap.size) :
    Calls Tryd.prog 28 #[.int .i64 n, .string (strB L)] w fun e w' => ∃ (A1 : Option Addr) (n1 c1 : Nat) (zs : List Int) (ok : Bool), e = .returned (.tuple #[.slice A1 n1 c1, .bool ok]) ∧ Hid (PsR n L zs ok) ∧ Own w' w.heap.size w'.heap.size 2 A1 n1 c1 (zs.map (Value.int .i64)) ∧ n1 ≤ 400 ∧ Below w.heap.size w w' := by
  obtain ⟨j0, hj0, hy0, hy1, hy2⟩ := info_parts infoI
  have hI := identity_any n w (by omega)
  have hC1 := fun V => cutP_any L V
  have hC2 := fun V => cutS_any (Lib.trimPrefix L [40]) (trimP_len L hL) V
  have hml := mid_len L
  have hmok := mid_ok n L
  have hmm : Lib.trimSuffix (Lib.trimPrefix L [40]) [41] = midB L := rfl
  rw [hmm] at hC2
  by_cases hgood : Lib.hasPrefix L [40] = true ∧ Lib.hasSuffix (Lib.trimPrefix L [40]) [41] = true ∧ L.length ≤ 5000
  · obtain ⟨g1, g2, g3⟩ := hgood
    rw [g1] at hC1
    rw [g2] at hC2
    have d1 : ¬ (5000 : Int) < (L.length : Int) := by omega
    generalize Lib.trimPrefix L [40] = T1 at *
    obtain ⟨M, hMid⟩ : ∃ M, midB L = M := ⟨_, rfl⟩
    rw [hMid] at hml hmok hC2 hmm
    clear hMid hmm g1 g2
    have hSp := fun V (hV : MX B V) => split2_any M (by omega) V hV
    have hPm := spl2_mem_len (Lib.count M [41, 40]) M
    have e2 : Lib.splitK [41, 40] 0 (Lib.count M [41, 40]) M = spl2 M := rfl
    rw [e2] at hPm
    generalize spl2 M = Ps at *
    clear e2
    replace hmok := Lib.hid hmok
    replace hPm := Lib.hid hPm
    go_enter Tryd.func28, Tryd.ntmps28
    go_wp2_with fail
    ((with_reducible refine hI.mono ?_); rintro e w1 ⟨A1, rfl, o1, f1⟩)
    clear hI
    have y1 := f1.size
    go_wp2_with fail
    ((with_reducible refine (hC1 _).mono ?_); rintro e w1 ⟨rfl, rfl⟩)
    clear hC1
    go_wp2_with fail
    ((with_reducible refine (hC2 _).mono ?_); rintro e w1 ⟨rfl, rfl⟩)
    clear hC2
    go_wp2_with fail
    have hS1 := hSp _ (hM.on (f1.mono hB))
    clear hSp
    ((with_reducible refine hS1.mono ?_); rintro e w2 ⟨rfl, rd2, f2, hPl⟩)
    clear hS1
    have y2 := f2.size
    have B2 : Below w.heap.size w w2 := f1.trans (f2.mono y1)
    have o2 := o1.below f2 (Nat.le_refl _)
    clear o1 f1 f2
    go_wp2_with fail
    obtain ⟨wb, rfl⟩ : ∃ wb : World, wb = w2 := ⟨_, rfl⟩
    go_loopw [45] (fun kv wq => ∃ (k : Nat) (g : List Int), k ≤ Ps.length ∧ kv = .int .i64 k ∧ Hid (GotI n L k g) ∧ Own wq w.heap.size w1.heap.size 2 A1 n n (g.map (Value.int .i64)) ∧ Rd wq w1.heap.size wb.heap.size (some ⟨w1.heap.size, 0, none⟩) Ps.length (Ps.map fun p => .string (strB p)) ∧ wb.heap.size ≤ wq.heap.size ∧ Below w.heap.size w wq) (fun kv _ => Ps.length - (intOf kv).toNat)
    case atStart => exact ⟨0, idL n, by omega, rfl, Lib.hid (GotI.zero n L), o2, rd2, Nat.le_refl _, B2⟩
    case round =>
      clear o2 rd2 B2
      obtain ⟨k, g, hk, rfl, hgot, oG, rd, hz, hB9⟩ := hrel
      by_cases hlt : k < Ps.length
      · obtain ⟨P, hP⟩ : ∃ P, Ps[k]? = some P := ⟨Ps[k], List.getElem?_eq_getElem hlt⟩
        have hcP : wr.cell? ⟨w1.heap.size, k, none⟩ = some (.string (strB P)) := by
          have := rd.cell (k := k) (v := .string (strB P)) (by simp [hP])
          simpa using this
        have hPL := hPm.out P (List.mem_of_getElem? hP)
        have hS2 := split1_any 32 P (by omega) wr (hM.on (hB9.mono hB))
        have hQl := spl_sum 32 P
        have hQm := spl_mem_len 32 P
        have hrow0 : P ≠ [] → RowI n L k (spl 32 P) 0 [] := fun hne => RowI.zero (hmok.out.at_ hP hne)
        generalize spl 32 P = Qs at *
        replace hrow0 := Lib.hid hrow0
        replace hQm := Lib.hid hQm
        replace hP := Lib.hid hP
        obtain ⟨wo, rfl⟩ : ∃ wo : World, wo = wr := ⟨_, rfl⟩
        have hzw := hB9.size
        go_wp2_with fail
        ((with_reducible refine hS2.mono ?_); rintro e w4 ⟨rfl, rd4, f4⟩)
        clear hS2
        have y4 := f4.size
        go_wp2_with fail
        go_loopw [52, 12] (fun kv lv wq => ∃ (j : Nat) (ys : List Int) (A3 : Option Addr) (c3 : Nat), j ≤ Qs.length ∧ kv = .int .i64 j ∧ lv = .slice A3 j c3 ∧ ys.length = j ∧ Hid (P ≠ [] → RowI n L k Qs j ys) ∧ Own wq w4.heap.size wq.heap.size 2 A3 j c3 (ys.map (Value.int .i64)) ∧ w4.heap.size ≤ wq.heap.size ∧ Below w4.heap.size w4 wq) (fun kv _ _ => Qs.length - (intOf kv).toNat)
        case atStart => exact ⟨0, [], none, 0, by omega, rfl, rfl, rfl, hrow0, Own.nil, Nat.le_refl _, Below.refl _ _⟩
        case round =>
          clear hrow0
          obtain ⟨j, ys, A3, c3, hj, rfl, rfl, hyl, hrow, ho3, hz3, hb3⟩ := hrel
          have hbo : Below wo.heap.size wo wr := f4.trans (hb3.mono y4)
          have hbw : Below w.heap.size w wr := hB9.trans (hbo.mono hzw)
          by_cases hjo : j < Qs.length
          · obtain ⟨u, hu⟩ : ∃ u, Qs[j]? = some u := ⟨Qs[j], List.getElem?_eq_getElem hjo⟩
            have hcu : wr.cell? ⟨wo.heap.size, j, none⟩ = some (.string (strB u)) := by
              have := (rd4.below hb3 (Nat.le_refl _)).cell (k := j) (v := .string (strB u)) (by simp [hu])
              simpa using this
            have huL := hQm.out u (List.mem_of_getElem? hu)
            have hR := readNumber_any u (by omega) wr (hT.on (hbw.mono hB)) (hE.on (hbw.mono hB)) (by omega)
            go_wp2_with fail
            ((with_reducible refine hR.mono ?_); rintro e w5 ⟨⟨x, ok, rfl, hok, hno⟩, f5⟩)
            clear hR hcu
            have y5 := f5.size
            have hb5 : Below w4.heap.size w4 w5 := hb3.trans (f5.mono hz3)
            have hbw5 : Below w.heap.size w w5 := hbw.trans (f5.mono (by omega))
            by_cases hPe : P = []
            · have he : (P == []) = true := by simpa using hPe
              replace hPe := Lib.hid hPe
              have ho5 := (ho3.below f5 (Nat.le_refl _))
              clear hok hno
              go_wp2_with (at_builtin; refine wpList_append1 w5 rfl (.tmp 74) (.tmp 76) 24 rfl w4.heap.size 2 j0 (.int .i64 0) 8 Tryd.underlying24 hj0 hy0 hy1 hy2 rfl (by omega) A3 j c3 _ (.int .i64 x) rfl ho5.1 _ rfl rfl rfl (by omega) (by omega) ?_)
              intro g4 c4 w6 ho6 hg6 hlo6 hlt6 hor6
              have hb6 : Below w4.heap.size w4 w6 := hb5.grown hg6 (by omega) (fun q hq => by have := (ho5.1.lt q hq).1; omega)
              have hz6 := hg6.size
              clear ho3 ho5 hb3 hg6
              go_wp2_with fail
              go_roundw
              case measure => simp [intOf]; omega
              case rel => exact ⟨j + 1, ys ++ [x], _, c4, by omega, by go_num, rfl, by simp; omega, Lib.hid (fun h => absurd hPe.out h), by simpa using Own.of_row ho6, by omega, hb6⟩
            · have he : (P == []) = false := by simpa using hPe
              cases ok with
              | false =>
                have hF : PsR n L [] false := psG_no ((hrow.out hPe).bad hu (fun y h0 h1 h2 => hno rfl y h0 h2))
                replace hF := Lib.hid hF
                clear hok hno hPe
                go_wp2_with fail
                go_ret2
                exact ⟨_, 0, _, [], false, rfl, hF, Own.nil, by omega, hbw5⟩
              | true =>
                have hW := within_any x 0 ((n : Int) - 1) w5
                obtain ⟨hx1, hx2⟩ := hok rfl
                cases hin : (decide (0 ≤ x) && decide (x ≤ (n : Int) - 1)) with
                | false =>
                  have hF : PsR n L [] false := psG_no ((hrow.out hPe).bad hu (fun y h0 h1 h2 e => by
                    have := hx2 y h0 h2 e
                    subst this
                    simp at hin
                    omega))
                  rw [hin] at hW
                  replace hF := Lib.hid hF
                  clear hok hno hx1 hx2 hin hPe
                  go_wp2_with fail
                  ((with_reducible refine hW.mono ?_); rintro e w5 ⟨rfl, rfl⟩)
                  clear hW
                  go_wp2_with fail
                  go_ret2
                  exact ⟨_, 0, _, [], false, rfl, hF, Own.nil, by omega, hbw5⟩
                | true =>
                  have hin2 : 0 ≤ x ∧ x < (n : Int) := by
                    simp at hin
                    omega
                  have hst := (hrow.out hPe).snoc hu hin2.1 hin2.2 (fun y h0 h1 e => hx2 y h0 h1 e)
                  rw [hin] at hW
                  replace hst := Lib.hid hst
                  replace hu := Lib.hid hu
                  clear hok hno hx1 hx2 hin hin2 hPe
                  go_wp2_with fail
                  ((with_reducible refine hW.mono ?_); rintro e w5 ⟨rfl, rfl⟩)
                  clear hW
                  have ho5 := (ho3.below f5 (Nat.le_refl _))
                  go_wp2_with (at_builtin; refine wpList_append1 w5 rfl (.tmp 74) (.tmp 76) 24 rfl w4.heap.size 2 j0 (.int .i64 0) 8 Tryd.underlying24 hj0 hy0 hy1 hy2 rfl (by omega) A3 j c3 _ (.int .i64 x) rfl ho5.1 _ rfl rfl rfl (by omega) (by omega) ?_)
                  intro g4 c4 w6 ho6 hg6 hlo6 hlt6 hor6
                  have hb6 : Below w4.heap.size w4 w6 := hb5.grown hg6 (by omega) (fun q hq => by have := (ho5.1.lt q hq).1; omega)
                  have hz6 := hg6.size
                  clear ho3 ho5 hb3 hg6
                  go_wp2_with fail
                  go_roundw
                  case measure => simp [intOf]; omega
                  case rel => exact ⟨j + 1, ys ++ [x], _, c4, by omega, by go_num, rfl, by simp; omega, Lib.hid (fun _ => hst.out), by simpa using Own.of_row ho6, by omega, hb6⟩
          · have hjo' : j = Qs.length := by omega
            subst hjo'
            have oG5 := (oG.below hbo (by omega))
            have rd5 := rd.below hbo hz
            have hri := ho3.ri
            have hs0 : if P = [] then GotI n L k g else StoI n L k ys 0 g := by
              by_cases hPe : P = []
              · rw [if_pos hPe]; exact hgot.out
              · rw [if_neg hPe]; exact StoI.zero (hrow.out hPe) hgot.out
            have hgl := hgot.out.1
            have hrng : P ≠ [] → ∀ y ∈ ys, 0 ≤ y ∧ y < (n : Int) := fun h => (hrow.out h).2.1
            replace hs0 := Lib.hid hs0
            replace hrng := Lib.hid hrng
            clear hrow oG rd ho3 hb3 rd4
            obtain ⟨wi, rfl⟩ : ∃ wi : World, wi = wr := ⟨_, rfl⟩
            have hzi := hbo.size
            go_wp2_with fail
            go_loopw [81] (fun kv wq => ∃ (i : Nat) (g' : List Int), i ≤ Qs.length ∧ kv = .int .i64 i ∧ g'.length = n ∧ Hid (if P = [] then GotI n L k g' else StoI n L k ys i g') ∧ Own wq w.heap.size w1.heap.size 2 A1 n n (g'.map (Value.int .i64)) ∧ Rd wq w1.heap.size wb.heap.size (some ⟨w1.heap.size, 0, none⟩) Ps.length (Ps.map fun p => .string (strB p)) ∧ RI wq w4.heap.size wi.heap.size A3 Qs.length ys ∧ wi.heap.size ≤ wq.heap.size ∧ Below w.heap.size w wq) (fun kv _ => Qs.length - (intOf kv).toNat)
            case atStart => exact ⟨0, g, by omega, rfl, hgl, hs0, oG5, rd5, hri, Nat.le_refl _, hbw⟩
            case round =>
              clear oG5 rd5 hri hs0
              obtain ⟨i, g', hi, rfl, hgl, hs, oG, rd, hri, hzr, hbw⟩ := hrel
              by_cases hil : i < Qs.length
              · obtain ⟨b3, o3, y, rfl, _, _, hy, hcy⟩ := hri.at_ hil
                by_cases hPe : P = []
                · have he : (P == []) = true := by simpa using hPe
                  have hs' : GotI n L k g' := by have := hs.out; rwa [if_pos hPe] at this
                  replace hPe := Lib.hid hPe
                  replace hs' := Lib.hid hs'
                  go_wp2_with fail
                  go_roundw
                  case measure => simp [intOf]; omega
                  case rel => exact ⟨i + 1, g', by omega, by go_num, hgl, Lib.hid (by rw [if_pos hPe.out]; exact hs'.out), oG, rd, hri, hzr, hbw⟩
                · have he : (P == []) = false := by simpa using hPe
                  have hs' : StoI n L k ys i g' := by have := hs.out; rwa [if_neg hPe] at this
                  have hyr := hrng.out hPe y (List.mem_of_getElem? hy)
                  obtain ⟨u, rfl⟩ := Int.eq_ofNat_of_zero_le hyr.1
                  have hun : u < n := by omega
                  have hml : (i + 1) % Qs.length < Qs.length := Nat.mod_lt _ (by omega)
                  obtain ⟨b4, o4, v, e4, _, _, hv, hcv⟩ := hri.at_ hml
                  injection e4 with e4
                  injection e4 with e41 e42 _
                  subst e41; subst e42
                  have hmod : ((i : Int) + 1) % (Qs.length : Int) = (((i + 1) % Qs.length : Nat) : Int) := by push_cast; rfl
                  have hst := hs'.step hy (by rw [show ys.length = Qs.length from hyl]; exact hv)
                  replace hst := Lib.hid hst
                  generalize (i + 1) % Qs.length = m at *
                  obtain ⟨z, hz0⟩ : ∃ z, g'[u]? = some z := ⟨g'[u]'(by omega), List.getElem?_eq_getElem (by omega)⟩
                  obtain ⟨b6, y6, rfl, hb61, hb62, _, hy6, _, _⟩ := oG.atI hun
                  have hcg := oG.cellI hz0
                  have hfr := oG.frz u
                  replace hy := Lib.hid hy
                  replace hv := Lib.hid hv
                  replace hPe := Lib.hid hPe
                  have hyB := hbw.size
                  go_wp2_with fail
                  go_roundw
                  case measure => simp [intOf]; omega
                  case rel => exact ⟨i + 1, g'.set u v, by omega, by go_num, by simp [hgl], Lib.hid (by rw [if_neg hPe.out]; simpa using hst.out), oG.setI v, rd.keep (same_set _ _ _ _ _ (.inl hb62)), hri.keep (same_set _ _ _ _ _ (.inl (show b6 < _ by omega))), by simp; omega, hbw.setCell hb61 _⟩
              · have : i = Qs.length := by omega
                subst this
                have hfin : GotI n L (k + 1) g' := by
                  have := hs.out
                  by_cases hPe : P = []
                  · rw [if_pos hPe] at this
                    exact this.skip hmok.out (by rw [hP.out, hPe])
                  · rw [if_neg hPe] at this
                    rw [← hyl] at this
                    exact this.done
                replace hfin := Lib.hid hfin
                go_wp2_with fail
                go_roundw
                case measure => simp [intOf]; omega
                case rel => exact ⟨k + 1, g', by omega, by go_num, hfin, oG, rd, by omega, hbw⟩
      · have : k = Ps.length := by omega
        subst this
        have hfin := hmok.out.fin hgot.out
        have hgl := hfin.1
        have hIP := isPerm_any A1 n n g wr _ _ oG.ri (by have := hB9.size; omega)
        have hyB := hB9.size
        cases hpb : isPermB g with
        | false =>
          have hF : PsR n L [] false := hfin.no (.inl hpb)
          rw [hpb] at hIP
          replace hF := Lib.hid hF
          go_wp2_with fail
          ((with_reducible refine hIP.mono ?_); rintro e w5 ⟨rfl, f5⟩)
          clear hIP
          have hb5 : Below w.heap.size w w5 := hB9.trans (f5.mono hyB)
          go_wp2_with fail
          go_ret2
          exact ⟨_, 0, _, [], false, rfl, hF, Own.nil, by omega, hb5⟩
        | true =>
          rw [hpb] at hIP
          have hprm : isPermP g := of_decide_eq_true hpb
          have hrg := hprm.rng
          rw [hgl] at hrg
          have hPT := fun V (hV : Below wr.heap.size wr V) => permutationText_any A1 n n g V (oG.ri.below hV (by omega)) (by have := hV.size; omega) hn hrg (hT.on ((hB9.mono hB).trans (hV.mono (by omega)))) (by have := hV.size; omega)
          by_cases hte : permB g = L
          · have hF : PsR n L g true := hfin.yes hpb hte
            have het : (permB g == L) = true := by simpa using hte
            replace hte := Lib.hid hte
            generalize permB g = tx at *
            replace hF := Lib.hid hF
            replace hrg := Lib.hid hrg
            replace hprm := Lib.hid hprm
            clear hfin
            go_wp2_with fail
            ((with_reducible refine hIP.mono ?_); rintro e w5 ⟨rfl, f5⟩)
            clear hIP
            have y5 := f5.size
            have hPT5 := hPT _ f5
            clear hPT
            have hb5 : Below w.heap.size w w5 := hB9.trans (f5.mono hyB)
            go_wp2_with fail
            ((with_reducible refine hPT5.mono ?_); rintro e w6 ⟨rfl, f6⟩)
            clear hPT5
            have hb6 : Below w.heap.size w w6 := hb5.trans (f6.mono (by omega))
            have oG6 := (oG.below f5 (by omega)).below f6 (by omega)
            have y6 := f6.size
            go_wp2_with fail
            go_ret2
            exact ⟨A1, n, n, g, true, rfl, hF, oG6.more (Nat.le_refl _) (by omega), by omega, hb6⟩
          · have hF : PsR n L [] false := hfin.no (.inr hte)
            have het : (permB g == L) = false := by simpa using hte
            replace hte := Lib.hid hte
            generalize permB g = tx at *
            replace hF := Lib.hid hF
            replace hrg := Lib.hid hrg
            replace hprm := Lib.hid hprm
            clear hfin
            go_wp2_with fail
            ((with_reducible refine hIP.mono ?_); rintro e w5 ⟨rfl, f5⟩)
            clear hIP
            have y5 := f5.size
            have hPT5 := hPT _ f5
            clear hPT
            have hb5 : Below w.heap.size w w5 := hB9.trans (f5.mono hyB)
            go_wp2_with fail
            ((with_reducible refine hPT5.mono ?_); rintro e w6 ⟨rfl, f6⟩)
            clear hPT5
            have hb6 : Below w.heap.size w w6 := hb5.trans (f6.mono (by omega))
            go_wp2_with fail
            go_ret2
            exact ⟨_, 0, _, [], false, rfl, hF, Own.nil, by omega, hb6⟩
  · have hF : PsR n L [] false := psG_no (fun ⟨q, hq⟩ => hgood ⟨hq.mid.1, hq.mid.2.1, hq.len⟩)
    replace hF := Lib.hid hF
    have hml2 := hml
    generalize midB L = M at *
    clear hmok hmm
    by_cases g1 : Lib.hasPrefix L [40] = true
    · by_cases g2 : Lib.hasSuffix (Lib.trimPrefix L [40]) [41] = true
      · have g3 : (5000 : Int) < (L.length : Int) := by
          have : ¬ L.length ≤ 5000 := fun h => hgood ⟨g1, g2, h⟩
          omega
        rw [g1] at hC1
        rw [g2] at hC2
        clear g1 g2 hgood
        generalize Lib.trimPrefix L [40] = T1 at *
        go_enter Tryd.func28, Tryd.ntmps28
        go_wp2_with fail
        ((with_reducible refine hI.mono ?_); rintro e w1 ⟨A1, rfl, o1, f1⟩)
        clear hI
        go_wp2_with fail
        ((with_reducible refine (hC1 _).mono ?_); rintro e w1 ⟨rfl, rfl⟩)
        clear hC1
        go_wp2_with fail
        ((with_reducible refine (hC2 _).mono ?_); rintro e w1 ⟨rfl, rfl⟩)
        clear hC2
        go_wp2_with fail
        go_ret2
        exact ⟨_, 0, _, [], false, rfl, hF, Own.nil, by omega, f1⟩
      · have g2 := Bool.eq_false_iff.2 g2
        rw [g1] at hC1
        rw [g2] at hC2
        clear g1 g2 hgood
        generalize Lib.trimPrefix L [40] = T1 at *
        go_enter Tryd.func28, Tryd.ntmps28
        go_wp2_with fail
        ((with_reducible refine hI.mono ?_); rintro e w1 ⟨A1, rfl, o1, f1⟩)
        clear hI
        go_wp2_with fail
        ((with_reducible refine (hC1 _).mono ?_); rintro e w1 ⟨rfl, rfl⟩)
        clear hC1
        go_wp2_with fail
        ((with_reducible refine (hC2 _).mono ?_); rintro e w1 ⟨rfl, rfl⟩)
        clear hC2
        go_wp2_with fail
        go_ret2
        exact ⟨_, 0, _, [], false, rfl, hF, Own.nil, by omega, f1⟩
    · have g1 := Bool.eq_false_iff.2 g1
      rw [g1] at hC1
      generalize Lib.hasSuffix (Lib.trimPrefix L [40]) [41] = b2 at *
      clear g1 hgood
      generalize Lib.trimPrefix L [40] = T1 at *
      go_enter Tryd.func28, Tryd.ntmps28
      go_wp2_with fail
      ((with_reducible refine hI.mono ?_); rintro e w1 ⟨A1, rfl, o1, f1⟩)
      clear hI
      go_wp2_with fail
      ((with_reducible refine (hC1 _).mono ?_); rintro e w1 ⟨rfl, rfl⟩)
      clear hC1
      go_wp2_with fail
      ((with_reducible refine (hC2 _).mono ?_); rintro e w1 ⟨rfl, rfl⟩)
      clear hC2
      go_wp2_with fail
      go_ret2
      exact ⟨_, 0, _, [], false, rfl, hF, Own.nil, by omega, f1⟩
end Go.Proofs.YtnhcamckngonaaaDoor
