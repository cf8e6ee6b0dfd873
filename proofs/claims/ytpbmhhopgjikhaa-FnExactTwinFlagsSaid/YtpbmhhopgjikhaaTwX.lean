/- Walks: TwinFlags, the program's and the reference's. No condition but the sizes of memory. -/
import Derived.Test.YtpbmhhopgjikhaaTw
import Derived.Test.YtpbmhhopgjikhaaRun
import Derived.Test.YtpbmhhopgjikhaaFaceS
namespace Go.Proofs.Ytpbmhhopgjikhaa
open Go.RowKit
set_option linter.unusedVariables false
set_option maxRecDepth 100000
theorem own_lit2 (w : World) (T : TypeId) (x y : Int) {lo : Nat} (hlo : lo ≤ w.heap.size) : Own (w.alloc (.cells #[.int .i64 x, .int .i64 y] T)) lo (w.heap.size + 1) T (some ⟨w.heap.size, 0, none⟩) 2 2 ([x, y].map (Value.int .i64)) := by
  have h0 := World.ownsRow_lit (e := T) (base := lo) (size := 1) w #[.int .i64 x, .int .i64 y] 2 hlo (by simp only [maxLen]; omega) rfl
  have h1 := Own.of_row h0
  simpa using h1
set_option maxHeartbeats 4000000 in
theorem s_TwinFlags_any (w : World) (A : Option Addr) (n c : Nat) (xss : List (List Int)) {lo hi : Nat} (h : RS w lo hi A n xss) (hhi : hi ≤ w.heap.size) (hnc : n ≤ c) :
    Calls Try.prog 36 #[.agg #[.slice A n c]] w fun e w' => ∃ (A1 : Option Addr) (n1 c1 : Nat) (zs : List Int) (code : Int), e = .returned (.tuple #[.slice A1 n1 c1, .int .i64 code]) ∧ Hid ((zs, code) = twF xss) ∧ Own w' w.heap.size w'.heap.size 2 A1 n1 c1 (zs.map (Value.int .i64)) ∧ n1 ≤ 1048576 ∧ Below w.heap.size w w' := by
  have hm := h.max
  have hl := h.len
  obtain ⟨s0, hs0, hu0, hu1, hu2⟩ := info_parts infoS
  have hR := rs_alloc h hhi (.cells #[.slice A n c] 49)
  have hC : (w.alloc (.cells #[.slice A n c] 49)).cell? ⟨w.heap.size, 0, none⟩ = some (.slice A n c) := al_new _ _ _ _ rfl
  have hB : Below w.heap.size w (w.alloc (.cells #[.slice A n c] 49)) := (Below.refl _ _).alloc (Nat.le_refl _) _
  cases hM : isManB xss with
  | false =>
    have hF : twF xss = ([], 1) := by unfold twF; rw [hM]; rfl
    replace hF := Lib.hid hF
    replace hM := Lib.hid hM
    replace hl := Lib.hid hl
    go_enter Try.func36, Try.ntmps36
    go_wp2_with fail
    obtain ⟨W1, hW⟩ : ∃ W1 : World, w.alloc (.cells #[.slice A n c] 49) = W1 := ⟨_, rfl⟩
    have hz1 : W1.heap.size = w.heap.size + 1 := by rw [← hW]; simp
    rw [hW] at hR hC hB ⊢
    clear hW h 
    ((with_reducible refine (l02Is_any A n c xss _ hR (by omega)).mono ?_); rintro e w2 ⟨rfl, f2⟩)
    rw [hM.out]
    have y2 := f2.size
    have B2 : Below W1.heap.size W1 w2 := f2
    have C2 := (f2.cell (p := ⟨w.heap.size, 0, none⟩) (by simp; omega)).trans hC
    have R2 := hR.below f2 (by omega)
    go_wp2_with fail
    go_ret2
    exact ⟨_, 0, _, [], _, rfl, Lib.hid hF.out.symm, Own.nil, by omega, hB.trans (B2.mono (by omega))⟩
  | true =>
    have hP := isManB_iff.1 hM
    have hn1 : 1 ≤ n := by have := hP.r1; omega
    have hn5 : n ≤ 5 := by have := hP.r5; omega
    have hf2 := hP.f2
    have hf4 := hP.f4
    have hS := hP.sys
    replace hP := Lib.hid hP
    replace hS := Lib.hid hS
    have hFx : ∀ o, tw xss xss.length (flg xss) = o → twF xss = (o.getD [], if o.isNone = true then 4 else 0) := fun o ho => by unfold twF; rw [if_pos hM]; rw [ho]
    have hF := hFx
    clear hFx
    replace hF := Lib.hid hF
    replace hM := Lib.hid hM
    replace hl := Lib.hid hl
    go_enter Try.func36, Try.ntmps36
    go_wp2_with fail
    obtain ⟨W1, hW⟩ : ∃ W1 : World, w.alloc (.cells #[.slice A n c] 49) = W1 := ⟨_, rfl⟩
    have hz1 : W1.heap.size = w.heap.size + 1 := by rw [← hW]; simp
    rw [hW] at hR hC hB ⊢
    clear hW h 
    ((with_reducible refine (l02Is_any A n c xss _ hR (by omega)).mono ?_); rintro e w2 ⟨rfl, f2⟩)
    rw [hM.out]
    have y2 := f2.size
    have B2 : Below W1.heap.size W1 w2 := f2
    have C2 := (f2.cell (p := ⟨w.heap.size, 0, none⟩) (by simp; omega)).trans hC
    have R2 := hR.below f2 (by omega)
    go_wp2_with fail
    have h00 := own_lit0 w2 22 (lo := w2.heap.size) (Nat.le_refl _)
    go_loopw [4, 5] (fun lv iv wq => ∃ (i : Nat) (vs : List Value) (A4 : Option Addr) (c4 : Nat), i ≤ n ∧ iv = .int .i64 i ∧ lv = .slice A4 i c4 ∧ Own wq w2.heap.size wq.heap.size 22 A4 i c4 vs ∧ RowsOwn wq w2.heap.size wq.heap.size 2 vs ((List.range i).map fun j => labL (xss.eraseIdx j) (flg xss)) ∧ Below w2.heap.size w2 wq) (fun _ iv _ => n - (intOf iv).toNat)
    case atStart => exact ⟨0, [], _, 0, by omega, rfl, rfl, h00.more (Nat.le_refl _) (by simp), RowsOwn.nil, (Below.refl _ _).alloc (Nat.le_refl _) _⟩
    case round =>
      clear h00
      obtain ⟨i, vs, A4, c4, hi0, rfl, rfl, oH, oV, hb⟩ := hrel
      have B5 : Below W1.heap.size W1 wr := below_then B2 hb (by omega)
      have C5 := (B5.cell (p := ⟨w.heap.size, 0, none⟩) (by simp; omega)).trans hC
      have R5 := hR.below B5 (by omega)
      have y5 := hb.size
      by_cases hin : i < n
      · go_wp2_with fail
        ((with_reducible refine (l02Faces_any A n c i xss wr R5 (by omega) hin (by omega) _ rfl hf4 hS.out).mono ?_); rintro e w6 ⟨A6, c6, rfl, o6, f6⟩)
        have y6 := f6.size
        have oH6 := oH.below f6 (Nat.le_refl _)
        have oV6 := oV.keep (Same.of_below f6 (Nat.le_refl _))
        have b6 := below_then hb f6 (by omega)
        clear oH oV B5 C5 R5 hb f6
        go_wp2_with (at_builtin; refine wpList_append1 w6 rfl (.tmp 21) (.tmp 25) 23 rfl w2.heap.size 22 s0 (.slice none 0 0) 24 Try.underlying23 hs0 hu0 hu1 hu2 rfl (by omega) A4 i c4 _ (.slice A6 (flg xss) c6) rfl oH6.1 _ rfl rfl rfl (by omega) (by omega) ?_)
        intro g8 c8 w8 ho8 hg8 hlo8 hlt8 hor8
        have hz8 := hg8.size
        have oV8 := (oV6.kept_ty oH6.1 (by decide) hg8).snoc (o6.kept_ty oH6.1 (by decide) hg8) (by omega) (by omega)
        have b8 := b6.grown hg8 (by omega) (fun z hz => (oH6.1.lt z hz).1)
        have oH8 := Own.of_row ho8
        have er : ((List.range i).map fun j => labL (xss.eraseIdx j) (flg xss)) ++ [labL (xss.eraseIdx i) (flg xss)] = (List.range (i + 1)).map fun j => labL (xss.eraseIdx j) (flg xss) := by rw [List.range_succ, List.map_append]; rfl
        rw [er] at oV8
        clear er ho8 hg8 hor8 oH6 oV6 b6 o6
        go_wp2_with fail
        go_roundw
        case measure => simp [intOf]; omega
        case rel => first | exact ⟨i + 1, _, _, c8, by omega, by go_num, rfl, oH8, oV8.more (Nat.le_refl _) hz8, b8⟩ | (repeat (first | exact ⟨⟨i + 1, _, _, c8, by omega, by go_num, rfl, oH8, oV8.more (Nat.le_refl _) hz8, b8⟩, rfl⟩ | refine Exists.intro _ ?_))
      · have hii : i = n := by omega
        subst hii
        have r3 : RS wr w2.heap.size wr.heap.size A4 i ((List.range i).map fun j => labL (xss.eraseIdx j) (flg xss)) := ⟨vs, oH.rd, oV.at⟩
        clear oH oV
        obtain ⟨w3, rfl⟩ : ∃ w3 : World, w3 = wr := ⟨_, rfl⟩
        go_wp2_with fail
        go_loopw [6] (fun fv wq => ∃ f : Nat, f ≤ flg xss ∧ fv = .int .i64 f ∧ Hid ((rngI f).findSome? (twR xss i (flg xss)) = none) ∧ Below w3.heap.size w3 wq) (fun fv _ => flg xss - (intOf fv).toNat)
        case atStart => exact ⟨0, by omega, rfl, Lib.hid rfl, Below.refl _ _⟩
        case round =>
          clear C5 R5
          obtain ⟨f, hf, rfl, hfn, hbf⟩ := hrel
          have B6 : Below W1.heap.size W1 wr := below_then B5 hbf (by omega)
          have C6 := (B6.cell (p := ⟨w.heap.size, 0, none⟩) (by simp; omega)).trans hC
          have R6 := hR.below B6 (by omega)
          have y6 := hbf.size
          go_wp2_with fail
          ((with_reducible refine (l02Flags_any A i c xss _ R6 (by omega) (by omega)).mono ?_); rintro e w7 ⟨rfl, f7⟩)
          have b7 := below_then hbf f7 (by omega)
          have y7 := f7.size
          clear C6 R6 B6 hbf f7
          by_cases hlt : f < flg xss
          · have hw1 : IntKind.i64.wrap ((f : Int) + 1) = ((f + 1 : Nat) : Int) := by rw [IntKind.wrap_i64]; omega
            go_wp2_with fail
            clear hw1
            go_loopw [7] (fun gv wq => ∃ g : Nat, f < g ∧ g ≤ flg xss ∧ gv = .int .i64 g ∧ Hid ((rngI g).findSome? (twG xss i (f : Int)) = none) ∧ Below w3.heap.size w3 wq) (fun gv _ => flg xss - (intOf gv).toNat)
            case atStart => exact ⟨f + 1, by omega, by omega, by first | rfl | (congr 1), Lib.hid (twG_start xss i f), b7⟩
            case round =>
              clear b7
              obtain ⟨g, hfg, hg, rfl, hgn, hbg⟩ := hrel
              have B8 : Below W1.heap.size W1 wr := below_then B5 hbg (by omega)
              have C8 := (B8.cell (p := ⟨w.heap.size, 0, none⟩) (by simp; omega)).trans hC
              have R8 := hR.below B8 (by omega)
              have y8 := hbg.size
              go_wp2_with fail
              ((with_reducible refine (l02Flags_any A i c xss _ R8 (by omega) (by omega)).mono ?_); rintro e w9 ⟨rfl, f9⟩)
              have b9 := below_then hbg f9 (by omega)
              have y9 := f9.size
              clear C8 R8 B8 hbg f9
              by_cases hgN : g < flg xss
              · go_wp2_with fail
                go_loopw [8, 9] (fun sv jv wq => ∃ (j : Nat) (sb : Bool), j ≤ i ∧ jv = .int .i64 j ∧ sv = .bool sb ∧ Hid (sb = sameF xss j f g) ∧ Below w3.heap.size w3 wq) (fun _ jv _ => i - (intOf jv).toNat)
                case atStart => exact ⟨0, true, by omega, rfl, rfl, Lib.hid (by simp [sameF]), b9⟩
                case round =>
                  clear b9
                  obtain ⟨j, sb, hj, rfl, rfl, hsb, hbj⟩ := hrel
                  have yj := hbj.size
                  by_cases hjn : j < i
                  · obtain ⟨b1, o1, Aj, nj, cj, xj, rfl, _, _, hxj, hcj, hrj⟩ := (r3.below hbj (Nat.le_refl _)).at_ hjn
                    obtain rfl : labL (xss.eraseIdx j) (flg xss) = xj := by simp [hjn] at hxj; exact hxj
                    have hnj : nj = flg xss := by rw [← hrj.len, labL_length]
                    subst hnj
                    obtain ⟨b2, o2, vf, rfl, _, _, hvf, hcf⟩ := hrj.at_ hlt
                    obtain ⟨b3, o3, vg, e3, _, _, hvg, hcg⟩ := hrj.at_ hgN
                    injection e3 with e3
                    injection e3 with e4 e5 _
                    subst e4; subst e5
                    have hvf2 : labI xss j f = vf := Option.some.inj ((labL_get hlt).symm.trans hvf)
                    have hvg2 : labI xss j g = vg := Option.some.inj ((labL_get hgN).symm.trans hvg)
                    have hsc := sameF_succ xss j f g
                    rw [hvf2, hvg2, ← hsb.out] at hsc
                    replace hsc := Lib.hid hsc
                    replace hvf := Lib.hid hvf
                    replace hvg := Lib.hid hvg
                    replace hxj := Lib.hid hxj
                    replace hvf2 := Lib.hid hvf2
                    replace hvg2 := Lib.hid hvg2
                    have j0 : (0 : Int) ≤ (j : Int) := by omega
                    have j1 : (j : Int) < (i : Int) := by omega
                    have f0 : (0 : Int) ≤ (f : Int) := by omega
                    have f1 : (f : Int) < ((flg xss : Nat) : Int) := by omega
                    have g0 : (0 : Int) ≤ (g : Int) := by omega
                    have g1 : (g : Int) < ((flg xss : Nat) : Int) := by omega
                    cases sb with
                    | true =>
                      cases hq : decide (vf = vg) with
                      | true =>
                        have hq2 : (vf == vg) = true := by simpa using hq
                        have hs2 : true = sameF xss (j + 1) f g := by rw [hsc.out, hq]; rfl
                        replace hs2 := Lib.hid hs2
                        replace hq := Lib.hid hq
                        go_wp2_with fail
                        go_quiet (fail)
                        go_wp2_with fail
                        go_roundw
                        case measure => simp [intOf]; omega
                        case rel => first | exact ⟨j + 1, true, by omega, by go_num, rfl, hs2, below_dn hbj _⟩ | (repeat (first | exact ⟨⟨j + 1, true, by omega, by go_num, rfl, hs2, below_dn hbj _⟩, rfl⟩ | refine Exists.intro _ ?_))
                      | false =>
                        have hq2 : (vf == vg) = false := by simpa using hq
                        have hs2 : false = sameF xss (j + 1) f g := by rw [hsc.out, hq]; rfl
                        replace hs2 := Lib.hid hs2
                        replace hq := Lib.hid hq
                        go_wp2_with fail
                        go_quiet (fail)
                        go_wp2_with fail
                        go_roundw
                        case measure => simp [intOf]; omega
                        case rel => first | exact ⟨j + 1, false, by omega, by go_num, rfl, hs2, below_dn hbj _⟩ | (repeat (first | exact ⟨⟨j + 1, false, by omega, by go_num, rfl, hs2, below_dn hbj _⟩, rfl⟩ | refine Exists.intro _ ?_))
                    | false =>
                      have hs2 : false = sameF xss (j + 1) f g := by rw [hsc.out]; rfl
                      replace hs2 := Lib.hid hs2
                      go_wp2_with fail
                      go_quiet (fail)
                      go_wp2_with fail
                      go_roundw
                      case measure => simp [intOf]; omega
                      case rel => first | exact ⟨j + 1, false, by omega, by go_num, rfl, hs2, below_dn hbj _⟩ | (repeat (first | exact ⟨⟨j + 1, false, by omega, by go_num, rfl, hs2, below_dn hbj _⟩, rfl⟩ | refine Exists.intro _ ?_))
                  · have hji : j = i := by omega
                    subst hji
                    cases sb with
                    | true =>
                      have htw : tw xss xss.length (flg xss) = some [(f : Int), (g : Int)] := by rw [hl.out]; exact tw_hit hfn.out hgn.out hfg hgN hsb.out.symm
                      have hF2 : Hid (([(f : Int), (g : Int)], (0 : Int)) = twF xss) := Lib.hid (by rw [hF.out _ htw]; rfl)
                      clear htw
                      go_wp2_with fail
                      go_ret2
                      exact ⟨_, 2, _, [(f : Int), (g : Int)], _, rfl, hF2, by simpa using (own_lit2 wr 2 (f : Int) (g : Int) (lo := w.heap.size) (by omega)), by omega, hB.trans (((below_then B5 hbj (by omega)).alloc (by omega) _).mono (by omega))⟩
                    | false =>
                      have hn2 := twG_step hgn.out hfg hsb.out.symm
                      have hw2 : IntKind.i64.wrap ((g : Int) + 1) = ((g + 1 : Nat) : Int) := by rw [IntKind.wrap_i64]; omega
                      replace hn2 := Lib.hid hn2
                      go_wp2_with fail
                      clear hw2
                      go_roundw
                      case measure => first | (simp [intOf]; done) | (simp [intOf]; omega)
                      case rel => first | exact ⟨g + 1, by omega, by omega, by first | rfl | go_num, hn2, hbj⟩ | (repeat (first | exact ⟨⟨g + 1, by omega, by omega, by first | rfl | go_num, hn2, hbj⟩, rfl⟩ | refine Exists.intro _ ?_))
              · have hgg : g = flg xss := by omega
                have hn2 : (rngI (f + 1)).findSome? (twR xss i (flg xss)) = none := tw_next hfn.out (by rw [← hgg]; exact hgn.out)
                have hgd : decide ((g : Int) < ((flg xss : Nat) : Int)) = false := by simp; omega
                have hw2 : IntKind.i64.wrap ((f : Int) + 1) = ((f + 1 : Nat) : Int) := by rw [IntKind.wrap_i64]; omega
                replace hn2 := Lib.hid hn2
                replace hgg := Lib.hid hgg
                go_wp2_with fail
                clear hw2
                go_roundw
                case measure => first | (simp [intOf]; done) | (simp [intOf]; omega)
                case rel => first | exact ⟨f + 1, by omega, by first | rfl | go_num, hn2, b9⟩ | (repeat (first | exact ⟨⟨f + 1, by omega, by first | rfl | go_num, hn2, b9⟩, rfl⟩ | refine Exists.intro _ ?_))
          · have hkk : f = flg xss := by omega
            have htw : tw xss xss.length (flg xss) = none := by rw [hl.out]; unfold tw; rw [← hkk]; rw [← hkk] at hfn; exact hfn.out
            have hF2 : Hid ((([] : List Int), (4 : Int)) = twF xss) := Lib.hid (by rw [hF.out _ htw]; rfl)
            have hgd : decide ((f : Int) < ((flg xss : Nat) : Int)) = false := by simp; omega
            clear htw
            replace hkk := Lib.hid hkk
            go_wp2_with fail
            go_ret2
            exact ⟨_, 0, _, [], _, rfl, hF2, Own.nil, by omega, hB.trans ((below_then B5 b7 (by omega)).mono (by omega))⟩
set_option maxHeartbeats 4000000 in
theorem i_TwinFlags_any (w : World) (A : Option Addr) (n c : Nat) (xss : List (List Int)) {lo hi : Nat} (h : RS w lo hi A n xss) (hhi : hi ≤ w.heap.size) (hnc : n ≤ c) :
    Calls Try.prog 38 #[.agg #[.slice A n c]] w fun e w' => ∃ (A1 : Option Addr) (n1 c1 : Nat) (zs : List Int) (code : Int), e = .returned (.tuple #[.slice A1 n1 c1, .int .i64 code]) ∧ Hid ((zs, code) = twF xss) ∧ Own w' w.heap.size w'.heap.size 2 A1 n1 c1 (zs.map (Value.int .i64)) ∧ n1 ≤ 1048576 ∧ Below w.heap.size w w' := by
  have hm := h.max
  have hl := h.len
  obtain ⟨s0, hs0, hu0, hu1, hu2⟩ := info_parts infoS
  have hR := rs_alloc h hhi (.cells #[.slice A n c] 49)
  have hC : (w.alloc (.cells #[.slice A n c] 49)).cell? ⟨w.heap.size, 0, none⟩ = some (.slice A n c) := al_new _ _ _ _ rfl
  have hB : Below w.heap.size w (w.alloc (.cells #[.slice A n c] 49)) := (Below.refl _ _).alloc (Nat.le_refl _) _
  cases hM : isManB xss with
  | false =>
    have hF : twF xss = ([], 1) := by unfold twF; rw [hM]; rfl
    replace hF := Lib.hid hF
    replace hM := Lib.hid hM
    replace hl := Lib.hid hl
    go_enter Try.func38, Try.ntmps38
    go_wp2_with fail
    obtain ⟨W1, hW⟩ : ∃ W1 : World, w.alloc (.cells #[.slice A n c] 49) = W1 := ⟨_, rfl⟩
    have hz1 : W1.heap.size = w.heap.size + 1 := by rw [← hW]; simp
    rw [hW] at hR hC hB ⊢
    clear hW h 
    ((with_reducible refine (isMan_any A n c xss _ hR (by omega) hnc).mono ?_); rintro e w2 ⟨rfl, f2⟩)
    rw [hM.out]
    have y2 := f2.size
    have B2 : Below W1.heap.size W1 w2 := f2
    have C2 := (f2.cell (p := ⟨w.heap.size, 0, none⟩) (by simp; omega)).trans hC
    have R2 := hR.below f2 (by omega)
    go_wp2_with fail
    go_ret2
    exact ⟨_, 0, _, [], _, rfl, Lib.hid hF.out.symm, Own.nil, by omega, hB.trans (B2.mono (by omega))⟩
  | true =>
    have hP := isManB_iff.1 hM
    have hn1 : 1 ≤ n := by have := hP.r1; omega
    have hn5 : n ≤ 5 := by have := hP.r5; omega
    have hf2 := hP.f2
    have hf4 := hP.f4
    have hS := hP.sys
    replace hP := Lib.hid hP
    replace hS := Lib.hid hS
    have hFx : ∀ o, tw xss xss.length (flg xss) = o → twF xss = (o.getD [], if o.isNone = true then 4 else 0) := fun o ho => by unfold twF; rw [if_pos hM]; rw [ho]
    have hF := hFx
    clear hFx
    replace hF := Lib.hid hF
    replace hM := Lib.hid hM
    replace hl := Lib.hid hl
    go_enter Try.func38, Try.ntmps38
    go_wp2_with fail
    obtain ⟨W1, hW⟩ : ∃ W1 : World, w.alloc (.cells #[.slice A n c] 49) = W1 := ⟨_, rfl⟩
    have hz1 : W1.heap.size = w.heap.size + 1 := by rw [← hW]; simp
    rw [hW] at hR hC hB ⊢
    clear hW h 
    ((with_reducible refine (isMan_any A n c xss _ hR (by omega) hnc).mono ?_); rintro e w2 ⟨rfl, f2⟩)
    rw [hM.out]
    have y2 := f2.size
    have B2 : Below W1.heap.size W1 w2 := f2
    have C2 := (f2.cell (p := ⟨w.heap.size, 0, none⟩) (by simp; omega)).trans hC
    have R2 := hR.below f2 (by omega)
    go_wp2_with fail
    ((with_reducible refine (allFaces_any w.heap.size A n c xss w2 C2 (by omega) R2 (by omega) hn1 hn5 _ rfl hf4 hS.out).mono ?_); rintro e w3 ⟨A3, rfl, oS, f3⟩)
    have y3 := f3.size
    have B3 : Below W1.heap.size W1 w3 := below_then B2 f3 (by omega)
    have C3 := (B3.cell (p := ⟨w.heap.size, 0, none⟩) (by simp; omega)).trans hC
    have R3 := hR.below B3 (by omega)
    have r3 := oS.rs
    clear oS f3
    go_wp2_with fail
    ((with_reducible refine (flags_any _ A n c xss _ C3 R3 (by omega)).mono ?_); rintro e w' ⟨rfl, rfl⟩)
    go_wp2_with fail
    go_loopw [12] (fun fv wq => ∃ f : Nat, f ≤ flg xss ∧ fv = .int .i64 f ∧ Hid ((rngI f).findSome? (twR xss n (flg xss)) = none) ∧ Below w3.heap.size w3 wq) (fun fv _ => flg xss - (intOf fv).toNat)
    case atStart => exact ⟨0, by omega, rfl, Lib.hid rfl, Below.refl _ _⟩
    case round =>
      clear C3 R3
      obtain ⟨f, hf, rfl, hfn, hb⟩ := hrel
      by_cases hlt : f < flg xss
      · have hw1 : IntKind.i64.wrap ((f : Int) + 1) = ((f + 1 : Nat) : Int) := by rw [IntKind.wrap_i64]; omega
        go_wp2_with fail
        clear hw1
        go_loopw [6] (fun gv wq => ∃ g : Nat, f < g ∧ g ≤ flg xss ∧ gv = .int .i64 g ∧ Hid ((rngI g).findSome? (twG xss n (f : Int)) = none) ∧ Below w3.heap.size w3 wq) (fun gv _ => flg xss - (intOf gv).toNat)
        case atStart => exact ⟨f + 1, by omega, by omega, by first | rfl | (congr 1), Lib.hid (twG_start xss n f), hb⟩
        case round =>
          clear hb
          obtain ⟨g, hfg, hg, rfl, hgn, hb⟩ := hrel
          have B5 : Below W1.heap.size W1 wr := below_then B3 hb (by omega)
          have C5 := (B5.cell (p := ⟨w.heap.size, 0, none⟩) (by simp; omega)).trans hC
          have R5 := hR.below B5 (by omega)
          have y5 := hb.size
          go_wp2_with fail
          ((with_reducible refine (flags_any _ A n c xss _ C5 R5 (by omega)).mono ?_); rintro e w' ⟨rfl, rfl⟩)
          by_cases hgN : g < flg xss
          · obtain ⟨b1, o1, Af, nf, cf, xf, rfl, _, _, hxf, hcf, hrf⟩ := (r3.below hb (Nat.le_refl _)).at_ hlt
            obtain ⟨b2, o2, Ag, ng, cg, xg, e2, _, _, hxg, hcg, hrg⟩ := (r3.below hb (Nat.le_refl _)).at_ hgN
            injection e2 with e2
            injection e2 with e3 e4 _
            subst e3; subst e4
            obtain rfl : xf = allF xss (flg xss) n f := by simp [hlt] at hxf; exact hxf.symm
            obtain rfl : xg = allF xss (flg xss) n g := by simp [hgN] at hxg; exact hxg.symm
            have hEq : ∀ m, Calls Try.prog 71 #[.slice Af nf cf, .slice Ag ng cg] (wr.drewN m) fun e w' => e = .returned (.bool (sameF xss n f g)) ∧ ∃ q, w' = wr.drewN q := fun m => by
              have h1 := equal_q Af nf cf (allF xss (flg xss) n f) Ag ng cg (allF xss (flg xss) n g) (wr.drewN m) _ _ _ _ (hrf.keep (fun _ _ _ => rfl)) (hrg.keep (fun _ _ _ => rfl)) (show _ ≤ wr.heap.size by omega) (show _ ≤ wr.heap.size by omega)
              rw [allF_eq] at h1
              exact h1.mono fun e w' ⟨he, q, hq⟩ => ⟨he, m + q, by rw [hq, World.drewN_drewN]⟩
            clear hxf hxg hrf hrg
            have f0 : (0 : Int) ≤ (f : Int) := by omega
            have f1 : (f : Int) < ((flg xss : Nat) : Int) := by omega
            have g0 : (0 : Int) ≤ (g : Int) := by omega
            have g1 : (g : Int) < ((flg xss : Nat) : Int) := by omega
            cases hsm : sameF xss n f g with
            | true =>
              rw [hsm] at hEq
              have htw : tw xss xss.length (flg xss) = some [(f : Int), (g : Int)] := by rw [hl.out]; exact tw_hit hfn.out hgn.out hfg hgN hsm
              have hF2 : Hid (([(f : Int), (g : Int)], (0 : Int)) = twF xss) := Lib.hid (by rw [hF.out _ htw]; rfl)
              clear htw
              replace hsm := Lib.hid hsm
              go_wp2_with fail
              go_quiet ((go_at_call 71; exact hEq _))
              go_wp2_with fail
              go_ret2
              exact ⟨_, 2, _, [(f : Int), (g : Int)], _, rfl, hF2, by simpa using (own_lit2 (wr.drewN nq) 2 (f : Int) (g : Int) (lo := w.heap.size) (show _ ≤ wr.heap.size by omega)), by omega, hB.trans ((below_dn (B5.alloc (by omega) _) nq).mono (by omega))⟩
            | false =>
              rw [hsm] at hEq
              have hn2 := twG_step hgn.out hfg hsm
              have hw2 : IntKind.i64.wrap ((g : Int) + 1) = ((g + 1 : Nat) : Int) := by rw [IntKind.wrap_i64]; omega
              replace hn2 := Lib.hid hn2
              replace hsm := Lib.hid hsm
              go_wp2_with fail
              go_quiet ((go_at_call 71; exact hEq _))
              go_wp2_with fail
              clear hw2
              go_roundw
              case measure => first | (simp [intOf]; done) | (simp [intOf]; omega)
              case rel => first | exact ⟨g + 1, by omega, by omega, by first | rfl | go_num, hn2, below_dn hb _⟩ | (repeat (first | exact ⟨⟨g + 1, by omega, by omega, by first | rfl | go_num, hn2, below_dn hb _⟩, rfl⟩ | refine Exists.intro _ ?_))
          · have hgg : g = flg xss := by omega
            have hn2 : (rngI (f + 1)).findSome? (twR xss n (flg xss)) = none := tw_next hfn.out (by rw [← hgg]; exact hgn.out)
            have hgd : decide ((g : Int) < ((flg xss : Nat) : Int)) = false := by simp; omega
            replace hn2 := Lib.hid hn2
            replace hgg := Lib.hid hgg
            go_wp2_with fail
            go_roundw
            case measure => simp [intOf]; omega
            case rel => first | exact ⟨f + 1, by omega, by go_num, hn2, hb⟩ | (repeat (first | exact ⟨⟨f + 1, by omega, by go_num, hn2, hb⟩, rfl⟩ | refine Exists.intro _ ?_))
      · have hkk : f = flg xss := by omega
        have htw : tw xss xss.length (flg xss) = none := by rw [hl.out]; unfold tw; rw [← hkk]; rw [← hkk] at hfn; exact hfn.out
        have hF2 : Hid ((([] : List Int), (4 : Int)) = twF xss) := Lib.hid (by rw [hF.out _ htw]; rfl)
        clear htw
        replace hkk := Lib.hid hkk
        go_wp2_with fail
        go_ret2
        exact ⟨_, 0, _, [], _, rfl, hF2, Own.nil, by omega, hB.trans ((below_then B3 hb (by omega)).mono (by omega))⟩
end Go.Proofs.Ytpbmhhopgjikhaa
