/- Walks: the flags of a poset: the reference's marks. No condition but that it is a poset. -/
import Derived.Test.YtebdfhkimnlglaaDoorFlgP
import Derived.Deep.Cut
import Derived.Test.YtebdfhkimnlglaaDoorRow
import Derived.Test.YtebdfhkimnlglaaDoorLawP
import Derived.Test.YtebdfhkimnlglaaDoorFace
import Derived.Test.YtebdfhkimnlglaaDoorOrbS
namespace Go.Proofs.YtebdfhkimnlglaaDoor
open Go.RowKit
set_option linter.unusedVariables false
set_option maxRecDepth 100000
open Classical
theorem Own.cellV {w : World} {lo hi b n c k : Nat} {T : TypeId} {vs : List Value} {v : Value} (h : Own w lo hi T (some ⟨b, 0, none⟩) n c vs) (hv : vs[k]? = some v) : w.cell? ⟨b, k, none⟩ = some v := by
  have := Rd.cell h.rd hv
  simpa using this
set_option maxHeartbeats 8000000 in
theorem l03Alive_any (r : Int) (D : Option Addr) (e0 n : Nat) (ps : List Int) (A : Option Addr) (c : Nat) (xss : List (List Int)) (w : World) {lo hi lo' hi' : Nat} (g : RI w lo hi D n ps) (hg : hi ≤ w.heap.size) (h : RS w lo' hi' A n xss) (hhi : hi' ≤ w.heap.size) (hp : PosP r ps xss) :
    Calls Tryd.prog 39 #[.agg #[.int .i64 r, .slice D n e0, .slice A n c]] w fun e' w' => ∃ A1, e' = .returned (.slice A1 n n) ∧ Own w' w.heap.size w'.heap.size 4 A1 n n ((alR (Al r ps xss) n).map Value.bool) ∧ Below w.heap.size w w' := by
  obtain ⟨i0, hi0, hq0, hq1, hq2⟩ := info_parts infoB
  have hl := g.len
  have hl1 := h.len
  have hn5 : n ≤ 500 := by have := hp.n5; omega
  have hr15 : 1 ≤ r ∧ r ≤ 5 := ⟨hp.r1, hp.r5⟩
  have hR := rs_alloc h hhi (.cells #[.int .i64 r, .slice D n e0, .slice A n c] 29)
  have hG := ri_alloc g hg (.cells #[.int .i64 r, .slice D n e0, .slice A n c] 29)
  have hB : Below w.heap.size w (w.alloc (.cells #[.int .i64 r, .slice D n e0, .slice A n c] 29)) := (Below.refl _ _).alloc (Nat.le_refl _) _
  have p0 : (w.alloc (.cells #[.int .i64 r, .slice D n e0, .slice A n c] 29)).heap[w.heap.size]? = some (.cells #[.int .i64 r, .slice D n e0, .slice A n c] 29 (0, 0)) := heap_new _ _ _ rfl
  have hrk : ∀ (k : Nat) (x : Int), ps[k]? = some x → 0 ≤ x ∧ x ≤ r - 1 := fun k x hx => hp.rk x (mem_of_get? hx)
  have hbe : ∀ (f : Nat) (B : List Int), xss[f]? = some B → ∀ (k : Nat) (x : Int), B[k]? = some x → 0 ≤ x ∧ x < (n : Int) := fun f B hB k x hx => by
    obtain ⟨h0, h1, _⟩ := hp.bel f B hB k x hx
    omega
  have hbl : ∀ (f : Nat) (B : List Int), xss[f]? = some B → B.length ≤ 500 := fun f B hB => by have := bel_len (hp.bel f B hB); omega
  obtain ⟨R, rfl⟩ : ∃ R : Nat, r = R := ⟨r.toNat, by omega⟩
  have c0 := al3_0 w (.int .i64 (R : Int)) (.slice D n e0) (.slice A n c) 29 w.heap.size rfl
  have c1 := al3_1 w (.int .i64 (R : Int)) (.slice D n e0) (.slice A n c) 29 w.heap.size rfl
  have c2 := al3_2 w (.int .i64 (R : Int)) (.slice D n e0) (.slice A n c) 29 w.heap.size rfl
  replace p0 := Lib.hid p0
  replace hl := Lib.hid hl
  replace hl1 := Lib.hid hl1
  replace hp := Lib.hid hp
  replace hrk := Lib.hid hrk
  replace hbe := Lib.hid hbe
  replace hbl := Lib.hid hbl
  go_enter Tryd.func39, Tryd.ntmps39
  go_upto_region 1 with fail
  obtain ⟨W1, hW⟩ : ∃ W1 : World, w.alloc (.cells #[.int .i64 (R : Int), .slice D n e0, .slice A n c] 29) = W1 := ⟨_, rfl⟩
  have hz1 : W1.heap.size = w.heap.size + 1 := by rw [← hW]; simp
  rw [hW] at hR hG hB p0 c0 c1 c2 ⊢
  clear hW h g
  go_wp2_with (at_make; refine wpList_make_full _ rfl _ _ 51 rfl (w.heap.size + 1) 4 i0 (.bool false) 1 Tryd.underlying51 hi0 hq0 hq1 _ _ _ _ n rfl rfl rfl rfl ?c1 ?c2 (by omega) ?_)
  case c1 => rw [hq2]; omega
  case c2 => simp only [maxLen]; omega
  intro w2 hown hgw
  have B2 : Below W1.heap.size W1 w2 := (Below.refl _ _).grown hgw (Nat.le_refl _) (by simp)
  have z2 : w.heap.size + 1 < w2.heap.size := (hown.lt (w.heap.size + 1) (by simp [Value.ownBlock])).2
  have o2 : Own w2 (w.heap.size + 1) (w.heap.size + 2) 4 (some ⟨w.heap.size + 1, 0, none⟩) n n ((alR (AlTo (R : Int) ps xss n) n).map Value.bool) := by
    rw [alR_false _ n (fun j hj => by have := hl.out; subst this; exact alTo_top j hj)]
    refine ⟨?_, fun a ha => by cases ha; simp⟩
    simpa [toList_madeCells_one, Value.cells] using hown
  clear hown hgw
  have C1 := (B2.cell (p := ⟨w.heap.size, 1, none⟩) (by simp; omega)).trans c1
  go_wp2_with fail
  go_loopw [4] (fun kv wq => ∃ (F : Nat) (v : Int), F ≤ n ∧ Hid (v = (F : Int) - 1) ∧ kv = .int .i64 v ∧ -1 ≤ v ∧ v < n ∧ Own wq (w.heap.size + 1) (w.heap.size + 2) 4 (some ⟨w.heap.size + 1, 0, none⟩) n n ((alR (AlTo (R : Int) ps xss F) n).map Value.bool) ∧ W1.heap.size + 1 ≤ wq.heap.size ∧ Below W1.heap.size W1 wq) (fun kv _ => (intOf kv + 1).toNat)
  case atStart => exact ⟨n, _, by omega, Lib.hid rfl, rfl, by omega, by omega, o2, by omega, B2⟩
  case round =>
    clear o2 B2
    obtain ⟨F, v, hF, hv, rfl, hv0, hv1, o2, zz, hb⟩ := hrel
    by_cases h0 : 0 ≤ v
    · obtain ⟨f, rfl⟩ : ∃ z : Nat, v = z := ⟨v.toNat, by omega⟩
      have hFf : F = f + 1 := by have := hv.out; omega
      subst hFf
      have hfn : f < n := by omega
      obtain ⟨bD, oD, pf, hDe, _, _, hpf, hcf⟩ := hG.at_ hfn
      subst hDe
      obtain ⟨bA, oA, Af, nf, cf, Bf, hAe, _, _, hBf, hcB, hrB⟩ := hR.at_ hfn
      subst hAe
      obtain ⟨hpf0, hpf1⟩ := hrk.out f pf hpf
      have hgpf : ps.getD f 0 = pf := getD_some hpf
      have hnB := hrB.len
      have hnB5 := hbl.out f Bf hBf
      replace hgpf := Lib.hid hgpf
      replace hpf := Lib.hid hpf
      replace hBf := Lib.hid hBf
      replace hnB := Lib.hid hnB
      have hnf5 : nf ≤ 500 := by have := hnB.out; omega
      have C0 := (hb.cell (p := ⟨w.heap.size, 0, none⟩) (by simp; omega)).trans c0
      have C1 := (hb.cell (p := ⟨w.heap.size, 1, none⟩) (by simp; omega)).trans c1
      have hcf5 := (hb.cell (p := ⟨bD, oD + f, none⟩) (by simp; omega)).trans hcf
      have hw2 : IntKind.i64.wrap ((R : Int) - 1) = (R : Int) - 1 := by rw [IntKind.wrap_i64]; omega
      by_cases htop : pf = (R : Int) - 1
      · have hst := alIn_top hp.out (f := f) (by have := hl.out; omega) (by rw [hgpf.out]; exact htop)
        rw [hl.out] at hst
        have o7 := o2.set (b := w.heap.size + 1) (k := f) (.bool true)
        rw [← List.map_set, hst] at o7
        have hfr := o2.frz f
        have hfc : ∃ u, wr.cell? ⟨w.heap.size + 1, f, none⟩ = some u := ⟨_, o2.cellV (k := f) (by rw [List.getElem?_map, alR_get hfn]; rfl)⟩
        obtain ⟨u, hfc⟩ := hfc
        have hd : (pf == (R : Int) - 1) = true := by simp; omega
        replace hst := Lib.hid hst
        replace htop := Lib.hid htop
        go_wp2_with fail
        go_quiet (fail)
        go_wp2_with fail
        have z5 : ∀ q5, W1.heap.size + 1 ≤ ((wr.drewN q5).setCell ⟨w.heap.size + 1, f, none⟩ (.bool true)).heap.size := fun q5 => by simp; omega
        have f5 : ∀ q5, Below W1.heap.size W1 ((wr.drewN q5).setCell ⟨w.heap.size + 1, f, none⟩ (.bool true)) := fun q5 => (below_dn hb _).setCell (by simp; omega) _
        have o5 : ∀ q5, Own ((wr.drewN q5).setCell ⟨w.heap.size + 1, f, none⟩ (.bool true)) (w.heap.size + 1) (w.heap.size + 2) 4 (some ⟨w.heap.size + 1, 0, none⟩) n n ((alR (AlIn (R : Int) ps xss f 0) n).map Value.bool) := fun q5 => o7
        clear o7 o2 hb zz C0 C1 hcf5 hfr hfc
        go_loopw [5] (fun iv wq => ∃ (i : Nat), i ≤ nf ∧ iv = .int .i64 i ∧ Own wq (w.heap.size + 1) (w.heap.size + 2) 4 (some ⟨w.heap.size + 1, 0, none⟩) n n ((alR (AlIn (R : Int) ps xss f i) n).map Value.bool) ∧ W1.heap.size + 1 ≤ wq.heap.size ∧ Below W1.heap.size W1 wq) (fun iv _ => nf - (intOf iv).toNat)
        case atStart => exact ⟨0, by omega, rfl, o5 _, z5 _, f5 _⟩
        case round =>
          clear o5 f5 z5
          obtain ⟨i, hin, rfl, o, z, f6⟩ := hrel
          have C0 := (f6.cell (p := ⟨w.heap.size, 0, none⟩) (by simp; omega)).trans c0
          have C1 := (f6.cell (p := ⟨w.heap.size, 1, none⟩) (by simp; omega)).trans c1
          have C2 := (f6.cell (p := ⟨w.heap.size, 2, none⟩) (by simp; omega)).trans c2
          have hcB6 := (f6.cell (p := ⟨bA, oA + f, none⟩) (by simp; omega)).trans hcB
          have hcf6 := (f6.cell (p := ⟨bD, oD + f, none⟩) (by simp; omega)).trans hcf
          have hmm : (alR (AlIn (R : Int) ps xss f i) n)[f]? = some (decide (Al (R : Int) ps xss f)) := by
            rw [alR_get hfn]
            exact congrArg some (decide_eq_decide.2 (alIn_self hp.out (by have := hl.out; omega) i))
          have hcm : wr.cell? ⟨w.heap.size + 1, f, none⟩ = some (.bool (decide (Al (R : Int) ps xss f))) := by
            exact o.cellV (by rw [List.getElem?_map, hmm]; rfl)
          by_cases hlt : i < nf
          · by_cases ha : Al (R : Int) ps xss f
            · rw [decide_eq_true ha] at hcm
              obtain ⟨be, oe, e, hAf, _, hbe2, he, hce⟩ := (hrB.below f6 (by omega)).at_ hlt
              subst hAf
              obtain ⟨he0, he1⟩ := hbe.out f Bf hBf.out i e he
              obtain ⟨e, rfl⟩ : ∃ z : Nat, e = z := ⟨e.toNat, by omega⟩
              have hen : e < n := by omega
              obtain ⟨bD', oD', pe, hDe, _, _, hpe, hcpe⟩ := (hG.below f6 (by omega)).at_ hen
              injection hDe with hDe
              injection hDe with hDe1 hDe2 _
              subst hDe1; subst hDe2
              obtain ⟨hpe0, hpe1⟩ := hrk.out e pe hpe
              have hgB : (xss.getD f [])[i]? = some (e : Int) := by rw [getD_some hBf.out]; exact he
              have hfre := o.frz e
              have hgpe : ps.getD e 0 = pe := getD_some hpe
              have hw3 : IntKind.i64.wrap (pf - 1) = pf - 1 := by rw [IntKind.wrap_i64]; omega
              replace he := Lib.hid he
              replace hpe := Lib.hid hpe
              replace hmm := Lib.hid hmm
              by_cases heq : pe = pf - 1
              · have hst := alIn_mark ha hgB (by rw [hgpf.out, hgpe]; omega)
                rw [hl.out] at hst
                have o7 := o.set (b := w.heap.size + 1) (k := e) (.bool true)
                rw [← List.map_set, hst] at o7
                have hd : (pe == pf - 1) = true := by simp; omega
                have hfce := o.cellV (k := e) (v := .bool (decide (AlIn (R : Int) ps xss f i e))) (by rw [List.getElem?_map, alR_get hen]; rfl)
                replace hst := Lib.hid hst
                replace hgB := Lib.hid hgB
                replace hgpe := Lib.hid hgpe
                replace ha := Lib.hid ha
                replace heq := Lib.hid heq
                go_wp2_with fail
                go_quiet (fail)
                go_wp2_with fail
                go_roundw
                case measure => simp [intOf]; omega
                case rel => exact ⟨i + 1, by omega, by go_num, o7, by simp; omega, (below_dn f6 _).setCell (by simp; omega) _⟩
              · have hst := alIn_pass ha hgB (by rw [hgpf.out, hgpe]; omega)
                rw [hl.out] at hst
                rw [hst] at o
                have hd : (pe == pf - 1) = false := by simp; omega
                replace hst := Lib.hid hst
                replace hgB := Lib.hid hgB
                replace hgpe := Lib.hid hgpe
                replace ha := Lib.hid ha
                replace heq := Lib.hid heq
                go_wp2_with fail
                go_quiet (fail)
                go_wp2_with fail
                go_roundw
                case measure => simp [intOf]; omega
                case rel => exact ⟨i + 1, by omega, by go_num, o, z, below_dn f6 _⟩
            · rw [decide_eq_false ha] at hcm
              have hst : alR (AlIn (R : Int) ps xss f i) n = alR (AlTo (R : Int) ps xss f) n := by
                rw [← hl.out]
                exact alR_congr fun j hj => alIn_done (by have := hl.out; omega) hj (.inr ha)
              rw [hst] at o
              replace hst := Lib.hid hst
              replace ha := Lib.hid ha
              replace hmm := Lib.hid hmm
              go_wp2_with fail
              go_roundw
              case measure => first | (simp [intOf]; done) | (simp [intOf]; omega)
              case rel => exact ⟨f, _, by omega, Lib.hid rfl, rfl, by omega, by omega, o, z, f6⟩
          · have hst : alR (AlIn (R : Int) ps xss f i) n = alR (AlTo (R : Int) ps xss f) n := by
              rw [← hl.out]
              exact alR_congr fun j hj => alIn_done (by have := hl.out; omega) hj (.inl (by rw [getD_some hBf.out]; have := hnB.out; omega))
            rw [hst] at o
            replace hst := Lib.hid hst
            replace hmm := Lib.hid hmm
            go_wp2_with fail
            go_roundw
            case measure => first | (simp [intOf]; done) | (simp [intOf]; omega)
            case rel => exact ⟨f, _, by omega, Lib.hid rfl, rfl, by omega, by omega, o, z, f6⟩
      · have hst := alIn_low hp.out (f := f) (by have := hl.out; omega) (by rw [hgpf.out]; exact htop)
        rw [hl.out] at hst
        rw [hst] at o2
        have hd : (pf == (R : Int) - 1) = false := by simp; omega
        replace hst := Lib.hid hst
        replace htop := Lib.hid htop
        go_wp2_with fail
        go_quiet (fail)
        go_wp2_with fail
        have z5 : ∀ q5, W1.heap.size + 1 ≤ (wr.drewN q5).heap.size := fun q5 => by simp; omega
        have f5 : ∀ q5, Below W1.heap.size W1 (wr.drewN q5) := fun q5 => below_dn hb _
        have o5 : ∀ q5, Own (wr.drewN q5) (w.heap.size + 1) (w.heap.size + 2) 4 (some ⟨w.heap.size + 1, 0, none⟩) n n ((alR (AlIn (R : Int) ps xss f 0) n).map Value.bool) := fun q5 => o2
        clear o2 hb zz C0 C1 hcf5
        go_loopw [5] (fun iv wq => ∃ (i : Nat), i ≤ nf ∧ iv = .int .i64 i ∧ Own wq (w.heap.size + 1) (w.heap.size + 2) 4 (some ⟨w.heap.size + 1, 0, none⟩) n n ((alR (AlIn (R : Int) ps xss f i) n).map Value.bool) ∧ W1.heap.size + 1 ≤ wq.heap.size ∧ Below W1.heap.size W1 wq) (fun iv _ => nf - (intOf iv).toNat)
        case atStart => exact ⟨0, by omega, rfl, o5 _, z5 _, f5 _⟩
        case round =>
          clear o5 f5 z5
          obtain ⟨i, hin, rfl, o, z, f6⟩ := hrel
          have C0 := (f6.cell (p := ⟨w.heap.size, 0, none⟩) (by simp; omega)).trans c0
          have C1 := (f6.cell (p := ⟨w.heap.size, 1, none⟩) (by simp; omega)).trans c1
          have C2 := (f6.cell (p := ⟨w.heap.size, 2, none⟩) (by simp; omega)).trans c2
          have hcB6 := (f6.cell (p := ⟨bA, oA + f, none⟩) (by simp; omega)).trans hcB
          have hcf6 := (f6.cell (p := ⟨bD, oD + f, none⟩) (by simp; omega)).trans hcf
          have hmm : (alR (AlIn (R : Int) ps xss f i) n)[f]? = some (decide (Al (R : Int) ps xss f)) := by
            rw [alR_get hfn]
            exact congrArg some (decide_eq_decide.2 (alIn_self hp.out (by have := hl.out; omega) i))
          have hcm : wr.cell? ⟨w.heap.size + 1, f, none⟩ = some (.bool (decide (Al (R : Int) ps xss f))) := by
            exact o.cellV (by rw [List.getElem?_map, hmm]; rfl)
          by_cases hlt : i < nf
          · by_cases ha : Al (R : Int) ps xss f
            · rw [decide_eq_true ha] at hcm
              obtain ⟨be, oe, e, hAf, _, hbe2, he, hce⟩ := (hrB.below f6 (by omega)).at_ hlt
              subst hAf
              obtain ⟨he0, he1⟩ := hbe.out f Bf hBf.out i e he
              obtain ⟨e, rfl⟩ : ∃ z : Nat, e = z := ⟨e.toNat, by omega⟩
              have hen : e < n := by omega
              obtain ⟨bD', oD', pe, hDe, _, _, hpe, hcpe⟩ := (hG.below f6 (by omega)).at_ hen
              injection hDe with hDe
              injection hDe with hDe1 hDe2 _
              subst hDe1; subst hDe2
              obtain ⟨hpe0, hpe1⟩ := hrk.out e pe hpe
              have hgB : (xss.getD f [])[i]? = some (e : Int) := by rw [getD_some hBf.out]; exact he
              have hfre := o.frz e
              have hgpe : ps.getD e 0 = pe := getD_some hpe
              have hw3 : IntKind.i64.wrap (pf - 1) = pf - 1 := by rw [IntKind.wrap_i64]; omega
              replace he := Lib.hid he
              replace hpe := Lib.hid hpe
              replace hmm := Lib.hid hmm
              by_cases heq : pe = pf - 1
              · have hst := alIn_mark ha hgB (by rw [hgpf.out, hgpe]; omega)
                rw [hl.out] at hst
                have o7 := o.set (b := w.heap.size + 1) (k := e) (.bool true)
                rw [← List.map_set, hst] at o7
                have hd : (pe == pf - 1) = true := by simp; omega
                have hfce := o.cellV (k := e) (v := .bool (decide (AlIn (R : Int) ps xss f i e))) (by rw [List.getElem?_map, alR_get hen]; rfl)
                replace hst := Lib.hid hst
                replace hgB := Lib.hid hgB
                replace hgpe := Lib.hid hgpe
                replace ha := Lib.hid ha
                replace heq := Lib.hid heq
                go_wp2_with fail
                go_quiet (fail)
                go_wp2_with fail
                go_roundw
                case measure => simp [intOf]; omega
                case rel => exact ⟨i + 1, by omega, by go_num, o7, by simp; omega, (below_dn f6 _).setCell (by simp; omega) _⟩
              · have hst := alIn_pass ha hgB (by rw [hgpf.out, hgpe]; omega)
                rw [hl.out] at hst
                rw [hst] at o
                have hd : (pe == pf - 1) = false := by simp; omega
                replace hst := Lib.hid hst
                replace hgB := Lib.hid hgB
                replace hgpe := Lib.hid hgpe
                replace ha := Lib.hid ha
                replace heq := Lib.hid heq
                go_wp2_with fail
                go_quiet (fail)
                go_wp2_with fail
                go_roundw
                case measure => simp [intOf]; omega
                case rel => exact ⟨i + 1, by omega, by go_num, o, z, below_dn f6 _⟩
            · rw [decide_eq_false ha] at hcm
              have hst : alR (AlIn (R : Int) ps xss f i) n = alR (AlTo (R : Int) ps xss f) n := by
                rw [← hl.out]
                exact alR_congr fun j hj => alIn_done (by have := hl.out; omega) hj (.inr ha)
              rw [hst] at o
              replace hst := Lib.hid hst
              replace ha := Lib.hid ha
              replace hmm := Lib.hid hmm
              go_wp2_with fail
              go_roundw
              case measure => first | (simp [intOf]; done) | (simp [intOf]; omega)
              case rel => exact ⟨f, _, by omega, Lib.hid rfl, rfl, by omega, by omega, o, z, f6⟩
          · have hst : alR (AlIn (R : Int) ps xss f i) n = alR (AlTo (R : Int) ps xss f) n := by
              rw [← hl.out]
              exact alR_congr fun j hj => alIn_done (by have := hl.out; omega) hj (.inl (by rw [getD_some hBf.out]; have := hnB.out; omega))
            rw [hst] at o
            replace hst := Lib.hid hst
            replace hmm := Lib.hid hmm
            go_wp2_with fail
            go_roundw
            case measure => first | (simp [intOf]; done) | (simp [intOf]; omega)
            case rel => exact ⟨f, _, by omega, Lib.hid rfl, rfl, by omega, by omega, o, z, f6⟩
    · have hF0 : F = 0 := by have := hv.out; omega
      subst hF0
      have hd0 : decide (v ≥ 0) = false := by simp; omega
      have hst : alR (AlTo (R : Int) ps xss 0) n = alR (Al (R : Int) ps xss) n := by
        rw [← hl.out]
        exact alR_congr fun j hj => alTo_zero hj
      rw [hst] at o2
      replace hst := Lib.hid hst
      go_wp2_with fail
      go_ret
      exact ⟨_, rfl, o2.more (by omega) (by omega), hB.trans (hb.mono (by omega))⟩
end Go.Proofs.YtebdfhkimnlglaaDoor
