/- Walk: the reference's question whether it is a poset. No condition but the sizes of memory. (Merged: ConM, ConV, Pos, Df, Flg, PosS.) -/
import Derived.Test.YtebdfhkimnlglaaDoorMga
import Derived.Test.YtebdfhkimnlglaaDoorRow
import Derived.Test.YtebdfhkimnlglaaDoorPosP
import Derived.Test.YtebdfhkimnlglaaDoorLawM
import Derived.Test.YtebdfhkimnlglaaDoorWord
import Derived.Test.YtebdfhkimnlglaaDoorLawP
import Derived.Deep.Cut
import Derived.Deep.CutRange
import Derived.Test.YtebdfhkimnlglaaDoorFlgG
import Derived.Test.YtebdfhkimnlglaaDoorFormP
import Derived.Deep.RegionHeld3
import Derived.Laws.EntriesVeiled
import Derived.Deep.AppendLies
import Derived.Deep.OwnRows
import Derived.Test.YtebdfhkimnlglaaDoorFace
/- ConM -/
namespace Go.Proofs.YtebdfhkimnlglaaDoor
open Go.RowKit
set_option linter.unusedVariables false
set_option maxRecDepth 100000
theorem and_one : ((List.range 32).all fun q => decide (bits BinOp.and IntKind.i64 (q : Int) 1 = ((q % 2 : Nat) : Int))) = true := by decide +kernel
theorem and_one_at {q : Nat} (h : q < 32) : bits BinOp.and IntKind.i64 (q : Int) 1 = ((q % 2 : Nat) : Int) := of_decide_eq_true (List.all_eq_true.1 and_one q (List.mem_range.2 h))
set_option maxHeartbeats 8000000 in
theorem l03Linked_any (fl : List (List Int)) (R : Nat) (hf : FlOk R fl) (mask : Nat) (hmask : mask < 2 ^ R) (A : Option Addr) (c : Nat) (w : World) {lo hi : Nat} (h : R3 w lo hi A R (nearA fl R)) (hhi : hi ≤ w.heap.size) :
    Calls Tryd.prog 26 #[.slice A R c, .int .i64 fl.length, .int .i64 mask] w fun e w' => ∃ (A1 : Option Addr) (c1 : Nat) (ls : List Int), e = .returned (.slice A1 fl.length c1) ∧ Hid (LabD (Sc fl R (maskC mask)) (Va fl) fl.length fl.length ls) ∧ Own w' w.heap.size w'.heap.size 2 A1 fl.length c1 (ls.map (Value.int .i64)) ∧ Below w.heap.size w w' := by
  obtain ⟨j0, hj0, hy0, hy1, hy2⟩ := info_parts infoI
  obtain ⟨n, hnn⟩ : ∃ n, fl.length = n := ⟨_, rfl⟩
  have hn4 := hf.n4
  have hR5 := hf.r5
  have hm32 : mask < 32 := Nat.lt_of_lt_of_le hmask (by have := Nat.pow_le_pow_right (show 0 < 2 by omega) hR5; simpa using this)
  have hd0 := LabD.zero (sv_all fl R (maskC mask))
  have o0 := own_lit0 w 2 (Nat.le_refl w.heap.size)
  have B0 : Below w.heap.size w (w.alloc (.cells #[] 2)) := (Below.refl _ _).alloc (Nat.le_refl _) _
  rw [hnn] at hd0 hn4 ⊢
  replace hd0 := Lib.hid hd0
  replace hf := Lib.hid hf
  replace hnn := Lib.hid hnn
  clear hmask
  go_enter Tryd.func26, Tryd.ntmps26
  go_wp2_with fail
  obtain ⟨W1, hW⟩ : ∃ W1 : World, w.alloc (.cells #[] 2) = W1 := ⟨_, rfl⟩
  have zW : w.heap.size + 1 ≤ W1.heap.size := by rw [← hW]; simp
  rw [hW] at o0 B0 ⊢
  clear hW
  go_loopw [8, 7] (fun kv sv wq => ∃ (k : Nat) (A1 : Option Addr) (c1 : Nat), k ≤ n ∧ kv = .int .i64 k ∧ sv = .slice A1 k c1 ∧ Own wq w.heap.size wq.heap.size 2 A1 k c1 ((List.replicate k (-1 : Int)).map (Value.int .i64)) ∧ Below w.heap.size w wq) (fun kv _ _ => n - (intOf kv).toNat)
  case atStart => exact ⟨0, _, 0, by omega, rfl, rfl, by simpa using o0.more (Nat.le_refl _) zW, B0⟩
  case round =>
    clear o0 B0
    obtain ⟨k, A1, c1, hk, rfl, rfl, hO, hB⟩ := hrel
    have yB := hB.size
    by_cases hkn : k < n
    · go_wp2_with (at_builtin; refine wpList_append1 wr rfl (.tmp 21) (.tmp 22) 22 rfl w.heap.size 2 j0 (.int .i64 0) 8 Tryd.underlying22 hj0 hy0 hy1 hy2 rfl (by omega) A1 k c1 _ (.int .i64 (-1)) rfl hO.1 _ rfl rfl rfl (by omega) (by omega) ?_)
      intro g6 c6 w6 ho6 hg6 hlo6 hlt6 hor6
      have hB6 := hB.grown hg6 (by omega) (fun q hq => by have := (hO.1.lt q hq).1; omega)
      have hO6 : Own w6 w.heap.size w6.heap.size 2 (some ⟨g6, 0, none⟩) (k + 1) c6 ((List.replicate (k + 1) (-1 : Int)).map (Value.int .i64)) := by
        rw [List.replicate_succ', List.map_append]
        simpa using Own.of_row ho6
      clear hO ho6 hg6
      go_wp2_with fail
      go_roundw
      case measure => simp [intOf] <;> omega
      case rel => exact ⟨k + 1, _, c6, by omega, by go_num, rfl, hO6, hB6⟩
    · obtain rfl : k = n := by omega
      obtain ⟨wb, rfl⟩ : ∃ wb : World, wb = wr := ⟨_, rfl⟩
      go_wp2_with fail
      go_loopw [9] (fun fv wq => ∃ (f : Nat) (ls : List Int), f ≤ k ∧ fv = .int .i64 f ∧ Hid (LabD (Sc fl R (maskC mask)) (Va fl) k f ls) ∧ Own wq w.heap.size wb.heap.size 2 A1 k c1 (ls.map (Value.int .i64)) ∧ wb.heap.size ≤ wq.heap.size ∧ Below w.heap.size w wq) (fun fv _ => k - (intOf fv).toNat)
      case atStart => exact ⟨0, _, by omega, rfl, hd0, hO, Nat.le_refl _, hB⟩
      case round =>
        clear hd0 hO hB
        obtain ⟨f, ls, hfk, rfl, hD, hO, hz, hB⟩ := hrel
        have hlen := hD.out.len
        by_cases hfn : f < k
        · obtain ⟨v, hv⟩ : ∃ v, ls[f]? = some v := ⟨ls[f]'(by omega), List.getElem?_eq_getElem (by omega)⟩
          have hneg := hD.out.neg (x := f) (by show f < fl.length; rw [hnn.out]; exact hfn) hv
          obtain ⟨bo, vv, rfl, hbo, -, -, hvv, -, hcv, hfr⟩ := hO.at_ (k := f) hfn
          obtain rfl : vv = .int .i64 v := by rw [List.getElem?_map, hv] at hvv; exact (Option.some.inj hvv).symm
          have hfz := hfr f
          clear hfr hvv
          by_cases hv0 : v < 0
          · have hls := hneg.1 hv0
            have hW0 := LkW.start (by rw [hnn.out]; exact hD.out) (by rw [hnn.out]; exact hfn) hls
            have hO1 := hO.setI (k := f) (f : Int)
            have d0 : ¬ (0 : Int) ≤ v := by omega
            have b0 : (0 : Int) ≤ (f : Int) := by omega
            have b1 : (f : Int) < (k : Int) := by omega
            replace hW0 := Lib.hid hW0
            replace hls := Lib.hid hls
            replace hv := Lib.hid hv
            clear hneg hD
            go_wp2_with fail
            have f5 : Below (wr.setCell ⟨bo, f, none⟩ (.int .i64 f)).heap.size (wr.setCell ⟨bo, f, none⟩ (.int .i64 f)) ((wr.setCell ⟨bo, f, none⟩ (.int .i64 f)).alloc (.cells #[.int .i64 (f : Int)] 2)) := (Below.refl _ _).alloc (Nat.le_refl _) _
            have hzs : (wr.setCell ⟨bo, f, none⟩ (.int .i64 f)).heap.size = wr.heap.size := World.size_setCell _ _ _
            have oR := own_lit1 (wr.setCell ⟨bo, f, none⟩ (.int .i64 f)) 2 (f : Int) (lo := wb.heap.size) (by rw [hzs]; exact hz)
            have hB1 : Below w.heap.size w (wr.setCell ⟨bo, f, none⟩ (.int .i64 f)) := hB.setCell hbo _
            rw [hzs] at f5 oR
            obtain ⟨W5, hW5⟩ : ∃ W5 : World, (wr.setCell ⟨bo, f, none⟩ (.int .i64 f)).alloc (.cells #[.int .i64 (f : Int)] 2) = W5 := ⟨_, rfl⟩
            have zW5 : wr.heap.size + 1 ≤ W5.heap.size := by rw [← hW5]; simp
            rw [hW5] at f5 oR ⊢
            (try rw [hzs])
            have hO5 := hO1.below f5 hz
            have hB5 := hB1.trans (f5.mono (by have := hB.size; omega))
            have hcn := hW0.out.cnt
            rw [hnn.out] at hcn
            replace oR := oR.more (Nat.le_refl _) zW5
            clear hO hO1 hB hB1 f5 hW5 hcv hfz
            go_wp2_with fail
            obtain ⟨v8, rfl⟩ : ∃ v8 : World, v8 = wr := ⟨_, rfl⟩
            go_loopg [10, 11] (k) (fun g rv kv wq => ∃ (t : Nat) (rs : List Nat) (ls : List Int) (A3 : Option Addr) (c3 : Nat), rv = .slice A3 rs.length c3 ∧ kv = .int .i64 t ∧ t ≤ rs.length ∧ Hid (wantN ls + rs.length ≤ g + t) ∧ rs.length ≤ 400 ∧ Hid (LkW fl R (maskC mask) f t rs ls) ∧ Own wq w.heap.size wb.heap.size 2 (some ⟨bo, 0, none⟩) k c1 (ls.map (Value.int .i64)) ∧ Own wq wb.heap.size wq.heap.size 2 A3 rs.length c3 ((ptsL rs).map (Value.int .i64)) ∧ wb.heap.size ≤ wq.heap.size ∧ Below w.heap.size w wq)
            case atStart => exact ⟨0, [f], _, _, 1, rfl, rfl, by omega, Lib.hid (by simpa using hcn), by simp, hW0, hO5, by simpa using oR, by omega, hB5⟩
            case round =>
              clear hW0 hO5 oR zW5 hB5 hcn
              obtain ⟨t, rs, ls, A3, c3, rfl, rfl, ht, hgm, hrl, hW, hO, oR, hz, hB⟩ := hrel
              have yB := hB.size
              by_cases htr : t < rs.length
              · obtain ⟨x, hx⟩ : ∃ x, rs[t]? = some x := ⟨rs[t], List.getElem?_eq_getElem htr⟩
                have hxn : x < k := by have := hW.out.mem x (List.mem_of_getElem? hx); rw [hnn.out] at this; exact this
                obtain ⟨cst, hcst⟩ : ∃ cst, wantN ls + rs.length = cst := ⟨_, rfl⟩
                have hcg : cst ≤ gk + t := by rw [← hcst]; exact hgm.out
                have hg1 : 1 ≤ gk := by have := hgm.out; omega
                have hcs4 : cst ≤ 400 := by have := hW.out.cnt; rw [hnn.out] at this; omega
                have hSt0 : StI fl R (maskC mask) x 0 ls := fun i' hi' => by omega
                replace hcst := Lib.hid hcst
                replace hSt0 := Lib.hid hSt0
                replace hx := Lib.hid hx
                clear hgm
                go_wp2_with fail
                go_loopw [10, 12] (fun rv iv wq => ∃ (i : Nat) (rs : List Nat) (ls : List Int) (A3 : Option Addr) (c3 : Nat), rv = .slice A3 rs.length c3 ∧ iv = .int .i64 i ∧ i ≤ R ∧ t < rs.length ∧ rs.length ≤ 400 ∧ Hid (rs[t]? = some x) ∧ Hid (wantN ls + rs.length = cst) ∧ Hid (LkW fl R (maskC mask) f t rs ls) ∧ Hid (StI fl R (maskC mask) x i ls) ∧ Own wq w.heap.size wb.heap.size 2 (some ⟨bo, 0, none⟩) k c1 (ls.map (Value.int .i64)) ∧ Own wq wb.heap.size wq.heap.size 2 A3 rs.length c3 ((ptsL rs).map (Value.int .i64)) ∧ wb.heap.size ≤ wq.heap.size ∧ Below w.heap.size w wq) (fun _ iv _ => R - (intOf iv).toNat)
                case atStart => exact ⟨0, rs, ls, A3, c3, rfl, rfl, by omega, htr, hrl, hx, hcst, hW, hSt0, hO, oR, hz, hB⟩
                case round =>
                  clear hx hcst hW hSt0 hO oR hz hB yB htr hrl
                  obtain ⟨i, rs, ls, A3, c3, rfl, rfl, hiR, htr, hrl, hx, hcst, hW, hSt, hO, oR, hz, hB⟩ := hrel
                  have yB := hB.size
                  by_cases hiL : i < R
                  · have hwi : IntKind.u64.wrap (i : Int) = (i : Int) := by rw [IntKind.wrap_u64]; omega
                    obtain ⟨q, hq⟩ : ∃ q, mask / 2 ^ i = q := ⟨_, rfl⟩
                    have hq32 : q < 32 := by rw [← hq]; exact Nat.lt_of_le_of_lt (Nat.div_le_self _ _) hm32
                    have hsh : (mask : Int) / 2 ^ i = (q : Int) := by rw [← hq]; simp
                    have hand := and_one_at hq32
                    have hmc : maskC mask i = (q % 2 == 1) := by unfold maskC; rw [hq]
                    have ii0 : (0 : Int) ≤ (i : Int) := by omega
                    have ii1 : (i : Int) ≤ 64 := by omega
                    have ii2 : (i : Int) < (R : Int) := by omega
                    clear hq
                    by_cases hmk : q % 2 = 1
                    · rw [hmk] at hand
                      have hSt2 : StI fl R (maskC mask) x (i + 1) ls := fun i' hi' hc' => by
                        by_cases e : i' = i
                        · subst e; rw [hmc, hmk] at hc'; cases hc'
                        · exact hSt.out i' (by omega) hc'
                      replace hSt2 := Lib.hid hSt2
                      replace hmk := Lib.hid hmk
                      replace hmc := Lib.hid hmc
                      clear hSt
                      go_wp2_with fail
                      go_roundw
                      case measure => simp [intOf] <;> omega
                      case rel => exact ⟨i + 1, rs, ls, A3, c3, rfl, by go_num, by omega, htr, hrl, hx, hcst, hW, hSt2, hO, oR, hz, hB⟩
                    · have hmk0 : q % 2 = 0 := by omega
                      rw [hmk0] at hand
                      have hci : maskC mask i = false := by rw [hmc, hmk0]; rfl
                      replace hmk := Lib.hid hmk
                      replace hmk0 := Lib.hid hmk0
                      replace hmc := Lib.hid hmc
                      obtain ⟨b1, o1, Am, nm, cm, mids, e1, hmi, hcm, hRS⟩ := (h.below hB hhi).at_ hiL
                      obtain ⟨hrow, hml⟩ := nearA_get hiL (show x < fl.length by rw [hnn.out]; exact hxn) hmi
                      have hnm : nm = k := by have := hRS.len; have := hnn.out; omega
                      subst hnm
                      obtain ⟨b2, o2, Ax, nx, cx, lst, e2, _, _, hlx, hcx, hrx⟩ := hRS.at_ hxn
                      obtain rfl : lst = nearL fl R i x fl.length := by rw [hrow] at hlx; exact (Option.some.inj hlx).symm
                      have hxv : (ptsL rs)[t]? = some (x : Int) := by rw [List.getElem?_map, hx.out]; rfl
                      obtain ⟨b3, v3, e3, -, -, -, hv3, -, hc3, -⟩ := oR.at_ (k := t) htr
                      obtain rfl : v3 = .int .i64 x := by rw [List.getElem?_map, hxv] at hv3; exact (Option.some.inj hv3).symm
                      subst e1
                      subst e2
                      subst e3
                      have t0 : (0 : Int) ≤ (t : Int) := by omega
                      have t1 : (t : Int) < (rs.length : Int) := by omega
                      have x0 : (0 : Int) ≤ (x : Int) := by omega
                      have x1 : (x : Int) < (nm : Int) := by omega
                      replace hmi := Lib.hid hmi
                      replace hrow := Lib.hid hrow
                      replace hlx := Lib.hid hlx
                      replace hxv := Lib.hid hxv
                      clear hv3
                      have hrw : RI w lo hi Ax nx (nearL fl R i x fl.length) := hrx.keep (fun q _ hq => (hB.block q (by omega)).symm)
                      have hcx0 := hrx.len
                      have hnl := nearL_len fl R i x fl.length
                      have hnx4 : nx ≤ 400 := by have := hnn.out; omega
                      go_wp2_with fail
                      go_quiet (fail)
                      go_wp2_with fail
                      have hSJ0 : StJ (nearL fl R i x fl.length) 0 ls := fun z hz => by simp at hz
                      replace hSJ0 := Lib.hid hSJ0
                      replace hcx0 := Lib.hid hcx0
                      clear hRS hrx hcm hcx hc3 hnl
                      have hOd : Own (wr.drewN nq) w.heap.size wb.heap.size 2 (some ⟨bo, 0, none⟩) nm c1 (ls.map (Value.int .i64)) := hO.keep (fun _ _ _ => rfl)
                      have oRd : Own (wr.drewN nq) wb.heap.size (wr.drewN nq).heap.size 2 (some ⟨b3, 0, none⟩) rs.length c3 ((ptsL rs).map (Value.int .i64)) := oR.keep (fun _ _ _ => rfl)
                      have hBd : Below w.heap.size w (wr.drewN nq) := below_dn hB _
                      go_loopw [10, 14] (fun rv jv wq => ∃ (j : Nat) (rs : List Nat) (ls : List Int) (A3 : Option Addr) (c3 : Nat), rv = .slice A3 rs.length c3 ∧ jv = .int .i64 j ∧ j ≤ nx ∧ t < rs.length ∧ rs.length ≤ 400 ∧ Hid (rs[t]? = some x) ∧ Hid (wantN ls + rs.length = cst) ∧ Hid (LkW fl R (maskC mask) f t rs ls) ∧ Hid (StI fl R (maskC mask) x i ls) ∧ Hid (StJ (nearL fl R i x fl.length) j ls) ∧ Own wq w.heap.size wb.heap.size 2 (some ⟨bo, 0, none⟩) nm c1 (ls.map (Value.int .i64)) ∧ Own wq wb.heap.size wq.heap.size 2 A3 rs.length c3 ((ptsL rs).map (Value.int .i64)) ∧ wb.heap.size ≤ wq.heap.size ∧ Below w.heap.size w wq) (fun _ jv _ => nx - (intOf jv).toNat)
                      case atStart => exact ⟨0, rs, ls, _, c3, rfl, rfl, by omega, htr, hrl, hx, hcst, hW, hSt, hSJ0, hOd, oRd, hz, hBd⟩
                      case round =>
                        clear hx hcst hW hSt hSJ0 hOd oRd hBd hO oR hz hB yB htr hrl t1
                        obtain ⟨j, rs, ls, A3, c3, rfl, rfl, hjx, htr, hrl, hx, hcst, hW, hSt, hSJ, hO, oR, hz, hB⟩ := hrel
                        have yB := hB.size
                        by_cases hj : j < nx
                        · obtain ⟨bz, oz, z, e4, _, _, hzj, hcz⟩ := (hrw.below hB hhi).at_ hj
                          subst e4
                          have hzm := List.mem_of_getElem? hzj
                          obtain ⟨y, hzy, hyn, hsc⟩ := near_sc (c := maskC mask) (show x < fl.length by rw [hnn.out]; exact hxn) hiL hci hzm
                          subst hzy
                          rw [hnn.out] at hyn
                          have hlen := hW.out.lab.len
                          rw [hnn.out] at hlen
                          obtain ⟨u, hu⟩ : ∃ u, ls[y]? = some u := ⟨ls[y]'(by omega), List.getElem?_eq_getElem (by omega)⟩
                          have hneg := hW.out.lab.neg (x := y) (by show y < fl.length; rw [hnn.out]; exact hyn) hu
                          obtain ⟨g1, vv, e5, hb0, -, -, hvv, -, hcv, hfr⟩ := hO.at_ (k := y) hyn
                          injection e5 with e5
                          injection e5 with e5 _ _
                          subst e5
                          obtain rfl : vv = .int .i64 u := by rw [List.getElem?_map, hu] at hvv; exact (Option.some.inj hvv).symm
                          have hfz := hfr y
                          have htk : (nearL fl R i x fl.length).take (j + 1) = (nearL fl R i x fl.length).take j ++ [(y : Int)] := by rw [List.take_add_one, hzj]; rfl
                          have y0 : (0 : Int) ≤ (y : Int) := by omega
                          have y1 : (y : Int) < (nm : Int) := by omega
                          have jj0 : (0 : Int) ≤ (j : Int) := by omega
                          have jj1 : (j : Int) < (nx : Int) := by omega
                          clear hfr hvv
                          by_cases hu0 : u < 0
                          · have hls := hneg.1 hu0
                            have hyl : y < ls.length := by omega
                            have hW2 := hW.out.add hx.out hiL hci hzm (by rw [Int.toNat_natCast]; exact hls)
                            rw [Int.toNat_natCast] at hW2
                            have hcs2 : wantN (ls.set y (f : Int)) + (rs ++ [y]).length = cst := by
                              have h1 := wantN_set (f := f) hls
                              have h2 := hcst.out
                              simp only [List.length_append, List.length_singleton]
                              omega
                            have hx2 : (rs ++ [y])[t]? = some x := by rw [List.getElem?_append_left htr]; exact hx.out
                            have hSt2 : StI fl R (maskC mask) x i (ls.set y (f : Int)) := fun i' hi' hc' z hz' => ne_set hyl (hSt.out i' hi' hc' z hz')
                            have hSJ2 : StJ (nearL fl R i x fl.length) (j + 1) (ls.set y (f : Int)) := fun z hz' => by
                              rw [htk] at hz'
                              rcases List.mem_append.1 hz' with hz' | hz'
                              · exact ne_set hyl (hSJ.out z hz')
                              · simp at hz'
                                subst hz'
                                rw [Int.toNat_natCast, set_get hyl, if_pos rfl]
                                intro e6; injection e6 with e6; omega
                            have hst := hO.1.stored y (.int .i64 f)
                            have hsm : ((ls.map (Value.int .i64)).set y (.int .i64 (f : Int))) = (ls.set y (f : Int)).map (Value.int .i64) := by rw [List.map_set]
                            rw [hsm] at hst
                            have hrl2 : rs.length + 1 ≤ 400 := by have := hW2.cnt; rw [hnn.out] at this; simp at this; omega
                            have oR2 : (wr.setCell ⟨bo, y, none⟩ (.int .i64 f)).ownsRow wb.heap.size 2 1 (.slice A3 rs.length c3) rs.length ((ptsL rs).map (Value.int .i64)) := by
                              have hlt9 := hO.2 _ rfl
                              exact (oR.keep (same_set wr ⟨bo, y, none⟩ (.int .i64 (f : Int)) _ _ (.inl hlt9))).1
                            have hss : (wr.setCell ⟨bo, y, none⟩ (.int .i64 f)).heap.size = wr.heap.size := World.size_setCell _ _ _
                            have hB2 : Below w.heap.size w (wr.setCell ⟨bo, y, none⟩ (.int .i64 f)) := hB.setCell hb0 _
                            have hcz2 : (wr.setCell ⟨bo, y, none⟩ (.int .i64 f)).cell? ⟨bz, oz + j, none⟩ = some (.int .i64 (y : Int)) := (hrw.below hB2 hhi).cell hzj
                            have hO2 : Own (wr.setCell ⟨bo, y, none⟩ (.int .i64 f)) w.heap.size wb.heap.size 2 (some ⟨bo, 0, none⟩) nm c1 ((ls.set y (f : Int)).map (Value.int .i64)) := ⟨hst.1, hO.2⟩
                            have d0 : u < 0 := hu0
                            replace hss := Lib.hid hss
                            replace hW2 := Lib.hid hW2
                            replace hcs2 := Lib.hid hcs2
                            replace hx2 := Lib.hid hx2
                            replace hSt2 := Lib.hid hSt2
                            replace hSJ2 := Lib.hid hSJ2
                            replace hu := Lib.hid hu
                            replace hls := Lib.hid hls
                            replace hzj := Lib.hid hzj
                            replace htk := Lib.hid htk
                            clear hW hcst hSt hSJ hst hsm hneg hO oR hB hzm hx
                            go_wp2_with (at_builtin; refine wpList_append1 (wr.setCell ⟨bo, y, none⟩ (.int .i64 f)) rfl (.tmp 89) (.tmp 94) 22 rfl wb.heap.size 2 j0 (.int .i64 0) 8 Tryd.underlying22 hj0 hy0 hy1 hy2 rfl (by omega) A3 rs.length c3 _ (.int .i64 y) rfl oR2 _ rfl (World.size_setCell _ _ _).symm rfl (by omega) (by rw [hss.out]; exact hz) ?_)
                            intro g6 c6 w6 ho6 hg6 hlo6 hlt6 hor6
                            have z6 := hg6.size
                            have z6' : wb.heap.size ≤ w6.heap.size := by have := hss.out; omega
                            have hown9 : ∀ q, (Value.slice A3 rs.length c3).ownBlock = some q → wb.heap.size ≤ q := fun q hq => (oR2.lt q hq).1
                            have hO6 : Own w6 w.heap.size wb.heap.size 2 (some ⟨bo, 0, none⟩) nm c1 ((ls.set y (f : Int)).map (Value.int .i64)) := hO2.keep (same_grown hg6 (by rw [hss.out]; exact hz) (fun q hq => .inr (hown9 q hq)))
                            have hB6 : Below w.heap.size w w6 := hB2.grown hg6 (by rw [hss.out]; exact yB) (fun q hq => by have := hown9 q hq; have := hO2.2 _ rfl; omega)
                            have oR6 : Own w6 wb.heap.size w6.heap.size 2 (some ⟨g6, 0, none⟩) (rs ++ [y]).length c6 ((ptsL (rs ++ [y])).map (Value.int .i64)) := by
                              have := Own.of_row ho6
                              simpa using this
                            clear ho6 hg6 hor6 oR2 hO2 hB2
                            go_wp2_with fail
                            go_roundw
                            case measure => simp [intOf] <;> omega
                            case rel => exact ⟨j + 1, rs ++ [y], _, _, c6, by simp, by go_num, by omega, by simp; omega, by simp; omega, hx2, hcs2, hW2, hSt2, hSJ2, hO6, oR6, z6', hB6⟩
                          · have hSJ2 : StJ (nearL fl R i x fl.length) (j + 1) ls := fun z hz' => by
                              rw [htk] at hz'
                              rcases List.mem_append.1 hz' with hz' | hz'
                              · exact hSJ.out z hz'
                              · simp at hz'
                                subst hz'
                                rw [Int.toNat_natCast]
                                exact fun e6 => hu0 (hneg.2 e6)
                            have d0 : ¬ u < 0 := hu0
                            replace hSJ2 := Lib.hid hSJ2
                            replace hu := Lib.hid hu
                            replace hzj := Lib.hid hzj
                            replace htk := Lib.hid htk
                            clear hSJ hneg
                            go_wp2_with fail
                            go_roundw
                            case measure => simp [intOf] <;> omega
                            case rel => exact ⟨j + 1, rs, ls, A3, c3, rfl, by go_num, by omega, htr, hrl, hx, hcst, hW, hSt, hSJ2, hO, oR, hz, hB⟩
                        · have hSt2 : StI fl R (maskC mask) x (i + 1) ls := fun i' hi' hc' z hz' => by
                            by_cases e : i' = i
                            · subst e
                              refine hSJ.out z ?_
                              rw [List.take_of_length_le (by rw [hcx0.out]; omega)]
                              exact hz'
                            · exact hSt.out i' (by omega) hc' z hz'
                          replace hSt2 := Lib.hid hSt2
                          clear hSt hSJ
                          go_wp2_with fail
                          go_roundw
                          case measure => simp [intOf] <;> omega
                          case rel => exact ⟨i + 1, rs, ls, A3, c3, rfl, by go_num, by omega, htr, hrl, hx, hcst, hW, hSt2, hO, oR, hz, hB⟩
                  · obtain rfl : i = R := by omega
                    have hP := hW.out.pop hf.out hx.out hSt.out
                    replace hP := Lib.hid hP
                    clear hW hSt
                    go_wp2_with fail
                    go_roundg (gk - 1)
                    case measure => omega
                    case rel => exact ⟨t + 1, rs, ls, A3, c3, rfl, by go_num, by omega, Lib.hid (by rw [hcst.out]; omega), hrl, hP, hO, oR, hz, hB⟩
              · have hF := hW.out.fin (by omega)
                rw [hnn.out] at hF
                replace hF := Lib.hid hF
                clear hW oR
                go_wp2_with fail
                go_roundw
                case measure => simp [intOf] <;> omega
                case rel => exact ⟨f + 1, ls, by omega, by go_num, hF, hO, hz, hB⟩
          · have hsk := hD.out.skip (fun _ e => hv0 (hneg.2 e))
            have d0 : (0 : Int) ≤ v := by omega
            replace hsk := Lib.hid hsk
            replace hv := Lib.hid hv
            clear hneg hD hlen
            go_wp2_with fail
            go_roundw
            case measure => simp [intOf] <;> omega
            case rel => exact ⟨f + 1, ls, by omega, by go_num, hsk, hO, hz, hB⟩
        · obtain rfl : f = k := by omega
          go_wp2_with fail
          go_ret
          exact ⟨_, c1, ls, rfl, hD, hO.more (Nat.le_refl _) hz, hB⟩
end Go.Proofs.YtebdfhkimnlglaaDoor
/- ConV -/
namespace Go.Proofs.YtebdfhkimnlglaaDoor
open Go.RowKit
set_option linter.unusedVariables false
set_option maxRecDepth 100000
set_option maxHeartbeats 4000000 in
theorem l03Near_nil (A : Option Addr) (c : Nat) (w : World) :
    Calls Tryd.prog 25 #[.slice A 0 c] w fun e w' => ∃ (A1 : Option Addr) (c1 : Nat), e = .returned (.slice A1 0 c1) ∧ R3 w' w.heap.size w'.heap.size A1 0 (nearA [] 0) ∧ Below w.heap.size w w' := by
  have st0 := NB.start w 0
  go_enter Tryd.func25, Tryd.ntmps25
  go_wp2_with fail
  obtain ⟨W1, hW⟩ : ∃ W1 : World, w.alloc (.cells #[] 23) = W1 := ⟨_, rfl⟩
  rw [hW] at st0 ⊢
  clear hW
  go_loopw [4, 3] (fun iv ov wq => iv = .int .i64 0 ∧ ov = .slice (some ⟨w.heap.size, 0, none⟩) 0 0 ∧ wq = W1) (fun _ _ _ => 0)
  case atStart => exact ⟨rfl, rfl, rfl⟩
  case round =>
    obtain ⟨rfl, rfl, rfl⟩ := hrel
    go_wp2_with fail
    go_loopw [5] (fun iv wq => iv = .int .i64 0 ∧ wq = wr) (fun _ _ => 0)
    case atStart => exact ⟨rfl, rfl⟩
    case round =>
      obtain ⟨rfl, rfl⟩ := hrel
      go_wp2_with fail
      go_ret
      have hr := st0.r3
      rw [← nearA_nil] at hr
      exact ⟨_, _, rfl, hr, st0.bel⟩
theorem l03Near_all (fl : List (List Int)) (R : Nat) (hf : FlOk R fl) (h0 : 0 < fl.length ∨ R = 0) (A : Option Addr) (c : Nat) (w : World) {lo hi : Nat} (h : RS w lo hi A fl.length fl) (hhi : hi ≤ w.heap.size) :
    Calls Tryd.prog 25 #[.slice A fl.length c] w fun e w' => ∃ (A1 : Option Addr) (c1 : Nat), e = .returned (.slice A1 R c1) ∧ R3 w' w.heap.size w'.heap.size A1 R (nearA fl R) ∧ Below w.heap.size w w' := by
  by_cases hl : 0 < fl.length
  · exact l03Near_any fl R hf hl A c w h hhi
  · obtain rfl : fl = [] := List.eq_nil_of_length_eq_zero (by omega)
    obtain rfl : R = 0 := by simpa using h0
    exact l03Near_nil A c w
set_option maxHeartbeats 8000000 in
theorem l03Parted_any0 (fl : List (List Int)) (R : Nat) (hf : FlOk R fl) (h0 : 0 < fl.length ∨ R = 0) (A : Option Addr) (c : Nat) (w : World) {lo hi : Nat} (h : RS w lo hi A fl.length fl) (hhi : hi ≤ w.heap.size) :
    Calls Tryd.prog 16 #[.slice A fl.length c] w fun e w' => ∃ (A1 : Option Addr) (n1 c1 : Nat), e = .returned (.slice A1 n1 c1) ∧ Own w' w.heap.size w'.heap.size 2 A1 n1 c1 ((parL fl R).map (Value.int .i64)) ∧ Below w.heap.size w w' := by
  obtain ⟨s0, hs0, hu0, hu1, hu2⟩ := info_parts infoS
  obtain ⟨n, hnn⟩ : ∃ n, fl.length = n := ⟨_, rfl⟩
  have hn4 := hf.n4
  have hR5 := hf.r5
  have hlen : ∀ t ∈ fl, t.length = R := hf.len
  have hm := h.max
  obtain ⟨P, hP⟩ : ∃ P : Nat, 2 ^ R = P := ⟨_, rfl⟩
  have hP32 : P ≤ 32 := by rw [← hP]; exact Nat.le_trans (Nat.pow_le_pow_right (by omega) hR5) (by decide)
  have hP1 : 1 ≤ P := by rw [← hP]; exact Nat.two_pow_pos R
  have hsR : (2 : Int) ^ R = (P : Int) := by rw [← hP]; simp
  have hwR : IntKind.u64.wrap (R : Int) = (R : Int) := by rw [IntKind.wrap_u64]; omega
  have rr0 : (0 : Int) ≤ (R : Int) := by omega
  have rr1 : (R : Int) ≤ 64 := by omega
  have hwP : IntKind.i64.wrap (P : Int) = (P : Int) := by rw [IntKind.wrap_i64]; omega
  have hNr := l03Near_all fl R hf h0 A c w h hhi
  have hlk := fun (mask : Nat) (hmask : mask < P) => l03Linked_any fl R hf mask (by rw [hP]; exact hmask)
  have hpz := ParI.zero fl R
  rw [hnn] at h hn4 hm hNr hlk ⊢
  replace hf := Lib.hid hf
  replace hnn := Lib.hid hnn
  replace hlen := Lib.hid hlen
  replace hP := Lib.hid hP
  replace hpz := Lib.hid hpz
  clear h0
  go_enter Tryd.func16, Tryd.ntmps16
  go_wp2_with fail
  ((with_reducible refine hNr.mono ?_); rintro e w1 ⟨A1, c1, rfl, hN, f1⟩)
  clear hNr
  have y1 := f1.size
  go_wp2_with fail
  have o0 := own_lit0 w1 22 (Nat.le_refl w1.heap.size)
  have B0 : Below w1.heap.size w1 (w1.alloc (.cells #[] 22)) := (Below.refl _ _).alloc (Nat.le_refl _) _
  obtain ⟨W1, hW⟩ : ∃ W1 : World, w1.alloc (.cells #[] 22) = W1 := ⟨_, rfl⟩
  have zW : w1.heap.size + 1 ≤ W1.heap.size := by rw [← hW]; simp
  rw [hW] at o0 B0 ⊢
  clear hW
  go_loopw [4, 5] (fun lv mv wq => ∃ (m : Nat) (A3 : Option Addr) (c3 : Nat) (vs : List Value) (xss : List (List Int)), lv = .slice A3 m c3 ∧ mv = .int .i64 m ∧ m ≤ P ∧ Hid (xss.length = m) ∧ Hid (∀ (k : Nat) (ls : List Int), xss[k]? = some ls → LabD (Sc fl R (maskC k)) (Va fl) fl.length fl.length ls) ∧ Own wq w1.heap.size wq.heap.size 22 A3 m c3 vs ∧ RowsOwn wq w1.heap.size wq.heap.size 2 vs xss ∧ Below w1.heap.size w1 wq) (fun _ mv _ => P - (intOf mv).toNat)
  case atStart => exact ⟨0, _, 0, [], [], rfl, rfl, by omega, Lib.hid rfl, Lib.hid (fun k ls hk => by simp at hk), o0.more (Nat.le_refl _) zW, RowsOwn.nil, B0⟩
  case round =>
    clear o0 B0
    obtain ⟨m, A3, c3, vs, xss, rfl, rfl, hmP, hxl, hLs, hO, hV, hB⟩ := hrel
    have yB := hB.size
    by_cases hmp : m < P
    · have m1 : (m : Int) < (P : Int) := by omega
      go_wp2_with fail
      ((with_reducible refine (hlk m hmp A1 c1 wr (hN.below hB (Nat.le_refl _)) yB).mono ?_); rintro e w5 ⟨A5, c5, ls, rfl, hD, o5, f5⟩)
      have y5 := f5.size
      have hV5 := (hV.keep (Same.of_below f5 (Nat.le_refl _))).snoc o5 yB y5
      have hO5 := hO.below f5 (Nat.le_refl _)
      have hB5 := hB.trans (f5.mono yB)
      clear hO hV hB f5 o5
      go_wp2_with (at_builtin; refine wpList_append1 w5 rfl (.tmp 21) (.tmp 27) 23 rfl w1.heap.size 22 s0 (.slice none 0 0) 24 Tryd.underlying23 hs0 hu0 hu1 hu2 rfl (by omega) A3 m c3 _ (.slice A5 n c5) rfl hO5.1 _ rfl rfl rfl (by omega) (by omega) ?_)
      intro g6 c6 w6 ho6 hg6 hlo6 hlt6 hor6
      have z6 := hg6.size
      have hV6 := (hV5.kept_ty hO5.1 (by decide) hg6).more (Nat.le_refl _) (show w5.heap.size ≤ w6.heap.size by omega)
      have hO6 := Own.of_row ho6
      have hB6 := hB5.grown hg6 (by omega) (fun q hq => (hO5.1.lt q hq).1)
      have hLs6 : Hid (∀ (k : Nat) (l : List Int), (xss ++ [ls])[k]? = some l → LabD (Sc fl R (maskC k)) (Va fl) fl.length fl.length l) := Lib.hid (fun k l hk => by
        by_cases e : k < xss.length
        · rw [List.getElem?_append_left e] at hk
          exact hLs.out k l hk
        · rw [List.getElem?_append_right (by omega)] at hk
          have e0 : k - xss.length = 0 := by
            rcases Nat.eq_zero_or_pos (k - xss.length) with h | h
            · exact h
            · rw [List.getElem?_eq_none (by simp; omega)] at hk; cases hk
          rw [e0] at hk
          have hk2 : ls = l := by simpa using hk
          have hkm : k = m := by have := hxl.out; omega
          subst hk2
          subst hkm
          rw [hnn.out]
          exact hD.out)
      have hxl6 : Hid ((xss ++ [ls]).length = m + 1) := Lib.hid (by rw [List.length_append, hxl.out]; rfl)
      clear hV5 hO5 hB5 ho6 hg6 hor6 hLs hxl hD
      go_wp2_with fail
      go_roundw
      case measure => simp [intOf] <;> omega
      case rel => exact ⟨m + 1, _, c6, _, _, rfl, by go_num, by omega, hxl6, hLs6, hO6, hV6, hB6⟩
    · obtain rfl : m = P := by omega
      have m1 : ¬ (m : Int) < (m : Int) := by omega
      have hL : RS wr w1.heap.size wr.heap.size A3 m xss := ⟨vs, hO.rd, hV.at⟩
      have hF := h.below (f1.trans (hB.mono y1)) hhi
      have hBw := f1.trans (hB.mono y1)
      have yw := hBw.size
      clear hO hV hN hlk hB f1
      go_wp2_with fail
      obtain ⟨w2, rfl⟩ : ∃ w2 : World, w2 = wr := ⟨_, rfl⟩
      go_loopw [6] (fun av wq => ∃ (a q : Nat), av = .int .i64 a ∧ a ≤ n ∧ Hid (ParI fl R a (a + 1)) ∧ wq = w2.drewN q) (fun av _ => n - (intOf av).toNat)
      case atStart => exact ⟨0, 0, rfl, by omega, hpz, rfl⟩
      case round =>
        clear hpz
        obtain ⟨a, q, rfl, han, hI, rfl⟩ := hrel
        by_cases ha : a < n
        · have hI1 := hI
          have a1 : (a : Int) < (n : Int) := by omega
          have a0 : (0 : Int) ≤ (a : Int) := by omega
          clear hI
          go_wp2_with fail
          go_loopw [7] (fun bv wq => ∃ (b q : Nat), bv = .int .i64 b ∧ a < b ∧ b ≤ n ∧ Hid (ParI fl R a b) ∧ wq = w2.drewN q) (fun bv _ => n - (intOf bv).toNat)
          case atStart => exact ⟨a + 1, q, by go_num, by omega, by omega, hI1, rfl⟩
          case round =>
            clear hI1
            obtain ⟨b, q, rfl, hab, hbn, hI, rfl⟩ := hrel
            by_cases hb : b < n
            · have b1 : (b : Int) < (n : Int) := by omega
              have b0 : (0 : Int) ≤ (b : Int) := by omega
              obtain ⟨bf, of_, Aa, na, ca, ta, rfl, _, _, hta, hca0, hra0⟩ := hF.at_ ha
              obtain ⟨bg, og, Ab, nb, cb, tb, e1, _, _, htb, hcb0, hrb0⟩ := hF.at_ hb
              injection e1 with e1
              injection e1 with e1 e2 _
              subst e1
              subst e2
              have hna : na = R := by have := hra0.len; have := hlen.out ta (mem_of_get? hta); omega
              have hnb : nb = R := by have := hrb0.len; have := hlen.out tb (mem_of_get? htb); omega
              subst hna
              subst hnb
              have hmk0 : Hid (0 = mskN fl a b 0) := Lib.hid rfl
              go_wp2_with fail
              go_loopw [8, 9] (fun mv iv wq => ∃ (i q mk : Nat), iv = .int .i64 i ∧ i ≤ nb ∧ mv = .int .i64 mk ∧ Hid (mk = mskN fl a b i) ∧ wq = w2.drewN q) (fun _ iv _ => nb - (intOf iv).toNat)
              case atStart => exact ⟨0, q, 0, rfl, by omega, rfl, hmk0, rfl⟩
              case round =>
                clear hmk0
                obtain ⟨i, q, mk, rfl, hiR, rfl, hmk, rfl⟩ := hrel
                by_cases hi : i < nb
                · obtain ⟨b3, o3, x, rfl, _, _, hx, hxc⟩ := hra0.at_ hi
                  obtain ⟨b4, o4, y, rfl, _, _, hy, hyc⟩ := hrb0.at_ hi
                  have hax : at2 fl a i = x := at2_get hta hx
                  have hay : at2 fl b i = y := at2_get htb hy
                  have i0 : (0 : Int) ≤ (i : Int) := by omega
                  have i1 : (i : Int) < (nb : Int) := by omega
                  replace hx := Lib.hid hx
                  replace hy := Lib.hid hy
                  have hms : mskN fl a b (i + 1) = mskN fl a b i + (if x = y then 2 ^ i else 0) := by rw [← hax, ← hay]; rfl
                  by_cases hxy : x = y
                  · have d0 : (x == y) = true := by simpa using hxy
                    rw [if_pos hxy, ← hmk.out] at hms
                    obtain ⟨p, hp⟩ : ∃ p : Nat, 2 ^ i = p := ⟨_, rfl⟩
                    rw [hp] at hms
                    have hlt := mskN_lt fl a b (i + 1)
                    have hlt5 : 2 ^ (i + 1) ≤ 32 := Nat.le_trans (Nat.pow_le_pow_right (by omega) (show i + 1 ≤ 5 by omega)) (by decide)
                    rw [hms] at hlt
                    have hsi : (2 : Int) ^ i = (p : Int) := by rw [← hp]; simp
                    have hp32 : p ≤ 32 := by omega
                    have hwi : IntKind.u64.wrap (i : Int) = (i : Int) := by rw [IntKind.wrap_u64]; omega
                    have hwp : IntKind.i64.wrap (p : Int) = (p : Int) := by rw [IntKind.wrap_i64]; omega
                    have hwm : IntKind.i64.wrap ((mk : Int) + (p : Int)) = ((mk + p : Nat) : Int) := by rw [IntKind.wrap_i64]; omega
                    have ii1 : (i : Int) ≤ 64 := by omega
                    have hmk2 : Hid (mk + p = mskN fl a b (i + 1)) := Lib.hid hms.symm
                    replace hxy := Lib.hid hxy
                    replace hp := Lib.hid hp
                    clear hms hlt hlt5 hax hay hmk
                    go_wp2_with fail
                    go_quiet (fail)
                    go_wp2_with fail
                    go_roundw
                    case measure => simp [intOf] <;> omega
                    case rel => exact ⟨i + 1, _, mk + p, by go_num, by omega, by go_num, hmk2, rfl⟩
                  · have d0 : (x == y) = false := by simpa using hxy
                    rw [if_neg hxy, Nat.add_zero, ← hmk.out] at hms
                    have hmk2 : Hid (mk = mskN fl a b (i + 1)) := Lib.hid hms.symm
                    replace hxy := Lib.hid hxy
                    clear hms hax hay hmk
                    go_wp2_with fail
                    go_quiet (fail)
                    go_wp2_with fail
                    go_roundw
                    case measure => simp [intOf] <;> omega
                    case rel => exact ⟨i + 1, _, mk, by go_num, by omega, rfl, hmk2, rfl⟩
                · obtain rfl : i = nb := by omega
                  have hmlt : mk < m := by rw [hmk.out, ← hP.out]; exact mskN_lt fl a b i
                  have mk0 : (0 : Int) ≤ (mk : Int) := by omega
                  have mk1 : (mk : Int) < (m : Int) := by omega
                  obtain ⟨b5, o5, A5, n5, c5, ls, rfl, _, _, hls, hc50, hr50⟩ := hL.at_ hmlt
                  have hr5 := hr50
                  have hD := hLs.out mk ls hls
                  have hn5 : n5 = n := by have := hr5.len; have := hD.len; have := hnn.out; omega
                  subst hn5
                  rw [hmk.out] at hD
                  have hsame := lab_lnk hD (show a < fl.length by rw [hnn.out]; exact ha) (show b < fl.length by rw [hnn.out]; exact hb)
                  obtain ⟨b6, o6, x, rfl, _, _, hx, hxc⟩ := hr5.at_ ha
                  obtain ⟨b7, o7, y, e5, _, _, hy, hyc⟩ := hr5.at_ hb
                  injection e5 with e5
                  injection e5 with e5 e6 _
                  subst e5
                  subst e6
                  rw [hx, hy] at hsame
                  replace hD := Lib.hid hD
                  replace hls := Lib.hid hls
                  replace hx := Lib.hid hx
                  replace hy := Lib.hid hy
                  by_cases hxy : x = y
                  · have hI2 : Hid (ParI fl i a (b + 1)) := Lib.hid (hI.out.step (hsame.1 (by rw [hxy])))
                    have d0 : (x != y) = false := by simpa using hxy
                    replace hxy := Lib.hid hxy
                    clear hsame hI
                    go_wp2_with fail
                    go_quiet (fail)
                    go_wp2_with fail
                    go_roundw
                    case measure => simp [intOf] <;> omega
                    case rel => exact ⟨b + 1, _, by go_num, by omega, by omega, hI2, rfl⟩
                  · have hI2 : parL fl i = [(a : Int), (b : Int)] := hI.out.some_ hab (by rw [hnn.out]; exact hb) (fun hl => hxy (by have := hsame.2 hl; simpa using this))
                    have d0 : (x != y) = true := by simpa using hxy
                    replace hxy := Lib.hid hxy
                    replace hI2 := Lib.hid hI2
                    clear hsame hI
                    go_wp2_with fail
                    go_quiet (fail)
                    go_wp2_with fail
                    go_ret
                    refine ⟨_, 2, 2, rfl, ?_, (below_dn hBw _).alloc (by simpa using yw) _⟩
                    rw [hI2.out]
                    exact (own_lit2 _ 2 _ _ (lo := w.heap.size) (by simpa using yw)).more (Nat.le_refl _) (by simp)
            · have hI2 : Hid (ParI fl R (a + 1) (a + 2)) := Lib.hid (hI.out.next (by rw [hnn.out]; omega))
              clear hI
              go_wp2_with fail
              go_roundw
              case measure => simp [intOf] <;> omega
              case rel => exact ⟨a + 1, q, by go_num, by omega, hI2, rfl⟩
        · have hI2 : parL fl R = [] := hI.out.none (by rw [hnn.out]; omega)
          replace hI2 := Lib.hid hI2
          clear hI
          go_wp2_with fail
          go_ret
          refine ⟨_, 0, 0, rfl, ?_, (below_dn hBw _).alloc (by simpa using yw) _⟩
          rw [hI2.out]
          exact (own_lit0 _ 2 (lo := w.heap.size) (by simpa using yw)).more (Nat.le_refl _) (by simp)
end Go.Proofs.YtebdfhkimnlglaaDoor
/- Pos -/
namespace Go.Proofs.YtebdfhkimnlglaaDoor
open Go.RowKit
set_option linter.unusedVariables false
set_option maxRecDepth 100000
set_option maxHeartbeats 8000000 in
theorem isPoset_any (r : Int) (hr : -9223372036854775808 ≤ r ∧ r ≤ 9223372036854775807) (A : Option Addr) (n c : Nat) (ps : List Int) (A1 : Option Addr) (n1 c1 : Nat) (xss : List (List Int)) (w : World) {lo hi lo1 hi1 : Nat} (h : RI w lo hi A n ps) (hhi : hi ≤ w.heap.size) (h1 : RS w lo1 hi1 A1 n1 xss) (hhi1 : hi1 ≤ w.heap.size) :
    Calls Tryd.prog 27 #[.agg #[.int .i64 r, .slice A n c, .slice A1 n1 c1]] w fun e w' => e = .returned (.bool (isPosB r ps xss)) ∧ Below w.heap.size w w' := by
  have hm := h.max
  have hm1 := h1.max
  have hl := h.len
  have hl1 := h1.len
  obtain ⟨hr0, hr1⟩ := hr
  have hR : RI (w.alloc (.cells #[.int .i64 r, .slice A n c, .slice A1 n1 c1] 29)) lo hi A n ps := h.keep (same_alloc w _ _ _ hhi)
  have hR1 : RS (w.alloc (.cells #[.int .i64 r, .slice A n c, .slice A1 n1 c1] 29)) lo1 hi1 A1 n1 xss := rs_alloc h1 hhi1 _
  have hC0 : (w.alloc (.cells #[.int .i64 r, .slice A n c, .slice A1 n1 c1] 29)).cell? ⟨w.heap.size, 0, none⟩ = some (.int .i64 r) := by simp
  have hC1 : (w.alloc (.cells #[.int .i64 r, .slice A n c, .slice A1 n1 c1] 29)).cell? ⟨w.heap.size, 1, none⟩ = some (.slice A n c) := by simp
  have hC2 : (w.alloc (.cells #[.int .i64 r, .slice A n c, .slice A1 n1 c1] 29)).cell? ⟨w.heap.size, 2, none⟩ = some (.slice A1 n1 c1) := by simp
  have hB : Below w.heap.size w (w.alloc (.cells #[.int .i64 r, .slice A n c, .slice A1 n1 c1] 29)) := (Below.refl _ _).alloc (Nat.le_refl _) _
  cases g1 : (decide ((1 : Int) ≤ r) && decide (r ≤ 5)) with
  | false =>
    have hF : isPosB r ps xss = false := isPosB_not (fun hp => by have a := hp.r1; have b := hp.r5; simp at g1; omega)
    replace hF := Lib.hid hF
    replace hl := Lib.hid hl
    replace hl1 := Lib.hid hl1
    replace g1 := Lib.hid g1
    go_enter Tryd.func27, Tryd.ntmps27
    go_wp2_with fail
    obtain ⟨W1, hW⟩ : ∃ W1 : World, w.alloc (.cells #[.int .i64 r, .slice A n c, .slice A1 n1 c1] 29) = W1 := ⟨_, rfl⟩
    have hz1 : W1.heap.size = w.heap.size + 1 := by rw [← hW]; simp
    rw [hW] at hR hR1 hC0 hC1 hC2 hB ⊢
    clear hW h h1
    ((with_reducible refine (sizeI_any _ _ _ _ (by omega)).mono ?_); rintro e w' ⟨rfl, rfl⟩)
    go_wp2_with fail
    ((with_reducible refine (within_any _ _ _ _).mono ?_); rintro e w' ⟨rfl, rfl⟩)
    rw [g1.out]
    go_wp2_with fail
    go_ret
    exact ⟨ret_bool hF.out.symm, hB⟩
  | true =>
    cases g2 : decide (n ≤ 500) with
    | false =>
      have hF : isPosB r ps xss = false := isPosB_not (fun hp => by have a := hp.n5; simp at g2; omega)
      have k2 : decide ((n : Int) > 500) = true := by simp at g2; simp; omega
      replace hF := Lib.hid hF
      replace hl := Lib.hid hl
      replace hl1 := Lib.hid hl1
      replace g1 := Lib.hid g1
      replace g2 := Lib.hid g2
      go_enter Tryd.func27, Tryd.ntmps27
      go_wp2_with fail
      obtain ⟨W1, hW⟩ : ∃ W1 : World, w.alloc (.cells #[.int .i64 r, .slice A n c, .slice A1 n1 c1] 29) = W1 := ⟨_, rfl⟩
      have hz1 : W1.heap.size = w.heap.size + 1 := by rw [← hW]; simp
      rw [hW] at hR hR1 hC0 hC1 hC2 hB ⊢
      clear hW h h1
      ((with_reducible refine (sizeI_any _ _ _ _ (by omega)).mono ?_); rintro e w' ⟨rfl, rfl⟩)
      go_wp2_with fail
      ((with_reducible refine (within_any _ _ _ _).mono ?_); rintro e w' ⟨rfl, rfl⟩)
      rw [g1.out]
      go_wp2_with fail
      go_ret
      exact ⟨ret_bool hF.out.symm, hB⟩
    | true =>
      cases g3 : decide (n1 = n) with
      | false =>
        have hF : isPosB r ps xss = false := isPosB_not (fun hp => by have a := hp.len; simp at g3; omega)
        have k2 : decide ((n : Int) > 500) = false := by simp at g2; simp; omega
        have k3 : ((n1 : Int) != (n : Int)) = true := by simp at g3; simp; omega
        replace hF := Lib.hid hF
        replace hl := Lib.hid hl
        replace hl1 := Lib.hid hl1
        replace g1 := Lib.hid g1
        replace g2 := Lib.hid g2
        replace g3 := Lib.hid g3
        go_enter Tryd.func27, Tryd.ntmps27
        go_wp2_with fail
        obtain ⟨W1, hW⟩ : ∃ W1 : World, w.alloc (.cells #[.int .i64 r, .slice A n c, .slice A1 n1 c1] 29) = W1 := ⟨_, rfl⟩
        have hz1 : W1.heap.size = w.heap.size + 1 := by rw [← hW]; simp
        rw [hW] at hR hR1 hC0 hC1 hC2 hB ⊢
        clear hW h h1
        ((with_reducible refine (sizeI_any _ _ _ _ (by omega)).mono ?_); rintro e w' ⟨rfl, rfl⟩)
        go_wp2_with fail
        ((with_reducible refine (within_any _ _ _ _).mono ?_); rintro e w' ⟨rfl, rfl⟩)
        rw [g1.out]
        go_wp2_with fail
        go_ret
        exact ⟨ret_bool hF.out.symm, hB⟩
      | true =>
        cases g4 : allIn 0 (r - 1) ps with
        | false =>
          have hF : isPosB r ps xss = false := isPosB_not (fun hp => by have a : allIn 0 (r - 1) ps = true := by { unfold allIn; rw [List.all_eq_true]; exact fun x hx => inR_iff.2 (hp.rk x hx) }; rw [a] at g4; simp at g4)
          have k2 : decide ((n : Int) > 500) = false := by simp at g2; simp; omega
          have k3 : ((n1 : Int) != (n : Int)) = false := by simp at g3; simp; omega
          have hwr : IntKind.i64.wrap (r - 1) = r - 1 := by have a : 1 ≤ r := by { simp at g1; omega }; rw [IntKind.wrap_i64]; omega
          replace hF := Lib.hid hF
          replace hl := Lib.hid hl
          replace hl1 := Lib.hid hl1
          replace g1 := Lib.hid g1
          replace g2 := Lib.hid g2
          replace g3 := Lib.hid g3
          replace g4 := Lib.hid g4
          go_enter Tryd.func27, Tryd.ntmps27
          go_wp2_with fail
          obtain ⟨W1, hW⟩ : ∃ W1 : World, w.alloc (.cells #[.int .i64 r, .slice A n c, .slice A1 n1 c1] 29) = W1 := ⟨_, rfl⟩
          have hz1 : W1.heap.size = w.heap.size + 1 := by rw [← hW]; simp
          rw [hW] at hR hR1 hC0 hC1 hC2 hB ⊢
          clear hW h h1
          ((with_reducible refine (sizeI_any _ _ _ _ (by omega)).mono ?_); rintro e w' ⟨rfl, rfl⟩)
          go_wp2_with fail
          ((with_reducible refine (within_any _ _ _ _).mono ?_); rintro e w' ⟨rfl, rfl⟩)
          rw [g1.out]
          go_wp2_with fail
          ((with_reducible refine (areWithin_any A n c ps 0 (r - 1) _ hR (by omega)).mono ?_); rintro e w2 ⟨rfl, f2⟩)
          rw [g4.out]
          have y2 := f2.size
          have B2 : Below W1.heap.size W1 w2 := f2
          have c0 := (B2.cell (p := ⟨w.heap.size, 0, none⟩) (by simp; omega)).trans hC0
          have c1 := (B2.cell (p := ⟨w.heap.size, 1, none⟩) (by simp; omega)).trans hC1
          have c2 := (B2.cell (p := ⟨w.heap.size, 2, none⟩) (by simp; omega)).trans hC2
          go_wp2_with fail
          go_ret
          exact ⟨ret_bool hF.out.symm, hB.trans (B2.mono (by omega))⟩
        | true =>
          cases g5 : srtB ps with
          | false =>
            have hF : isPosB r ps xss = false := isPosB_not (fun hp => by rw [srtB_iff.2 hp.srt] at g5; simp at g5)
            have k2 : decide ((n : Int) > 500) = false := by simp at g2; simp; omega
            have k3 : ((n1 : Int) != (n : Int)) = false := by simp at g3; simp; omega
            have hwr : IntKind.i64.wrap (r - 1) = r - 1 := by have a : 1 ≤ r := by { simp at g1; omega }; rw [IntKind.wrap_i64]; omega
            replace hF := Lib.hid hF
            replace hl := Lib.hid hl
            replace hl1 := Lib.hid hl1
            replace g1 := Lib.hid g1
            replace g2 := Lib.hid g2
            replace g3 := Lib.hid g3
            replace g4 := Lib.hid g4
            replace g5 := Lib.hid g5
            go_enter Tryd.func27, Tryd.ntmps27
            go_wp2_with fail
            obtain ⟨W1, hW⟩ : ∃ W1 : World, w.alloc (.cells #[.int .i64 r, .slice A n c, .slice A1 n1 c1] 29) = W1 := ⟨_, rfl⟩
            have hz1 : W1.heap.size = w.heap.size + 1 := by rw [← hW]; simp
            rw [hW] at hR hR1 hC0 hC1 hC2 hB ⊢
            clear hW h h1
            ((with_reducible refine (sizeI_any _ _ _ _ (by omega)).mono ?_); rintro e w' ⟨rfl, rfl⟩)
            go_wp2_with fail
            ((with_reducible refine (within_any _ _ _ _).mono ?_); rintro e w' ⟨rfl, rfl⟩)
            rw [g1.out]
            go_wp2_with fail
            ((with_reducible refine (areWithin_any A n c ps 0 (r - 1) _ hR (by omega)).mono ?_); rintro e w2 ⟨rfl, f2⟩)
            rw [g4.out]
            have y2 := f2.size
            have B2 : Below W1.heap.size W1 w2 := f2
            have c0 := (B2.cell (p := ⟨w.heap.size, 0, none⟩) (by simp; omega)).trans hC0
            have c1 := (B2.cell (p := ⟨w.heap.size, 1, none⟩) (by simp; omega)).trans hC1
            have c2 := (B2.cell (p := ⟨w.heap.size, 2, none⟩) (by simp; omega)).trans hC2
            go_wp2_with fail
            ((with_reducible refine (isSorted_any A n c ps _ (hR.below B2 (by omega)) (by omega)).mono ?_); rintro e w3 ⟨rfl, f3⟩)
            rw [g5.out]
            have y3 := f3.size
            have B3 : Below W1.heap.size W1 w3 := below_then B2 f3 (by omega)
            clear c0 c1 c2
            have c0 := (B3.cell (p := ⟨w.heap.size, 0, none⟩) (by simp; omega)).trans hC0
            have c1 := (B3.cell (p := ⟨w.heap.size, 1, none⟩) (by simp; omega)).trans hC1
            have c2 := (B3.cell (p := ⟨w.heap.size, 2, none⟩) (by simp; omega)).trans hC2
            go_wp2_with fail
            go_ret
            exact ⟨ret_bool hF.out.symm, hB.trans (B3.mono (by omega))⟩
          | true =>
            have hr15 : 1 ≤ r ∧ r ≤ 5 := by simpa using g1
            have hn5 : n ≤ 500 := by simpa using g2
            have hnn : n = n1 := by simp at g3; omega
            have hrk : ∀ x ∈ ps, 0 ≤ x ∧ x ≤ r - 1 := fun x hx => by have a := g4; unfold allIn at a; rw [List.all_eq_true] at a; exact inR_iff.1 (a x hx)
            have hsrt := srtB_iff.1 g5
            have k2 : decide ((n : Int) > 500) = false := by simp at g2; simp; omega
            have k3 : ((n1 : Int) != (n : Int)) = false := by simp at g3; simp; omega
            have hwr : IntKind.i64.wrap (r - 1) = r - 1 := by have a : 1 ≤ r := by { simp at g1; omega }; rw [IntKind.wrap_i64]; omega
            subst hnn
            replace hl := Lib.hid hl
            replace hl1 := Lib.hid hl1
            replace hrk := Lib.hid hrk
            replace hsrt := Lib.hid hsrt
            replace g1 := Lib.hid g1
            replace g2 := Lib.hid g2
            replace g3 := Lib.hid g3
            replace g4 := Lib.hid g4
            replace g5 := Lib.hid g5
            go_enter Tryd.func27, Tryd.ntmps27
            go_wp2_with fail
            obtain ⟨W1, hW⟩ : ∃ W1 : World, w.alloc (.cells #[.int .i64 r, .slice A n c, .slice A1 n c1] 29) = W1 := ⟨_, rfl⟩
            have hz1 : W1.heap.size = w.heap.size + 1 := by rw [← hW]; simp
            rw [hW] at hR hR1 hC0 hC1 hC2 hB ⊢
            clear hW h h1
            ((with_reducible refine (sizeI_any _ _ _ _ (by omega)).mono ?_); rintro e w' ⟨rfl, rfl⟩)
            go_wp2_with fail
            ((with_reducible refine (within_any _ _ _ _).mono ?_); rintro e w' ⟨rfl, rfl⟩)
            rw [g1.out]
            go_wp2_with fail
            ((with_reducible refine (areWithin_any A n c ps 0 (r - 1) _ hR (by omega)).mono ?_); rintro e w2 ⟨rfl, f2⟩)
            rw [g4.out]
            have y2 := f2.size
            have B2 : Below W1.heap.size W1 w2 := f2
            have c0 := (B2.cell (p := ⟨w.heap.size, 0, none⟩) (by simp; omega)).trans hC0
            have c1 := (B2.cell (p := ⟨w.heap.size, 1, none⟩) (by simp; omega)).trans hC1
            have c2 := (B2.cell (p := ⟨w.heap.size, 2, none⟩) (by simp; omega)).trans hC2
            go_wp2_with fail
            ((with_reducible refine (isSorted_any A n c ps _ (hR.below B2 (by omega)) (by omega)).mono ?_); rintro e w3 ⟨rfl, f3⟩)
            rw [g5.out]
            have y3 := f3.size
            have B3 : Below W1.heap.size W1 w3 := below_then B2 f3 (by omega)
            clear c0 c1 c2
            have c0 := (B3.cell (p := ⟨w.heap.size, 0, none⟩) (by simp; omega)).trans hC0
            have c1 := (B3.cell (p := ⟨w.heap.size, 1, none⟩) (by simp; omega)).trans hC1
            have c2 := (B3.cell (p := ⟨w.heap.size, 2, none⟩) (by simp; omega)).trans hC2
            go_wp2_with fail
            clear k3 hwr k2
            go_loopw [54] (fun kv wq => ∃ e : Nat, e ≤ n ∧ kv = .int .i64 e ∧ Hid (∀ e2 : Nat, e2 < e → ∀ B, xss[e2]? = some B → ∀ (k : Nat) (f : Int), B[k]? = some f → BelK ps e2 B k f) ∧ Below W1.heap.size W1 wq) (fun kv _ => n - (intOf kv).toNat)
            case atStart => exact ⟨0, by omega, rfl, Lib.hid (fun e2 h2 => by omega), B3⟩
            case round =>
              clear c0 c1 c2
              obtain ⟨e, he, rfl, hbel, hb⟩ := hrel
              have hbz := hb.size
              have c0 := (hb.cell (p := ⟨w.heap.size, 0, none⟩) (by simp; omega)).trans hC0
              have c1 := (hb.cell (p := ⟨w.heap.size, 1, none⟩) (by simp; omega)).trans hC1
              have c2 := (hb.cell (p := ⟨w.heap.size, 2, none⟩) (by simp; omega)).trans hC2
              by_cases hlt : e < n
              · obtain ⟨b, o, Ak, nk, ck, B, rfl, _, _, hBe, hcB, hrB⟩ := (hR1.below hb (by omega)).at_ hlt
                have hpl := hl.out
                have hBl := hrB.len
                have hBm := hrB.max
                replace hBe := Lib.hid hBe
                replace hBl := Lib.hid hBl
                go_wp2_with fail
                obtain ⟨wo, rfl⟩ : ∃ wo : World, wo = wr := ⟨_, rfl⟩
                go_loopw [61] (fun kv wq => ∃ k : Nat, k ≤ nk ∧ kv = .int .i64 k ∧ Hid (∀ k2 : Nat, k2 < k → ∀ f : Int, B[k2]? = some f → BelK ps e B k2 f) ∧ Below wo.heap.size wo wq) (fun kv _ => nk - (intOf kv).toNat)
                case atStart => exact ⟨0, by omega, rfl, Lib.hid (fun k2 h2 => by omega), Below.refl _ _⟩
                case round =>
                  clear c0 c1 c2
                  obtain ⟨k, hk, rfl, hrow, hb2⟩ := hrel
                  have hb3 : Below W1.heap.size W1 wr := below_then hb hb2 (by omega)
                  have hz3 := hb3.size
                  have c0 := (hb3.cell (p := ⟨w.heap.size, 0, none⟩) (by simp; omega)).trans hC0
                  have c1 := (hb3.cell (p := ⟨w.heap.size, 1, none⟩) (by simp; omega)).trans hC1
                  have c2 := (hb3.cell (p := ⟨w.heap.size, 2, none⟩) (by simp; omega)).trans hC2
                  have hcB2 := (hb2.cell (p := ⟨b, o + e, none⟩) (by simp; omega)).trans hcB
                  have hrB2 := hrB.below hb2 (by omega)
                  have hR3 := hR.below hb3 (by omega)
                  by_cases hkn : k < nk
                  · obtain ⟨bb, oo, f, rfl, _, _, hf, hcf⟩ := hrB2.at_ hkn
                    obtain ⟨bp, op, pe, rfl, _, _, hpe, hcpe⟩ := hR3.at_ hlt
                    have hge : ps.getD e 0 = pe := getD_some hpe
                    cases hin : (decide ((0 : Int) ≤ f) && decide (f ≤ (n : Int) - 1)) with
                    | false =>
                      have hF : isPosB r ps xss = false := isPosB_not (fun hp => by obtain ⟨q0, q1, q2, q3⟩ := hp.bel e B hBe.out k f hf; rw [hpl] at q1; simp at hin; omega)
                      have hwn : IntKind.i64.wrap ((n : Int) - 1) = (n : Int) - 1 := by rw [IntKind.wrap_i64]; omega
                      replace hF := Lib.hid hF
                      replace hf := Lib.hid hf
                      replace hpe := Lib.hid hpe
                      replace hge := Lib.hid hge
                      replace hpl := Lib.hid hpl
                      go_wp2_with fail
                      go_quiet (((go_at_call 41; exact quiet_left (hin ▸ within_any _ _ _ _))))
                      go_wp2_with fail
                      go_ret
                      exact ⟨ret_bool hF.out.symm, hB.trans ((below_dn hb3 _).mono (by omega))⟩
                    | true =>
                      obtain ⟨hf0, hf1⟩ : 0 ≤ f ∧ f ≤ (n : Int) - 1 := by simpa using hin
                      obtain ⟨f, rfl⟩ : ∃ q : Nat, f = q := ⟨f.toNat, by omega⟩
                      have hfn : f < n := by omega
                      obtain ⟨bp2, op2, pf, e5, _, _, hpf, hcpf⟩ := hR3.at_ hfn
                      injection e5 with e5
                      injection e5 with e6 e7 _
                      subst e6; subst e7
                      have hgf : at' ps (f : Int) = pf := by unfold at'; rw [Int.toNat_natCast]; exact getD_some hpf
                      cases hge2 : decide (pf ≥ pe) with
                      | true =>
                        have hF : isPosB r ps xss = false := isPosB_not (fun hp => by obtain ⟨q0, q1, q2, q3⟩ := hp.bel e B hBe.out k f hf; rw [hgf, hge] at q2; simp at hge2; omega)
                        have hwn : IntKind.i64.wrap ((n : Int) - 1) = (n : Int) - 1 := by rw [IntKind.wrap_i64]; omega
                        replace hF := Lib.hid hF
                        replace hf := Lib.hid hf
                        replace hpe := Lib.hid hpe
                        replace hge := Lib.hid hge
                        replace hpf := Lib.hid hpf
                        replace hgf := Lib.hid hgf
                        replace hpl := Lib.hid hpl
                        go_wp2_with fail
                        go_quiet (((go_at_call 41; exact quiet_left (hin ▸ within_any _ _ _ _))))
                        go_wp2_with fail
                        go_ret
                        exact ⟨ret_bool hF.out.symm, hB.trans ((below_dn hb3 _).mono (by omega))⟩
                      | false =>
                        have hpfe : pf < pe := by simpa using hge2
                        cases k with
                        | zero =>
                          rw [Nat.add_zero] at hcf
                          have hrow2 : ∀ k2 : Nat, k2 < 0 + 1 → ∀ f : Int, B[k2]? = some f → BelK ps e B k2 f := fun k2 h2 g hg => by
                            by_cases ek : k2 = 0
                            · subst ek
                              have eg := hf.symm.trans hg
                              have eg2 := Option.some.inj eg
                              subst eg2
                              refine ⟨by omega, by rw [hpl]; omega, by rw [hgf, hge]; omega, fun h0 => ?_⟩
                              omega
                            · exact hrow.out k2 (by omega) g hg
                          replace hrow2 := Lib.hid hrow2
                          have hwn : IntKind.i64.wrap ((n : Int) - 1) = (n : Int) - 1 := by rw [IntKind.wrap_i64]; omega
                          replace hf := Lib.hid hf
                          replace hpe := Lib.hid hpe
                          replace hge := Lib.hid hge
                          replace hpf := Lib.hid hpf
                          replace hgf := Lib.hid hgf
                          replace hpl := Lib.hid hpl
                          go_wp2_with fail
                          go_quiet (((go_at_call 41; exact quiet_left (hin ▸ within_any _ _ _ _))))
                          go_wp2_with fail
                          clear hwn
                          go_roundw
                          case measure => simp [intOf]; omega
                          case rel => exact ⟨1, by omega, by go_num, hrow2, below_dn hb2 _⟩
                        | succ q =>
                          obtain ⟨bq, oq, fq, e5, _, _, hfq, hcfq⟩ := hrB2.at_ (k := q) (by omega)
                          injection e5 with e5
                          injection e5 with e6 e7 _
                          subst e6; subst e7
                          have hgq : B.getD q 0 = fq := getD_some hfq
                          have hd0 : decide ((q : Int) + 1 > 0) = true := by first | (simp; done) | (simp; omega)
                          cases hle : decide (fq ≥ (f : Int)) with
                          | true =>
                            have hF : isPosB r ps xss = false := isPosB_not (fun hp => by obtain ⟨q0, q1, q2, q3⟩ := hp.bel e B hBe.out (q + 1) f hf; have q4 := q3 (by omega); rw [Nat.add_sub_cancel, hgq] at q4; simp at hle; omega)
                            have hwn : IntKind.i64.wrap ((n : Int) - 1) = (n : Int) - 1 := by rw [IntKind.wrap_i64]; omega
                            have hwq : IntKind.i64.wrap (q : Int) = (q : Int) := by rw [IntKind.wrap_i64]; omega
                            replace hF := Lib.hid hF
                            replace hf := Lib.hid hf
                            replace hpe := Lib.hid hpe
                            replace hge := Lib.hid hge
                            replace hpf := Lib.hid hpf
                            replace hgf := Lib.hid hgf
                            replace hpl := Lib.hid hpl
                            replace hfq := Lib.hid hfq
                            replace hgq := Lib.hid hgq
                            go_wp2_with fail
                            go_quiet (((go_at_call 41; exact quiet_left (hin ▸ within_any _ _ _ _))))
                            go_wp2_with fail
                            go_ret
                            exact ⟨ret_bool hF.out.symm, hB.trans ((below_dn hb3 _).mono (by omega))⟩
                          | false =>
                            have hfqf : fq < (f : Int) := by simpa using hle
                            have hrow2 : ∀ k2 : Nat, k2 < q + 1 + 1 → ∀ f : Int, B[k2]? = some f → BelK ps e B k2 f := fun k2 h2 g hg => by
                              by_cases ek : k2 = q + 1
                              · subst ek
                                have eg := hf.symm.trans hg
                                have eg2 := Option.some.inj eg
                                subst eg2
                                refine ⟨by omega, by rw [hpl]; omega, by rw [hgf, hge]; omega, fun h0 => ?_⟩
                                rw [Nat.add_sub_cancel, hgq]; omega
                              · exact hrow.out k2 (by omega) g hg
                            replace hrow2 := Lib.hid hrow2
                            have hwn : IntKind.i64.wrap ((n : Int) - 1) = (n : Int) - 1 := by rw [IntKind.wrap_i64]; omega
                            have hwq : IntKind.i64.wrap (q : Int) = (q : Int) := by rw [IntKind.wrap_i64]; omega
                            replace hf := Lib.hid hf
                            replace hpe := Lib.hid hpe
                            replace hge := Lib.hid hge
                            replace hpf := Lib.hid hpf
                            replace hgf := Lib.hid hgf
                            replace hpl := Lib.hid hpl
                            replace hfq := Lib.hid hfq
                            replace hgq := Lib.hid hgq
                            go_wp2_with fail
                            go_quiet (((go_at_call 41; exact quiet_left (hin ▸ within_any _ _ _ _))))
                            go_wp2_with fail
                            clear hwn hwq
                            go_roundw
                            case measure => simp [intOf]; omega
                            case rel => exact ⟨q + 1 + 1, by omega, by go_num, hrow2, below_dn hb2 _⟩
                  · have hkk : k = nk := by omega
                    subst hkk
                    have hbel2 : ∀ e2 : Nat, e2 < e + 1 → ∀ B, xss[e2]? = some B → ∀ (k : Nat) (f : Int), B[k]? = some f → BelK ps e2 B k f := fun e2 h2 B2 hB2 k f hf => by
                      by_cases ek : e2 = e
                      · subst ek
                        have eB := Option.some.inj (hBe.out.symm.trans hB2)
                        subst eB
                        exact hrow.out k (by have := (List.getElem?_eq_some_iff.1 hf).1; have := hBl.out; omega) f hf
                      · exact hbel.out e2 (by omega) B2 hB2 k f hf
                    replace hbel2 := Lib.hid hbel2
                    replace hpl := Lib.hid hpl
                    go_wp2_with fail
                    go_roundw
                    case measure => simp [intOf]; omega
                    case rel => exact ⟨e + 1, by omega, by go_num, hbel2, hb3⟩
              · have hen : e = n := by omega
                subst hen
                have hbA : ∀ (e : Nat) (B : List Int), xss[e]? = some B → ∀ (k : Nat) (f : Int), B[k]? = some f → BelK ps e B k f := fun e2 B2 hB2 => hbel.out e2 (by have := (List.getElem?_eq_some_iff.1 hB2).1; have := hl1.out; omega) B2 hB2
                clear hbel
                replace hbA := Lib.hid hbA
                go_wp2_with fail
                obtain ⟨wm, rfl⟩ : ∃ wm : World, wm = wr := ⟨_, rfl⟩
                go_loopw [102] (fun kv wq => ∃ i : Nat, i ≤ e ∧ kv = .int .i64 i ∧ Hid (∀ e2 : Nat, e2 < i → ∀ B, xss[e2]? = some B → ∀ f ∈ B, ∀ C, xss[f.toNat]? = some C → ∀ g ∈ C, g ∈ B) ∧ Below W1.heap.size W1 wq) (fun kv _ => e - (intOf kv).toNat)
                case atStart => exact ⟨0, by omega, rfl, Lib.hid (fun e2 h2 => by omega), hb⟩
                case round =>
                  clear c0 c1 c2
                  obtain ⟨i, hi2, rfl, htr, hb2⟩ := hrel
                  have hbz2 := hb2.size
                  have c0 := (hb2.cell (p := ⟨w.heap.size, 0, none⟩) (by simp; omega)).trans hC0
                  have c1 := (hb2.cell (p := ⟨w.heap.size, 1, none⟩) (by simp; omega)).trans hC1
                  have c2 := (hb2.cell (p := ⟨w.heap.size, 2, none⟩) (by simp; omega)).trans hC2
                  by_cases hie : i < e
                  · obtain ⟨b, o, Ak, nk, ck, B, rfl, _, _, hBe, hcB, hrB⟩ := (hR1.below hb2 (by omega)).at_ hie
                    have hBl := hrB.len
                    have hBm := hrB.max
                    have hBs := bel_srt (hbA.out i B hBe)
                    replace hBe := Lib.hid hBe
                    replace hBl := Lib.hid hBl
                    replace hBs := Lib.hid hBs
                    go_wp2_with fail
                    obtain ⟨wo, rfl⟩ : ∃ wo : World, wo = wr := ⟨_, rfl⟩
                    go_loopw [108] (fun kv wq => ∃ k : Nat, k ≤ nk ∧ kv = .int .i64 k ∧ Hid (∀ f ∈ B.take k, ∀ C, xss[f.toNat]? = some C → ∀ g ∈ C, g ∈ B) ∧ Below wo.heap.size wo wq) (fun kv _ => nk - (intOf kv).toNat)
                    case atStart => exact ⟨0, by omega, rfl, Lib.hid (by simp), Below.refl _ _⟩
                    case round =>
                      clear c0 c1 c2
                      obtain ⟨k, hk, rfl, hrow, hb4⟩ := hrel
                      have hb3 : Below W1.heap.size W1 wr := below_then hb2 hb4 (by omega)
                      have hz3 := hb3.size
                      have c0 := (hb3.cell (p := ⟨w.heap.size, 0, none⟩) (by simp; omega)).trans hC0
                      have c1 := (hb3.cell (p := ⟨w.heap.size, 1, none⟩) (by simp; omega)).trans hC1
                      have c2 := (hb3.cell (p := ⟨w.heap.size, 2, none⟩) (by simp; omega)).trans hC2
                      have hrB2 := hrB.below hb4 (by omega)
                      by_cases hkn : k < nk
                      · obtain ⟨bb, oo, f, rfl, _, _, hf, hcf⟩ := hrB2.at_ hkn
                        obtain ⟨q0, q1, _, _⟩ := hbA.out i B hBe.out k f hf
                        rw [hl.out] at q1
                        obtain ⟨f, rfl⟩ : ∃ q : Nat, f = q := ⟨f.toNat, by omega⟩
                        have hfe : f < e := by omega
                        obtain ⟨b5, o5, Af, nf, cf, C, e5, _, _, hCf, hcC, hrC⟩ := (hR1.below hb3 (by omega)).at_ hfe
                        injection e5 with e5
                        injection e5 with e6 e7 _
                        subst e6; subst e7
                        have hCl := hrC.len
                        have hCm := hrC.max
                        have htk := take_succ_of hf
                        replace hf := Lib.hid hf
                        replace hCf := Lib.hid hCf
                        replace hCl := Lib.hid hCl
                        replace htk := Lib.hid htk
                        go_wp2_with fail
                        obtain ⟨wp, rfl⟩ : ∃ wp : World, wp = wr := ⟨_, rfl⟩
                        go_loopw [118] (fun kv wq => ∃ q : Nat, q ≤ nf ∧ kv = .int .i64 q ∧ Hid (∀ g ∈ C.take q, g ∈ B) ∧ wp = wq) (fun kv _ => nf - (intOf kv).toNat)
                        case atStart => exact ⟨0, by omega, rfl, Lib.hid (by simp), by first | rfl | trivial⟩
                        case round =>
                          obtain ⟨q, hq, rfl, hin, rfl⟩ := hrel
                          by_cases hqf : q < nf
                          · obtain ⟨bg, og, g, rfl, _, _, hg, hcg⟩ := hrC.at_ hqf
                            have htg := take_succ_of hg
                            have hgm := mem_of_get? hg
                            replace hg := Lib.hid hg
                            replace htg := Lib.hid htg
                            replace hgm := Lib.hid hgm
                            have hnk5 : nk ≤ 1048576 := by have a := bel_len (hbA.out i B hBe.out); rw [hBl.out, hl.out] at a; omega
                            cases hmem : decide (g ∈ B) with
                            | false =>
                              have hF : isPosB r ps xss = false := isPosB_not (fun hp => by have a := hp.tra i B hBe.out (f : Int) (mem_of_get? hf.out) C (by rw [Int.toNat_natCast]; exact hCf.out) g hgm.out; exact of_decide_eq_false hmem a)
                              replace hF := Lib.hid hF
                              replace hmem := Lib.hid hmem
                              go_wp2_with fail
                              ((with_reducible refine (bin_any _ nk ck B g _ hrB2 hnk5 hBs.out).mono ?_); rintro e w' ⟨p, rfl, rfl⟩)
                              rw [hmem.out]
                              go_wp2_with fail
                              go_ret
                              exact ⟨ret_bool hF.out.symm, hB.trans (hb3.mono (by omega))⟩
                            | true =>
                              have hin2 : ∀ x ∈ C.take (q + 1), x ∈ B := by
                                rw [htg.out]
                                intro x hx
                                rcases List.mem_append.1 hx with hx | hx
                                · exact hin.out x hx
                                · rw [List.mem_singleton.1 hx]; exact of_decide_eq_true hmem
                              replace hin2 := Lib.hid hin2
                              replace hmem := Lib.hid hmem
                              go_wp2_with fail
                              ((with_reducible refine (bin_any _ nk ck B g _ hrB2 hnk5 hBs.out).mono ?_); rintro e w' ⟨p, rfl, rfl⟩)
                              rw [hmem.out]
                              go_wp2_with fail
                              go_roundw
                              case measure => simp [intOf]; omega
                              case rel => exact ⟨q + 1, by omega, by go_num, hin2, by first | rfl | trivial⟩
                          · have hqq : q = nf := by omega
                            subst hqq
                            have hrow2 : ∀ x ∈ B.take (k + 1), ∀ D, xss[x.toNat]? = some D → ∀ g ∈ D, g ∈ B := by
                              rw [htk.out]
                              intro x hx D hD g hg
                              rcases List.mem_append.1 hx with hx | hx
                              · exact hrow.out x hx D hD g hg
                              · rw [List.mem_singleton.1 hx, Int.toNat_natCast] at hD
                                have eD := Option.some.inj (hCf.out.symm.trans hD)
                                subst eD
                                have a := hin.out
                                rw [List.take_of_length_le (by have := hCl.out; omega)] at a
                                exact a g hg
                            replace hrow2 := Lib.hid hrow2
                            go_wp2_with fail
                            go_roundw
                            case measure => simp [intOf]; omega
                            case rel => exact ⟨k + 1, by omega, by go_num, hrow2, hb4⟩
                      · have hkk : k = nk := by omega
                        subst hkk
                        have htr2 : ∀ e2 : Nat, e2 < i + 1 → ∀ D, xss[e2]? = some D → ∀ f ∈ D, ∀ C, xss[f.toNat]? = some C → ∀ g ∈ C, g ∈ D := fun e2 h2 D hD f hf => by
                          by_cases ek : e2 = i
                          · subst ek
                            have eD := Option.some.inj (hBe.out.symm.trans hD)
                            subst eD
                            have a := hrow.out
                            rw [List.take_of_length_le (by have := hBl.out; omega)] at a
                            exact a f hf
                          · exact htr.out e2 (by omega) D hD f hf
                        replace htr2 := Lib.hid htr2
                        go_wp2_with fail
                        go_roundw
                        case measure => simp [intOf]; omega
                        case rel => exact ⟨i + 1, by omega, by go_num, htr2, hb3⟩
                  · have hie2 : i = e := by omega
                    subst hie2
                    have hF : isPosB r ps xss = true := isPosB_iff.2 ⟨hr15.1, hr15.2, by rw [hl.out]; exact hn5, by rw [hl.out]; exact hl1.out, hrk.out, hsrt.out, hbA.out, fun e2 D hD => htr.out e2 (by have := (List.getElem?_eq_some_iff.1 hD).1; have := hl1.out; omega) D hD⟩
                    replace hF := Lib.hid hF
                    go_wp2_with fail
                    go_ret
                    exact ⟨ret_bool hF.out.symm, hB.trans (hb2.mono (by omega))⟩
end Go.Proofs.YtebdfhkimnlglaaDoor
/- Df -/
namespace Go.Proofs.YtebdfhkimnlglaaDoor
open Go.RowKit
set_option linter.unusedVariables false
set_option maxRecDepth 100000
theorem isBelow_any (b : Nat) (A : Option Addr) (n c : Nat) (xss : List (List Int)) (e : Int) (f : Nat) (w : World) {lo hi : Nat} (hc : w.cell? ⟨b, 2, none⟩ = some (.slice A n c)) (h : RS w lo hi A n xss) (hf : f < n) (hbig : ∀ B, xss[f]? = some B → B.length ≤ 1048576) (hs : ∀ B, xss[f]? = some B → ∀ k, k + 1 < B.length → B.getD k 0 ≤ B.getD (k + 1) 0) :
    Calls Tryd.prog 29 #[.pointer (some ⟨b, 0, none⟩), .int .i64 e, .int .i64 (f : Int)] w fun e' w' => e' = .returned (.bool (inBl xss e (f : Int))) ∧ w = w' := by
  obtain ⟨b1, o1, Ak, nk, ck, B, rfl, _, _, hB, hcB, hrB⟩ := h.at_ hf
  have hm := h.max
  have hnk : nk ≤ 1048576 := by have := hbig B hB; have := hrB.len; omega
  have hF : inBl xss e (f : Int) = decide (e ∈ B) := by unfold inBl; rw [Int.toNat_natCast, getD_some hB]
  have hsB := hs B hB
  replace hF := Lib.hid hF
  replace hB := Lib.hid hB
  replace hsB := Lib.hid hsB
  clear hs hbig
  go_enter Tryd.func29, Tryd.ntmps29
  go_wp2_with fail
  ((with_reducible refine (bin_any Ak nk ck B e _ hrB hnk hsB.out).mono ?_); rintro e w' ⟨p, rfl, rfl⟩)
  go_wp2_with fail
  go_ret
  exact ⟨ret_bool hF.out.symm, rfl⟩
end Go.Proofs.YtebdfhkimnlglaaDoor
/- Flg -/
namespace Go.Proofs.YtebdfhkimnlglaaDoor
open Go.RowKit
set_option linter.unusedVariables false
set_option maxRecDepth 100000
open Classical
/-- the row of what follows the element f when the elements from F on have been looked at -/
noncomputable def upTo (r : Int) (ps : List Int) (xss : List (List Int)) (n F : Nat) : List (List Int) := (List.range n).map fun f => if F ≤ f then upL r ps xss f n else []
/-- the marks then -/
def reTo (r : Int) (ps : List Int) (xss : List (List Int)) (F j : Nat) : Prop := F ≤ j ∧ Al r ps xss j
/-- within the element e, the elements ahead of f looked at -/
noncomputable def upIn (r : Int) (ps : List Int) (xss : List (List Int)) (n e f : Nat) : List (List Int) := (List.range n).map fun j => if e + 1 ≤ j then upL r ps xss j n else if j = e then upL r ps xss e f else []
def reIn (r : Int) (ps : List Int) (xss : List (List Int)) (e f j : Nat) : Prop := (e + 1 ≤ j ∧ Al r ps xss j) ∨ (j = e ∧ (ps.getD e 0 = r - 1 ∨ upL r ps xss e f ≠ []))
theorem upIn_start {r : Int} {ps : List Int} {xss : List (List Int)} (hp : PosP r ps xss) (n e : Nat) : upTo r ps xss n (e + 1) = upIn r ps xss n e (e + 1) := by
  unfold upTo upIn
  refine List.map_congr_left fun j _ => ?_
  by_cases h : e + 1 ≤ j
  · rw [if_pos h, if_pos h]
  · rw [if_neg h, if_neg h]
    split
    · next h2 => rw [upL_low hp e _ (Nat.le_refl _)]
    · rfl
theorem upIn_end (r : Int) (ps : List Int) (xss : List (List Int)) (n e : Nat) : upIn r ps xss n e n = upTo r ps xss n e := by
  unfold upTo upIn
  refine List.map_congr_left fun j _ => ?_
  by_cases h : e + 1 ≤ j
  · rw [if_pos h, if_pos (by omega)]
  · rw [if_neg h]
    by_cases h2 : j = e
    · rw [if_pos h2, if_pos (by omega), h2]
    · rw [if_neg h2, if_neg (by omega)]
theorem upIn_get {r : Int} {ps : List Int} {xss : List (List Int)} {n e f : Nat} (he : e < n) : (upIn r ps xss n e f)[e]? = some (upL r ps xss e f) := by
  unfold upIn
  rw [List.getElem?_map, List.getElem?_range he]
  have : ¬ e + 1 ≤ e := by omega
  simp [this]
theorem upIn_app {r : Int} {ps : List Int} {xss : List (List Int)} {n e f : Nat} (he : e < n) (h : Up r ps xss e f) : (upIn r ps xss n e f).set e (upL r ps xss e f ++ [(f : Int)]) = upIn r ps xss n e (f + 1) := by
  apply List.ext_getElem?
  intro j
  rw [List.getElem?_set]
  have hl : (upIn r ps xss n e f).length = n := by simp [upIn]
  by_cases hj : j < n
  · by_cases e1 : e = j
    · subst e1
      rw [if_pos rfl, hl, if_pos hj, upIn_get hj, upL_succ, if_pos h]
    · rw [if_neg e1]
      unfold upIn
      rw [List.getElem?_map, List.getElem?_map, List.getElem?_range hj]
      have : ¬ j = e := fun h => e1 h.symm
      simp [this]
  · have hl2 : (upIn r ps xss n e (f + 1)).length = n := by simp [upIn]
    rw [if_neg (by omega), List.getElem?_eq_none (by omega), List.getElem?_eq_none (by omega)]
theorem upIn_pass {r : Int} {ps : List Int} {xss : List (List Int)} {n e f : Nat} (h : ¬ Up r ps xss e f) : upIn r ps xss n e f = upIn r ps xss n e (f + 1) := by
  unfold upIn
  refine List.map_congr_left fun j _ => ?_
  rw [upL_succ, if_neg h, List.append_nil]
theorem reIn_start {r : Int} {ps : List Int} {xss : List (List Int)} (hp : PosP r ps xss) {n e : Nat} (he : e < n) {b : Bool} (hb : b = decide (ps.getD e 0 = r - 1)) : (alR (reTo r ps xss (e + 1)) n).set e b = alR (reIn r ps xss e (e + 1)) n := by
  refine alR_set ?_ fun j hj hne => ?_
  · rw [hb]
    refine decide_eq_decide.2 ⟨fun h => .inr ⟨rfl, .inl h⟩, ?_⟩
    rintro (⟨h, _⟩ | ⟨_, h | h⟩)
    · omega
    · exact h
    · exact absurd (upL_low hp e _ (Nat.le_refl _)) h
  · constructor
    · exact .inl
    · rintro (h | ⟨h, _⟩)
      · exact h
      · exact absurd h hne
theorem reIn_end {r : Int} {ps : List Int} {xss : List (List Int)} {n e : Nat} (hn : ps.length = n) (he : e < n) : alR (reIn r ps xss e n) n = alR (reTo r ps xss e) n := by
  refine alR_congr fun j hj => ?_
  constructor
  · rintro (⟨h1, h2⟩ | ⟨h1, h2⟩)
    · exact ⟨by omega, h2⟩
    · subst h1
      exact ⟨Nat.le_refl _, (al_iff (by omega)).2 (by rw [hn]; exact h2)⟩
  · rintro ⟨h1, h2⟩
    by_cases h3 : j = e
    · subst h3
      exact .inr ⟨rfl, by have := (al_iff (by omega)).1 h2; rwa [hn] at this⟩
    · exact .inl ⟨by omega, h2⟩
theorem reIn_get {r : Int} {ps : List Int} {xss : List (List Int)} {n e f : Nat} (hf : f < n) (hef : e < f) (m : Nat) : (alR (reIn r ps xss e m) n)[f]? = some (decide (Al r ps xss f)) := by
  rw [alR_get hf]
  refine congrArg some (decide_eq_decide.2 ⟨?_, fun h => .inl ⟨by omega, h⟩⟩)
  rintro (⟨_, h⟩ | ⟨h, _⟩)
  · exact h
  · omega
theorem reIn_app {r : Int} {ps : List Int} {xss : List (List Int)} {n e f : Nat} (he : e < n) (h : Up r ps xss e f) : (alR (reIn r ps xss e f) n).set e true = alR (reIn r ps xss e (f + 1)) n := by
  refine alR_set ?_ fun j hj hne => ?_
  · symm
    refine decide_eq_true (.inr ⟨rfl, .inr ?_⟩)
    rw [upL_succ, if_pos h]
    simp
  · constructor
    · rintro (h | ⟨h, _⟩)
      · exact .inl h
      · exact absurd h hne
    · rintro (h | ⟨h, _⟩)
      · exact .inl h
      · exact absurd h hne
theorem reIn_pass {r : Int} {ps : List Int} {xss : List (List Int)} {n e f : Nat} (h : ¬ Up r ps xss e f) : alR (reIn r ps xss e f) n = alR (reIn r ps xss e (f + 1)) n := by
  refine alR_congr fun j hj => ?_
  unfold reIn
  rw [upL_succ, if_neg h, List.append_nil]
theorem allFl_nums {r : Int} {ps : List Int} {xss : List (List Int)} (hr : r ≤ 5) : (allFl r ps xss).length + numsIn (allFl r ps xss) ≤ 1048576 := by
  have h1 := cut4_len (growF r ps xss r.toNat [])
  have h := numsIn_le (xss := allFl r ps xss) (n := 5) (fun p hp => by
    have := growF_len r ps xss r.toNat [] p (List.mem_of_mem_take hp)
    simp at this
    omega)
  unfold allFl at *
  omega
set_option maxHeartbeats 8000000 in
theorem flagsOf_any (w : World) (r : Int) (hr : -9223372036854775808 ≤ r ∧ r ≤ 9223372036854775807) (D : Option Addr) (k e0 : Nat) (ps : List Int) {lo hi : Nat} (g : RI w lo hi D k ps) (hg : hi ≤ w.heap.size) (hke : k ≤ e0) (A : Option Addr) (n c : Nat) (xss : List (List Int)) {lo' hi' : Nat} (h : RS w lo' hi' A n xss) (hhi : hi' ≤ w.heap.size) (hnc : n ≤ c) :
    Calls Tryd.prog 19 #[.agg #[.int .i64 r, .slice D k e0, .slice A n c]] w fun e' w' => ∃ (A1 : Option Addr) (n1 c1 : Nat) (zss : List (List Int)) (code : Int), e' = .returned (.tuple #[.slice A1 n1 c1, .int .i64 code]) ∧ Hid ((zss, code) = flagF r ps xss) ∧ OwnS w' w.heap.size w'.heap.size 22 2 A1 n1 c1 zss ∧ n1 + numsIn zss ≤ 1048576 ∧ Below w.heap.size w w' := by
  obtain ⟨i0, hi0, hq0, hq1, hq2⟩ := info_parts infoB
  obtain ⟨j0, hj0, hy0, hy1, hy2⟩ := info_parts infoI
  obtain ⟨s0, hs0, hu0, hu1, hu2⟩ := info_parts infoS
  have hl := g.len
  have hl1 := h.len
  have hm := g.max
  have hm1 := h.max
  have hR := rs_alloc h hhi (.cells #[.int .i64 r, .slice D k e0, .slice A n c] 29)
  have hG := ri_alloc g hg (.cells #[.int .i64 r, .slice D k e0, .slice A n c] 29)
  have hB : Below w.heap.size w (w.alloc (.cells #[.int .i64 r, .slice D k e0, .slice A n c] 29)) := (Below.refl _ _).alloc (Nat.le_refl _) _
  have p0 : (w.alloc (.cells #[.int .i64 r, .slice D k e0, .slice A n c] 29)).heap[w.heap.size]? = some (.cells #[.int .i64 r, .slice D k e0, .slice A n c] 29 (0, 0)) := heap_new _ _ _ rfl
  replace p0 := Lib.hid p0
  cases hM : isPosB r ps xss with
  | false =>
    have hF : flagF r ps xss = ([], 1) := by unfold flagF; rw [hM]; rfl
    replace hF := Lib.hid hF
    replace hM := Lib.hid hM
    replace hl := Lib.hid hl
    replace hl1 := Lib.hid hl1
    go_enter Tryd.func19, Tryd.ntmps19
    go_wp2_with fail
    obtain ⟨W1, hW⟩ : ∃ W1 : World, (w.alloc (.cells #[.int .i64 r, .slice D k e0, .slice A n c] 29)) = W1 := ⟨_, rfl⟩
    have hz1 : W1.heap.size = w.heap.size + 1 := by rw [← hW]; simp
    rw [hW] at hR hG hB p0 ⊢
    clear hW h g
    ((with_reducible refine (isPoset_any r hr D k e0 ps A n c xss _ hG (by omega) hR (by omega)).mono ?_); rintro e2 w2 ⟨rfl, f2⟩)
    rw [hM.out]
    have y2 := f2.size
    go_wp2_with fail
    go_ret2
    exact ⟨_, 0, _, [], _, rfl, Lib.hid hF.out.symm, OwnS.nil, by simp [numsIn], hB.trans (f2.mono (by omega))⟩
  | true =>
    have hp := isPosB_iff.1 hM
    have hnk : n = k := by have := hp.len; omega
    subst hnk
    have hn5 : n ≤ 500 := by have := hp.n5; omega
    have hr15 : 1 ≤ r ∧ r ≤ 5 := ⟨hp.r1, hp.r5⟩
    have hbig : ∀ (f : Nat) (B : List Int), xss[f]? = some B → B.length ≤ 1048576 := fun f B hB => by have := bel_len (hp.bel f B hB); omega
    have hsrt : ∀ (f : Nat) (B : List Int), xss[f]? = some B → ∀ k, k + 1 < B.length → B.getD k 0 ≤ B.getD (k + 1) 0 := fun f B hB => bel_srt (hp.bel f B hB)
    have hrk : ∀ (k : Nat) (x : Int), ps[k]? = some x → 0 ≤ x ∧ x ≤ r - 1 := fun k x hx => hp.rk x (mem_of_get? hx)
    obtain ⟨R, rfl⟩ : ∃ R : Nat, r = R := ⟨r.toNat, by omega⟩
    have hF : flagF (R : Int) ps xss = if 400 < (allFl (R : Int) ps xss).length then ([], 3) else (allFl (R : Int) ps xss, 0) := by unfold flagF; rw [if_pos hM]
    have hnum := allFl_nums (ps := ps) (xss := xss) hr15.2
    replace hF := Lib.hid hF
    replace hM := Lib.hid hM
    replace hl := Lib.hid hl
    replace hl1 := Lib.hid hl1
    replace hp := Lib.hid hp
    replace hbig := Lib.hid hbig
    replace hsrt := Lib.hid hsrt
    replace hrk := Lib.hid hrk
    replace hnum := Lib.hid hnum
    go_enter Tryd.func19, Tryd.ntmps19
    go_wp2_with fail
    obtain ⟨W1, hW⟩ : ∃ W1 : World, (w.alloc (.cells #[.int .i64 (R : Int), .slice D n e0, .slice A n c] 29)) = W1 := ⟨_, rfl⟩
    have hz1 : W1.heap.size = w.heap.size + 1 := by rw [← hW]; simp
    rw [hW] at hR hG hB p0 ⊢
    clear hW h g
    ((with_reducible refine (isPoset_any (R : Int) hr D n e0 ps A n c xss _ hG (by omega) hR (by omega)).mono ?_); rintro e2 w2 ⟨rfl, f2⟩)
    rw [hM.out]
    have y2 := f2.size
    have p2 := (f2.block _ (by omega)).trans p0.out
    have a0 : w2.cell? ⟨w.heap.size, 0, none⟩ = some (.int .i64 (R : Int)) := by rw [cell_of_row _ _ _ _ _ _ p2]; rfl
    have a1 : w2.cell? ⟨w.heap.size, 1, none⟩ = some (.slice D n e0) := by rw [cell_of_row _ _ _ _ _ _ p2]; rfl
    have a2 : w2.cell? ⟨w.heap.size, 2, none⟩ = some (.slice A n c) := by rw [cell_of_row _ _ _ _ _ _ p2]; rfl
    replace p2 := Lib.hid p2
    go_wp2_with fail
    ((with_reducible refine (sizeI_any _ _ _ _ (by omega)).mono ?_); rintro e1 w' ⟨rfl, rfl⟩)
    go_wp2_with (at_make; refine wpList_make_full _ rfl _ _ 23 rfl w2.heap.size 22 s0 (.slice none 0 0) 1 Tryd.underlying23 hs0 hu0 hu1 _ _ _ _ n rfl rfl rfl rfl ?c1 ?c2 (Nat.le_refl _) ?_)
    case c1 => rw [hu2]; omega
    case c2 => simp only [maxLen]; omega
    intro w3 hown hgw
    have B3 : Below w2.heap.size w2 w3 := (Below.refl _ _).grown hgw (Nat.le_refl _) (by simp)
    have z3 : w2.heap.size < w3.heap.size := (hown.lt w2.heap.size (by simp [Value.ownBlock])).2
    have hown3 : w3.ownsRow w2.heap.size 22 1 (.slice (some ⟨w2.heap.size, 0, none⟩) n n) n (List.replicate n (.slice none 0 0)) := by simpa [toList_madeCells_one, Value.cells] using hown
    clear hown hgw
    have U4 : (w3.alloc (.cells #[.slice (some ⟨w2.heap.size, 0, none⟩) n n] 23)).heap[w3.heap.size]? = some (.cells #[.slice (some ⟨w2.heap.size, 0, none⟩) n n] 23 (0, 0)) := heap_new _ _ _ rfl
    have B4 : Below w2.heap.size w2 (w3.alloc (.cells #[.slice (some ⟨w2.heap.size, 0, none⟩) n n] 23)) := B3.alloc (by omega) _
    have hown4 := hown3.alloc (.cells #[.slice (some ⟨w2.heap.size, 0, none⟩) n n] 23)
    go_upto_region 5 with fail
    obtain ⟨w4, hw4⟩ : ∃ w4 : World, w3.alloc (.cells #[.slice (some ⟨w2.heap.size, 0, none⟩) n n] 23) = w4 := ⟨_, rfl⟩
    have z4 : w4.heap.size = w3.heap.size + 1 := by rw [← hw4]; simp
    rw [hw4] at U4 B4 hown4 ⊢
    clear hw4 hown3 B3
    go_wp2_with (at_make; refine wpList_make_full _ rfl _ _ 51 rfl (w3.heap.size + 1) 4 i0 (.bool false) 1 Tryd.underlying51 hi0 hq0 hq1 _ _ _ _ n rfl rfl rfl rfl ?c1 ?c2 (by omega) ?_)
    case c1 => rw [hq2]; omega
    case c2 => simp only [maxLen]; omega
    intro w5 hown hgw
    have B5 : Below w4.heap.size w4 w5 := (Below.refl _ _).grown hgw (Nat.le_refl _) (by simp)
    have z5 : w3.heap.size + 1 < w5.heap.size := (hown.lt (w3.heap.size + 1) (by simp [Value.ownBlock])).2
    have oR5 : Own w5 (w3.heap.size + 1) (w3.heap.size + 2) 4 (some ⟨w3.heap.size + 1, 0, none⟩) n n ((alR (reTo (R : Int) ps xss n) n).map Value.bool) := by
      rw [alR_false _ n (fun j hj => by unfold reTo; omega)]
      refine ⟨?_, fun a ha => by cases ha; simp⟩
      simpa [toList_madeCells_one, Value.cells] using hown
    have oU5 : w5.ownsRow w2.heap.size 22 1 (.slice (some ⟨w2.heap.size, 0, none⟩) n n) n (List.replicate n (.slice none 0 0)) := hown4.kept hgw (.inr (by simp [Value.ownBlock]))
    have U5 := (B5.block w3.heap.size (by omega)).trans U4
    have hb5 : Below w2.heap.size w2 w5 := B4.trans (B5.mono (by omega))
    have hV5 : RowsOwn w5 w5.heap.size w5.heap.size 2 (List.replicate n (.slice none 0 0)) (upTo (R : Int) ps xss n n) := RowsOwn.nils _ _ _ _ _ (fun j hj => by simp; omega)
    replace U5 := Lib.hid U5
    clear hown hgw U4 B4 hown4 B5
    go_wp2_with fail
    go_loopw [7] (fun ev wq => ∃ (F : Nat) (v : Int) (vs : List Value), F ≤ n ∧ Hid (v = (F : Int) - 1) ∧ ev = .int .i64 v ∧ -1 ≤ v ∧ v < n ∧ Hid (wq.heap[w3.heap.size]? = some (.cells #[.slice (some ⟨w2.heap.size, 0, none⟩) n n] 23 (0, 0))) ∧ wq.ownsRow w2.heap.size 22 1 (.slice (some ⟨w2.heap.size, 0, none⟩) n n) n vs ∧ RowsOwn wq w5.heap.size wq.heap.size 2 vs (upTo (R : Int) ps xss n F) ∧
      Own wq (w3.heap.size + 1) (w3.heap.size + 2) 4 (some ⟨w3.heap.size + 1, 0, none⟩) n n ((alR (reTo (R : Int) ps xss F) n).map Value.bool) ∧ Below w2.heap.size w2 wq ∧ w5.heap.size ≤ wq.heap.size) (fun ev _ => (intOf ev + 1).toNat)
    case atStart => exact ⟨n, _, _, by omega, Lib.hid rfl, rfl, by omega, by omega, U5, oU5, hV5, oR5, hb5, Nat.le_refl _⟩
    case round =>
      clear U5 oU5 hV5 oR5 hb5 a0 a1 a2
      obtain ⟨F, v, vs, hFn, hv, rfl, hv0, hv1, hub, oU, hV, oR, hb, hzz⟩ := hrel
      have hP := ((hb.block w.heap.size (by omega)).trans p2.out)
      have a0 : wr.cell? ⟨w.heap.size, 0, none⟩ = some (.int .i64 (R : Int)) := by rw [cell_of_row _ _ _ _ _ _ hP]; rfl
      have a1 : wr.cell? ⟨w.heap.size, 1, none⟩ = some (.slice D n e0) := by rw [cell_of_row _ _ _ _ _ _ hP]; rfl
      have a2 : wr.cell? ⟨w.heap.size, 2, none⟩ = some (.slice A n c) := by rw [cell_of_row _ _ _ _ _ _ hP]; rfl
      replace hP := Lib.hid hP
      by_cases h0 : 0 ≤ v
      · obtain ⟨e, rfl⟩ : ∃ z : Nat, v = z := ⟨v.toNat, by omega⟩
        have hFe : F = e + 1 := by have := hv.out; omega
        subst hFe
        have hen : e < n := by omega
        obtain ⟨bD, oD, xe, hDe, _, _, hxe, hcx0⟩ := hG.at_ hen
        subst hDe
        have hcx := (hb.cell (p := ⟨bD, oD + e, none⟩) (by simp; omega)).trans ((f2.cell (p := ⟨bD, oD + e, none⟩) (by simp; omega)).trans hcx0)
        obtain ⟨hx0, hx1⟩ := hrk.out e xe hxe
        have hgx : ps.getD e 0 = xe := getD_some hxe
        have hcm := oR.cellV (k := e) (v := .bool (decide (reTo (R : Int) ps xss (e + 1) e))) (by rw [List.getElem?_map, alR_get hen]; rfl)
        have hfm := oR.frz e
        have hw1 : IntKind.i64.wrap ((R : Int) - 1) = (R : Int) - 1 := by rw [IntKind.wrap_i64]; omega
        have k1 : ∀ v, (wr.setCell ⟨w3.heap.size + 1, e, none⟩ v).cell? ⟨w.heap.size, 0, none⟩ = some (.int .i64 (R : Int)) := fun v => (cell_far_set _ _ _ _ (by simp; omega)).trans a0
        have k2 : ∀ v, (wr.setCell ⟨w3.heap.size + 1, e, none⟩ v).cell? ⟨w.heap.size, 1, none⟩ = some (.slice (some ⟨bD, oD, none⟩) n e0) := fun v => (cell_far_set _ _ _ _ (by simp; omega)).trans a1
        have k3 : ∀ v, (wr.setCell ⟨w3.heap.size + 1, e, none⟩ v).cell? ⟨bD, oD + e, none⟩ = some (.int .i64 xe) := fun v => (cell_far_set _ _ _ _ (by simp; omega)).trans hcx
        have hst := reIn_start (r := (R : Int)) (xss := xss) (n := n) (e := e) (b := (xe == (R : Int) - 1)) hp.out hen (by rw [hgx]; rfl)
        have hus := upIn_start (r := (R : Int)) hp.out n e
        replace hgx := Lib.hid hgx
        replace hxe := Lib.hid hxe
        replace hst := Lib.hid hst
        replace hus := Lib.hid hus
        go_wp2_with fail
        go_region_held3 (fun w' => w'.cell? ⟨w.heap.size, 0, none⟩ = some (.int .i64 (R : Int)) ∧ w'.cell? ⟨w.heap.size, 1, none⟩ = some (.slice (some ⟨bD, oD, none⟩) n e0) ∧ w'.cell? ⟨bD, oD + e, none⟩ = some (.int .i64 xe)) (first | go_keep | exact ⟨k1 _, k2 _, k3 _⟩) (fail)
        have hgro := (oR.1.stored e (.bool (xe == (R : Int) - 1))).2
        have oR2 := oR.set (b := w3.heap.size + 1) (k := e) (.bool (xe == (R : Int) - 1))
        rw [← List.map_set, hst.out] at oR2
        have oU2 := own_kept_ty oU oR.1 (by decide) hgro
        have hV2 := hV.keep (same_set wr ⟨w3.heap.size + 1, e, none⟩ (.bool (xe == (R : Int) - 1)) w5.heap.size wr.heap.size (.inl (by simp; omega)))
        have hub2 : (wr.setCell ⟨w3.heap.size + 1, e, none⟩ (.bool (xe == (R : Int) - 1))).heap[w3.heap.size]? = _ := (heap_setCell_other _ _ _ _ (by simp)).trans hub.out
        have hb2 := hb.setCell (p := ⟨w3.heap.size + 1, e, none⟩) (by simp; omega) (.bool (xe == (R : Int) - 1))
        have hz2 : (wr.setCell ⟨w3.heap.size + 1, e, none⟩ (.bool (xe == (R : Int) - 1))).heap.size = wr.heap.size := World.size_setCell _ _ _
        clear k1 k2 k3 hw1 a0 a1 a2 hcx hcm hfm hgro oR oU hV hub hb
        generalize (wr.setCell ⟨w3.heap.size + 1, e, none⟩ (.bool (xe == (R : Int) - 1))) = wm at *
        rw [← hz2] at hV2 hzz
        clear hz2
        rw [hus.out] at hV2
        replace hub2 := Lib.hid hub2
        clear hst hus
        go_wp2_with fail
        go_loopw [8] (fun fv wq => ∃ (f : Nat) (vs2 : List Value), e + 1 ≤ f ∧ f ≤ n ∧ fv = .int .i64 f ∧ Hid (wq.heap[w3.heap.size]? = some (.cells #[.slice (some ⟨w2.heap.size, 0, none⟩) n n] 23 (0, 0))) ∧ wq.ownsRow w2.heap.size 22 1 (.slice (some ⟨w2.heap.size, 0, none⟩) n n) n vs2 ∧ RowsOwn wq w5.heap.size wq.heap.size 2 vs2 (upIn (R : Int) ps xss n e f) ∧
          Own wq (w3.heap.size + 1) (w3.heap.size + 2) 4 (some ⟨w3.heap.size + 1, 0, none⟩) n n ((alR (reIn (R : Int) ps xss e f) n).map Value.bool) ∧ Below w2.heap.size w2 wq ∧ w5.heap.size ≤ wq.heap.size) (fun fv _ => n - (intOf fv).toNat)
        case atStart => exact ⟨e + 1, vs, by omega, by omega, by go_num, hub2, oU2, hV2, oR2, below_drew hb2, hzz⟩
        case round =>
          clear hub2 oU2 hV2 oR2 hb2 hzz
          obtain ⟨f, vs2, hf1, hf2, rfl, hub, oU, hV, oR, hb, hzz⟩ := hrel
          have hP := ((hb.block w.heap.size (by omega)).trans p2.out)
          have a0 : wr.cell? ⟨w.heap.size, 0, none⟩ = some (.int .i64 (R : Int)) := by rw [cell_of_row _ _ _ _ _ _ hP]; rfl
          have a1 : wr.cell? ⟨w.heap.size, 1, none⟩ = some (.slice (some ⟨bD, oD, none⟩) n e0) := by rw [cell_of_row _ _ _ _ _ _ hP]; rfl
          have a2 : wr.cell? ⟨w.heap.size, 2, none⟩ = some (.slice A n c) := by rw [cell_of_row _ _ _ _ _ _ hP]; rfl
          replace hP := Lib.hid hP
          by_cases hfn : f < n
          · obtain ⟨bD', oD', xf, hDe, _, _, hxf, hcf0⟩ := hG.at_ hfn
            injection hDe with hDe
            injection hDe with hDe1 hDe2 _
            subst hDe1; subst hDe2
            have hcf := (hb.cell (p := ⟨bD, oD + f, none⟩) (by simp; omega)).trans ((f2.cell (p := ⟨bD, oD + f, none⟩) (by simp; omega)).trans hcf0)
            have hce := (hb.cell (p := ⟨bD, oD + e, none⟩) (by simp; omega)).trans ((f2.cell (p := ⟨bD, oD + e, none⟩) (by simp; omega)).trans hcx0)
            obtain ⟨hf0, hf9⟩ := hrk.out f xf hxf
            have hgf : ps.getD f 0 = xf := getD_some hxf
            have hcm := oR.cellV (k := f) (v := .bool (decide (Al (R : Int) ps xss f))) (by rw [List.getElem?_map, reIn_get hfn (by omega)]; rfl)
            have hRw : RS wr lo' hi' A n xss := (hR.below f2 (by omega)).below hb (by omega)
            have hbel : ∀ q, Calls Tryd.prog 29 #[.pointer (some ⟨w.heap.size, 0, none⟩), .int .i64 (e : Int), .int .i64 (f : Int)] (wr.drewN q) fun e' w' => e' = .returned (.bool (inBl xss (e : Int) (f : Int))) ∧ wr.drewN q = w' := fun q => isBelow_any w.heap.size A n c xss (e : Int) f (wr.drewN q) a2 hRw hfn (hbig.out f) (hsrt.out f)
            replace hgf := Lib.hid hgf
            replace hxf := Lib.hid hxf
            replace hbel := Lib.hid hbel
            have hinb : inBl xss (e : Int) (f : Int) = decide ((e : Int) ∈ xss.getD f []) := by unfold inBl; rw [Int.toNat_natCast]
            go_upto_region 13 with fail
            go_cut [70] from 48 to 83 (fun s70 wx => s70 = .bool (decide (Up (R : Int) ps xss e f)) ∧ ∃ q, wx = wr.drewN q)
            case first =>
              by_cases h1 : Al (R : Int) ps xss f
              · rw [decide_eq_true h1] at hcm
                have hw2 : IntKind.i64.wrap (xe + 1) = xe + 1 := by rw [IntKind.wrap_i64]; omega
                by_cases h2 : xf = xe + 1
                · have hd : (xf == xe + 1) = true := by simp; omega
                  have hF : decide (Up (R : Int) ps xss e f) = inBl xss (e : Int) (f : Int) := by
                    rw [hinb]
                    exact decide_eq_decide.2 ⟨fun h => h.2.1, fun h => ⟨by rw [hgf.out, hgx.out]; exact h2, h, h1⟩⟩
                  replace hF := Lib.hid hF
                  replace h1 := Lib.hid h1
                  replace h2 := Lib.hid h2
                  replace hinb := Lib.hid hinb
                  go_wp2_with fail
                  go_quiet ((go_at_call 29; exact quiet_left (hbel.out _)))
                  go_wp2_with fail
                  go_meet
                  exact ⟨by rw [hF.out], _, rfl⟩
                · have hd : (xf == xe + 1) = false := by simp; omega
                  have hF : decide (Up (R : Int) ps xss e f) = false := decide_eq_false fun h => h2 (by have := h.1; rw [hgf.out, hgx.out] at this; exact this)
                  replace hF := Lib.hid hF
                  replace h1 := Lib.hid h1
                  replace h2 := Lib.hid h2
                  replace hinb := Lib.hid hinb
                  go_wp2_with fail
                  go_quiet (fail)
                  go_wp2_with fail
                  go_meet
                  exact ⟨by rw [hF.out], _, rfl⟩
              · rw [decide_eq_false h1] at hcm
                have hF : decide (Up (R : Int) ps xss e f) = false := decide_eq_false fun h => h1 h.2.2
                replace hF := Lib.hid hF
                replace h1 := Lib.hid h1
                replace hinb := Lib.hid hinb
                go_wp2_with fail
                go_quiet (fail)
                go_wp2_with fail
                go_meet
                exact ⟨by rw [hF.out], _, rfl⟩
            case rest =>
              obtain ⟨rfl, q, rfl⟩ := hcut
              clear hcf hce hcm hbel hinb
              by_cases hU : Up (R : Int) ps xss e f
              · skip
                have hst := reIn_app hen hU
                have hus := upIn_app hen hU
                rw [decide_eq_true hU]
                have hb3 := below_dn hb q
                obtain ⟨wy, hwy⟩ : ∃ wy : World, wr.drewN q = wy := ⟨_, rfl⟩
                have hzy : wy.heap.size = wr.heap.size := by rw [← hwy]; rfl
                have hub' : wy.heap[w3.heap.size]? = some (.cells #[.slice (some ⟨w2.heap.size, 0, none⟩) n n] 23 (0, 0)) := by rw [← hwy]; exact hub.out
                have oU' : wy.ownsRow w2.heap.size 22 1 (.slice (some ⟨w2.heap.size, 0, none⟩) n n) n vs2 := by rw [← hwy]; exact oU
                have hV' : RowsOwn wy w5.heap.size wy.heap.size 2 vs2 (upIn (R : Int) ps xss n e f) := by rw [hzy, ← hwy]; exact hV
                have oR' : Own wy (w3.heap.size + 1) (w3.heap.size + 2) 4 (some ⟨w3.heap.size + 1, 0, none⟩) n n ((alR (reIn (R : Int) ps xss e f) n).map Value.bool) := by rw [← hwy]; exact oR
                rw [hwy] at hb3 ⊢
                have hzzy : w5.heap.size ≤ wy.heap.size := by omega
                clear hwy hub oU hV oR hb hRw hzz hzy
                obtain ⟨vj, hvj⟩ : ∃ v, vs2[e]? = some v := ⟨_, List.getElem?_eq_getElem (by have := oU'.1; simp at this; omega)⟩
                have hyj := upIn_get (r := (R : Int)) (ps := ps) (xss := xss) (f := f) hen
                obtain ⟨Aj, nj, cj, rfl, hoj⟩ := hV'.2.2 e vj _ hvj hyj
                have hcj : wy.cell? ⟨w2.heap.size, e, none⟩ = some (.slice Aj nj cj) := by rw [oU'.cellAt e (by omega)]; exact hvj
                have hcu : wy.cell? ⟨w3.heap.size, 0, none⟩ = some (.slice (some ⟨w2.heap.size, 0, none⟩) n n) := by rw [cell_of_row _ _ _ _ _ _ hub']; rfl
                have hnj : nj ≤ n := by have h1 := hoj.lenI; have h2 := upL_len (R : Int) ps xss e f; omega
                have ob5 : ∀ z, (Value.slice Aj nj cj).ownBlock = some z → w5.heap.size ≤ z ∧ z < wy.heap.size := fun z hz => ⟨(hoj.1.lt z hz).1, (hoj.1.lt z hz).2⟩
                have hown' : Hid ((wy.alloc (.cells #[.int .i64 (f : Int)] 2)).drew.ownsRow w5.heap.size 2 1 (.slice Aj nj cj) nj ((upL (R : Int) ps xss e f).map (Value.int .i64))) := Lib.hid (hoj.1.alloc _)
                have hnew' : Hid (∀ z v, [Value.int .i64 (f : Int)][z]? = some v → (wy.alloc (.cells #[.int .i64 (f : Int)] 2)).drew.cell? ((⟨wy.heap.size, 0, none⟩ : Addr).add z) = some v) := Lib.hid (cell_one_new wy _ _)
                have hml : Hid (nj + 1 ≤ maxLen) := Lib.hid (by simp only [maxLen]; omega)
                have hbs : Hid (w5.heap.size ≤ (wy.alloc (.cells #[.int .i64 (f : Int)] 2)).drew.heap.size) := Lib.hid (by simp; omega)
                have hsa : (wy.alloc (.cells #[.int .i64 (f : Int)] 2)).drew.heap.size = wy.heap.size + 1 := by simp
                have hOa : Hid ((wy.alloc (.cells #[.int .i64 (f : Int)] 2)).drew.heap[w3.heap.size]? = some (.cells #[.slice (some ⟨w2.heap.size, 0, none⟩) n n] 23 (0, 0))) := Lib.hid ((Below.heap_alloc _ _ _ (by omega)).trans hub')
                have oUa : (wy.alloc (.cells #[.int .i64 (f : Int)] 2)).drew.ownsRow w2.heap.size 22 1 (.slice (some ⟨w2.heap.size, 0, none⟩) n n) n vs2 := oU'.alloc _
                have oRa : Own (wy.alloc (.cells #[.int .i64 (f : Int)] 2)).drew (w3.heap.size + 1) (w3.heap.size + 2) 4 (some ⟨w3.heap.size + 1, 0, none⟩) n n ((alR (reIn (R : Int) ps xss e f) n).map Value.bool) := oR'.keep (same_alloc _ _ _ _ (by omega))
                have hVa : RowsOwn (wy.alloc (.cells #[.int .i64 (f : Int)] 2)).drew w5.heap.size wy.heap.size 2 vs2 (upIn (R : Int) ps xss n e f) := hV'.keep (same_alloc _ _ _ _ (Nat.le_refl _))
                have hba : Below w2.heap.size w2 (wy.alloc (.cells #[.int .i64 (f : Int)] 2)).drew := below_drew (hb3.alloc (by omega) _)
                have ya : (wy.alloc (.cells #[.int .i64 (f : Int)] 2)).cell? ⟨w3.heap.size, 0, none⟩ = some (.slice (some ⟨w2.heap.size, 0, none⟩) n n) := (al_old _ _ _ _ (by omega)).trans hcu
                have yb : (wy.alloc (.cells #[.int .i64 (f : Int)] 2)).cell? ⟨w2.heap.size, e, none⟩ = some (.slice Aj nj cj) := (al_old _ _ _ _ (by omega)).trans hcj
                replace oUa := Lib.hid oUa
                replace oRa := Lib.hid oRa
                replace hVa := Lib.hid hVa
                replace hba := Lib.hid hba
                replace hsa := Lib.hid hsa
                replace hvj := Lib.hid hvj
                replace hyj := Lib.hid hyj
                replace hU := Lib.hid hU
                replace hst := Lib.hid hst
                replace hus := Lib.hid hus
                replace hoj := Lib.hid hoj
                replace hV' := Lib.hid hV'
                replace oU' := Lib.hid oU'
                replace oR' := Lib.hid oR'
                replace hub' := Lib.hid hub'
                go_wp2_with fail
                go_region_law (refine step_append_lies _ (by rfl) (.tmp 76) (.tmp 78) 22 (by rfl) w5.heap.size 2 j0 (.int .i64 0) 1 8 Tryd.underlying22 hj0 hy0 hy1 hy2 rfl (by decide) (.slice Aj nj cj) nj ((upL (R : Int) ps xss e f).map (Value.int .i64)) (by rfl) hown'.out ⟨wy.heap.size, 0, none⟩ 1 1 [.int .i64 (f : Int)] (by rfl) rfl hnew'.out (by simp [Value.oneCell']) (by decide) hml.out (by omega) hbs.out (wy.heap.size + 1) (by simp) ?_; intro g4 c4 w7 ho7 hg7 hor7 hlt7; have hO7 := (hg7.block w3.heap.size (by rw [hsa.out]; omega) (fun e => by have := (ob5 _ e.symm).1; omega)).trans hOa.out; have K5 : w7.cell? ⟨w3.heap.size, 0, none⟩ = some (.slice (some ⟨w2.heap.size, 0, none⟩) n n) := (cell_of_row _ _ _ _ _ _ hO7).trans rfl; have oB7 := own_kept_ty oUa.out hown'.out (by decide) hg7; have K6 : w7.cell? ⟨w2.heap.size, e, none⟩ = some (.slice Aj nj cj) := (oB7.cellAt e (by omega)).trans hvj.out; have F6 : w7.frozen? ⟨w2.heap.size, e, none⟩ = false := oB7.frozenAt e; clear oB7; replace hO7 := Lib.hid hO7)
                all_goals
                  clear hcj hcu K5 K6 F6 hO7 ya yb
                  have hz7 := hg7.size
                  rw [hsa.out] at hz7
                  have hO7 := (hg7.block w3.heap.size (by rw [hsa.out]; omega) (fun e => by have := (ob5 _ e.symm).1; omega)).trans hOa.out
                  have oU7 := own_kept_ty oUa.out hown'.out (by decide) hg7
                  have oR7 := oRa.out.kept_ty hown'.out (by decide) hg7
                  have hV7 := hVa.out.app hvj.out hyj.out (x := (f : Int)) (by rw [List.map_append]; exact ho7) hg7 (by rcases hor7 with h | h; exact .inl h; exact .inr (by omega)) (by omega)
                  have hb7 := hba.out.grown hg7 (by rw [hsa.out]; omega) (fun z hz => by have := (ob5 z hz).1; omega)
                  have hst7 := oU7.stored e (.slice (some ⟨g4, 0, none⟩) (nj + 1) c4)
                  rw [hus.out] at hV7
                  have hO8 : (w7.setCell ⟨w2.heap.size, e, none⟩ (.slice (some ⟨g4, 0, none⟩) (nj + 1) c4)).heap[w3.heap.size]? = some (.cells #[.slice (some ⟨w2.heap.size, 0, none⟩) n n] 23 (0, 0)) := (heap_setCell_other _ _ _ _ (by simp; omega)).trans hO7
                  have oR8 := oR7.kept_ty oU7 (by decide) hst7.2
                  have hV8 := hV7.keep (same_set w7 ⟨w2.heap.size, e, none⟩ (.slice (some ⟨g4, 0, none⟩) (nj + 1) c4) w5.heap.size w7.heap.size (.inl (by simp; omega)))
                  have hb8 := hb7.setCell (p := ⟨w2.heap.size, e, none⟩) (by simp) (.slice (some ⟨g4, 0, none⟩) (nj + 1) c4)
                  have oU8 := hst7.1
                  have hz8 : (w7.setCell ⟨w2.heap.size, e, none⟩ (.slice (some ⟨g4, 0, none⟩) (nj + 1) c4)).heap.size = w7.heap.size := World.size_setCell _ _ _
                  rw [← hz8] at hV8 hz7
                  clear hz8
                  generalize (w7.setCell ⟨w2.heap.size, e, none⟩ (.slice (some ⟨g4, 0, none⟩) (nj + 1) c4)) = w8 at *
                  generalize vs2.set e (.slice (some ⟨g4, 0, none⟩) (nj + 1) c4) = vs3 at *
                  clear hO7 oU7 oR7 hV7 hb7 hst7 ho7 hg7 hor7 hlt7 hV' oU' oR' hVa oUa oRa hba hOa hown' hnew' hub' hb3 hsa hvj hyj hoj hbs
                  have hcm8 := oR8.cellV (k := e) (v := .bool (decide (reIn (R : Int) ps xss e f e))) (by rw [List.getElem?_map, alR_get hen]; rfl)
                  have hfm8 := oR8.frz e
                  have hgro := (oR8.1.stored e (.bool true)).2
                  have oR9 := oR8.set (b := w3.heap.size + 1) (k := e) (.bool true)
                  rw [← List.map_set, hst.out] at oR9
                  have oU9 := own_kept_ty oU8 oR8.1 (by decide) hgro
                  have hV9 := hV8.keep (same_set w8 ⟨w3.heap.size + 1, e, none⟩ (.bool true) w5.heap.size w8.heap.size (.inl (by simp; omega)))
                  have hO9 : (w8.setCell ⟨w3.heap.size + 1, e, none⟩ (.bool true)).heap[w3.heap.size]? = some (.cells #[.slice (some ⟨w2.heap.size, 0, none⟩) n n] 23 (0, 0)) := (heap_setCell_other _ _ _ _ (by simp)).trans hO8
                  have hb9 := hb8.setCell (p := ⟨w3.heap.size + 1, e, none⟩) (by simp; omega) (.bool true)
                  have hz9 : (w8.setCell ⟨w3.heap.size + 1, e, none⟩ (.bool true)).heap.size = w8.heap.size := World.size_setCell _ _ _
                  rw [← hz9] at hV9 hz7
                  replace hO9 := Lib.hid hO9
                  clear oR8 oU8 hV8 hO8 hb8 hgro
                  go_wp2_with fail
                  go_roundw
                  case measure => simp [intOf]; omega
                  case rel => exact ⟨f + 1, vs3, by omega, by omega, by go_num, hO9, oU9, hV9, oR9, hb9, by omega⟩
              · have hst := reIn_pass (n := n) hU
                have hus := upIn_pass (n := n) hU
                rw [hst] at oR
                rw [hus] at hV
                rw [decide_eq_false hU]
                replace hU := Lib.hid hU
                clear hst hus
                have hb3 := below_dn hb q
                go_wp2_with fail
                go_roundw
                case measure => simp [intOf]; omega
                case rel => exact ⟨f + 1, vs2, by omega, by omega, by go_num, hub, oU, hV, oR, hb3, hzz⟩
          · have hfn' : f = n := by omega
            subst hfn'
            rw [reIn_end hl.out hen] at oR
            rw [upIn_end] at hV
            go_wp2_with fail
            go_roundw
            case measure => first | (simp [intOf]; done) | (simp [intOf]; omega)
            case rel => exact ⟨e, _, vs2, by omega, Lib.hid rfl, rfl, by omega, by omega, hub, oU, hV, oR, hb, hzz⟩
      · have hF0 : F = 0 := by have := hv.out; omega
        subst hF0
        have hd0 : decide (v ≥ 0) = false := by simp; omega
        have e1 : alR (reTo (R : Int) ps xss 0) n = alR (Al (R : Int) ps xss) n := alR_congr fun j hj => ⟨fun h => h.2, fun h => ⟨by omega, h⟩⟩
        have e2 : upTo (R : Int) ps xss n 0 = (List.range n).map fun f => upL (R : Int) ps xss f n := List.map_congr_left fun f _ => if_pos (by omega)
        rw [e1] at oR
        rw [e2] at hV
        clear e1 e2
        go_wp2_with fail
        obtain ⟨wo, rfl⟩ : ∃ wo : World, wo = wr := ⟨_, rfl⟩
        have G0 : ((wo.alloc (.cells #[.slice none 0 0] 23)).alloc (.cells #[(.func (.func 30) #[] #[.pointer (some ⟨wo.heap.size, 0, none⟩), .pointer (some ⟨w.heap.size, 0, none⟩), .pointer (some ⟨wo.heap.size + 1, 0, none⟩), .pointer (some ⟨w3.heap.size, 0, none⟩)])] 53)).heap[wo.heap.size]? = some (.cells #[.slice none 0 0] 23 (0, 0)) := (Below.heap_alloc _ _ _ (by simp)).trans (heap_new _ _ _ rfl)
        have Q0 : ((wo.alloc (.cells #[.slice none 0 0] 23)).alloc (.cells #[(.func (.func 30) #[] #[.pointer (some ⟨wo.heap.size, 0, none⟩), .pointer (some ⟨w.heap.size, 0, none⟩), .pointer (some ⟨wo.heap.size + 1, 0, none⟩), .pointer (some ⟨w3.heap.size, 0, none⟩)])] 53)).cell? ⟨wo.heap.size + 1, 0, none⟩ = some (.func (.func 30) #[] #[.pointer (some ⟨wo.heap.size, 0, none⟩), .pointer (some ⟨w.heap.size, 0, none⟩), .pointer (some ⟨wo.heap.size + 1, 0, none⟩), .pointer (some ⟨w3.heap.size, 0, none⟩)]) := al_new _ _ _ _ (by simp)
        have hb7 : Below wo.heap.size wo ((wo.alloc (.cells #[.slice none 0 0] 23)).alloc (.cells #[(.func (.func 30) #[] #[.pointer (some ⟨wo.heap.size, 0, none⟩), .pointer (some ⟨w.heap.size, 0, none⟩), .pointer (some ⟨wo.heap.size + 1, 0, none⟩), .pointer (some ⟨w3.heap.size, 0, none⟩)])] 53)) := ((Below.refl _ _).alloc (Nat.le_refl _) _).alloc (by simp) _
        have hs7 : ((wo.alloc (.cells #[.slice none 0 0] 23)).alloc (.cells #[(.func (.func 30) #[] #[.pointer (some ⟨wo.heap.size, 0, none⟩), .pointer (some ⟨w.heap.size, 0, none⟩), .pointer (some ⟨wo.heap.size + 1, 0, none⟩), .pointer (some ⟨w3.heap.size, 0, none⟩)])] 53)).heap.size = wo.heap.size + 2 := by simp
        obtain ⟨W7, hW7⟩ : ∃ W7 : World, ((wo.alloc (.cells #[.slice none 0 0] 23)).alloc (.cells #[(.func (.func 30) #[] #[.pointer (some ⟨wo.heap.size, 0, none⟩), .pointer (some ⟨w.heap.size, 0, none⟩), .pointer (some ⟨wo.heap.size + 1, 0, none⟩), .pointer (some ⟨w3.heap.size, 0, none⟩)])] 53)) = W7 := ⟨_, rfl⟩
        rw [hW7] at G0 Q0 hb7 hs7 ⊢
        clear hW7
        have U7 := (hb7.block w3.heap.size (by omega)).trans hub.out
        have oU7 : Own W7 w2.heap.size wo.heap.size 22 (some ⟨w2.heap.size, 0, none⟩) n n vs := (Own.of_row oU).below hb7 (Nat.le_refl _)
        have hV7 := hV.keep (Same.of_below hb7 (Nat.le_refl _))
        have oR7 := oR.below hb7 (by omega)
        have hP7 := ((hb.block w.heap.size (by omega)).trans p2.out)
        have hP7 := (hb7.block w.heap.size (by omega)).trans hP7
        have hb27 : Below w2.heap.size w2 W7 := hb.trans (hb7.mono (by omega))
        have hRS : RS W7 w2.heap.size wo.heap.size (some ⟨w2.heap.size, 0, none⟩) n ((List.range n).map fun f => upL (R : Int) ps xss f n) := ⟨vs, oU7.rd, hV7.at.more (by omega) (Nat.le_refl _)⟩
        replace G0 := Lib.hid G0
        replace U7 := Lib.hid U7
        replace hP7 := Lib.hid hP7
        replace Q0 := Lib.hid Q0
        clear oU7 hV7 oU hV oR hub hb a0 a1 a2
        go_loopw [11, 86] (fun lv kv wq => ∃ (i : Nat) (A2 : Option Addr) (n2 c2 : Nat), i ≤ n ∧ n2 ≤ i ∧ lv = .slice A2 n2 c2 ∧ kv = .int .i64 i ∧ Own wq W7.heap.size wq.heap.size 2 A2 n2 c2 ((firstL (R : Int) ps xss i).map (Value.int .i64)) ∧ Below W7.heap.size W7 wq) (fun _ kv _ => n - (intOf kv).toNat)
        case atStart => exact ⟨0, none, 0, 0, by omega, by omega, rfl, rfl, by simpa [firstL] using Own.nil, Below.refl _ _⟩
        case round =>
          obtain ⟨i, A2, n2, c2, hin, hn2, rfl, rfl, o2, b2⟩ := hrel
          have z2 := b2.size
          have hP := (b2.block w.heap.size (by omega)).trans hP7.out
          have a0 : wr.cell? ⟨w.heap.size, 0, none⟩ = some (.int .i64 (R : Int)) := by rw [cell_of_row _ _ _ _ _ _ hP]; rfl
          have a1 : wr.cell? ⟨w.heap.size, 1, none⟩ = some (.slice D n e0) := by rw [cell_of_row _ _ _ _ _ _ hP]; rfl
          replace hP := Lib.hid hP
          by_cases hlt : i < n
          · obtain ⟨bD, oD, xi, hDe, _, _, hxi, hcx0⟩ := hG.at_ hlt
            subst hDe
            have hcx := (b2.cell (p := ⟨bD, oD + i, none⟩) (by simp; omega)).trans ((hb27.cell (p := ⟨bD, oD + i, none⟩) (by simp; omega)).trans ((f2.cell (p := ⟨bD, oD + i, none⟩) (by simp; omega)).trans hcx0))
            have hgx : ps.getD i 0 = xi := getD_some hxi
            have hcm := (oR7.below b2 (by omega)).cellV (k := i) (v := .bool (decide (Al (R : Int) ps xss i))) (by rw [List.getElem?_map, alR_get hlt]; rfl)
            have hst := firstL_succ (R : Int) ps xss i
            rw [hgx] at hst
            replace hxi := Lib.hid hxi
            replace hgx := Lib.hid hgx
            by_cases h1 : xi = 0
            · by_cases h2 : Al (R : Int) ps xss i
              · rw [if_pos ⟨h1, h2⟩] at hst
                rw [decide_eq_true h2] at hcm
                have hd : (xi == 0) = true := by simp; omega
                replace hst := Lib.hid hst
                replace h1 := Lib.hid h1
                replace h2 := Lib.hid h2
                go_wp2_with (at_builtin; refine wpList_append1 wr rfl (.tmp 101) (.tmp 103) 22 rfl W7.heap.size 2 j0 (.int .i64 0) 8 Tryd.underlying22 hj0 hy0 hy1 hy2 rfl (by omega) A2 n2 c2 _ (.int .i64 (i : Int)) rfl o2.1 _ rfl rfl rfl (by omega) z2 ?_)
                intro g8 c8 w8 ho8 hg8 hlo8 hlt8 hor8
                have b8 := b2.grown hg8 z2 (fun q hq => (o2.1.lt q hq).1)
                have o8 := Own.of_row ho8
                clear o2 hg8 ho8 b2 hcm hcx a0 a1
                go_wp2_with fail
                go_roundw
                case measure => simp [intOf]; omega
                case rel => exact ⟨i + 1, _, n2 + 1, c8, by omega, by omega, rfl, by go_num, by rw [hst.out, List.map_append]; exact o8.more (by omega) (Nat.le_refl _), b8⟩
              · rw [if_neg (fun h => h2 h.2), List.append_nil] at hst
                rw [← hst] at o2
                rw [decide_eq_false h2] at hcm
                have hd : (xi == 0) = true := by simp; omega
                replace hst := Lib.hid hst
                replace h1 := Lib.hid h1
                replace h2 := Lib.hid h2
                go_wp2_with fail
                go_roundw
                case measure => simp [intOf]; omega
                case rel => exact ⟨i + 1, _, n2, c2, by omega, by omega, rfl, by go_num, o2, b2⟩
            · rw [if_neg (fun h => h1 h.1), List.append_nil] at hst
              rw [← hst] at o2
              have hd : (xi == 0) = false := by simp; omega
              replace hst := Lib.hid hst
              replace h1 := Lib.hid h1
              go_wp2_with fail
              go_roundw
              case measure => simp [intOf]; omega
              case rel => exact ⟨i + 1, _, n2, c2, by omega, by omega, rfl, by go_num, o2, b2⟩
          · have hin' : i = n := by omega
            subst hin'
            have Q1 := (b2.cell (p := ⟨wo.heap.size + 1, 0, none⟩) (by simp; omega)).trans Q0.out
            have G1 := (b2.block wo.heap.size (by omega)).trans G0.out
            have U1 : wr.cell? ⟨w3.heap.size, 0, none⟩ = some (.slice (some ⟨w2.heap.size, 0, none⟩) i i) := by rw [cell_of_row _ _ _ _ _ _ ((b2.block w3.heap.size (by omega)).trans U7.out)]; rfl
            have hcall := grow_any R i ps xss wo.heap.size w.heap.size (wo.heap.size + 1) w3.heap.size (some ⟨w2.heap.size, 0, none⟩) i hp.out hl.out (by omega) (by omega) (by omega) (.inr (Nat.le_refl _)) (R - 1) wr wr.heap.size none 0 0 [] A2 n2 c2 (firstL (R : Int) ps xss i) none 0 0 [] 0 0 W7.heap.size wr.heap.size G1 a0 Q1 U1 (hRS.below b2 (by omega)) (by omega) (by omega) (by omega) (by omega) (by omega) (Nat.le_refl _) RI.nil (by omega) (.inr (by omega)) (fun z hz => by simp [Value.ownBlock] at hz) o2.ri (Nat.le_refl _) (.inl (by omega)) (fun z hz => by simp [Value.ownBlock] at hz) ⟨by simp, by simp⟩ (by simp; omega) (fun x hx => by unfold nxL; simpa using hx) (by omega) ⟨[], Own.nil, RowsOwn.nil⟩ (by simp)
            have heq : cut4 ([] ++ growT (R : Int) ps xss (R - 1) [] (firstL (R : Int) ps xss i)) = allFl (R : Int) ps xss := by
              unfold allFl
              obtain ⟨R', rfl⟩ : ∃ R' : Nat, R = R' + 1 := ⟨R - 1, by omega⟩
              rw [Int.toNat_natCast, growF_eq, hl.out]
              rfl
            rw [heq] at hcall
            replace heq := Lib.hid heq
            replace Q1 := Lib.hid Q1
            have Q2 := Q1.out
            clear Q1 Q0 hRS
            go_wp2_with fail
            ((with_reducible refine hcall.mono ?_); rintro e' w8 ⟨rfl, L8, n8, c8, h8, l8, gr8⟩)
            have G8 : w8.cell? ⟨wo.heap.size, 0, none⟩ = some (.slice L8 n8 c8) := by rw [cell_of_row _ _ _ _ _ _ h8]; rfl
            have hn8 := l8.len
            have hB8 : Below w.heap.size w w8 := by
              have hwr : Below w.heap.size w wr := hB.trans ((f2.mono (by omega)).trans ((hb27.mono (by omega)).trans (b2.mono (by omega))))
              exact hwr.trans ⟨gr8.os, gr8.tape, gr8.output, gr8.size, fun z hz => gr8.block z (by omega) (by omega) (by simp [Value.ownBlock])⟩
            obtain ⟨vs8, hH8, hR8⟩ := l8
            have hOS : OwnS w8 w.heap.size w8.heap.size 22 2 L8 n8 c8 (allFl (R : Int) ps xss) := ⟨vs8, hH8.more (by omega) (Nat.le_refl _), hR8.more (by omega) (Nat.le_refl _)⟩
            replace h8 := Lib.hid h8
            replace hn8 := Lib.hid hn8
            clear hH8 hR8 gr8 hcall
            by_cases h4 : 400 < n8
            · have hF' : Hid ((([] : List (List Int)), (3 : Int)) = flagF (R : Int) ps xss) := Lib.hid (by rw [hF.out, if_pos (by rw [hn8.out]; exact h4)])
              have hd : decide ((n8 : Int) > 400) = true := by simp; omega
              go_wp2_with fail
              go_ret2
              exact ⟨_, 0, _, [], _, rfl, hF', OwnS.nil, by simp [numsIn], hB8⟩
            · have hF' : Hid ((allFl (R : Int) ps xss, (0 : Int)) = flagF (R : Int) ps xss) := Lib.hid (by rw [hF.out, if_neg (by rw [hn8.out]; exact h4)])
              have hd : decide ((n8 : Int) > 400) = false := by simp; omega
              have hnm : n8 + numsIn (allFl (R : Int) ps xss) ≤ 1048576 := by have := hnum.out; rw [hn8.out] at this; exact this
              go_wp2_with fail
              go_ret2
              exact ⟨L8, n8, c8, _, _, rfl, hF', hOS, hnm, hB8⟩
end Go.Proofs.YtebdfhkimnlglaaDoor
/- PosS -/
namespace Go.Proofs.YtebdfhkimnlglaaDoor
open Go.RowKit
set_option linter.unusedVariables false
set_option maxRecDepth 100000
set_option maxHeartbeats 8000000 in
theorem l03Is_any (r : Int) (hr : -9223372036854775808 ≤ r ∧ r ≤ 9223372036854775807) (A : Option Addr) (n c : Nat) (ps : List Int) (A1 : Option Addr) (n1 c1 : Nat) (xss : List (List Int)) (w : World) {lo hi lo1 hi1 : Nat} (h : RI w lo hi A n ps) (hhi : hi ≤ w.heap.size) (h1 : RS w lo1 hi1 A1 n1 xss) (hhi1 : hi1 ≤ w.heap.size) :
    Calls Tryd.prog 23 #[.agg #[.int .i64 r, .slice A n c, .slice A1 n1 c1]] w fun e w' => e = .returned (.bool (isPosB r ps xss)) ∧ Below w.heap.size w w' := by
  have hm := h.max
  have hm1 := h1.max
  have hl := h.len
  have hl1 := h1.len
  obtain ⟨hr0, hr1⟩ := hr
  have hR : RI (w.alloc (.cells #[.int .i64 r, .slice A n c, .slice A1 n1 c1] 29)) lo hi A n ps := h.keep (same_alloc w _ _ _ hhi)
  have hR1 : RS (w.alloc (.cells #[.int .i64 r, .slice A n c, .slice A1 n1 c1] 29)) lo1 hi1 A1 n1 xss := rs_alloc h1 hhi1 _
  have hC0 : (w.alloc (.cells #[.int .i64 r, .slice A n c, .slice A1 n1 c1] 29)).cell? ⟨w.heap.size, 0, none⟩ = some (.int .i64 r) := by simp
  have hC1 : (w.alloc (.cells #[.int .i64 r, .slice A n c, .slice A1 n1 c1] 29)).cell? ⟨w.heap.size, 1, none⟩ = some (.slice A n c) := by simp
  have hC2 : (w.alloc (.cells #[.int .i64 r, .slice A n c, .slice A1 n1 c1] 29)).cell? ⟨w.heap.size, 2, none⟩ = some (.slice A1 n1 c1) := by simp
  have hB : Below w.heap.size w (w.alloc (.cells #[.int .i64 r, .slice A n c, .slice A1 n1 c1] 29)) := (Below.refl _ _).alloc (Nat.le_refl _) _
  cases g1 : (decide ((1 : Int) ≤ r) && decide (r ≤ 5)) with
  | false =>
    have hF : isPosB r ps xss = false := isPosB_not (fun hp => by have a := hp.r1; have b := hp.r5; simp at g1; omega)
    replace hF := Lib.hid hF
    replace hl := Lib.hid hl
    replace hl1 := Lib.hid hl1
    replace g1 := Lib.hid g1
    go_enter Tryd.func23, Tryd.ntmps23
    go_wp2_with fail
    obtain ⟨W1, hW⟩ : ∃ W1 : World, w.alloc (.cells #[.int .i64 r, .slice A n c, .slice A1 n1 c1] 29) = W1 := ⟨_, rfl⟩
    have hz1 : W1.heap.size = w.heap.size + 1 := by rw [← hW]; simp
    rw [hW] at hR hR1 hC0 hC1 hC2 hB ⊢
    clear hW h h1
    ((with_reducible refine (in_any _ _ _ _).mono ?_); rintro e w' ⟨rfl, rfl⟩)
    rw [g1.out]
    go_wp2_with fail
    go_ret
    exact ⟨ret_bool hF.out.symm, hB⟩
  | true =>
    cases g2 : decide (n ≤ 500) with
    | false =>
      have hF : isPosB r ps xss = false := isPosB_not (fun hp => by have a := hp.n5; simp at g2; omega)
      have k2 : decide ((n : Int) > 500) = true := by simp at g2; simp; omega
      replace hF := Lib.hid hF
      replace hl := Lib.hid hl
      replace hl1 := Lib.hid hl1
      replace g1 := Lib.hid g1
      replace g2 := Lib.hid g2
      go_enter Tryd.func23, Tryd.ntmps23
      go_wp2_with fail
      obtain ⟨W1, hW⟩ : ∃ W1 : World, w.alloc (.cells #[.int .i64 r, .slice A n c, .slice A1 n1 c1] 29) = W1 := ⟨_, rfl⟩
      have hz1 : W1.heap.size = w.heap.size + 1 := by rw [← hW]; simp
      rw [hW] at hR hR1 hC0 hC1 hC2 hB ⊢
      clear hW h h1
      ((with_reducible refine (in_any _ _ _ _).mono ?_); rintro e w' ⟨rfl, rfl⟩)
      rw [g1.out]
      go_wp2_with fail
      go_ret
      exact ⟨ret_bool hF.out.symm, hB⟩
    | true =>
      cases g3 : decide (n1 = n) with
      | false =>
        have hF : isPosB r ps xss = false := isPosB_not (fun hp => by have a := hp.len; simp at g3; omega)
        have k2 : decide ((n : Int) > 500) = false := by simp at g2; simp; omega
        have k3 : ((n1 : Int) != (n : Int)) = true := by simp at g3; simp; omega
        replace hF := Lib.hid hF
        replace hl := Lib.hid hl
        replace hl1 := Lib.hid hl1
        replace g1 := Lib.hid g1
        replace g2 := Lib.hid g2
        replace g3 := Lib.hid g3
        go_enter Tryd.func23, Tryd.ntmps23
        go_wp2_with fail
        obtain ⟨W1, hW⟩ : ∃ W1 : World, w.alloc (.cells #[.int .i64 r, .slice A n c, .slice A1 n1 c1] 29) = W1 := ⟨_, rfl⟩
        have hz1 : W1.heap.size = w.heap.size + 1 := by rw [← hW]; simp
        rw [hW] at hR hR1 hC0 hC1 hC2 hB ⊢
        clear hW h h1
        ((with_reducible refine (in_any _ _ _ _).mono ?_); rintro e w' ⟨rfl, rfl⟩)
        rw [g1.out]
        go_wp2_with fail
        go_ret
        exact ⟨ret_bool hF.out.symm, hB⟩
      | true =>
        have hr15 : 1 ≤ r ∧ r ≤ 5 := by simpa using g1
        have hn5 : n ≤ 500 := by simpa using g2
        have hnn : n = n1 := by simp at g3; omega
        have k2 : decide ((n : Int) > 500) = false := by simp at g2; simp; omega
        have k3 : ((n1 : Int) != (n : Int)) = false := by simp at g3; simp; omega
        subst hnn
        have hwr : IntKind.i64.wrap (r - 1) = r - 1 := by rw [IntKind.wrap_i64]; omega
        replace hl := Lib.hid hl
        replace hl1 := Lib.hid hl1
        replace g1 := Lib.hid g1
        replace g2 := Lib.hid g2
        replace g3 := Lib.hid g3
        go_enter Tryd.func23, Tryd.ntmps23
        go_wp2_with fail
        obtain ⟨W1, hW⟩ : ∃ W1 : World, w.alloc (.cells #[.int .i64 r, .slice A n c, .slice A1 n c1] 29) = W1 := ⟨_, rfl⟩
        have hz1 : W1.heap.size = w.heap.size + 1 := by rw [← hW]; simp
        rw [hW] at hR hR1 hC0 hC1 hC2 hB ⊢
        clear hW h h1
        ((with_reducible refine (in_any _ _ _ _).mono ?_); rintro e w' ⟨rfl, rfl⟩)
        rw [g1.out]
        go_wp2_with fail
        clear k2 k3 hwr
        go_loopw [3] (fun kv wq => ∃ e : Nat, e ≤ n ∧ kv = .int .i64 e ∧ Hid (∀ e2 : Nat, e2 < e → SRow r ps xss e2) ∧ Below W1.heap.size W1 wq) (fun kv _ => n - (intOf kv).toNat)
        case atStart => exact ⟨0, by omega, rfl, Lib.hid (fun e2 h2 => by omega), Below.refl _ _⟩
        case round =>
          obtain ⟨e, he, rfl, hrows, hb⟩ := hrel
          have hbz := hb.size
          have c0 := (hb.cell (p := ⟨w.heap.size, 0, none⟩) (by simp; omega)).trans hC0
          have c1 := (hb.cell (p := ⟨w.heap.size, 1, none⟩) (by simp; omega)).trans hC1
          have c2 := (hb.cell (p := ⟨w.heap.size, 2, none⟩) (by simp; omega)).trans hC2
          by_cases hlt : e < n
          · obtain ⟨bp, op, pe, rfl, _, _, hpe, hcpe0⟩ := hR.at_ hlt
            have hcpe := (hb.cell (p := ⟨bp, op + e, none⟩) (by simp; omega)).trans hcpe0
            obtain ⟨b, o, Ak, nk, ck, B, rfl, _, _, hBe, hcB0, hrB⟩ := hR1.at_ hlt
            have hcB := (hb.cell (p := ⟨b, o + e, none⟩) (by simp; omega)).trans hcB0
            have hge : ps.getD e 0 = pe := getD_some hpe
            have hpl := hl.out
            have hBl := hrB.len
            have hBm := hrB.max
            cases hin : (decide ((0 : Int) ≤ pe) && decide (pe ≤ r - 1)) with
            | false =>
              have hF : isPosB r ps xss = false := isPosB_not (fun hp => by have a := hp.rk pe (mem_of_get? hpe); simp at hin; omega)
              have hwr : IntKind.i64.wrap (r - 1) = r - 1 := by rw [IntKind.wrap_i64]; omega
              replace hF := Lib.hid hF
              replace hpe := Lib.hid hpe
              replace hge := Lib.hid hge
              replace hpl := Lib.hid hpl
              replace hBe := Lib.hid hBe
              replace hBl := Lib.hid hBl
              go_wp2_with fail
              go_quiet (((go_at_call 36; exact quiet_left (hin ▸ in_any _ _ _ _))))
              go_wp2_with fail
              go_ret
              exact ⟨ret_bool hF.out.symm, hB.trans ((below_dn hb _).mono (by omega))⟩
            | true =>
              have hpr : 0 ≤ pe ∧ pe ≤ r - 1 := by simpa using hin
              cases e with
              | zero =>
                rw [Nat.add_zero] at hcpe hcB
                have hA : 0 ≤ ps.getD 0 0 ∧ ps.getD 0 0 ≤ r - 1 ∧ (0 < 0 → ps.getD (0 - 1) 0 ≤ ps.getD 0 0) := ⟨by rw [hge]; omega, by rw [hge]; omega, fun h0 => by omega⟩
                have hwr : IntKind.i64.wrap (r - 1) = r - 1 := by rw [IntKind.wrap_i64]; omega
                replace hA := Lib.hid hA
                replace hpl := Lib.hid hpl
                replace hpe := Lib.hid hpe
                replace hge := Lib.hid hge
                replace hBe := Lib.hid hBe
                replace hBl := Lib.hid hBl
                go_wp2_with fail
                go_quiet (((go_at_call 36; exact quiet_left (hin ▸ in_any _ _ _ _))))
                go_wp2_with fail
                clear hwr hcB hcpe c0 c1 c2
                go_loopw [4] (fun kv wq => ∃ k : Nat, k ≤ nk ∧ kv = .int .i64 k ∧ Hid (∀ k2 : Nat, k2 < k → ∀ f : Int, B[k2]? = some f → BelK ps 0 B k2 f ∧ ∀ C, xss[f.toNat]? = some C → ∀ g ∈ C, g ∈ B) ∧ Below W1.heap.size W1 wq) (fun kv _ => nk - (intOf kv).toNat)
                case atStart => exact ⟨0, by omega, rfl, Lib.hid (fun k2 h2 => by omega), below_dn hb _⟩
                case round =>
                  obtain ⟨k, hk, rfl, hrow, hb2⟩ := hrel
                  have hbz2 := hb2.size
                  have c0 := (hb2.cell (p := ⟨w.heap.size, 0, none⟩) (by simp; omega)).trans hC0
                  have c1 := (hb2.cell (p := ⟨w.heap.size, 1, none⟩) (by simp; omega)).trans hC1
                  have c2 := (hb2.cell (p := ⟨w.heap.size, 2, none⟩) (by simp; omega)).trans hC2
                  have hcB := (hb2.cell (p := ⟨b, o + 0, none⟩) (by simp; omega)).trans hcB0
                  have hcpe := (hb2.cell (p := ⟨bp, op + 0, none⟩) (by simp; omega)).trans hcpe0
                  rw [Nat.add_zero] at hcpe hcB
                  by_cases hkn : k < nk
                  · obtain ⟨bb, oo, f, rfl, _, _, hf, hcf0⟩ := hrB.at_ hkn
                    have hcf := (hb2.cell (p := ⟨bb, oo + k, none⟩) (by simp; omega)).trans hcf0
                    cases hin2 : (decide ((0 : Int) ≤ f) && decide (f ≤ -1)) with
                    | false =>
                      have hF : isPosB r ps xss = false := isPosB_not (fun hp => by have q0 := hp.bel 0 B hBe.out k f hf; have q1 := bel_lt hp.srt q0; have q2 := q0.1; simp at hin2; omega)
                      replace hF := Lib.hid hF
                      replace hf := Lib.hid hf
                      go_wp2_with fail
                      go_quiet (((go_at_call 36; exact quiet_left (hin2 ▸ in_any _ _ _ _))))
                      go_wp2_with fail
                      go_ret
                      exact ⟨ret_bool hF.out.symm, hB.trans ((below_dn hb2 _).mono (by omega))⟩
                    | true =>
                      exfalso
                      simp at hin2
                      omega
                  · have hkk : k = nk := by omega
                    subst hkk
                    have hrows2 : ∀ e2 : Nat, e2 < 0 + 1 → SRow r ps xss e2 := fun e2 h2 => by
                      by_cases ek : e2 = 0
                      · subst ek
                        refine ⟨hA.out.1, hA.out.2.1, hA.out.2.2, fun B2 hB2 k2 f2 hf2 => ?_⟩
                        have eB := Option.some.inj (hBe.out.symm.trans hB2)
                        subst eB
                        exact hrow.out k2 (by have := (List.getElem?_eq_some_iff.1 hf2).1; have := hBl.out; omega) f2 hf2
                      · exact hrows.out e2 (by omega)
                    replace hrows2 := Lib.hid hrows2
                    go_wp2_with fail
                    go_roundw
                    case measure => simp [intOf]; omega
                    case rel => exact ⟨0 + 1, by omega, by go_num, hrows2, hb2⟩
              | succ q =>
                obtain ⟨bq, oq, pq, e5, _, _, hpq, hcpq0⟩ := hR.at_ (k := q) (by omega)
                injection e5 with e5
                injection e5 with e6 e7 _
                subst e6; subst e7
                have hcpq := (hb.cell (p := ⟨bp, op + q, none⟩) (by simp; omega)).trans hcpq0
                have hgq : ps.getD q 0 = pq := getD_some hpq
                have hd0 : decide ((q : Int) + 1 > 0) = true := by first | (simp; done) | (simp; omega)
                cases hlt2 : decide (pe < pq) with
                | true =>
                  have hF : isPosB r ps xss = false := isPosB_not (fun hp => by have a := hp.srt q (by omega); rw [hgq, hge] at a; simp at hlt2; omega)
                  have hwr : IntKind.i64.wrap (r - 1) = r - 1 := by rw [IntKind.wrap_i64]; omega
                  have hwq : IntKind.i64.wrap (q : Int) = (q : Int) := by rw [IntKind.wrap_i64]; omega
                  replace hF := Lib.hid hF
                  replace hpe := Lib.hid hpe
                  replace hge := Lib.hid hge
                  replace hpq := Lib.hid hpq
                  replace hgq := Lib.hid hgq
                  replace hpl := Lib.hid hpl
                  replace hBe := Lib.hid hBe
                  replace hBl := Lib.hid hBl
                  go_wp2_with fail
                  go_quiet (((go_at_call 36; exact quiet_left (hin ▸ in_any _ _ _ _))))
                  go_wp2_with fail
                  go_ret
                  exact ⟨ret_bool hF.out.symm, hB.trans ((below_dn hb _).mono (by omega))⟩
                | false =>
                  have hpqe : pq ≤ pe := by simpa using hlt2
                  have hA : 0 ≤ ps.getD (q + 1) 0 ∧ ps.getD (q + 1) 0 ≤ r - 1 ∧ (0 < (q + 1) → ps.getD ((q + 1) - 1) 0 ≤ ps.getD (q + 1) 0) := ⟨by rw [hge]; omega, by rw [hge]; omega, fun h0 => by rw [Nat.add_sub_cancel, hge, hgq]; omega⟩
                  have hwr : IntKind.i64.wrap (r - 1) = r - 1 := by rw [IntKind.wrap_i64]; omega
                  have hwq : IntKind.i64.wrap (q : Int) = (q : Int) := by rw [IntKind.wrap_i64]; omega
                  replace hA := Lib.hid hA
                  replace hpl := Lib.hid hpl
                  replace hgq := Lib.hid hgq
                  replace hpq := Lib.hid hpq
                  replace hpe := Lib.hid hpe
                  replace hge := Lib.hid hge
                  replace hBe := Lib.hid hBe
                  replace hBl := Lib.hid hBl
                  go_wp2_with fail
                  go_quiet (((go_at_call 36; exact quiet_left (hin ▸ in_any _ _ _ _))))
                  go_wp2_with fail
                  clear hwr hwq hcB hcpe c0 c1 c2 hcpq
                  go_loopw [4] (fun kv wq => ∃ k : Nat, k ≤ nk ∧ kv = .int .i64 k ∧ Hid (∀ k2 : Nat, k2 < k → ∀ f : Int, B[k2]? = some f → BelK ps (q + 1) B k2 f ∧ ∀ C, xss[f.toNat]? = some C → ∀ g ∈ C, g ∈ B) ∧ Below W1.heap.size W1 wq) (fun kv _ => nk - (intOf kv).toNat)
                  case atStart => exact ⟨0, by omega, rfl, Lib.hid (fun k2 h2 => by omega), below_dn hb _⟩
                  case round =>
                    obtain ⟨k, hk, rfl, hrow, hb2⟩ := hrel
                    have hbz2 := hb2.size
                    have c0 := (hb2.cell (p := ⟨w.heap.size, 0, none⟩) (by simp; omega)).trans hC0
                    have c1 := (hb2.cell (p := ⟨w.heap.size, 1, none⟩) (by simp; omega)).trans hC1
                    have c2 := (hb2.cell (p := ⟨w.heap.size, 2, none⟩) (by simp; omega)).trans hC2
                    have hcB := (hb2.cell (p := ⟨b, o + (q + 1), none⟩) (by simp; omega)).trans hcB0
                    have hcpe := (hb2.cell (p := ⟨bp, op + (q + 1), none⟩) (by simp; omega)).trans hcpe0
                    by_cases hkn : k < nk
                    · obtain ⟨bb, oo, f, rfl, _, _, hf, hcf0⟩ := hrB.at_ hkn
                      have hcf := (hb2.cell (p := ⟨bb, oo + k, none⟩) (by simp; omega)).trans hcf0
                      have hwq : IntKind.i64.wrap (q : Int) = (q : Int) := by rw [IntKind.wrap_i64]; omega
                      cases hin2 : (decide ((0 : Int) ≤ f) && decide (f ≤ (q : Int))) with
                      | false =>
                        have hF : isPosB r ps xss = false := isPosB_not (fun hp => by have q0 := hp.bel (q + 1) B hBe.out k f hf; have q1 := bel_lt hp.srt q0; have q2 := q0.1; simp at hin2; omega)
                        replace hF := Lib.hid hF
                        replace hf := Lib.hid hf
                        go_wp2_with fail
                        go_quiet (((go_at_call 36; exact quiet_left (hin2 ▸ in_any _ _ _ _))))
                        go_wp2_with fail
                        go_ret
                        exact ⟨ret_bool hF.out.symm, hB.trans ((below_dn hb2 _).mono (by omega))⟩
                      | true =>
                        obtain ⟨hf0, hf1⟩ : 0 ≤ f ∧ f ≤ (q : Int) := by simpa using hin2
                        obtain ⟨f, rfl⟩ : ∃ t : Nat, f = t := ⟨f.toNat, by omega⟩
                        have hfn : f < n := by omega
                        obtain ⟨bp2, op2, pf, e5, _, _, hpf, hcpf0⟩ := hR.at_ hfn
                        injection e5 with e5
                        injection e5 with e6 e7 _
                        subst e6; subst e7
                        have hcpf := (hb2.cell (p := ⟨bp, op + f, none⟩) (by simp; omega)).trans hcpf0
                        have hgf : at' ps (f : Int) = pf := by unfold at'; rw [Int.toNat_natCast]; exact getD_some hpf
                        cases hge2 : decide (pf ≥ pe) with
                        | true =>
                          have hF : isPosB r ps xss = false := isPosB_not (fun hp => by obtain ⟨q0, q1, q2, q3⟩ := hp.bel (q + 1) B hBe.out k f hf; rw [hgf, hge.out] at q2; simp at hge2; omega)
                          replace hF := Lib.hid hF
                          replace hf := Lib.hid hf
                          replace hpf := Lib.hid hpf
                          replace hgf := Lib.hid hgf
                          go_wp2_with fail
                          go_quiet (((go_at_call 36; exact quiet_left (hin2 ▸ in_any _ _ _ _))))
                          go_wp2_with fail
                          go_ret
                          exact ⟨ret_bool hF.out.symm, hB.trans ((below_dn hb2 _).mono (by omega))⟩
                        | false =>
                          have hpfe : pf < pe := by simpa using hge2
                          obtain ⟨b5, o5, Af, nf, cf, C, e5, _, _, hCf, hcC0, hrC⟩ := hR1.at_ hfn
                          injection e5 with e5
                          injection e5 with e6 e7 _
                          subst e6; subst e7
                          have hCl := hrC.len
                          have hCm := hrC.max
                          cases k with
                          | zero =>
                            rw [Nat.add_zero] at hcf
                            have hbk : BelK ps (q + 1) B 0 f := ⟨by omega, by have := hpl.out; omega, by rw [hgf, hge.out]; omega, fun h0 => by omega⟩
                            replace hbk := Lib.hid hbk
                            replace hf := Lib.hid hf
                            replace hpf := Lib.hid hpf
                            replace hgf := Lib.hid hgf
                            replace hCf := Lib.hid hCf
                            replace hCl := Lib.hid hCl
                            go_wp2_with fail
                            go_quiet (((go_at_call 36; exact quiet_left (hin2 ▸ in_any _ _ _ _))))
                            go_wp2_with fail
                            clear hwq c0 c1 c2 hcB hcpe hcf hcpf hR hin hin2 hge2 hpf hgf hcpf0 hcf0 hcpe0 hpe hge hlt2 hgq hpq hcpq0 hd0 hpr hpqe hpfe
                            go_loopw [6] (fun kv wq => ∃ t : Nat, t ≤ nf ∧ kv = .int .i64 t ∧ Hid (∀ g ∈ C.take t, g ∈ B) ∧ Below W1.heap.size W1 wq) (fun kv _ => nf - (intOf kv).toNat)
                            case atStart => exact ⟨0, by omega, rfl, Lib.hid (by simp), below_dn hb2 _⟩
                            case round =>
                              obtain ⟨t, ht, rfl, hin3, hb3⟩ := hrel
                              have hbz3 := hb3.size
                              have c0 := (hb3.cell (p := ⟨w.heap.size, 0, none⟩) (by simp; omega)).trans hC0
                              have c1 := (hb3.cell (p := ⟨w.heap.size, 1, none⟩) (by simp; omega)).trans hC1
                              have c2 := (hb3.cell (p := ⟨w.heap.size, 2, none⟩) (by simp; omega)).trans hC2
                              have hcB := (hb3.cell (p := ⟨b, o + (q + 1), none⟩) (by simp; omega)).trans hcB0
                              have hcC := (hb3.cell (p := ⟨b, o + f, none⟩) (by simp; omega)).trans hcC0
                              by_cases htn : t < nf
                              · obtain ⟨bg, og, g, rfl, _, _, hg, hcg0⟩ := hrC.at_ htn
                                have hcg := (hb3.cell (p := ⟨bg, og + t, none⟩) (by simp; omega)).trans hcg0
                                have htg := take_succ_of hg
                                have hgm := mem_of_get? hg
                                have hrB3 := hrB.below hb3 (by omega)
                                replace hg := Lib.hid hg
                                replace htg := Lib.hid htg
                                replace hgm := Lib.hid hgm
                                have hqn : ((q : Int) + 1) < (n : Int) := by omega
                                have hqn0 : (0 : Int) ≤ ((q : Int) + 1) := by omega
                                cases hmem : decide (g ∈ B) with
                                | false =>
                                  have hF : isPosB r ps xss = false := isPosB_not (fun hp => by have a := hp.tra (q + 1) B hBe.out (f : Int) (mem_of_get? hf.out) C (by rw [Int.toNat_natCast]; exact hCf.out) g hgm.out; exact of_decide_eq_false hmem a)
                                  have hHas : ∀ m, Calls Tryd.prog 37 #[.slice (some ⟨bb, oo, none⟩) nk ck, .int .i64 g] (wr.drewN m) fun e w' => e = .returned (.bool false) ∧ wr.drewN m = w' := fun m => by have a := l01Has_any (some ⟨bb, oo, none⟩) nk ck B g (wr.drewN m) (hrB3.keep (fun _ _ _ => rfl)); rwa [hmem] at a
                                  replace hF := Lib.hid hF
                                  replace hmem := Lib.hid hmem
                                  go_wp2_with fail
                                  go_quiet (((go_at_call 37; exact quiet_left (hHas _))))
                                  go_wp2_with fail
                                  go_ret
                                  exact ⟨ret_bool hF.out.symm, hB.trans ((below_dn hb3 _).mono (by omega))⟩
                                | true =>
                                  have hin4 : ∀ x ∈ C.take (t + 1), x ∈ B := by
                                    rw [htg.out]
                                    intro x hx
                                    rcases List.mem_append.1 hx with hx | hx
                                    · exact hin3.out x hx
                                    · rw [List.mem_singleton.1 hx]; exact of_decide_eq_true hmem
                                  have hHas : ∀ m, Calls Tryd.prog 37 #[.slice (some ⟨bb, oo, none⟩) nk ck, .int .i64 g] (wr.drewN m) fun e w' => e = .returned (.bool true) ∧ wr.drewN m = w' := fun m => by have a := l01Has_any (some ⟨bb, oo, none⟩) nk ck B g (wr.drewN m) (hrB3.keep (fun _ _ _ => rfl)); rwa [hmem] at a
                                  replace hin4 := Lib.hid hin4
                                  replace hmem := Lib.hid hmem
                                  go_wp2_with fail
                                  go_quiet (((go_at_call 37; exact quiet_left (hHas _))))
                                  go_wp2_with fail
                                  go_roundw
                                  case measure => simp [intOf]; omega
                                  case rel => exact ⟨t + 1, by omega, by go_num, hin4, below_dn hb3 _⟩
                              · have htt : t = nf := by omega
                                subst htt
                                have hrow2 : ∀ k2 : Nat, k2 < 0 + 1 → ∀ f : Int, B[k2]? = some f → BelK ps (q + 1) B k2 f ∧ ∀ C, xss[f.toNat]? = some C → ∀ g ∈ C, g ∈ B := fun k2 h2 f2 hf2 => by
                                  by_cases ek : k2 = 0
                                  · subst ek
                                    have ef := Option.some.inj (hf.out.symm.trans hf2)
                                    subst ef
                                    refine ⟨hbk.out, fun C2 hC2 g hg => ?_⟩
                                    rw [Int.toNat_natCast] at hC2
                                    have eC := Option.some.inj (hCf.out.symm.trans hC2)
                                    subst eC
                                    have a := hin3.out
                                    rw [List.take_of_length_le (by have := hCl.out; omega)] at a
                                    exact a g hg
                                  · exact hrow.out k2 (by omega) f2 hf2
                                replace hrow2 := Lib.hid hrow2
                                go_wp2_with fail
                                go_roundw
                                case measure => simp [intOf]; omega
                                case rel => exact ⟨0 + 1, by omega, by go_num, hrow2, hb3⟩
                          | succ s =>
                            obtain ⟨bq, oq, fs, e5, _, _, hfs, hcfs0⟩ := hrB.at_ (k := s) (by omega)
                            injection e5 with e5
                            injection e5 with e6 e7 _
                            subst e6; subst e7
                            have hcfs := (hb2.cell (p := ⟨bb, oo + s, none⟩) (by simp; omega)).trans hcfs0
                            have hgs : B.getD s 0 = fs := getD_some hfs
                            have hws : IntKind.i64.wrap (s : Int) = (s : Int) := by rw [IntKind.wrap_i64]; omega
                            have hd1 : decide ((s : Int) + 1 > 0) = true := by first | (simp; done) | (simp; omega)
                            cases hle : decide ((f : Int) ≤ fs) with
                            | true =>
                              have hF : isPosB r ps xss = false := isPosB_not (fun hp => by obtain ⟨q0, q1, q2, q3⟩ := hp.bel (q + 1) B hBe.out (s + 1) f hf; have q4 := q3 (by omega); rw [Nat.add_sub_cancel, hgs] at q4; simp at hle; omega)
                              replace hF := Lib.hid hF
                              replace hf := Lib.hid hf
                              replace hpf := Lib.hid hpf
                              replace hgf := Lib.hid hgf
                              replace hfs := Lib.hid hfs
                              replace hgs := Lib.hid hgs
                              replace hCf := Lib.hid hCf
                              replace hCl := Lib.hid hCl
                              go_wp2_with fail
                              go_quiet (((go_at_call 36; exact quiet_left (hin2 ▸ in_any _ _ _ _))))
                              go_wp2_with fail
                              go_ret
                              exact ⟨ret_bool hF.out.symm, hB.trans ((below_dn hb2 _).mono (by omega))⟩
                            | false =>
                              have hfsf : fs < (f : Int) := by simpa using hle
                              have hbk : BelK ps (q + 1) B (s + 1) f := ⟨by omega, by have := hpl.out; omega, by rw [hgf, hge.out]; omega, fun h0 => by rw [Nat.add_sub_cancel, hgs]; omega⟩
                              replace hbk := Lib.hid hbk
                              replace hf := Lib.hid hf
                              replace hpf := Lib.hid hpf
                              replace hgf := Lib.hid hgf
                              replace hCf := Lib.hid hCf
                              replace hCl := Lib.hid hCl
                              replace hgs := Lib.hid hgs
                              replace hfs := Lib.hid hfs
                              go_wp2_with fail
                              go_quiet (((go_at_call 36; exact quiet_left (hin2 ▸ in_any _ _ _ _))))
                              go_wp2_with fail
                              clear hwq c0 c1 c2 hcB hcpe hcf hcpf hR hin hin2 hge2 hpf hgf hcpf0 hcf0 hcpe0 hpe hge hlt2 hgq hpq hcpq0 hd0 hpr hpqe hpfe hws hcfs hd1 hle hfs hgs hcfs0 hfsf
                              go_loopw [6] (fun kv wq => ∃ t : Nat, t ≤ nf ∧ kv = .int .i64 t ∧ Hid (∀ g ∈ C.take t, g ∈ B) ∧ Below W1.heap.size W1 wq) (fun kv _ => nf - (intOf kv).toNat)
                              case atStart => exact ⟨0, by omega, rfl, Lib.hid (by simp), below_dn hb2 _⟩
                              case round =>
                                obtain ⟨t, ht, rfl, hin3, hb3⟩ := hrel
                                have hbz3 := hb3.size
                                have c0 := (hb3.cell (p := ⟨w.heap.size, 0, none⟩) (by simp; omega)).trans hC0
                                have c1 := (hb3.cell (p := ⟨w.heap.size, 1, none⟩) (by simp; omega)).trans hC1
                                have c2 := (hb3.cell (p := ⟨w.heap.size, 2, none⟩) (by simp; omega)).trans hC2
                                have hcB := (hb3.cell (p := ⟨b, o + (q + 1), none⟩) (by simp; omega)).trans hcB0
                                have hcC := (hb3.cell (p := ⟨b, o + f, none⟩) (by simp; omega)).trans hcC0
                                by_cases htn : t < nf
                                · obtain ⟨bg, og, g, rfl, _, _, hg, hcg0⟩ := hrC.at_ htn
                                  have hcg := (hb3.cell (p := ⟨bg, og + t, none⟩) (by simp; omega)).trans hcg0
                                  have htg := take_succ_of hg
                                  have hgm := mem_of_get? hg
                                  have hrB3 := hrB.below hb3 (by omega)
                                  replace hg := Lib.hid hg
                                  replace htg := Lib.hid htg
                                  replace hgm := Lib.hid hgm
                                  have hqn : ((q : Int) + 1) < (n : Int) := by omega
                                  have hqn0 : (0 : Int) ≤ ((q : Int) + 1) := by omega
                                  cases hmem : decide (g ∈ B) with
                                  | false =>
                                    have hF : isPosB r ps xss = false := isPosB_not (fun hp => by have a := hp.tra (q + 1) B hBe.out (f : Int) (mem_of_get? hf.out) C (by rw [Int.toNat_natCast]; exact hCf.out) g hgm.out; exact of_decide_eq_false hmem a)
                                    have hHas : ∀ m, Calls Tryd.prog 37 #[.slice (some ⟨bb, oo, none⟩) nk ck, .int .i64 g] (wr.drewN m) fun e w' => e = .returned (.bool false) ∧ wr.drewN m = w' := fun m => by have a := l01Has_any (some ⟨bb, oo, none⟩) nk ck B g (wr.drewN m) (hrB3.keep (fun _ _ _ => rfl)); rwa [hmem] at a
                                    replace hF := Lib.hid hF
                                    replace hmem := Lib.hid hmem
                                    go_wp2_with fail
                                    go_quiet (((go_at_call 37; exact quiet_left (hHas _))))
                                    go_wp2_with fail
                                    go_ret
                                    exact ⟨ret_bool hF.out.symm, hB.trans ((below_dn hb3 _).mono (by omega))⟩
                                  | true =>
                                    have hin4 : ∀ x ∈ C.take (t + 1), x ∈ B := by
                                      rw [htg.out]
                                      intro x hx
                                      rcases List.mem_append.1 hx with hx | hx
                                      · exact hin3.out x hx
                                      · rw [List.mem_singleton.1 hx]; exact of_decide_eq_true hmem
                                    have hHas : ∀ m, Calls Tryd.prog 37 #[.slice (some ⟨bb, oo, none⟩) nk ck, .int .i64 g] (wr.drewN m) fun e w' => e = .returned (.bool true) ∧ wr.drewN m = w' := fun m => by have a := l01Has_any (some ⟨bb, oo, none⟩) nk ck B g (wr.drewN m) (hrB3.keep (fun _ _ _ => rfl)); rwa [hmem] at a
                                    replace hin4 := Lib.hid hin4
                                    replace hmem := Lib.hid hmem
                                    go_wp2_with fail
                                    go_quiet (((go_at_call 37; exact quiet_left (hHas _))))
                                    go_wp2_with fail
                                    go_roundw
                                    case measure => simp [intOf]; omega
                                    case rel => exact ⟨t + 1, by omega, by go_num, hin4, below_dn hb3 _⟩
                                · have htt : t = nf := by omega
                                  subst htt
                                  have hrow2 : ∀ k2 : Nat, k2 < (s + 1) + 1 → ∀ f : Int, B[k2]? = some f → BelK ps (q + 1) B k2 f ∧ ∀ C, xss[f.toNat]? = some C → ∀ g ∈ C, g ∈ B := fun k2 h2 f2 hf2 => by
                                    by_cases ek : k2 = (s + 1)
                                    · subst ek
                                      have ef := Option.some.inj (hf.out.symm.trans hf2)
                                      subst ef
                                      refine ⟨hbk.out, fun C2 hC2 g hg => ?_⟩
                                      rw [Int.toNat_natCast] at hC2
                                      have eC := Option.some.inj (hCf.out.symm.trans hC2)
                                      subst eC
                                      have a := hin3.out
                                      rw [List.take_of_length_le (by have := hCl.out; omega)] at a
                                      exact a g hg
                                    · exact hrow.out k2 (by omega) f2 hf2
                                  replace hrow2 := Lib.hid hrow2
                                  go_wp2_with fail
                                  go_roundw
                                  case measure => simp [intOf]; omega
                                  case rel => exact ⟨(s + 1) + 1, by omega, by go_num, hrow2, hb3⟩
                    · have hkk : k = nk := by omega
                      subst hkk
                      have hrows2 : ∀ e2 : Nat, e2 < (q + 1) + 1 → SRow r ps xss e2 := fun e2 h2 => by
                        by_cases ek : e2 = (q + 1)
                        · subst ek
                          refine ⟨hA.out.1, hA.out.2.1, hA.out.2.2, fun B2 hB2 k2 f2 hf2 => ?_⟩
                          have eB := Option.some.inj (hBe.out.symm.trans hB2)
                          subst eB
                          exact hrow.out k2 (by have := (List.getElem?_eq_some_iff.1 hf2).1; have := hBl.out; omega) f2 hf2
                        · exact hrows.out e2 (by omega)
                      replace hrows2 := Lib.hid hrows2
                      go_wp2_with fail
                      go_roundw
                      case measure => simp [intOf]; omega
                      case rel => exact ⟨(q + 1) + 1, by omega, by go_num, hrows2, hb2⟩
          · have hen : e = n := by omega
            subst hen
            have hF : isPosB r ps xss = true := isPosB_iff.2 (PosP.of_rows hr15.1 hr15.2 (by rw [hl.out]; exact hn5) (by rw [hl.out]; exact hl1.out) (fun e2 h2 => hrows.out e2 (by have := hl.out; omega)))
            replace hF := Lib.hid hF
            go_wp2_with fail
            go_ret
            exact ⟨ret_bool hF.out.symm, hB.trans (hb.mono (by omega))⟩
end Go.Proofs.YtebdfhkimnlglaaDoor
