/- Walks: the reference's orbit of a point (a breadth-first search) and its labels of orbits. Up to 400 points. -/
import Derived.Test.YtcjnhiglfkcmiaaGreatDoorOrbL
import Derived.Test.YtcjnhiglfkcmiaaGreatDoorPerm
import Derived.Deep.LoopGhost
namespace Go.Proofs.YtcjnhiglfkcmiaaGreatDoor
open Go.RowKit
set_option linter.unusedVariables false
set_option maxRecDepth 100000
theorem bfs_nil (n : Nat) (x : Int) : bfs [] n x = [x] := by
  unfold bfs
  rw [bfsGo_step (x := x) (by simp)]
  show bfsGo [] n (bfsStep [] x [x]) 1 = [x]
  rw [show bfsStep [] x [x] = [x] from rfl, bfsGo_stop (by simp)]
theorem drewN_own {w : World} {lo n k : Nat} {T : TypeId} {v : Value} {vs : List Value} (h : w.ownsRow lo T 1 v n vs) : (w.drewN k).ownsRow lo T 1 v n vs := h
theorem below_dn {B : Nat} {w w' : World} (h : Below B w w') (k : Nat) : Below B w (w'.drewN k) := ⟨h.os, h.tape, h.output, h.size, h.block⟩
set_option maxHeartbeats 4000000 in
theorem l01Orbit_any (n : Nat) (A : Option Addr) (m c : Nat) (xss : List (List Int)) (x : Int) (w : World) {lo hi : Nat} (h : RS w lo hi A m xss) (hhi : hi ≤ w.heap.size) (hn : n ≤ 400) (hs : SysOf xss n) (hx0 : 0 ≤ x) (hx1 : x < n) :
    Calls Tryz.prog 39 #[.slice A m c, .int .i64 x] w fun e w' => ∃ (A1 : Option Addr) (n1 c1 : Nat), e = .returned (.slice A1 n1 c1) ∧ Own w' w.heap.size w'.heap.size 2 A1 n1 c1 ((bfs xss n x).map (Value.int .i64)) ∧ Below w.heap.size w w' := by
  obtain ⟨i0, hi0, hz0, hz1, hz2⟩ := info_parts infoB
  obtain ⟨j0, hj0, hy0, hy1, hy2⟩ := info_parts infoI
  have hm := h.max
  have hl := h.len
  have hlit : (w.alloc (.cells #[.int .i64 x] 2)).ownsRow w.heap.size 2 1 (.slice (some ⟨w.heap.size, 0, none⟩) 1 1) 1 ([x].map (Value.int .i64)) := (own_lit1 w _ x (Nat.le_refl _)).1
  obtain ⟨x, rfl⟩ : ∃ q : Nat, x = q := ⟨x.toNat, by omega⟩
  by_cases hm0 : m = 0
  · subst hm0
    have hnil : xss = [] := List.eq_nil_of_length_eq_zero hl
    subst hnil
    go_enter Tryz.func39, Tryz.ntmps39
    go_wp2_with (at_make; refine wpList_make_full _ rfl _ _ 84 rfl w.heap.size 4 i0 (.bool false) 1 Tryz.underlying84 hi0 hz0 hz1 _ _ _ _ (x + 1) rfl rfl (by simp) (by simp) ?c1 ?c2 (by simp) ?_)
    case c1 => rw [hz2]; omega
    case c2 => simp only [maxLen]; omega
    intro w1 hown hg
    have hb1 : Below w.heap.size w w1 := ((Below.refl _ _).alloc (Nat.le_refl _) _).grown hg (by simp) (by simp)
    have ho1 := hlit.kept hg (.inr (by simp [Value.ownBlock]))
    have hfr := hown.frozenAt x
    have hcx : w1.cell? ⟨w.heap.size + 1, x, none⟩ = some (.bool false) := by rw [hown.cellAt x (by omega)]; simp [toList_madeCells_one]; try omega
    go_wp2_with fail
    have hset := hown.stored x (.bool true)
    have ho2 := own_kept_ty ho1 hown (by decide) hset.2
    have hb2 : Below w.heap.size w (w1.setCell ⟨w.heap.size + 1, x, none⟩ (.bool true)) := hb1.setCell (by simp) _
    clear hset ho1 hown hg hlit hb1 hcx hfr
    go_loopw [5, 8] (fun ov jv wr => ∃ j : Nat, j ≤ 1 ∧ ov = .slice (some ⟨w.heap.size, 0, none⟩) 1 1 ∧ jv = .int .i64 j ∧ wr.ownsRow w.heap.size 2 1 (.slice (some ⟨w.heap.size, 0, none⟩) 1 1) 1 ([(x : Int)].map (Value.int .i64)) ∧ Below w.heap.size w wr) (fun _ jv _ => 1 - (intOf jv).toNat)
    case atStart => exact ⟨0, by omega, rfl, rfl, ho2, hb2⟩
    case round =>
      obtain ⟨j, hj, rfl, rfl, ho, hb⟩ := hrel
      by_cases hlt : j < 1
      · go_wp2_with fail
        go_loopw [5, 9] (fun ov kv wq => ov = .slice (some ⟨w.heap.size, 0, none⟩) 1 1 ∧ kv = .int .i64 0 ∧ wq = wr) (fun _ _ _ => 0)
        case atStart => exact ⟨rfl, rfl, rfl⟩
        case round =>
          obtain ⟨rfl, rfl, rfl⟩ := hrel
          go_wp2_with fail
          go_roundw
          case measure => simp [intOf]; omega
          case rel => exact ⟨j + 1, by omega, rfl, by go_num, ho, hb⟩
      · go_wp2_with fail
        go_ret
        exact ⟨_, 1, 1, rfl, by rw [bfs_nil]; exact Own.of_row ho, hb⟩
  · obtain ⟨b0, o0, A0, n0, c0, p0, hA0, _, hb0, hp0, hc0, hr0⟩ := (h.keep (same_alloc w (.cells #[.int .i64 (x : Int)] 2) _ _ hhi)).at_ (k := 0) (by omega)
    rw [Nat.add_zero] at hc0
    have hn0 : n0 = n := by rw [← hr0.len]; exact (hs p0 (mem_of_get? hp0)).2.2
    subst hn0
    subst hA0
    clear hp0 hr0
    replace hs := Lib.hid hs
    replace hl := Lib.hid hl
    go_enter Tryz.func39, Tryz.ntmps39
    go_wp2_with (at_make; refine wpList_make_full _ rfl _ _ 84 rfl w.heap.size 4 i0 (.bool false) 1 Tryz.underlying84 hi0 hz0 hz1 _ _ _ _ (n0 + x + 1) rfl rfl (by simp) (by simp) ?c1 ?c2 (by simp) ?_)
    case c1 => rw [hz2]; omega
    case c2 => simp only [maxLen]; omega
    intro w1 hown hg
    have hb1 : Below w.heap.size w w1 := ((Below.refl _ _).alloc (Nat.le_refl _) _).grown hg (by simp) (by simp)
    have ho1 := hlit.kept hg (.inr (by simp [Value.ownBlock]))
    have hfr := hown.frozenAt x
    have hcx : w1.cell? ⟨w.heap.size + 1, x, none⟩ = some (.bool false) := by rw [hown.cellAt x (by omega)]; simp [toList_madeCells_one, List.getElem?_replicate]; try omega
    go_wp2_with fail
    have hset := hown.stored x (.bool true)
    have ho2 := own_kept_ty ho1 hown (by decide) hset.2
    have hb2 : Below w.heap.size w (w1.setCell ⟨w.heap.size + 1, x, none⟩ (.bool true)) := hb1.setCell (by simp) _
    have hset1 : (w1.setCell ⟨w.heap.size + 1, x, none⟩ (.bool true)).ownsRow w.heap.size 4 1 (.slice (some ⟨w.heap.size + 1, 0, none⟩) (n0 + x + 1) (n0 + x + 1)) (n0 + x + 1) (((List.replicate (n0 + x + 1) false).set x true).map Value.bool) := by
      have := hset.1
      rw [List.map_set]
      simpa [toList_madeCells_one, Value.cells] using this
    clear hset ho1 hown hg hlit hb1 hcx hfr hc0
    go_loopw [5, 8] (fun ov jv wr => ∃ (j : Nat) (ys : List Int) (A1 : Option Addr) (c1 : Nat) (bs : List Bool), j ≤ ys.length ∧ ys.length ≤ n0 ∧ ov = .slice A1 ys.length c1 ∧ jv = .int .i64 j ∧ Hid (bfsGo xss (n0 + 1 - j) ys j = bfs xss n0 x) ∧ Hid (Met xss n0 x ys) ∧ Hid (∀ z : Nat, z < n0 → bs[z]? = some (decide ((z : Int) ∈ ys))) ∧
        wr.ownsRow w.heap.size 4 1 (.slice (some ⟨w.heap.size + 1, 0, none⟩) (n0 + x + 1) (n0 + x + 1)) (n0 + x + 1) (bs.map Value.bool) ∧ wr.ownsRow w.heap.size 2 1 (.slice A1 ys.length c1) ys.length (ys.map (Value.int .i64)) ∧ Below w.heap.size w wr) (fun _ jv _ => n0 - (intOf jv).toNat)
    case atStart =>
      refine ⟨0, [(x : Int)], _, 1, _, by simp, by simp; omega, rfl, rfl, Lib.hid rfl, Lib.hid (Met.one hx0 hx1), Lib.hid fun z hz => ?_, hset1, ho2, hb2⟩
      by_cases e : x = z
      · subst e; simp [show x < n0 + x + 1 by omega]
      · have hne : ¬ (z : Int) = x := by omega
        rw [List.getElem?_set_ne e]; simp [show z < n0 + x + 1 by omega, hne]
    case round =>
      clear hset1 ho2 hb2
      obtain ⟨j, ys, A1, c1, bs, hj, hyn, rfl, rfl, heq, hmet, hbs, hsn, ho, hb⟩ := hrel
      have hmq := hb.size
      by_cases hlt : j < ys.length
      · obtain ⟨g, y, rfl, _, _, _, hy, _, _⟩ := (Own.of_row ho).atI hlt
        have hyr := hmet.out.rng y (mem_of_get? hy)
        obtain ⟨y, rfl⟩ : ∃ q : Nat, y = q := ⟨y.toNat, by omega⟩
        replace hy := Lib.hid hy
        go_wp2_with fail
        obtain ⟨wo, hwo⟩ : ∃ wo : World, wo = wr := ⟨_, rfl⟩
        go_loopw [5, 9] (fun ov kv wq => ∃ (k : Nat) (zs : List Int) (A2 : Option Addr) (c2 : Nat) (bs : List Bool), k ≤ m ∧ zs.length ≤ n0 ∧ ov = .slice A2 zs.length c2 ∧ kv = .int .i64 k ∧ Hid (zs = bfsStep (xss.take k) y ys) ∧ Hid (Met xss n0 x zs) ∧ Hid (zs[j]? = some (y : Int)) ∧ Hid (∀ z : Nat, z < n0 → bs[z]? = some (decide ((z : Int) ∈ zs))) ∧
            wq.ownsRow w.heap.size 4 1 (.slice (some ⟨w.heap.size + 1, 0, none⟩) (n0 + x + 1) (n0 + x + 1)) (n0 + x + 1) (bs.map Value.bool) ∧ wq.ownsRow w.heap.size 2 1 (.slice A2 zs.length c2) zs.length (zs.map (Value.int .i64)) ∧ Below w.heap.size w wq) (fun _ kv _ => m - (intOf kv).toNat)
        case atStart => exact ⟨0, ys, _, c1, bs, by omega, hyn, rfl, rfl, Lib.hid rfl, hmet, hy, hbs, hsn, ho, hb⟩
        case round =>
          clear hsn ho hb hbs hwo
          obtain ⟨k, zs, A2, c2, bs, hk, hzn, rfl, rfl, hzs, hmz, hzy, hbs, hsn, ho, hb⟩ := hrel
          have hjz : j < zs.length := (List.getElem?_eq_some_iff.1 hzy.out).1
          by_cases hkm : k < m
          · obtain ⟨bb, oo, Ak, nk, ck, p, hA, _, hbb, hp, hpc, hpr⟩ := (h.below hb hhi).at_ hkm
            injection hA with hA
            injection hA with hA1 hA2 _
            subst hA1; subst hA2
            have hpm := mem_of_get? hp
            obtain ⟨hpr0, hpn, hpl⟩ := hs.out p hpm
            have hnk := hpr.len
            have hynk : y < nk := by omega
            obtain ⟨bp, oq, v, rfl, _, hbp, hv, hvc⟩ := hpr.at_ hynk
            have hva : at' p y = v := by unfold at'; rw [Int.toNat_natCast]; exact getD_some hv
            obtain ⟨hv0, hv1⟩ := hpr0 v (mem_of_get? hv)
            obtain ⟨v, rfl⟩ : ∃ q : Nat, v = q := ⟨v.toNat, by omega⟩
            obtain ⟨gz, y', rfl, hgz1, hgz2, hgz3, hy', hyc, _⟩ := (Own.of_row ho).atI hjz
            have e : y' = y := by rw [hzy.out] at hy'; exact (Option.some.inj hy').symm
            subst e
            clear hy'
            have htk := take_succ_of hp
            have hbv := hbs.out v (by omega)
            have hsc : wr.cell? ⟨w.heap.size + 1, v, none⟩ = some (.bool (decide ((v : Int) ∈ zs))) := by
              rw [hsn.cellAt v (by omega), List.getElem?_map, hbv]; rfl
            have hsf := hsn.frozenAt v
            replace hbv := Lib.hid hbv
            replace hp := Lib.hid hp
            replace hv := Lib.hid hv
            replace hpr0 := Lib.hid hpr0
            have hvn : v < n0 := by omega
            by_cases hmem : (v : Int) ∈ zs
            · have hst : zs = bfsStep (xss.take (k + 1)) y ys := by
                rw [htk, bfsStep_snoc, hva, ← hzs.out, if_pos hmem]
              replace hst := Lib.hid hst
              rw [decide_eq_true hmem] at hsc
              replace htk := Lib.hid htk
              replace hva := Lib.hid hva
              replace hmem := Lib.hid hmem
              replace hpl := Lib.hid hpl
              go_wp2_with fail
              go_quiet (fail)
              go_wp2_with fail
              go_roundw
              case measure => simp [intOf]; omega
              case rel => exact ⟨k + 1, zs, _, c2, bs, by omega, hzn, rfl, by go_num, hst, hmz, hzy, hbs, drewN_own hsn, drewN_own ho, below_dn hb _⟩
            · have hst : zs ++ [(v : Int)] = bfsStep (xss.take (k + 1)) y ys := by
                rw [htk, bfsStep_snoc, hva, ← hzs.out, if_neg hmem]
              replace hst := Lib.hid hst
              have hmz2 : Met xss n0 x (zs ++ [(v : Int)]) := by
                have := hmz.out.add hs.out (mem_of_get? hzy.out) hpm (by rw [hva]; exact hmem)
                rwa [hva] at this
              have hzn2 := hmz2.len
              rw [List.length_append, List.length_singleton] at hzn2
              replace hmz2 := Lib.hid hmz2
              rw [decide_eq_false hmem] at hsc
              replace htk := Lib.hid htk
              replace hva := Lib.hid hva
              replace hmem := Lib.hid hmem
              replace hpl := Lib.hid hpl
              go_wp2_with fail
              go_quiet (fail)
              have hset := (drewN_own hsn (k := nq)).stored v (.bool true)
              have ho' := own_kept_ty (drewN_own ho (k := nq)) (drewN_own hsn (k := nq)) (by decide) hset.2
              have hss : ((wr.drewN nq).setCell ⟨w.heap.size + 1, v, none⟩ (.bool true)).heap.size = wr.heap.size := World.size_setCell _ _ _
              have hsize := hb.size
              replace hss := Lib.hid hss
              go_wp2_with (at_builtin; refine wpList_append1 ((wr.drewN nq).setCell ⟨w.heap.size + 1, v, none⟩ (.bool true)) rfl (.tmp 58) (.tmp 60) 46 rfl w.heap.size 2 j0 (.int .i64 0) 8 Tryz.underlying46 hj0 hy0 hy1 hy2 rfl (by omega) _ zs.length c2 _ (.int .i64 v) rfl ho' _ rfl (World.size_setCell _ _ _).symm rfl (by omega) (by rw [hss.out]; exact hsize) ?_)
              intro g4 c4 w2 ho2 hg2 hlo2 hlt2 hor2
              have hb4 : Below w.heap.size w w2 := ((below_dn hb nq).setCell (p := ⟨w.heap.size + 1, v, none⟩) (by simp) (.bool true)).grown hg2 (by rw [hss.out]; exact hsize) (fun q hq => by have := (ho.lt q hq).1; omega)
              have hsn4 : w2.ownsRow w.heap.size 4 1 (.slice (some ⟨w.heap.size + 1, 0, none⟩) (n0 + x + 1) (n0 + x + 1)) (n0 + x + 1) ((bs.set v true).map Value.bool) :=
                own_kept_ty (by rw [List.map_set]; exact hset.1) ho' (by decide) hg2
              clear hset ho' ho hsn hb hpc hvc hyc hsc hsf hpr hg2
              go_wp2_with fail
              go_roundw
              case measure => simp [intOf]; omega
              case rel =>
                refine ⟨k + 1, zs ++ [(v : Int)], _, c4, bs.set v true, by omega, by simp; omega, by rw [List.length_append]; rfl, by go_num, hst, hmz2, Lib.hid ?_, Lib.hid fun z hz => ?_, hsn4, by simpa using ho2, hb4⟩
                · rw [List.getElem?_append_left hjz]; exact hzy.out
                · by_cases e : v = z
                  · subst e
                    have := (List.getElem?_eq_some_iff.1 hbv.out).1
                    simp [this]
                  · rw [List.getElem?_set_ne e, hbs.out z hz]
                    have : ¬ (z : Int) = v := by omega
                    simp [this]
          · have hkm' : k = m := by omega
            subst hkm'
            go_wp2_with fail
            go_roundw
            case measure => simp [intOf]; omega
            case rel =>
              refine ⟨j + 1, zs, A2, c2, bs, by omega, hzn, rfl, by go_num, Lib.hid ?_, hmz, hbs, hsn, ho, hb⟩
              have h1 := heq.out
              rw [show n0 + 1 - j = (n0 - j) + 1 by omega, bfsGo_step hy.out] at h1
              have h2 := hzs.out
              rw [List.take_of_length_le (by have := hl.out; omega)] at h2
              rw [← h1, h2, show n0 + 1 - (j + 1) = n0 - j by omega]
      · go_wp2_with fail
        go_ret
        refine ⟨A1, ys.length, c1, rfl, ?_, hb⟩
        have h1 := heq.out
        rw [bfsGo_stop (by omega)] at h1
        rw [← h1]
        exact Own.of_row ho
end Go.Proofs.YtcjnhiglfkcmiaaGreatDoor
