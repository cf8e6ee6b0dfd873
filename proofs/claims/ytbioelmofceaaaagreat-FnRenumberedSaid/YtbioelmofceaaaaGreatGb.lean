/- Merged texts, part 2: walks and plain lemmas of the functions that the statements reach (Form .. Map). No condition but those that each lemma names. -/
import Derived.Laws.ResultCell
import Derived.BigRegion
import Derived.Deep.Cut
import Derived.Deep.CutRange
import Derived.Deep.OwnRows
import Derived.WalkKit
import Derived.Test.YtbioelmofceaaaaGreatProg
import Derived.Outline
import Derived.Lib.EndianBits
import Derived.Deep.RegionLaw
import Derived.Deep.AppendLies
import Derived.Test.YtbioelmofceaaaaGreatGa
/- Form -/
namespace Go.Proofs.YtbioelmofceaaaaGreat
open Go.RowKit
set_option linter.unusedVariables false
set_option maxRecDepth 100000
set_option maxHeartbeats 4000000 in
theorem numberedFrom_any (n : Nat) (A : Option Addr) (m c : Nat) (xss : List (List Int)) (x : Int) (w : World) {lo hi : Nat} (h : RS w lo hi A m xss) (hhi : hi ≤ w.heap.size) (hm0 : 0 < m) (hn : n ≤ 400) (hs : SysOf xss n) (hx0 : 0 ≤ x) (hx1 : x < n) :
    Calls Tryz.prog 57 #[.slice A m c, .int .i64 x] w fun e w' => ∃ (A1 : Option Addr) (n1 c1 : Nat), e = .returned (.slice A1 n1 c1) ∧ Own w' w.heap.size w'.heap.size 2 A1 n1 c1 ((bfs xss n x).map (Value.int .i64)) ∧ Below w.heap.size w w' := by
  obtain ⟨i0, hi0, hz0, hz1, hz2⟩ := info_parts infoB
  obtain ⟨j0, hj0, hy0, hy1, hy2⟩ := info_parts infoI
  have hm := h.max
  have hl := h.len
  obtain ⟨x, rfl⟩ : ∃ q : Nat, x = q := ⟨x.toNat, by omega⟩
  obtain ⟨b0, o0, A0, n0, c0, p0, hA0, _, hb0, hp0, hc0, hr0⟩ := h.at_ (k := 0) (by omega)
  rw [Nat.add_zero] at hc0
  have hn0 : n0 = n := by rw [← hr0.len]; exact (hs p0 (mem_of_get? hp0)).2.2
  subst hn0
  subst hA0
  clear hp0 hr0
  replace hs := Lib.hid hs
  replace hl := Lib.hid hl
  go_enter Tryz.func57, Tryz.ntmps57
  go_wp2_with (at_make; refine wpList_make_full _ rfl _ _ 80 rfl w.heap.size 4 i0 (.bool false) 1 Tryz.underlying80 hi0 hz0 hz1 _ _ _ _ n0 rfl rfl (by simp) (by simp) ?c1 ?c2 (by simp) ?_)
  case c1 => rw [hz2]; omega
  case c2 => simp only [maxLen]; omega
  intro w1 hown hg
  have hb1 : Below w.heap.size w w1 := (Below.refl _ _).grown hg (by simp) (by simp)
  have hs1 := hb1.size
  have hfr := hown.frozenAt x
  have hcx : w1.cell? ⟨w.heap.size, x, none⟩ = some (.bool false) := by rw [hown.cellAt x (by omega)]; simp [toList_madeCells_one, List.getElem?_replicate]; try omega
  go_wp2_with fail
  have hset := hown.stored x (.bool true)
  have ho2 := (own_lit1 (w1.setCell ⟨w.heap.size, x, none⟩ (.bool true)) 2 (x : Int) (lo := w.heap.size) (by simp; omega)).1
  rw [World.size_setCell] at ho2
  have hb2 : Below w.heap.size w ((w1.setCell ⟨w.heap.size, x, none⟩ (.bool true)).alloc (.cells #[.int .i64 (x : Int)] 2)) := (hb1.setCell (by simp) _).alloc (by simp; omega) _
  have hset1 : ((w1.setCell ⟨w.heap.size, x, none⟩ (.bool true)).alloc (.cells #[.int .i64 (x : Int)] 2)).ownsRow w.heap.size 4 1 (.slice (some ⟨w.heap.size, 0, none⟩) n0 n0) n0 (((List.replicate n0 false).set x true).map Value.bool) := by
    have := hset.1.alloc (.cells #[.int .i64 (x : Int)] 2)
    rw [List.map_set]
    simpa [toList_madeCells_one, Value.cells] using this
  clear hset hown hg hb1 hcx hfr hc0
  go_loopw [6, 7] (fun ov jv wr => ∃ (j : Nat) (ys : List Int) (A1 : Option Addr) (c1 : Nat) (bs : List Bool), j ≤ ys.length ∧ ys.length ≤ n0 ∧ ov = .slice A1 ys.length c1 ∧ jv = .int .i64 j ∧ Hid (bfsGo xss (n0 + 1 - j) ys j = bfs xss n0 x) ∧ Hid (Met xss n0 x ys) ∧ Hid (∀ z : Nat, z < n0 → bs[z]? = some (decide ((z : Int) ∈ ys))) ∧
      wr.ownsRow w.heap.size 4 1 (.slice (some ⟨w.heap.size, 0, none⟩) n0 n0) n0 (bs.map Value.bool) ∧ wr.ownsRow w.heap.size 2 1 (.slice A1 ys.length c1) ys.length (ys.map (Value.int .i64)) ∧ Below w.heap.size w wr) (fun _ jv _ => n0 - (intOf jv).toNat)
  case atStart =>
    refine ⟨0, [(x : Int)], _, 1, _, by simp, by simp; omega, rfl, rfl, Lib.hid rfl, Lib.hid (Met.one hx0 hx1), Lib.hid fun z hz => ?_, hset1, ho2, hb2⟩
    by_cases e : x = z
    · subst e; simp [show x < n0 by omega]
    · have hne : ¬ (z : Int) = x := by omega
      rw [List.getElem?_set_ne e]; simp [hz, hne]
  case round =>
    clear hset1 ho2 hb2
    obtain ⟨j, ys, A1, c1, bs, hj, hyn, rfl, rfl, heq, hmet, hbs, hsn, ho, hb⟩ := hrel
    have hmq := hb.size
    by_cases hlt : j < ys.length
    · obtain ⟨g, y, rfl, _, _, _, hy, _, _⟩ := (Own.of_row ho).atI hlt
      have hyr := hmet.out.rng y (mem_of_get? hy)
      obtain ⟨y, rfl⟩ : ∃ q : Nat, y = q := ⟨y.toNat, by omega⟩
      replace hy := Lib.hid hy
      go_wp2_with fail
      obtain ⟨wo, hwo⟩ : ∃ wo : World, wo = wr := ⟨_, rfl⟩
      go_loopw [6, 29] (fun ov kv wq => ∃ (k : Nat) (zs : List Int) (A2 : Option Addr) (c2 : Nat) (bs : List Bool), k ≤ m ∧ zs.length ≤ n0 ∧ ov = .slice A2 zs.length c2 ∧ kv = .int .i64 k ∧ Hid (zs = bfsStep (xss.take k) y ys) ∧ Hid (Met xss n0 x zs) ∧ Hid (zs[j]? = some (y : Int)) ∧ Hid (∀ z : Nat, z < n0 → bs[z]? = some (decide ((z : Int) ∈ zs))) ∧
          wq.ownsRow w.heap.size 4 1 (.slice (some ⟨w.heap.size, 0, none⟩) n0 n0) n0 (bs.map Value.bool) ∧ wq.ownsRow w.heap.size 2 1 (.slice A2 zs.length c2) zs.length (zs.map (Value.int .i64)) ∧ Below w.heap.size w wq) (fun _ kv _ => m - (intOf kv).toNat)
      case atStart => exact ⟨0, ys, _, c1, bs, by omega, hyn, rfl, rfl, Lib.hid rfl, hmet, hy, hbs, hsn, ho, hb⟩
      case round =>
        clear hsn ho hb hbs hwo
        obtain ⟨k, zs, A2, c2, bs, hk, hzn, rfl, rfl, hzs, hmz, hzy, hbs, hsn, ho, hb⟩ := hrel
        have hjz : j < zs.length := (List.getElem?_eq_some_iff.1 hzy.out).1
        by_cases hkm : k < m
        · obtain ⟨bb, oo, Ak, nk, ck, p, hA, _, hbb, hp, hpc, hpr⟩ := (h.below hb hhi).at_ hkm
          injection hA with hA
          injection hA with hA1 hA2 _
          subst hA1; subst hA2
          have hpm := mem_of_get? hp
          obtain ⟨hpr0, hpn, hpl⟩ := hs.out p hpm
          have hnk := hpr.len
          have hynk : y < nk := by omega
          obtain ⟨bp, oq, v, rfl, _, hbp, hv, hvc⟩ := hpr.at_ hynk
          have hva : at' p y = v := by unfold at'; rw [Int.toNat_natCast]; exact getD_some hv
          obtain ⟨hv0, hv1⟩ := hpr0 v (mem_of_get? hv)
          obtain ⟨v, rfl⟩ : ∃ q : Nat, v = q := ⟨v.toNat, by omega⟩
          obtain ⟨gz, y', rfl, hgz1, hgz2, hgz3, hy', hyc, _⟩ := (Own.of_row ho).atI hjz
          have e : y' = y := by rw [hzy.out] at hy'; exact (Option.some.inj hy').symm
          subst e
          clear hy'
          have htk := take_succ_of hp
          have hbv := hbs.out v (by omega)
          have hsc : wr.cell? ⟨w.heap.size, v, none⟩ = some (.bool (decide ((v : Int) ∈ zs))) := by
            rw [hsn.cellAt v (by omega), List.getElem?_map, hbv]; rfl
          have hsf := hsn.frozenAt v
          replace hbv := Lib.hid hbv
          replace hp := Lib.hid hp
          replace hv := Lib.hid hv
          replace hpr0 := Lib.hid hpr0
          have hvn : v < n0 := by omega
          by_cases hmem : (v : Int) ∈ zs
          · have hst : zs = bfsStep (xss.take (k + 1)) y ys := by
              rw [htk, bfsStep_snoc, hva, ← hzs.out, if_pos hmem]
            replace hst := Lib.hid hst
            rw [decide_eq_true hmem] at hsc
            replace htk := Lib.hid htk
            replace hva := Lib.hid hva
            replace hmem := Lib.hid hmem
            replace hpl := Lib.hid hpl
            go_wp2_with fail
            go_roundw
            case measure => simp [intOf]; omega
            case rel => exact ⟨k + 1, zs, _, c2, bs, by omega, hzn, rfl, by go_num, hst, hmz, hzy, hbs, hsn, ho, hb⟩
          · have hst : zs ++ [(v : Int)] = bfsStep (xss.take (k + 1)) y ys := by
              rw [htk, bfsStep_snoc, hva, ← hzs.out, if_neg hmem]
            replace hst := Lib.hid hst
            have hmz2 : Met xss n0 x (zs ++ [(v : Int)]) := by
              have := hmz.out.add hs.out (mem_of_get? hzy.out) hpm (by rw [hva]; exact hmem)
              rwa [hva] at this
            have hzn2 := hmz2.len
            rw [List.length_append, List.length_singleton] at hzn2
            replace hmz2 := Lib.hid hmz2
            rw [decide_eq_false hmem] at hsc
            replace htk := Lib.hid htk
            replace hva := Lib.hid hva
            replace hmem := Lib.hid hmem
            replace hpl := Lib.hid hpl
            have hset := hsn.stored v (.bool true)
            have ho' := own_kept_ty ho hsn (by decide) hset.2
            have hss : (wr.setCell ⟨w.heap.size, v, none⟩ (.bool true)).heap.size = wr.heap.size := World.size_setCell _ _ _
            have hsize := hb.size
            replace hss := Lib.hid hss
            go_wp2_with (at_builtin; refine wpList_append1 (wr.setCell ⟨w.heap.size, v, none⟩ (.bool true)) rfl (.tmp 48) (.tmp 50) 35 rfl w.heap.size 2 j0 (.int .i64 0) 8 Tryz.underlying35 hj0 hy0 hy1 hy2 rfl (by omega) _ zs.length c2 _ (.int .i64 v) rfl ho' _ rfl (World.size_setCell _ _ _).symm rfl (by omega) (by rw [hss.out]; exact hsize) ?_)
            intro g4 c4 w2 ho2 hg2 hlo2 hlt2 hor2
            have hb4 : Below w.heap.size w w2 := (hb.setCell (p := ⟨w.heap.size, v, none⟩) (by simp) (.bool true)).grown hg2 (by rw [hss.out]; exact hsize) (fun q hq => by have := (ho.lt q hq).1; omega)
            have hsn4 : w2.ownsRow w.heap.size 4 1 (.slice (some ⟨w.heap.size, 0, none⟩) n0 n0) n0 ((bs.set v true).map Value.bool) :=
              own_kept_ty (by rw [List.map_set]; exact hset.1) ho' (by decide) hg2
            clear hset ho' ho hsn hb hpc hvc hyc hsc hsf hpr hg2
            go_wp2_with fail
            go_roundw
            case measure => simp [intOf]; omega
            case rel =>
              refine ⟨k + 1, zs ++ [(v : Int)], _, c4, bs.set v true, by omega, by simp; omega, by rw [List.length_append]; rfl, by go_num, hst, hmz2, Lib.hid ?_, Lib.hid fun z hz => ?_, hsn4, by simpa using ho2, hb4⟩
              · rw [List.getElem?_append_left hjz]; exact hzy.out
              · by_cases e : v = z
                · subst e
                  have := (List.getElem?_eq_some_iff.1 hbv.out).1
                  simp [this]
                · rw [List.getElem?_set_ne e, hbs.out z hz]
                  have : ¬ (z : Int) = v := by omega
                  simp [this]
        · have hkm' : k = m := by omega
          subst hkm'
          go_wp2_with fail
          go_roundw
          case measure => simp [intOf]; omega
          case rel =>
            refine ⟨j + 1, zs, A2, c2, bs, by omega, hzn, rfl, by go_num, Lib.hid ?_, hmz, hbs, hsn, ho, hb⟩
            have h1 := heq.out
            rw [show n0 + 1 - j = (n0 - j) + 1 by omega, bfsGo_step hy.out] at h1
            have h2 := hzs.out
            rw [List.take_of_length_le (by have := hl.out; omega)] at h2
            rw [← h1, h2, show n0 + 1 - (j + 1) = n0 - j by omega]
    · go_wp2_with fail
      go_ret
      refine ⟨A1, ys.length, c1, rfl, ?_, hb⟩
      have h1 := heq.out
      rw [bfsGo_stop (by omega)] at h1
      rw [← h1]
      exact Own.of_row ho
set_option maxHeartbeats 8000000 in
theorem formFrom_any (n : Nat) (A : Option Addr) (m c : Nat) (xss : List (List Int)) (x : Int) (w : World) {lo hi : Nat} (h : RS w lo hi A m xss) (hhi : hi ≤ w.heap.size) (hm0 : 0 < m) (hm5 : m ≤ 20) (hn : n ≤ 400) (hs : SysOf xss n) (hx0 : 0 ≤ x) (hx1 : x < n) :
    Calls Tryz.prog 36 #[.slice A m c, .int .i64 x] w fun e w' => ∃ (A1 : Option Addr) (c1 : Nat), e = .returned (.agg #[.slice A1 m c1]) ∧ OwnS w' w.heap.size w'.heap.size 35 2 A1 m c1 (formL xss n x) ∧ Below w.heap.size w w' := by
  obtain ⟨j0, hj0, hy0, hy1, hy2⟩ := info_parts infoI
  obtain ⟨s0, hs0, hu0, hu1, hu2⟩ := info_parts infoS
  have hl := h.len
  have hnf := numberedFrom_any n A m c xss x (w.alloc (.cells #[.slice none 0 0] 26)) (rs_alloc h hhi _) (by simp; omega) hm0 hn hs hx0 hx1
  have hmet := bfs_met hs hx0 hx1
  have hclo : ∀ y ∈ bfs xss n x, ∀ p ∈ xss, at' p y ∈ bfs xss n x := fun y hy p hp => bfs_closed hs hx0 hx1 hy hp
  have hfl : formL xss n x = xss.map (ixF (bfs xss n x)) := rfl
  rw [hfl]
  generalize bfs xss n x = ord at *
  have hol := hmet.len
  replace hfl := Lib.hid hfl
  replace hmet := Lib.hid hmet
  replace hclo := Lib.hid hclo
  replace hs := Lib.hid hs
  go_enter Tryz.func36, Tryz.ntmps36
  go_wp2_with fail
  ((with_reducible refine hnf.mono ?_); rintro e w1 ⟨A5, n5, c5, rfl, o5, f1⟩)
  have B1 : Below w.heap.size w w1 := ((Below.refl _ _).alloc (Nat.le_refl _) _).trans (f1.mono (by simp))
  have g4 : w1.heap[w.heap.size]? = some (.cells #[.slice none 0 0] 26 (0, 0)) := (f1.block _ (by simp)).trans (heap_new _ _ _ rfl)
  have z1 : w.heap.size + 1 ≤ w1.heap.size := by have := f1.size; simpa using this
  have e5 := o5.lenI
  subst e5
  clear f1 hnf
  obtain ⟨b0, o0, A0, n0, c0, p0, rfl, _, _, hp0, hc0, hr0⟩ := (h.below B1 hhi).at_ hm0
  rw [Nat.add_zero] at hc0
  have hn0 : n0 = n := by rw [← hr0.len]; exact (hs.out p0 (mem_of_get? hp0)).2.2
  subst hn0
  clear hp0 hr0
  go_wp2_with (at_make; refine wpList_make_full _ rfl _ _ 35 rfl w1.heap.size 2 j0 (.int .i64 0) 1 Tryz.underlying35 hj0 hy0 hy1 _ _ _ _ n0 rfl rfl rfl rfl ?c1 ?c2 (Nat.le_refl _) ?_)
  case c1 => rw [hy2]; omega
  case c2 => simp only [maxLen]; omega
  intro w2 hown hg
  have B2 : Below w1.heap.size w1 w2 := (Below.refl _ _).grown hg (Nat.le_refl _) (by simp)
  have z2 : w1.heap.size < w2.heap.size := (hown.lt w1.heap.size (by simp [Value.ownBlock])).2
  have o6 : Own w2 w1.heap.size w2.heap.size 2 (some ⟨w1.heap.size, 0, none⟩) n0 n0 ((List.replicate n0 0).map (Value.int .i64)) := by
    have := Own.of_row hown
    simpa [toList_madeCells_one, Value.cells] using this
  clear hown hg hc0
  go_wp2_with fail
  go_loopw [25] (fun kv wq => ∃ (k : Nat) (ns : List Int), k ≤ ord.length ∧ kv = .int .i64 k ∧ Hid (NumI ord n0 k ns) ∧ Own wq w1.heap.size w2.heap.size 2 (some ⟨w1.heap.size, 0, none⟩) n0 n0 (ns.map (Value.int .i64)) ∧ w2.heap.size ≤ wq.heap.size ∧ Below w1.heap.size w1 wq) (fun kv _ => ord.length - (intOf kv).toNat)
  case atStart => exact ⟨0, _, by omega, rfl, Lib.hid (NumI.zero ord n0), o6, Nat.le_refl _, B2⟩
  case round =>
    clear o6 B2
    obtain ⟨k, ns, hk, rfl, hns, ho, hz, hb⟩ := hrel
    by_cases hlt : k < ord.length
    · obtain ⟨b5, f, rfl, _, _, _, hf, hcf, _⟩ := (o5.below hb (Nat.le_refl _)).atI hlt
      obtain ⟨hf0, hf1⟩ := hmet.out.rng f (mem_of_get? hf)
      obtain ⟨f, rfl⟩ : ∃ q : Nat, f = q := ⟨f.toNat, by omega⟩
      have hcn := ho.cellI (hns.out.2 f (by omega))
      have hfr := ho.frz f
      have hfn : f < n0 := by omega
      have hst := hns.out.step hmet.out.nd hf
      replace hst := Lib.hid hst
      replace hf := Lib.hid hf
      generalize (if (f : Int) ∈ ord.take k then (ord.idxOf (f : Int) : Int) else 0) = old at *
      go_wp2_with fail
      go_roundw
      case measure => simp [intOf]; omega
      case rel => exact ⟨k + 1, ns.set f (k : Int), by omega, by go_num, hst, ho.setI (k : Int), by simp; omega, hb.setCell (by simp) _⟩
    · have hko : k = ord.length := by omega
      subst hko
      have hnum : ∀ z : Nat, z < n0 → (z : Int) ∈ ord → ns[z]? = some (ord.idxOf (z : Int) : Int) := fun z hz' hm => hns.out.get hz' hm
      replace hnum := Lib.hid hnum
      go_wp2_with fail
      obtain ⟨w3, rfl⟩ : ∃ w3 : World, w3 = wr := ⟨_, rfl⟩
      have g9 : (w3.alloc (.cells #[.slice none 0 0] 26)).heap[w3.heap.size]? = some (.cells #[.slice none 0 0] 26 (0, 0)) := heap_new _ _ _ rfl
      go_loopw [37] (fun kv wq => ∃ (k : Nat) (vs : List Value) (A2 : Option Addr) (c2 : Nat), k ≤ m ∧ vs.length = k ∧ kv = .int .i64 k ∧ wq.heap[w3.heap.size]? = some (.cells #[.slice A2 k c2] 26 (0, 0)) ∧
          Own wq (w3.heap.size + 1) wq.heap.size 35 A2 k c2 vs ∧ RowsOwn wq (w3.heap.size + 1) wq.heap.size 2 vs ((xss.take k).map (ixF ord)) ∧ w3.heap.size + 1 ≤ wq.heap.size ∧ Below w3.heap.size w3 wq) (fun kv _ => m - (intOf kv).toNat)
      case atStart => exact ⟨0, [], none, 0, by omega, rfl, rfl, g9, Own.nil, by simpa using RowsOwn.nil, by simp, (Below.refl _ _).alloc (Nat.le_refl _) _⟩
      case round =>
        clear g9
        obtain ⟨k, vs, A2, c2, hk, hvk, rfl, g9, ho9, hrows, hz9, hb9⟩ := hrel
        have C9 : wr.cell? ⟨w3.heap.size, 0, none⟩ = some (.slice A2 k c2) := by rw [cell_of_row _ _ _ _ _ _ g9]; rfl
        have F9 : wr.frozen? ⟨w3.heap.size, 0, none⟩ = false := frozen_of_row _ _ _ _ _ g9
        have hbw : Below w1.heap.size w1 wr := hb.trans (hb9.mono (by omega))
        have ho6 := ho.below hb9 hz
        by_cases hkm : k < m
        · obtain ⟨bb, oo, Ak, nk, ck, p, e, _, _, hp, hpc, hpr⟩ := ((h.below B1 hhi).below hbw (by omega)).at_ hkm
          injection e with e
          injection e with e1 e2 _
          subst e1; subst e2
          have hpm := mem_of_get? hp
          obtain ⟨hpr0, hpn, hpl⟩ := hs.out p hpm
          have hnk := hpr.len
          have hkk : nk = n0 := by omega
          subst hkk
          have htk := take_succ_of hp
          replace hp := Lib.hid hp
          replace htk := Lib.hid htk
          replace hpr0 := Lib.hid hpr0
          replace hpl := Lib.hid hpl
          replace g9 := Lib.hid g9
          have hnk1 := hpr.max
          go_wp2_with fail
          obtain ⟨wo, rfl⟩ : ∃ wo : World, wo = wr := ⟨_, rfl⟩
          go_loopw [12, 43] (fun lv kv wq => ∃ (j : Nat) (ys : List Int) (A3 : Option Addr) (c3 : Nat), j ≤ ord.length ∧ ys.length = j ∧ lv = .slice A3 j c3 ∧ kv = .int .i64 j ∧ Hid (ys = (ixF ord p).take j) ∧ Own wq wo.heap.size wq.heap.size 2 A3 j c3 (ys.map (Value.int .i64)) ∧ wo.heap.size ≤ wq.heap.size ∧ Below wo.heap.size wo wq) (fun _ kv _ => ord.length - (intOf kv).toNat)
          case atStart => exact ⟨0, [], none, 0, by omega, rfl, rfl, rfl, Lib.hid rfl, Own.nil, Nat.le_refl _, Below.refl _ _⟩
          case round =>
            obtain ⟨j, ys, A3, c3, hj, hyl, rfl, rfl, hys, ho3, hz3, hb3⟩ := hrel
            by_cases hjo : j < ord.length
            · obtain ⟨b5, f, hA5, _, _, _, hf, hcf, _⟩ := ((o5.below hbw (Nat.le_refl _)).below hb3 (by omega)).atI hjo
              subst hA5
              have hfm := mem_of_get? hf
              obtain ⟨hf0, hf1⟩ := hmet.out.rng f hfm
              obtain ⟨f, rfl⟩ : ∃ q : Nat, f = q := ⟨f.toNat, by omega⟩
              have hfn : f < nk := by omega
              obtain ⟨bp, oq, v, rfl, _, _, hv, hvc⟩ := (hpr.below hb3 (by omega)).at_ hfn
              have hva : at' p f = v := by unfold at'; rw [Int.toNat_natCast]; exact getD_some hv
              have hvo := hclo.out _ hfm p hpm
              rw [hva] at hvo
              obtain ⟨hv0, hv1⟩ := hpr0.out v (mem_of_get? hv)
              obtain ⟨v, rfl⟩ : ∃ q : Nat, v = q := ⟨v.toNat, by omega⟩
              have hvn : v < nk := by omega
              have hcn := (ho6.below hb3 (by omega)).cellI (hnum.out v hvn hvo)
              have hst : ys ++ [(ord.idxOf (v : Int) : Int)] = (ixF ord p).take (j + 1) := by
                rw [take_succ_of (x := (ord.idxOf (v : Int) : Int)) (by simp [ixF, hf, hva]), ← hys.out]
              replace hst := Lib.hid hst
              replace hf := Lib.hid hf
              replace hfm := Lib.hid hfm
              replace hv := Lib.hid hv
              replace hva := Lib.hid hva
              replace hvo := Lib.hid hvo
              generalize (ord.idxOf (v : Int) : Int) = u at *
              go_wp2_with (at_builtin; refine wpList_append1 wr rfl (.tmp 47) (.tmp 55) 35 rfl wo.heap.size 2 j0 (.int .i64 0) 8 Tryz.underlying35 hj0 hy0 hy1 hy2 rfl (by omega) A3 j c3 _ (.int .i64 u) rfl ho3.1 _ rfl rfl rfl (by omega) hz3 ?_)
              intro g4 c4 w5 ho5 hg5 hlo5 hlt5 hor5
              have hb5 : Below wo.heap.size wo w5 := hb3.grown hg5 hz3 (fun q hq => by have := (ho3.1.lt q hq).1; omega)
              have hz5 := hg5.size
              clear hcf hvc hcn ho3 hb3 hg5
              go_wp2_with fail
              go_roundw
              case measure => simp [intOf]; omega
              case rel => exact ⟨j + 1, ys ++ [u], _, c4, by omega, by simp; omega, rfl, by go_num, hst, by simpa using Own.of_row ho5, by omega, hb5⟩
            · have hjo' : j = ord.length := by omega
              subst hjo'
              have hyf : ys = ixF ord p := by have := hys.out; rwa [List.take_of_length_le (by rw [ixF_length]; exact Nat.le_refl _)] at this
              have ho9' := ho9.below hb3 (Nat.le_refl _)
              have hrows' := hrows.keep (Same.of_below hb3 (Nat.le_refl _))
              have g9' := (hb3.block w3.heap.size (by omega)).trans g9.out
              have C9' : wr.cell? ⟨w3.heap.size, 0, none⟩ = some (.slice A2 k c2) := by rw [cell_of_row _ _ _ _ _ _ g9']; rfl
              have F9' : wr.frozen? ⟨w3.heap.size, 0, none⟩ = false := frozen_of_row _ _ _ _ _ g9'
              replace g9' := Lib.hid g9'
              replace hyf := Lib.hid hyf
              replace hyl := Lib.hid hyl
              go_wp2_with (at_builtin; refine wpList_append1 wr rfl (.tmp 59) (.tmp 61) 24 rfl (w3.heap.size + 1) 35 s0 (.slice none 0 0) 24 Tryz.underlying24 hs0 hu0 hu1 hu2 rfl (by omega) A2 k c2 _ (.slice A3 ord.length c3) rfl ho9'.1 _ rfl rfl rfl (by omega) (by omega) ?_)
              intro g4 c4 w5 ho5 hg5 hlo5 hlt5 hor5
              have g5 := (hg5.block w3.heap.size (by omega) (fun e => by have := (ho9'.1.lt _ e.symm).1; omega)).trans g9'.out
              have C5 : w5.cell? ⟨w3.heap.size, 0, none⟩ = some (.slice A2 k c2) := by rw [cell_of_row _ _ _ _ _ _ g5]; rfl
              have F5 : w5.frozen? ⟨w3.heap.size, 0, none⟩ = false := frozen_of_row _ _ _ _ _ g5
              have hrw5 := (hrows'.kept_ty ho9'.1 (by decide) hg5).snoc (ho3.kept_ty ho9'.1 (by decide) hg5) (by omega) hz3
              have hz5 := hg5.size
              have hb5 : Below w3.heap.size w3 w5 := (hb9.trans (hb3.mono (by omega))).grown hg5 (by omega) (fun q hq => by have := (ho9'.1.lt q hq).1; omega)
              have ho5' := Own.of_row ho5
              replace g5 := Lib.hid g5
              clear C9 F9 C9' F9' ho9 ho9' hrows hrows' ho3 hg5 ho5
              go_wp2_with fail
              go_roundw
              case measure => simp [intOf]; omega
              case rel =>
                refine ⟨k + 1, vs ++ [.slice A3 ord.length c3], _, c4, by omega, by simp; omega, by go_num, ?_, (ho5'.far (.inl (by simp)) _).more (Nat.le_refl _) (by simp), ?_, by simp; omega, hb5.setCell (by simp) _⟩
                · have := heap_setCell_same _ _ 0 _ _ (Value.slice (some ⟨g4, 0, none⟩) (k + 1) c4) g5.out
                  simpa using this
                · rw [htk.out, List.map_append, List.map_singleton, ← hyf.out]
                  exact (hrw5.keep (same_set _ _ _ _ _ (.inl (by simp)))).more (Nat.le_refl _) (by simp; omega)
        · have hkm' : k = m := by omega
          subst hkm'
          have g4' := (hbw.block w.heap.size (by omega)).trans g4
          have C4 : wr.cell? ⟨w.heap.size, 0, none⟩ = some (.slice none 0 0) := by rw [cell_of_row _ _ _ _ _ _ g4']; rfl
          have F4 : wr.frozen? ⟨w.heap.size, 0, none⟩ = false := frozen_of_row _ _ _ _ _ g4'
          replace g4' := Lib.hid g4'
          replace g9 := Lib.hid g9
          replace g4 := Lib.hid g4
          go_wp2_with fail
          have g2 := heap_setCell_same _ _ 0 _ _ (Value.slice A2 k c2) g4'.out
          (try simp only [Exit.inBlock, Exit.then])
          refine bodyPost_ret (v := .agg #[.slice A2 k c2]) ?_ rfl ?_
          · exact results_cell_row rfl _ _ w.heap.size 26 #[.slice A2 k c2] (0, 0) _ rfl (by simpa using g2) Tryz.underlying26 rfl (by kernel_rfl)
          · have e : xss.take k = xss := List.take_of_length_le (by omega)
            rw [e] at hrows
            refine ⟨A2, c2, rfl, ⟨vs, ?_, ?_⟩, (B1.trans (hbw.mono (by omega))).setCell (by simp) _⟩
            · exact (ho9.keep (same_set _ _ _ _ _ (.inl (by simp; omega)))).more (by omega) (by simp)
            · exact (hrows.keep (same_set _ _ _ _ _ (.inl (by simp; omega)))).more (by omega) (by simp)
end Go.Proofs.YtbioelmofceaaaaGreat
/- FormS -/
namespace Go.Proofs.YtbioelmofceaaaaGreat
open Go.RowKit
set_option linter.unusedVariables false
set_option maxRecDepth 100000
theorem results_cell_row2 {P : Program} {fn : Func} {p u : Tmp} {ty : TypeId} (h : fn.results = #[.cell p ty, .tmp u]) (tmps : Array Value) (w : World) (g : Nat) (t : TypeId) (cs : Array Value) (fr : Nat × Nat) (d : TypeDesc)
    (hp : tmps.getD p undef = .pointer (some ⟨g, 0, none⟩)) (hg : w.heap[g]? = some (.cells cs t fr))
    (hu : P.underlying ty = some d) (hd : (match d with | .struct _ | .array _ _ => true | _ => false) = true) (hi : (P.info? ty).map (·.size) = some cs.size) (v : Value) (hv : tmps.getD u undef = v) :
    (results fn tmps).run P w = .ok (.tuple #[.agg cs, v]) w := by
  rw [results_cell_tmp h, hp, hv]
  simp [asAddr, run_loadVar_row w g t ty cs fr d hg hu hd hi, Result.andThen]
set_option maxHeartbeats 8000000 in
theorem l02Renumber_any (A : Option Addr) (m c : Nat) (xss : List (List Int)) (A' : Option Addr) (n c' : Nat) (p : List Int) (w : World) {lo hi lo' hi' : Nat} (h : RS w lo hi A m xss) (hhi : hi ≤ w.heap.size) (h' : RI w lo' hi' A' n p) (hhi' : hi' ≤ w.heap.size) (hm5 : m ≤ 20) (hs : SysOf xss n) (hp : isPermP p) :
    Calls Tryz.prog 66 #[.agg #[.slice A m c], .slice A' n c'] w fun e w' => ∃ (A1 : Option Addr) (c1 : Nat), e = .returned (.agg #[.slice A1 m c1]) ∧ OwnS w' w.heap.size w'.heap.size 35 2 A1 m c1 (xss.map (renL p)) ∧ Below w.heap.size w w' := by
  obtain ⟨j0, hj0, hy0, hy1, hy2⟩ := info_parts infoI
  obtain ⟨s0, hs0, hu0, hu1, hu2⟩ := info_parts infoS
  have hl := h.len
  have hpl := h'.len
  have hnums := perm_nums hp hpl
  have hn4 := hp.le
  rw [hpl] at hn4
  replace hnums := Lib.hid hnums
  replace hp := Lib.hid hp
  replace hs := Lib.hid hs
  replace hpl := Lib.hid hpl
  go_enter Tryz.func66, Tryz.ntmps66
  go_wp2_with fail
  go_loopw [6] (fun kv wq => ∃ (k : Nat) (vs : List Value) (A2 : Option Addr) (c2 : Nat), k ≤ m ∧ vs.length = k ∧ kv = .int .i64 k ∧ wq.heap[w.heap.size]? = some (.cells #[.slice A m c] 26 (0, 0)) ∧ wq.heap[w.heap.size + 1]? = some (.cells #[.slice none 0 0] 26 (0, 0)) ∧ wq.heap[w.heap.size + 1 + 1]? = some (.cells #[.slice A2 k c2] 26 (0, 0)) ∧
      Own wq (w.heap.size + 3) wq.heap.size 35 A2 k c2 vs ∧ RowsOwn wq (w.heap.size + 3) wq.heap.size 2 vs ((xss.take k).map (renL p)) ∧ w.heap.size + 3 ≤ wq.heap.size ∧ Below w.heap.size w wq) (fun kv _ => m - (intOf kv).toNat)
  case atStart =>
    refine ⟨0, [], none, 0, by omega, rfl, rfl, ?_, ?_, ?_, Own.nil, by simpa using RowsOwn.nil, by simp, ?_⟩
    · exact ((Below.heap_alloc _ _ _ (by simp; omega)).trans (Below.heap_alloc _ _ _ (by simp))).trans (heap_new _ _ _ rfl)
    · exact (Below.heap_alloc _ _ _ (by simp)).trans (heap_new _ _ _ (by simp))
    · exact heap_new _ _ _ (by simp)
    · exact (((Below.refl _ _).alloc (Nat.le_refl _) _).alloc (by simp) _).alloc (by simp; omega) _
  case round =>
    obtain ⟨k, vs, A2, c2, hk, hvk, rfl, g0, g1, g9, ho9, hrows, hz9, hb9⟩ := hrel
    have C0 : wr.cell? ⟨w.heap.size, 0, none⟩ = some (.slice A m c) := by rw [cell_of_row _ _ _ _ _ _ g0]; rfl
    have C9 : wr.cell? ⟨w.heap.size + 1 + 1, 0, none⟩ = some (.slice A2 k c2) := by rw [cell_of_row _ _ _ _ _ _ g9]; rfl
    have F9 : wr.frozen? ⟨w.heap.size + 1 + 1, 0, none⟩ = false := frozen_of_row _ _ _ _ _ g9
    have hm1 := h.max
    have hn1 := h'.max
    by_cases hkm : k < m
    · obtain ⟨bb, oo, Ak, nk, ck, M, rfl, _, _, hM, hMc, hMr⟩ := (h.below hb9 hhi).at_ hkm
      have hMm := mem_of_get? hM
      obtain ⟨hM0, hMn, hMl⟩ := hs.out M hMm
      have hnk := hMr.len
      have hkk : nk = n := by omega
      subst hkk
      have htk := take_succ_of hM
      replace hM := Lib.hid hM
      replace htk := Lib.hid htk
      replace hM0 := Lib.hid hM0
      replace hMl := Lib.hid hMl
      replace g0 := Lib.hid g0
      replace g1 := Lib.hid g1
      replace g9 := Lib.hid g9
      obtain ⟨wo, rfl⟩ : ∃ wo : World, wo = wr := ⟨_, rfl⟩
      go_wp2_with (at_make; refine wpList_make_full _ rfl _ _ 35 rfl wo.heap.size 2 j0 (.int .i64 0) 1 Tryz.underlying35 hj0 hy0 hy1 _ _ _ _ nk rfl rfl rfl rfl ?c1 ?c2 (Nat.le_refl _) ?_)
      case c1 => rw [hy2]; omega
      case c2 => simp only [maxLen]; omega
      intro w2 hown hg
      have B2 : Below wo.heap.size wo w2 := (Below.refl _ _).grown hg (Nat.le_refl _) (by simp)
      have z2 : wo.heap.size < w2.heap.size := (hown.lt wo.heap.size (by simp [Value.ownBlock])).2
      have o6 : Own w2 wo.heap.size w2.heap.size 2 (some ⟨wo.heap.size, 0, none⟩) nk nk ((List.replicate nk 0).map (Value.int .i64)) := by
        have := Own.of_row hown
        simpa [toList_madeCells_one, Value.cells] using this
      clear hown hg
      go_wp2_with fail
      go_loopw [8] (fun kv wq => ∃ (f : Nat) (mv : List Int), f ≤ nk ∧ kv = .int .i64 f ∧ Hid (RenI p M nk f mv) ∧ Own wq wo.heap.size w2.heap.size 2 (some ⟨wo.heap.size, 0, none⟩) nk nk (mv.map (Value.int .i64)) ∧ w2.heap.size ≤ wq.heap.size ∧ Below wo.heap.size wo wq) (fun kv _ => nk - (intOf kv).toNat)
      case atStart => exact ⟨0, _, by omega, rfl, Lib.hid (RenI.zero p M nk), o6, Nat.le_refl _, B2⟩
      case round =>
        clear o6 B2
        obtain ⟨f, mv, hf, rfl, hmv, ho6, hz6, hb6⟩ := hrel
        have hbw := hb9.trans (hb6.mono (by omega))
        by_cases hlt : f < nk
        · have C0' := (hb6.cell (p := ⟨w.heap.size, 0, none⟩) (by simp; omega)).trans C0
          have hMc' := (hb6.cell (p := ⟨bb, oo + k, none⟩) (by simp; omega)).trans hMc
          obtain ⟨bp, oq, v, rfl, _, _, hv, hvc⟩ := (hMr.below hb6 (by omega)).at_ hlt
          have hva : at' M f = v := by unfold at'; rw [Int.toNat_natCast]; exact getD_some hv
          obtain ⟨hv0, hv1⟩ := hM0.out v (mem_of_get? hv)
          obtain ⟨v, rfl⟩ : ∃ q : Nat, v = q := ⟨v.toNat, by omega⟩
          have hvn : v < nk := by omega
          obtain ⟨b7, o7, g, rfl, _, _, hg, hgc⟩ := (h'.below hbw hhi').at_ hlt
          have hgr := hp.out.rng g (mem_of_get? hg)
          rw [hpl.out] at hgr
          obtain ⟨g, rfl⟩ : ∃ q : Nat, g = q := ⟨g.toNat, by omega⟩
          have hgn : g < nk := by omega
          obtain ⟨b8, o8, u, e8, _, _, hu, huc⟩ := (h'.below hbw hhi').at_ hvn
          injection e8 with e8
          injection e8 with e1 e2 _
          subst e1; subst e2
          have hua : at' p v = u := by unfold at'; rw [Int.toNat_natCast]; exact getD_some hu
          have hst := hmv.out.step hp.out.nd hnums.out hg hgn
          rw [hva, hua] at hst
          have hcm := ho6.cellI (hmv.out.2 g hgn)
          have hfm := ho6.frz g
          replace hst := Lib.hid hst
          replace hg := Lib.hid hg
          replace hv := Lib.hid hv
          replace hu := Lib.hid hu
          replace hva := Lib.hid hva
          replace hua := Lib.hid hua
          generalize (if p.idxOf (g : Int) < f then at' p (at' M (p.idxOf (g : Int) : Int)) else 0) = old at *
          go_wp2_with fail
          go_region
          go_wp2_with fail
          go_roundw
          case measure => simp [intOf]; omega
          case rel => exact ⟨f + 1, mv.set g u, by omega, by go_num, hst, (ho6.setI u).keep (fun _ _ _ => rfl), by simp; omega, below_drew (hb6.setCell (p := ⟨wo.heap.size, g, none⟩) (by simp) _)⟩
        · have hfn : f = nk := by omega
          subst hfn
          have hmf := hmv.out.end_ hpl.out hnums.out
          have g9' := (hb6.block (w.heap.size + 1 + 1) (by omega)).trans g9.out
          have C9' : wr.cell? ⟨w.heap.size + 1 + 1, 0, none⟩ = some (.slice A2 k c2) := by rw [cell_of_row _ _ _ _ _ _ g9']; rfl
          have F9' : wr.frozen? ⟨w.heap.size + 1 + 1, 0, none⟩ = false := frozen_of_row _ _ _ _ _ g9'
          have ho9' := ho9.below hb6 (Nat.le_refl _)
          have hrows' := hrows.keep (Same.of_below hb6 (Nat.le_refl _))
          replace g9' := Lib.hid g9'
          replace hmf := Lib.hid hmf
          go_wp2_with (at_builtin; refine wpList_append1 wr rfl (.tmp 44) (.tmp 46) 24 rfl (w.heap.size + 3) 35 s0 (.slice none 0 0) 24 Tryz.underlying24 hs0 hu0 hu1 hu2 rfl (by omega) A2 k c2 _ (.slice (some ⟨wo.heap.size, 0, none⟩) f f) rfl ho9'.1 _ rfl rfl rfl (by omega) (by omega) ?_)
          intro g4 c4 w5 ho5 hg5 hlo5 hlt5 hor5
          have g5 := (hg5.block (w.heap.size + 1 + 1) (by omega) (fun e => by have := (ho9'.1.lt _ e.symm).1; omega)).trans g9'.out
          have C5 : w5.cell? ⟨w.heap.size + 1 + 1, 0, none⟩ = some (.slice A2 k c2) := by rw [cell_of_row _ _ _ _ _ _ g5]; rfl
          have F5 : w5.frozen? ⟨w.heap.size + 1 + 1, 0, none⟩ = false := frozen_of_row _ _ _ _ _ g5
          have hrw5 := (hrows'.kept_ty ho9'.1 (by decide) hg5).snoc (ho6.kept_ty ho9'.1 (by decide) hg5) (by omega) (by omega)
          have hz5 := hg5.size
          have hb5 : Below w.heap.size w w5 := hbw.grown hg5 (by omega) (fun q hq => by have := (ho9'.1.lt q hq).1; omega)
          have g05 := (hg5.block w.heap.size (by omega) (fun e => by have := (ho9'.1.lt _ e.symm).1; omega)).trans ((hb6.block w.heap.size (by omega)).trans g0.out)
          have g15 := (hg5.block (w.heap.size + 1) (by omega) (fun e => by have := (ho9'.1.lt _ e.symm).1; omega)).trans ((hb6.block (w.heap.size + 1) (by omega)).trans g1.out)
          have ho5' := Own.of_row ho5
          replace g5 := Lib.hid g5
          replace g05 := Lib.hid g05
          replace g15 := Lib.hid g15
          clear C9 F9 C9' F9' ho9 ho9' hrows hrows' hg5 ho5
          go_wp2_with fail
          go_roundw
          case measure => simp [intOf]; omega
          case rel =>
            refine ⟨k + 1, vs ++ [.slice (some ⟨wo.heap.size, 0, none⟩) f f], _, c4, by omega, by simp; omega, by go_num, ?_, ?_, ?_, (ho5'.far (.inl (by simp)) _).more (Nat.le_refl _) (by simp), ?_, by simp; omega, hb5.setCell (by simp; omega) _⟩
            · exact (heap_setCell_other _ _ _ _ (by simp; omega)).trans g05.out
            · exact (heap_setCell_other _ _ _ _ (by simp)).trans g15.out
            · have := heap_setCell_same _ _ 0 _ _ (Value.slice (some ⟨g4, 0, none⟩) (k + 1) c4) g5.out
              simpa using this
            · rw [htk.out, List.map_append, List.map_singleton, ← hmf.out]
              exact (hrw5.keep (same_set _ _ _ _ _ (.inl (by simp)))).more (Nat.le_refl _) (by simp; omega)
    · have hkm' : k = m := by omega
      subst hkm'
      have C1 : wr.cell? ⟨w.heap.size + 1, 0, none⟩ = some (.slice none 0 0) := by rw [cell_of_row _ _ _ _ _ _ g1]; rfl
      have F1 : wr.frozen? ⟨w.heap.size + 1, 0, none⟩ = false := frozen_of_row _ _ _ _ _ g1
      replace g1 := Lib.hid g1
      replace g9 := Lib.hid g9
      replace g0 := Lib.hid g0
      go_wp2_with fail
      have g2 := heap_setCell_same _ _ 0 _ _ (Value.slice A2 k c2) g1.out
      (try simp only [Exit.inBlock, Exit.then])
      refine bodyPost_ret (v := .agg #[.slice A2 k c2]) ?_ rfl ?_
      · exact results_cell_row rfl _ _ (w.heap.size + 1) 26 #[.slice A2 k c2] (0, 0) _ rfl (by simpa using g2) Tryz.underlying26 rfl (by kernel_rfl)
      · have e : xss.take k = xss := List.take_of_length_le (by omega)
        rw [e] at hrows
        refine ⟨A2, c2, rfl, ⟨vs, ?_, ?_⟩, hb9.setCell (by simp) _⟩
        · exact (ho9.keep (same_set _ _ _ _ _ (.inl (by simp)))).more (by omega) (by simp)
        · exact (hrows.keep (same_set _ _ _ _ _ (.inl (by simp)))).more (by omega) (by simp)
theorem l02Numbers_any (A : Option Addr) (n c : Nat) (xss : List (List Int)) (x : Int) (w : World) {lo hi : Nat} (h : RS w lo hi A n xss) (hhi : hi ≤ w.heap.size) (N : Nat) (h4 : N ≤ 400) (hs : SysOf xss N) (hcon : Conn xss N) (hx0 : 0 ≤ x) (hx1 : x < N) :
    Calls Tryz.prog 72 #[.agg #[.slice A n c], .int .i64 x] w fun e w' => ∃ A1, e = .returned (.slice A1 N N) ∧ Own w' w.heap.size w'.heap.size 2 A1 N N ((invL (bfs xss N x)).map (Value.int .i64)) ∧ Below w.heap.size w w' := by
  have hR := rs_alloc h hhi (.cells #[.slice A n c] 26)
  have hB : Below w.heap.size w (w.alloc (.cells #[.slice A n c] 26)) := (Below.refl _ _).alloc (Nat.le_refl _) _
  obtain ⟨hpp, hpl⟩ := ord_perm hs hcon h4 hx0 hx1
  have ho := l01Orbit_any N A n c xss x _ hR (by simp; omega) h4 hs hx0 hx1
  have hrg := hpp.rng
  have hnd := hpp.nd
  rw [hpl] at hrg
  generalize bfs xss N x = ord at *
  replace hs := Lib.hid hs
  replace hpp := Lib.hid hpp
  replace hrg := Lib.hid hrg
  replace hnd := Lib.hid hnd
  go_enter Tryz.func72, Tryz.ntmps72
  go_wp2_with fail
  ((with_reducible refine ho.mono ?_); rintro e w2 ⟨A2, n2, c2, rfl, o2, f2⟩)
  have B2 : Below w.heap.size w w2 := hB.trans (f2.mono (by simp))
  have e2 : n2 = N := by rw [← o2.lenI]; exact hpl
  subst e2
  replace hpl := Lib.hid hpl
  have z2 := B2.size
  clear ho
  go_wp2_with fail
  ((with_reducible refine (l01Back_any A2 n2 c2 ord _ _ _ o2.ri (Nat.le_refl _) (by omega) hrg.out hnd.out).mono ?_); rintro e w3 ⟨A3, rfl, o3, f3⟩)
  go_wp2_with fail
  go_ret
  exact ⟨A3, rfl, o3.more z2 (Nat.le_refl _), below_then B2 f3 z2⟩
set_option maxHeartbeats 4000000 in
theorem l02Form_any (A : Option Addr) (n c : Nat) (xss : List (List Int)) (x : Int) (w : World) {lo hi : Nat} (h : RS w lo hi A n xss) (hhi : hi ≤ w.heap.size) (hn : 0 < n) (hn5 : n ≤ 20) (N : Nat) (hN : flg xss = N) (h4 : N ≤ 400) (hs : SysOf xss N) (hcon : Conn xss N) (hx0 : 0 ≤ x) (hx1 : x < N) :
    Calls Tryz.prog 55 #[.agg #[.slice A n c], .int .i64 x] w fun e w' => ∃ (A1 : Option Addr) (c1 : Nat), e = .returned (.agg #[.slice A1 n c1]) ∧ OwnS w' w.heap.size w'.heap.size 35 2 A1 n c1 (formL xss N x) ∧ Below w.heap.size w w' := by
  have hR := rs_alloc (rs_alloc h hhi (.cells #[.slice A n c] 26)) (by simp; omega) (.cells #[.slice none 0 0] 26)
  have hC : ((w.alloc (.cells #[.slice A n c] 26)).alloc (.cells #[.slice none 0 0] 26)).cell? ⟨w.heap.size, 0, none⟩ = some (.slice A n c) := (al_old _ _ _ _ (by simp)).trans (al_new _ _ _ _ rfl)
  have hQ : ((w.alloc (.cells #[.slice A n c] 26)).alloc (.cells #[.slice none 0 0] 26)).heap[w.heap.size + 1]? = some (.cells #[.slice none 0 0] 26 (0, 0)) := heap_new _ _ _ (by simp)
  have hB : Below w.heap.size w ((w.alloc (.cells #[.slice A n c] 26)).alloc (.cells #[.slice none 0 0] 26)) := ((Below.refl _ _).alloc (Nat.le_refl _) _).alloc (by simp) _
  obtain ⟨hpp, hpl⟩ := ord_perm hs hcon h4 hx0 hx1
  have hip := invL_perm hpp
  rw [form_ren hs hcon h4 hx0 hx1]
  have hnums := fun (w' : World) R1 hh => l02Numbers_any A n c xss x (lo := lo) (hi := hi) w' R1 hh N h4 hs hcon hx0 hx1
  generalize invL (bfs xss N x) = inv at *
  replace hs := Lib.hid hs
  replace hip := Lib.hid hip
  replace hpp := Lib.hid hpp
  replace hpl := Lib.hid hpl
  replace hcon := Lib.hid hcon
  go_enter Tryz.func55, Tryz.ntmps55
  go_wp2_with fail
  obtain ⟨W1, hW⟩ : ∃ W1 : World, (w.alloc (.cells #[.slice A n c] 26)).alloc (.cells #[.slice none 0 0] 26) = W1 := ⟨_, rfl⟩
  have hz1 : W1.heap.size = w.heap.size + 2 := by rw [← hW]; simp
  rw [hW] at hR hC hQ hB ⊢
  replace hQ := Lib.hid hQ
  clear hW h
  have hT := hnums W1.drew (rs_drew hR) (show _ ≤ W1.heap.size by omega)
  replace hnums := Lib.hid hnums
  go_region_with (first
    | (go_at_call 72; refine hT.mono ?_; rintro e w3 ⟨A3, rfl, o3, f3⟩; have f3 : Below W1.heap.size W1 w3 := ⟨f3.os, f3.tape, f3.output, f3.size, f3.block⟩; have y3 := f3.size; have D3 := (f3.cell (p := ⟨w.heap.size, 0, none⟩) (by simp; omega)).trans hC; have qa := l02Renumber_any A n c xss A3 N N inv w3 (hR.below f3 (by omega)) (by omega) o3.ri (Nat.le_refl _) hn5 hs.out hip.out)
    | (go_at_call 66; refine qa.mono ?_; rintro e w4 ⟨A4, c4, rfl, o4, f4⟩; have B4 : Below W1.heap.size W1 w4 := below_then f3 f4 (by omega); have Q4 := (B4.block (w.heap.size + 1) (by omega)).trans hQ.out; have C4 : w4.cell? ⟨w.heap.size + 1, 0, none⟩ = some (.slice none 0 0) := (cell_of_row _ _ _ _ _ _ Q4).trans rfl; have F4 : w4.frozen? ⟨w.heap.size + 1, 0, none⟩ = false := frozen_of_row _ _ _ _ _ Q4; replace Q4 := Lib.hid Q4))
  all_goals
    go_wp2_with fail
    have g2 := heap_setCell_same _ _ 0 _ _ (Value.slice A4 n c4) Q4.out
    (try simp only [Exit.inBlock, Exit.then])
    refine bodyPost_ret (v := .agg #[.slice A4 n c4]) ?_ rfl ?_
    · exact results_cell_row rfl _ _ (w.heap.size + 1) 26 #[.slice A4 n c4] (0, 0) _ rfl (by simpa using g2) Tryz.underlying26 rfl (by kernel_rfl)
    · exact ⟨A4, c4, rfl, (o4.keep (same_set _ _ _ _ _ (.inl (by simp; omega)))).more (by omega) (by simp), (hB.trans (B4.mono (by omega))).setCell (by simp) _⟩
end Go.Proofs.YtbioelmofceaaaaGreat
/- Row -/
namespace Go.Proofs.YtbioelmofceaaaaGreat
open Go.RowKit
set_option linter.unusedVariables false
set_option maxRecDepth 100000
/-- one row has got one more -/
theorem RowsOwn.app {w w' : World} {lo hi i n c g c' : Nat} {T : TypeId} {A : Option Addr} {vs : List Value} {xss : List (List Int)} {ys : List Int} {x : Int} (h : RowsOwn w lo hi T vs xss) (hv : vs[i]? = some (.slice A n c)) (hy : xss[i]? = some ys)
    (ho : w'.ownsRow lo T 1 (.slice (some ⟨g, 0, none⟩) (n + 1) c') (n + 1) ((ys ++ [x]).map (Value.int .i64))) (hg : w.grownBy w' (Value.slice A n c).ownBlock) (hor : (Value.slice A n c).ownBlock = some g ∨ hi ≤ g) (hh : hi ≤ w'.heap.size) :
    RowsOwn w' lo w'.heap.size T (vs.set i (.slice (some ⟨g, 0, none⟩) (n + 1) c')) (xss.set i (ys ++ [x])) := by
  have hil : i < vs.length := (List.getElem?_eq_some_iff.1 hv).1
  have hix : i < xss.length := by have := h.1; omega
  have hblk : ∀ (k : Nat) (v : Value), vs[k]? = some v → ∀ q, v.ownBlock = some q → lo ≤ q ∧ q < hi := by
    intro k v hk q hq
    have hkl : k < xss.length := by have := (List.getElem?_eq_some_iff.1 hk).1; have := h.1; omega
    obtain ⟨A1, n1, c1, rfl, hr⟩ := h.2.2 k v _ hk (List.getElem?_eq_getElem hkl)
    refine ⟨(hr.1.lt q hq).1, ?_⟩
    rcases A1 with _ | ad
    · simp [Value.ownBlock] at hq
    · have := hr.2 ad rfl; simp [Value.ownBlock] at hq; omega
  have hfar : ∀ (k : Nat) (v : Value), vs[k]? = some v → k ≠ i → v.ownBlock ≠ some g := by
    intro k v hk hne hq
    rcases hor with hA | hge
    · obtain ⟨hkl, hkv⟩ := List.getElem?_eq_some_iff.1 hk
      obtain ⟨_, hiv⟩ := List.getElem?_eq_some_iff.1 hv
      have hp := List.pairwise_iff_getElem.1 h.2.1
      rcases Nat.lt_or_gt_of_ne hne with hlt | hlt
      · have := hp k i hkl hil hlt
        rw [hkv, hiv] at this
        exact this g hq hA
      · have := hp i k hil hkl hlt
        rw [hkv, hiv] at this
        exact this g hA hq
    · have := hblk k v hk g hq; omega
  refine ⟨by simp [h.1], ?_, fun k v xs h1 h2 => ?_⟩
  · rw [List.pairwise_iff_getElem]
    intro a b ha hb hab
    simp at ha hb
    have hp := List.pairwise_iff_getElem.1 h.2.1
    rw [List.getElem_set, List.getElem_set]
    by_cases e1 : i = a
    · rw [if_pos e1, if_neg (by omega)]
      intro q hq hq2
      simp [Value.ownBlock] at hq
      subst hq
      exact hfar b _ (List.getElem?_eq_getElem hb) (by omega) hq2
    · rw [if_neg e1]
      by_cases e2 : i = b
      · rw [if_pos e2]
        intro q hq hq2
        simp [Value.ownBlock] at hq2
        subst hq2
        exact hfar a _ (List.getElem?_eq_getElem ha) (by omega) hq
      · rw [if_neg e2]
        exact hp a b ha hb hab
  · rw [List.getElem?_set] at h1 h2
    by_cases e : i = k
    · subst e
      rw [if_pos rfl, if_pos hil] at h1
      rw [if_pos rfl, if_pos hix] at h2
      have e1 := Option.some.inj h1
      have e2 := Option.some.inj h2
      subst e1; subst e2
      refine ⟨_, _, _, rfl, ho, fun a ha => ?_⟩
      injection ha with ha
      subst ha
      exact (ho.lt g (by simp [Value.ownBlock])).2
    · rw [if_neg e] at h1 h2
      obtain ⟨A1, n1, c1, rfl, hr⟩ := h.2.2 k v xs h1 h2
      refine ⟨A1, n1, c1, rfl, hr.1.kept hg ?_, fun a ha => by have := hr.2 a ha; omega⟩
      cases hq : (Value.slice A1 n1 c1).ownBlock with
      | none => exact .inl rfl
      | some q =>
        refine .inr fun hx => ?_
        obtain ⟨hkl, hkv⟩ := List.getElem?_eq_some_iff.1 h1
        obtain ⟨_, hiv⟩ := List.getElem?_eq_some_iff.1 hv
        have hp := List.pairwise_iff_getElem.1 h.2.1
        rcases Nat.lt_or_gt_of_ne e with hlt | hlt
        · have := hp i k hil hkl hlt
          rw [hiv, hkv] at this
          exact this q hx.symm hq
        · have := hp k i hkl hil hlt
          rw [hiv, hkv] at this
          exact this q hq hx.symm
theorem a3_0 (W : World) (a b c : Obj) (N : Nat) (h : N = W.heap.size) : (((W.alloc a).alloc b).alloc c).drew.heap[N]? = some a :=
  ((Below.heap_alloc ((W.alloc a).alloc b) c N (by simp; omega)).trans (Below.heap_alloc (W.alloc a) b N (by simp; omega))).trans (heap_new W a N h)
theorem a3_1 (W : World) (a b c : Obj) (N : Nat) (h : N = W.heap.size) : (((W.alloc a).alloc b).alloc c).drew.heap[N + 1]? = some b :=
  (Below.heap_alloc ((W.alloc a).alloc b) c (N + 1) (by simp; omega)).trans (heap_new (W.alloc a) b (N + 1) (by simp; omega))
theorem a3_2 (W : World) (a b c : Obj) (N : Nat) (h : N = W.heap.size) : (((W.alloc a).alloc b).alloc c).drew.heap[N + 1 + 1]? = some c :=
  heap_new ((W.alloc a).alloc b) c (N + 1 + 1) (by simp; omega)
theorem made_own {w : World} {base g n : Nat} {e : TypeId} {z : Value} (hz : z.cells = #[z]) (h : w.heap[g]? = some (.cells (madeCells #[z] n) e (0, 0))) (hb : base ≤ g) (hn : n ≤ maxLen) : w.ownsRow base e 1 (.slice (some ⟨g, 0, none⟩) n n) n (List.replicate n z) := by
  refine blk_own (vs := List.replicate n z) ?_ (by simp) hb hn
  have : madeCells #[z] n = (List.replicate n z).toArray := by
    have := toList_madeCells_one z n
    rw [← this]
  rw [h, this]
theorem cell_far_set (w : World) (p : Addr) (v : Value) (a : Addr) (h : a.block ≠ p.block) : (w.setCell p v).cell? a = w.cell? a := World.cell?_of_block (Below.heap_setCell w p v a.block h)
theorem RowsOwn.nils (w : World) (lo hi : Nat) (T : TypeId) (n : Nat) {f : Nat → List Int} (h : ∀ j, j < n → f j = []) : RowsOwn w lo hi T (List.replicate n (.slice none 0 0)) ((List.range n).map f) := by
  refine ⟨by simp, ?_, fun k v xs h1 h2 => ?_⟩
  · rw [List.pairwise_iff_getElem]
    intro a b ha hb hab
    simp only [List.getElem_replicate]
    intro q hq
    simp [Value.ownBlock] at hq
  · obtain ⟨hk, e1⟩ := List.getElem?_eq_some_iff.1 h1
    simp at hk e1
    simp [hk] at h2
    subst e1
    rw [← h2, h k hk]
    exact ⟨_, _, _, rfl, Own.nil⟩
theorem own_lit0 (w : World) (T : TypeId) {lo : Nat} (hlo : lo ≤ w.heap.size) : Own (w.alloc (.cells #[] T)) lo (w.heap.size + 1) T (some ⟨w.heap.size, 0, none⟩) 0 0 [] := by
  have h0 := World.ownsRow_lit (e := T) (base := lo) (size := 1) w #[] 0 hlo (by omega) rfl
  have h1 := Own.of_row h0
  simpa using h1
theorem RowsOwn.kept_apart {w w' : World} {lo hi : Nat} {T : TypeId} {vs : List Value} {xss : List (List Int)} {row : Option Nat} (h : RowsOwn w lo hi T vs xss) (hg : w.grownBy w' row) (ha : ∀ v ∈ vs, ∀ z, row = some z → v.ownBlock ≠ some z) : RowsOwn w' lo hi T vs xss := by
  refine ⟨h.1, h.2.1, fun k v xs h1 h2 => ?_⟩
  obtain ⟨A, n, c, rfl, hr⟩ := h.2.2 k v xs h1 h2
  refine ⟨A, n, c, rfl, hr.1.kept hg ?_, hr.2⟩
  cases hv : (Value.slice A n c).ownBlock with
  | none => exact .inl rfl
  | some z => exact .inr (fun hx => ha _ (mem_of_get? h1) z hx.symm hv)
theorem RowsOwn.block_lt {w : World} {lo hi : Nat} {T : TypeId} {vs : List Value} {xss : List (List Int)} (h : RowsOwn w lo hi T vs xss) {v : Value} (hv : v ∈ vs) {z : Nat} (hz : v.ownBlock = some z) : z < hi := by
  obtain ⟨k, hk⟩ := List.mem_iff_getElem?.1 hv
  have hkl : k < xss.length := by have := (List.getElem?_eq_some_iff.1 hk).1; have := h.1; omega
  obtain ⟨A, n, c, rfl, hr⟩ := h.2.2 k v _ hk (List.getElem?_eq_getElem hkl)
  rcases A with _ | ad
  · simp [Value.ownBlock] at hz
  · have := hr.2 ad rfl; simp [Value.ownBlock] at hz; omega
theorem own_lit3 (w : World) (T : TypeId) (x y z : Int) {lo : Nat} (hlo : lo ≤ w.heap.size) : Own (w.alloc (.cells #[.int .i64 x, .int .i64 y, .int .i64 z] T)) lo (w.heap.size + 1) T (some ⟨w.heap.size, 0, none⟩) 3 3 ([x, y, z].map (Value.int .i64)) := by
  have h0 := World.ownsRow_lit (e := T) (base := lo) (size := 1) w #[.int .i64 x, .int .i64 y, .int .i64 z] 3 hlo (by simp only [maxLen]; omega) rfl
  have h1 := Own.of_row h0
  simpa using h1
end Go.Proofs.YtbioelmofceaaaaGreat
/- Ply -/
namespace Go.Proofs.YtbioelmofceaaaaGreat
open Go.RowKit
set_option linter.unusedVariables false
set_option maxRecDepth 100000
/-- a row that is being filled -/
def fillL (g : Nat → Int) (N k : Nat) : List Int := (List.range N).map fun f => if f < k then g f else 0
theorem fillL_length (g : Nat → Int) (N k : Nat) : (fillL g N k).length = N := by simp [fillL]
theorem fillL_zero (g : Nat → Int) (N : Nat) : fillL g N 0 = List.replicate N 0 := by
  apply List.ext_getElem
  · simp [fillL]
  · intro i h1 h2; simp [fillL]
theorem fillL_get (g : Nat → Int) {N k j : Nat} (h : j < N) : (fillL g N k)[j]? = some (if j < k then g j else 0) := by simp [fillL, h]
theorem fillL_set (g : Nat → Int) {N k : Nat} (h : k < N) : (fillL g N k).set k (g k) = fillL g N (k + 1) := by
  apply List.ext_getElem?
  intro i
  rw [List.getElem?_set]
  by_cases e : k = i
  · subst e
    rw [if_pos rfl, if_pos (by rw [fillL_length]; exact h), fillL_get g h, if_pos (by omega)]
  · rw [if_neg e]
    by_cases hi : i < N
    · rw [fillL_get g hi, fillL_get g hi]
      by_cases hk : i < k
      · rw [if_pos hk, if_pos (by omega)]
      · rw [if_neg hk, if_neg (by omega)]
    · rw [List.getElem?_eq_none (by rw [fillL_length]; omega), List.getElem?_eq_none (by rw [fillL_length]; omega)]
theorem fillL_full (g : Nat → Int) (N : Nat) : fillL g N N = (List.range N).map g := by
  unfold fillL
  apply List.map_congr_left
  intro j hj
  rw [if_pos (List.mem_range.1 hj)]
/-- the two rows of a polygon of N flags -/
def plyA (f : Nat) : Int := if f % 2 = 0 then (f : Int) + 1 else (f : Int) - 1
def plyB (N f : Nat) : Int := if f % 2 = 0 then (((f + N - 1) % N : Nat) : Int) else (((f + 1) % N : Nat) : Int)
theorem fun_perm {N : Nat} {g : Nat → Int} (hr : ∀ f, f < N → 0 ≤ g f ∧ g f < N) (hi : ∀ f h, f < N → h < N → g f = g h → f = h) : (∀ x ∈ (List.range N).map g, 0 ≤ x ∧ x < N) ∧ ((List.range N).map g).Nodup ∧ ((List.range N).map g).length = N := by
  refine ⟨?_, ?_, by simp⟩
  · intro x hx
    obtain ⟨f, hf, rfl⟩ := List.mem_map.1 hx
    exact hr f (List.mem_range.1 hf)
  · rw [List.nodup_iff_pairwise_ne, List.pairwise_map]
    refine List.Pairwise.imp_of_mem ?_ List.pairwise_lt_range
    intro a b ha hb hab e
    have := hi a b (List.mem_range.1 ha) (List.mem_range.1 hb) e
    omega
theorem mod_cases {a N : Nat} (hN : 0 < N) (h : a < 2 * N) : (a < N ∧ a % N = a) ∨ (N ≤ a ∧ a % N = a - N) := by
  rcases Nat.lt_or_ge a N with g | g
  · exact .inl ⟨g, Nat.mod_eq_of_lt g⟩
  · exact .inr ⟨g, by rw [Nat.mod_eq_sub_mod g, Nat.mod_eq_of_lt (by omega)]⟩
theorem ply_sys {k : Nat} (hk : 1 ≤ k) : SysOf [(List.range (2 * k)).map plyA, (List.range (2 * k)).map (plyB (2 * k))] (2 * k) := by
  intro p hp
  simp only [List.mem_cons, List.not_mem_nil, or_false] at hp
  rcases hp with rfl | rfl
  · refine fun_perm (fun f hf => ?_) (fun f h hf hh e => ?_)
    · unfold plyA
      by_cases g : f % 2 = 0
      · rw [if_pos g]; omega
      · rw [if_neg g]; omega
    · unfold plyA at e
      by_cases g : f % 2 = 0
      · rw [if_pos g] at e
        by_cases g2 : h % 2 = 0
        · rw [if_pos g2] at e; omega
        · rw [if_neg g2] at e; omega
      · rw [if_neg g] at e
        by_cases g2 : h % 2 = 0
        · rw [if_pos g2] at e; omega
        · rw [if_neg g2] at e; omega
  · refine fun_perm (fun f hf => ?_) (fun f h hf hh e => ?_)
    · unfold plyB
      have h1 := Nat.mod_lt (f + 2 * k - 1) (show 0 < 2 * k by omega)
      have h2 := Nat.mod_lt (f + 1) (show 0 < 2 * k by omega)
      by_cases g : f % 2 = 0
      · rw [if_pos g]; omega
      · rw [if_neg g]; omega
    · unfold plyB at e
      have a1 := mod_cases (a := f + 2 * k - 1) (N := 2 * k) (by omega) (by omega)
      have a2 := mod_cases (a := h + 2 * k - 1) (N := 2 * k) (by omega) (by omega)
      have a3 := mod_cases (a := f + 1) (N := 2 * k) (by omega) (by omega)
      have a4 := mod_cases (a := h + 1) (N := 2 * k) (by omega) (by omega)
      generalize (f + 2 * k - 1) % (2 * k) = u1 at *
      generalize (h + 2 * k - 1) % (2 * k) = u2 at *
      generalize (f + 1) % (2 * k) = u3 at *
      generalize (h + 1) % (2 * k) = u4 at *
      by_cases g : f % 2 = 0
      · rw [if_pos g] at e
        by_cases g2 : h % 2 = 0
        · rw [if_pos g2] at e; omega
        · rw [if_neg g2] at e; omega
      · rw [if_neg g] at e
        by_cases g2 : h % 2 = 0
        · rw [if_pos g2] at e; omega
        · rw [if_neg g2] at e; omega
theorem a2_0 (W : World) (a b : Obj) (N : Nat) (h : N = W.heap.size) : ((W.alloc a).alloc b).drew.heap[N]? = some a :=
  (Below.heap_alloc (W.alloc a) b N (by simp; omega)).trans (heap_new W a N h)
theorem a2_1 (W : World) (a b : Obj) (N : Nat) (h : N = W.heap.size) : ((W.alloc a).alloc b).drew.heap[N + 1]? = some b :=
  heap_new (W.alloc a) b (N + 1) (by simp; omega)
set_option maxHeartbeats 4000000 in
theorem l02Polygon_any (k : Nat) (hk : 1 ≤ k) (hk4 : 2 * k ≤ 400) (w : World) :
    Calls Tryz.prog 79 #[.int .i64 k] w fun e w' => ∃ (A1 : Option Addr) (c1 : Nat), e = .returned (.agg #[.slice A1 2 c1]) ∧ OwnS w' w.heap.size w'.heap.size 35 2 A1 2 c1 [(List.range (2 * k)).map plyA, (List.range (2 * k)).map (plyB (2 * k))] ∧ Below w.heap.size w w' := by
  obtain ⟨N, hN⟩ : ∃ N, 2 * k = N := ⟨_, rfl⟩
  rw [hN]
  have hk2 : (2 : Int) * (k : Int) = (N : Int) := by omega
  have mk1 := run_make_row' (P := Tryz.prog) 35 2 (.int .i64 0) 8 Tryz.underlying35 infoI rfl .i64 .i64 N (by omega) (by omega)
  go_enter Tryz.func79, Tryz.ntmps79
  go_wp2_with fail
  go_cut [4, 5] from 9 to 12 (fun s4 s5 wx => ∃ gA gB : Nat, s4 = .slice (some ⟨gA, 0, none⟩) N N ∧ s5 = .slice (some ⟨gB, 0, none⟩) N N ∧ gA ≠ gB ∧ w.heap.size + 1 ≤ gA ∧ w.heap.size + 1 ≤ gB ∧ Own wx gA (gA + 1) 2 (some ⟨gA, 0, none⟩) N N ((List.replicate N 0).map (Value.int .i64)) ∧ Own wx gB (gB + 1) 2 (some ⟨gB, 0, none⟩) N N ((List.replicate N 0).map (Value.int .i64)) ∧
    wx.heap[w.heap.size]? = some (.cells #[.slice none 0 0] 26 (0, 0)) ∧ Below w.heap.size w wx ∧ wx.heap.size = w.heap.size + 3)
  case first =>
    obtain ⟨W1, hW⟩ : ∃ W1 : World, w.alloc (.cells #[.slice none 0 0] 26) = W1 := ⟨_, rfl⟩
    have hz1 : W1.heap.size = w.heap.size + 1 := by rw [← hW]; simp
    have hB1 : Below w.heap.size w W1 := by rw [← hW]; exact (Below.refl _ _).alloc (Nat.le_refl _) _
    have p0 : W1.heap[w.heap.size]? = some (.cells #[.slice none 0 0] 26 (0, 0)) := by rw [← hW]; exact heap_new _ _ _ rfl
    rw [hW]
    clear hW
    go_region
    all_goals (go_wp2_with fail; go_meet)
    all_goals
      have hNN : w.heap.size + 1 = W1.heap.size := hz1.symm
      have hbb : ∀ a b : Obj, Below w.heap.size w ((W1.alloc a).alloc b).drew := fun a b => below_drew ((hB1.alloc (by omega) _).alloc (by simp; omega) _)
      have hpp : ∀ a b : Obj, ((W1.alloc a).alloc b).drew.heap[w.heap.size]? = some (.cells #[.slice none 0 0] 26 (0, 0)) := fun a b => ((Below.heap_alloc (W1.alloc a) b _ (by simp; omega)).trans (Below.heap_alloc W1 a _ (by omega))).trans p0
      have hml : N ≤ maxLen := by simp only [maxLen]; omega
      have q0 : ∀ b : Obj, Own ((W1.alloc (.cells (madeCells #[.int .i64 0] N) 2)).alloc b).drew (w.heap.size + 1) (w.heap.size + 1 + 1) 2 (some ⟨w.heap.size + 1, 0, none⟩) N N ((List.replicate N 0).map (Value.int .i64)) := fun b => ⟨by simpa using made_own rfl (a2_0 _ _ _ _ hNN) (Nat.le_refl _) hml, fun ad e => by injection e with e; subst e; simp⟩
      have q1 : ∀ a : Obj, Own ((W1.alloc a).alloc (.cells (madeCells #[.int .i64 0] N) 2)).drew (w.heap.size + 1 + 1) (w.heap.size + 1 + 1 + 1) 2 (some ⟨w.heap.size + 1 + 1, 0, none⟩) N N ((List.replicate N 0).map (Value.int .i64)) := fun b => ⟨by simpa using made_own rfl (a2_1 _ _ _ _ hNN) (Nat.le_refl _) hml, fun ad e => by injection e with e; subst e; simp⟩
      first
        | exact ⟨w.heap.size + 1, w.heap.size + 1 + 1, rfl, rfl, by omega, by omega, by omega, q0 _, q1 _, hpp _ _, hbb _ _, by simp; omega⟩
        | exact ⟨w.heap.size + 1 + 1, w.heap.size + 1, rfl, rfl, by omega, by omega, by omega, q1 _, q0 _, hpp _ _, hbb _ _, by simp; omega⟩
        | trace_state
  case rest =>
    obtain ⟨gA, gB, rfl, rfl, hAB, hA1, hB1, oA, oB, hO, hb, hsz⟩ := hcut
    clear mk1
    replace hO := Lib.hid hO
    go_wp2_with fail
    go_loopw [6] (fun fv wq => ∃ f : Nat, f ≤ N ∧ fv = .int .i64 f ∧ Hid (wq.heap[w.heap.size]? = some (.cells #[.slice none 0 0] 26 (0, 0))) ∧ Own wq gA (gA + 1) 2 (some ⟨gA, 0, none⟩) N N ((fillL plyA N f).map (Value.int .i64)) ∧ Own wq gB (gB + 1) 2 (some ⟨gB, 0, none⟩) N N ((fillL (plyB N) N f).map (Value.int .i64)) ∧ Below w.heap.size w wq ∧ wq.heap.size = w.heap.size + 3) (fun fv _ => N - (intOf fv).toNat)
    case atStart => exact ⟨0, by omega, rfl, hO, by rw [fillL_zero]; exact oA, by rw [fillL_zero]; exact oB, hb, hsz⟩
    case round =>
      clear oA oB hO hb hsz
      obtain ⟨f, hf, rfl, hO, oA, oB, hb, hsz⟩ := hrel
      by_cases hlt : f < N
      · have hcA := oA.cellI (fillL_get plyA hlt)
        have hcB := oB.cellI (fillL_get (plyB N) hlt)
        rw [if_neg (by omega)] at hcA hcB
        have hfA := oA.frz f
        have hfB := oB.frz f
        have hsA := fillL_set plyA hlt
        have hsB := fillL_set (plyB N) hlt
        have hpos : (0 : Int) < (N : Int) := by omega
        have hN0 : ¬ N = 0 := by omega
        have hcB2 : ∀ u, (wr.setCell ⟨gA, f, none⟩ u).cell? ⟨gB, f, none⟩ = some (.int .i64 0) := fun u => (cell_far_set _ _ _ _ (by simp; omega)).trans hcB
        by_cases he : f % 2 = 0
        · have hi0 : ¬ f % 2 = 1 := by omega
          have htm : Int.tmod (f : Int) 2 = ((f % 2 : Nat) : Int) := rfl
          rw [he] at htm
          have hpa : plyA f = (f : Int) + 1 := by unfold plyA; rw [if_pos he]
          obtain ⟨r, hrr, htb⟩ : ∃ r : Nat, plyB N f = (r : Int) ∧ Int.tmod ((f : Int) + (N : Int) - 1) (N : Int) = (r : Int) := ⟨(f + N - 1) % N, by unfold plyB; rw [if_pos he], by rw [show ((f : Int) + (N : Int) - 1 : Int) = (((f + N - 1) : Nat) : Int) by omega]; rfl⟩
          rw [hpa] at hsA
          rw [hrr] at hsB
          replace hsA := Lib.hid hsA
          replace hsB := Lib.hid hsB
          replace hpa := Lib.hid hpa
          replace hrr := Lib.hid hrr
          go_wp2_with fail
          go_roundw
          case measure => simp [intOf]; omega
          case rel =>
            refine ⟨f + 1, by omega, by go_num, Lib.hid ?_, ?_, ?_, (hb.setCell (by simp; omega) _).setCell (by simp; omega) _, by simp; omega⟩
            · exact ((Below.heap_setCell _ _ _ _ (by simp; omega)).trans (Below.heap_setCell _ _ _ _ (by simp; omega))).trans hO.out
            · rw [← hsA.out]
              exact (oA.setI _).far (by simp; omega) _
            · rw [← hsB.out]
              exact (oB.far (by simp; omega) _).setI _
        · have he1 : f % 2 = 1 := by omega
          have htm : Int.tmod (f : Int) 2 = ((f % 2 : Nat) : Int) := rfl
          rw [he1] at htm
          have hpa : plyA f = (f : Int) - 1 := by unfold plyA; rw [if_neg he]
          obtain ⟨r, hrr, htb⟩ : ∃ r : Nat, plyB N f = (r : Int) ∧ Int.tmod ((f : Int) + 1) (N : Int) = (r : Int) := ⟨(f + 1) % N, by unfold plyB; rw [if_neg he], by rw [show ((f : Int) + 1 : Int) = (((f + 1) : Nat) : Int) by omega]; rfl⟩
          rw [hpa] at hsA
          rw [hrr] at hsB
          replace hsA := Lib.hid hsA
          replace hsB := Lib.hid hsB
          replace hpa := Lib.hid hpa
          replace hrr := Lib.hid hrr
          go_wp2_with fail
          go_roundw
          case measure => simp [intOf]; omega
          case rel =>
            refine ⟨f + 1, by omega, by go_num, Lib.hid ?_, ?_, ?_, (hb.setCell (by simp; omega) _).setCell (by simp; omega) _, by simp; omega⟩
            · exact ((Below.heap_setCell _ _ _ _ (by simp; omega)).trans (Below.heap_setCell _ _ _ _ (by simp; omega))).trans hO.out
            · rw [← hsA.out]
              exact (oA.setI _).far (by simp; omega) _
            · rw [← hsB.out]
              exact (oB.far (by simp; omega) _).setI _
      · have hfN : f = N := by omega
        subst hfN
        rw [fillL_full] at oA oB
        have C1 : wr.cell? ⟨w.heap.size, 0, none⟩ = some (.slice none 0 0) := by rw [cell_of_row _ _ _ _ _ _ hO.out]; rfl
        have F1 : wr.frozen? ⟨w.heap.size, 0, none⟩ = false := frozen_of_row _ _ _ _ _ hO.out
        go_wp2_with fail
        have zw : (wr.setCell ⟨w.heap.size, 0, none⟩ (.slice (some ⟨w.heap.size + 3, 0, none⟩) 2 2)).heap.size = w.heap.size + 3 := by simp; omega
        have h0 := World.ownsRow_lit (e := 35) (base := w.heap.size) (size := 1) (wr.setCell ⟨w.heap.size, 0, none⟩ (.slice (some ⟨w.heap.size + 3, 0, none⟩) 2 2)) #[.slice (some ⟨gA, 0, none⟩) f f, .slice (some ⟨gB, 0, none⟩) f f] 2 (by rw [zw]; omega) (by simp only [maxLen]; omega) rfl
        rw [zw] at h0
        have oA2 := (oA.keep (same_set wr ⟨w.heap.size, 0, none⟩ (.slice (some ⟨w.heap.size + 3, 0, none⟩) 2 2) _ _ (.inl (by simp; omega)))).keep (same_alloc _ (.cells #[.slice (some ⟨gA, 0, none⟩) f f, .slice (some ⟨gB, 0, none⟩) f f] 35) _ _ (by rw [zw]; have := oA.1.lt gA (by simp [Value.ownBlock]); omega))
        have oB2 := (oB.keep (same_set wr ⟨w.heap.size, 0, none⟩ (.slice (some ⟨w.heap.size + 3, 0, none⟩) 2 2) _ _ (.inl (by simp; omega)))).keep (same_alloc _ (.cells #[.slice (some ⟨gA, 0, none⟩) f f, .slice (some ⟨gB, 0, none⟩) f f] 35) _ _ (by rw [zw]; have := oB.1.lt gB (by simp [Value.ownBlock]); omega))
        have lA := oA.1.lt gA (by simp [Value.ownBlock])
        have lB := oB.1.lt gB (by simp [Value.ownBlock])
        have g1 := heap_setCell_same _ _ 0 _ _ (Value.slice (some ⟨w.heap.size + 3, 0, none⟩) 2 2) hO.out
        have g2 := (Below.heap_alloc (wr.setCell ⟨w.heap.size, 0, none⟩ (.slice (some ⟨w.heap.size + 3, 0, none⟩) 2 2)) (.cells #[.slice (some ⟨gA, 0, none⟩) f f, .slice (some ⟨gB, 0, none⟩) f f] 35) w.heap.size (by rw [zw]; omega)).trans g1
        (try simp only [Exit.inBlock, Exit.then])
        refine bodyPost_ret (v := .agg #[.slice (some ⟨w.heap.size + 3, 0, none⟩) 2 2]) ?_ rfl ?_
        · exact results_cell_row rfl _ _ w.heap.size 26 #[.slice (some ⟨w.heap.size + 3, 0, none⟩) 2 2] (0, 0) _ rfl (by simpa using g2) Tryz.underlying26 rfl (by kernel_rfl)
        · refine ⟨_, 2, rfl, ⟨[.slice (some ⟨gA, 0, none⟩) f f, .slice (some ⟨gB, 0, none⟩) f f], ⟨h0, fun ad e => by injection e with e; subst e; simp; omega⟩, by simp, ?_, ?_⟩, (hb.setCell (by simp) _).alloc (by rw [zw]; omega) _⟩
          · simp only [List.pairwise_cons, List.mem_singleton, forall_eq, List.not_mem_nil, false_implies, implies_true, List.Pairwise.nil, and_true]
            intro g e1 e2
            simp [Value.ownBlock] at e1 e2
            omega
          · intro j v xs h1 h2
            match j, h1, h2 with
            | 0, h1, h2 =>
              simp at h1 h2
              subst h1; subst h2
              exact ⟨_, _, _, rfl, oA2.more (by omega) (by simp; omega)⟩
            | 1, h1, h2 =>
              simp at h1 h2
              subst h1; subst h2
              exact ⟨_, _, _, rfl, oB2.more (by omega) (by simp; omega)⟩
            | j + 2, h1, h2 => simp at h1
end Go.Proofs.YtbioelmofceaaaaGreat
/- LcgP -/
namespace Go.Proofs.YtbioelmofceaaaaGreat
set_option linter.unusedVariables false
set_option maxRecDepth 100000
def lcgA : Nat := 6364136223846793005
def lcgC : Nat := 1442695040888963407
def lcg (h : Nat) : Nat := (h * lcgA + lcgC) % 18446744073709551616
def lcgN : Nat → Nat → Nat
  | 0, h => h
  | d + 1, h => lcg (lcgN d h)
/-- 1 + a + .. + a^(d-1) -/
def geo : Nat → Nat
  | 0 => 0
  | d + 1 => lcgA * geo d + 1
theorem geo_pow (d : Nat) : (lcgA - 1) * geo d + 1 = lcgA ^ d := by
  induction d with
  | zero => rfl
  | succ d ih =>
    rw [Nat.pow_succ, ← ih]
    have : lcgA = (lcgA - 1) + 1 := rfl
    generalize lcgA - 1 = b at *
    rw [show geo (d + 1) = lcgA * geo d + 1 from rfl, this]
    generalize geo d = g
    rw [Nat.mul_add, Nat.add_mul, Nat.add_mul, Nat.mul_add, Nat.mul_add]
    simp only [Nat.one_mul, Nat.mul_one]
    rw [Nat.mul_comm (b * g) b, ]
    omega
theorem geo_add (d e : Nat) : geo (d + e) = lcgA ^ e * geo d + geo e := by
  induction e with
  | zero => simp [geo]
  | succ e ih =>
    rw [show d + (e + 1) = (d + e) + 1 by omega, show geo (d + e + 1) = lcgA * geo (d + e) + 1 from rfl, ih, show geo (e + 1) = lcgA * geo e + 1 from rfl, Nat.pow_succ, Nat.mul_add]
    rw [← Nat.mul_assoc, Nat.mul_comm lcgA (lcgA ^ e)]
    omega
theorem geo_double (e : Nat) : geo (2 * e) = geo e * (lcgA ^ e + 1) := by
  rw [show 2 * e = e + e by omega, geo_add, Nat.mul_add, Nat.mul_one, Nat.mul_comm]
theorem pow_mod4 (e : Nat) : lcgA ^ e % 4 = 1 := by
  induction e with
  | zero => rfl
  | succ e ih => rw [Nat.pow_succ, Nat.mul_mod, ih]; rfl
theorem geo_mod2 (d : Nat) : geo d % 2 = d % 2 := by
  induction d with
  | zero => rfl
  | succ d ih =>
    rw [show geo (d + 1) = lcgA * geo d + 1 from rfl]
    have : lcgA % 2 = 1 := rfl
    have h2 : (lcgA * geo d) % 2 = geo d % 2 := by rw [Nat.mul_mod, this, Nat.one_mul, Nat.mod_mod]
    omega
theorem dvd_odd (k x y : Nat) (hy : y % 2 = 1) (h : 2 ^ k ∣ x * y) : 2 ^ k ∣ x := by
  have hc : Nat.Coprime (2 ^ k) y := by
    apply Nat.Coprime.pow_left
    unfold Nat.Coprime
    have h1 : Nat.gcd 2 y ∣ 2 := Nat.gcd_dvd_left 2 y
    have h2 : Nat.gcd 2 y ∣ y := Nat.gcd_dvd_right 2 y
    have h3 : Nat.gcd 2 y ≤ 2 := Nat.le_of_dvd (by omega) h1
    have h4 : Nat.gcd 2 y ≠ 0 := fun e => by rw [e] at h1; simp at h1
    have h5 : Nat.gcd 2 y ≠ 2 := fun e => by rw [e] at h2; omega
    omega
  exact hc.dvd_of_dvd_mul_right h
theorem geo_dvd : ∀ (k d : Nat), 2 ^ k ∣ geo d → 2 ^ k ∣ d := by
  intro k
  induction k with
  | zero => intro d _; exact ⟨d, by simp⟩
  | succ k ih =>
    intro d h
    have h2 : 2 ∣ geo d := Nat.dvd_trans ⟨2 ^ k, by rw [Nat.pow_succ, Nat.mul_comm]⟩ h
    have hd : d % 2 = 0 := by rw [← geo_mod2]; omega
    obtain ⟨e, rfl⟩ : ∃ e, d = 2 * e := ⟨d / 2, by omega⟩
    rw [geo_double] at h
    have hm := pow_mod4 e
    obtain ⟨q, hq⟩ : ∃ q, lcgA ^ e + 1 = 2 * q ∧ q % 2 = 1 := ⟨(lcgA ^ e + 1) / 2, by omega, by omega⟩
    rw [hq.1] at h
    obtain ⟨t, ht⟩ := h
    have h3 : 2 ^ k ∣ geo e * q := ⟨t, by
      have : 2 * (geo e * q) = 2 * (2 ^ k * t) := by
        rw [show 2 * (geo e * q) = geo e * (2 * q) by rw [Nat.mul_left_comm], ht, Nat.pow_succ, Nat.mul_comm (2 ^ k) 2, Nat.mul_assoc]
      omega⟩
    obtain ⟨s, hs⟩ := ih e (dvd_odd k _ _ hq.2 h3)
    exact ⟨s, by rw [hs, Nat.pow_succ, Nat.mul_comm (2 ^ k) 2, Nat.mul_assoc]⟩
theorem lcg_lt (h : Nat) : lcg h < 18446744073709551616 := Nat.mod_lt _ (by omega)
theorem lcgN_lt {h : Nat} (hh : h < 18446744073709551616) (d : Nat) : lcgN d h < 18446744073709551616 := by
  cases d with
  | zero => exact hh
  | succ d => exact lcg_lt _
theorem lcgN_succ (d h : Nat) : lcgN (d + 1) h = lcg (lcgN d h) := rfl
theorem geo_succ (d : Nat) : geo (d + 1) = lcgA * geo d + 1 := rfl
theorem lin_mod (a c x y M : Nat) (hx : x = y % M) : (x * a + c) % M = (y * a + c) % M := by
  subst hx
  rw [Nat.add_mod, Nat.mul_mod, Nat.mod_mod, ← Nat.mul_mod, ← Nat.add_mod]
theorem lcgN_eq (d h : Nat) (hh : h < 18446744073709551616) : lcgN d h = (lcgA ^ d * h + lcgC * geo d) % 18446744073709551616 := by
  induction d with
  | zero => simp [lcgN, geo, Nat.mod_eq_of_lt hh]
  | succ d ih =>
    rw [lcgN_succ, geo_succ, Nat.pow_succ]
    unfold lcg
    generalize 18446744073709551616 = M at *
    generalize lcgA ^ d = p at *
    generalize geo d = g at *
    generalize lcgA = a at *
    generalize lcgC = c at *
    rw [lin_mod a c _ _ M ih]
    congr 1
    rw [Nat.mul_add, Nat.mul_one, Nat.add_mul, Nat.mul_right_comm, Nat.mul_assoc c, Nat.mul_comm g a]
    omega
theorem lcgN_add (d e h : Nat) : lcgN (d + e) h = lcgN d (lcgN e h) := by
  induction d with
  | zero => simp [lcgN]
  | succ d ih => rw [show d + 1 + e = (d + e) + 1 by omega]; show lcg (lcgN (d + e) h) = lcg (lcgN d (lcgN e h)); rw [ih]
theorem lcgN_back {d h : Nat} (hh : h < 18446744073709551616) (e : lcgN d h = h) : 18446744073709551616 ∣ d := by
  rw [lcgN_eq d h hh, ← geo_pow d] at e
  have h1 : ((lcgA - 1) * geo d + 1) * h + lcgC * geo d = geo d * ((lcgA - 1) * h + lcgC) + h := by
    rw [Nat.add_mul, Nat.one_mul, Nat.mul_add, Nat.mul_comm lcgC, Nat.mul_comm (lcgA - 1) (geo d), Nat.mul_assoc]
    omega
  rw [h1] at e
  have hd : 18446744073709551616 ∣ geo d * ((lcgA - 1) * h + lcgC) := by
    generalize geo d * ((lcgA - 1) * h + lcgC) = t at *
    have := Nat.div_add_mod (t + h) 18446744073709551616
    rw [e] at this
    exact ⟨(t + h) / 18446744073709551616, by omega⟩
  have ho : ((lcgA - 1) * h + lcgC) % 2 = 1 := by
    rw [Nat.add_mod, Nat.mul_mod, show (lcgA - 1) % 2 = 0 from rfl, show lcgC % 2 = 1 from rfl]
    simp
  have := geo_dvd 64 d (by exact dvd_odd 64 _ _ ho (by exact hd))
  exact this
/-- of two times less than 2^64 steps apart -/
theorem lcgN_inj {h a b : Nat} (hh : h < 18446744073709551616) (hab : a < b) (hb : b - a < 18446744073709551616) : lcgN a h ≠ lcgN b h := by
  intro e
  have e2 : lcgN (b - a) (lcgN a h) = lcgN a h := by rw [← lcgN_add, Nat.sub_add_cancel (by omega)]; exact e.symm
  obtain ⟨t, ht⟩ := lcgN_back (lcgN_lt hh a) e2
  rcases t with _ | t
  · omega
  · have : 18446744073709551616 ≤ 18446744073709551616 * (t + 1) := Nat.le_mul_of_pos_right _ (by omega)
    omega
theorem lcg_mod2 (h : Nat) : lcg h % 2 = (h + 1) % 2 := by
  unfold lcg
  have h1 : (h * lcgA + lcgC) % 18446744073709551616 % 2 = (h * lcgA + lcgC) % 2 := Nat.mod_mod_of_dvd _ (by decide)
  rw [h1, Nat.add_mod, Nat.mul_mod, show lcgA % 2 = 1 from rfl, show lcgC % 2 = 1 from rfl]
  omega
theorem lcgN_mod2 (d h : Nat) : lcgN d h % 2 = (h + d) % 2 := by
  induction d with
  | zero => rfl
  | succ d ih => show lcg (lcgN d h) % 2 = _; rw [lcg_mod2]; omega
/-- what a state hands out -/
def lcgX (h : Nat) : Nat := h / 8589934592 % 16777216
/-- a number of its own for each state with a parity that hands out a multiple of three -/
def lcgCode (h : Nat) : Nat := lcgX h / 3 * 549755813888 + (h / 8589934592 / 16777216 * 4294967296 + h % 8589934592 / 2)
theorem lcgCode_lt {h : Nat} (hh : h < 18446744073709551616) : lcgCode h < 5592406 * 549755813888 := by unfold lcgCode lcgX; omega
theorem lcgCode_inj {h g : Nat} (hh : h < 18446744073709551616) (hg : g < 18446744073709551616) (hp : h % 2 = g % 2) (h3 : lcgX h % 3 = 0) (g3 : lcgX g % 3 = 0) (e : lcgCode h = lcgCode g) : h = g := by
  unfold lcgCode lcgX at *
  omega
theorem nodup_lt : ∀ (N : Nat) {l : List Nat}, l.Nodup → (∀ x ∈ l, x < N) → l.length ≤ N := by
  intro N
  induction N with
  | zero =>
    intro l _ h
    cases l with
    | nil => simp
    | cons a l => have := h a (by simp); omega
  | succ N ih =>
    intro l hn h
    by_cases hm : N ∈ l
    · have h1 := ih (hn.erase N) (fun x hx => by
        have h2 := (hn.mem_erase_iff).1 hx
        have := h x h2.2
        have := h2.1
        omega)
      rw [List.length_erase_of_mem hm] at h1
      omega
    · have := ih hn (fun x hx => by
        have h1 := h x hx
        have h2 : x ≠ N := fun e => hm (e ▸ hx)
        omega)
      omega
end Go.Proofs.YtbioelmofceaaaaGreat
/- Drw -/
namespace Go.Proofs.YtbioelmofceaaaaGreat
open Go.RowKit
set_option linter.unusedVariables false
set_option maxRecDepth 100000

/-- The source at block g: the code (a slice of bytes below lo), how many of its bytes are used, the state. -/
structure Src (w : World) (lo g : Nat) (T : TypeId) (A : Option Addr) (n c : Nat) (bs : List Int) (i h : Nat) : Prop where
  blk : w.heap[g]? = some (.cells #[.slice A n c, .int .i64 i, .int .u64 h] T (0, 0))
  above : lo ≤ g
  code : Rd w 0 lo A n (bs.map (Value.int .u8))
  byte : ∀ x ∈ bs, 0 ≤ x ∧ x < 256
  le : i ≤ n
  st : h < 18446744073709551616

section
variable {w w' : World} {lo g : Nat} {T : TypeId} {A : Option Addr} {n c : Nat} {bs : List Int} {i h : Nat}
theorem Src.cell0 (s : Src w lo g T A n c bs i h) : w.cell? ⟨g, 0, none⟩ = some (.slice A n c) := by simp [World.cell?, s.blk]
theorem Src.cell1 (s : Src w lo g T A n c bs i h) : w.cell? ⟨g, 1, none⟩ = some (.int .i64 i) := by simp [World.cell?, s.blk]
theorem Src.cell2 (s : Src w lo g T A n c bs i h) : w.cell? ⟨g, 2, none⟩ = some (.int .u64 h) := by simp [World.cell?, s.blk]
theorem Src.frozen (s : Src w lo g T A n c bs i h) (k : Nat) : w.frozen? ⟨g, k, none⟩ = false := by simp [World.frozen?, s.blk]
theorem Src.lt (s : Src w lo g T A n c bs i h) : g < w.heap.size := (Array.getElem?_eq_some_iff.1 s.blk).1
theorem Src.below {B : Nat} (s : Src w lo g T A n c bs i h) (hb : Below B w w') (hB : g < B) : Src w' lo g T A n c bs i h :=
  ⟨(hb.block g hB).trans s.blk, s.above, s.code.below hb (by have := s.above; omega), s.byte, s.le, s.st⟩
theorem Src.setH (s : Src w lo g T A n c bs i h) {H : Nat} (hH : H < 18446744073709551616) : Src (w.setCell ⟨g, 2, none⟩ (.int .u64 H)) lo g T A n c bs i H := by
  refine ⟨?_, s.above, s.code.keep fun k _ hk => Below.heap_setCell _ _ _ _ (by have := s.above; simp; omega), s.byte, s.le, hH⟩
  exact heap_setCell_same _ _ _ _ _ _ s.blk
theorem Src.setI (s : Src w lo g T A n c bs i h) {I : Nat} (hI : I ≤ n) : Src (w.setCell ⟨g, 1, none⟩ (.int .i64 I)) lo g T A n c bs I h := by
  refine ⟨?_, s.above, s.code.keep fun k _ hk => Below.heap_setCell _ _ _ _ (by have := s.above; simp; omega), s.byte, hI, s.st⟩
  exact heap_setCell_same _ _ _ _ _ _ s.blk
theorem Src.byteAt (s : Src w lo g T A n c bs i h) (hi : i < n) : ∃ b o y, A = some ⟨b, o, none⟩ ∧ b < lo ∧ w.cell? ⟨b, o + i, none⟩ = some (.int .u8 y) ∧ 0 ≤ y ∧ y < 256 := by
  obtain ⟨b, o, v, e, _, h2, hv, hc⟩ := s.code.at_ hi
  simp only [List.getElem?_map, Option.map_eq_some_iff] at hv
  obtain ⟨y, hy, rfl⟩ := hv
  have := s.byte y (List.mem_of_getElem? hy)
  exact ⟨b, o, y, e, h2, hc, this.1, this.2⟩
theorem lcg_wrap (h : Nat) (u : Nat) (hu : (h * 6364136223846793005) % 18446744073709551616 = u) :
    IntKind.u64.wrap ((h : Int) * 6364136223846793005) = (u : Int) ∧ IntKind.u64.wrap ((u : Int) + 1442695040888963407) = ((lcg h : Nat) : Int) := by
  rw [IntKind.wrap_u64, IntKind.wrap_u64]
  unfold lcg lcgA lcgC
  exact ⟨by omega, by omega⟩
theorem lcg_bits (H : Nat) (hH : H < 18446744073709551616) : bits BinOp.and IntKind.u64 ((H : Int) / 8589934592) 16777215 = ((H / 8589934592 % 16777216 : Nat) : Int) := by
  have e := bits_and_u64_nat (H / 8589934592) 16777215 (by omega) (by omega)
  rw [show ((H : Int) / 8589934592) = ((H / 8589934592 : Nat) : Int) by simp]
  refine e.trans ?_
  rw [show (16777215 : Nat) = 2 ^ 24 - 1 by rfl, Nat.and_two_pow_sub_one_eq_mod]
theorem Src.drewN (s : Src w lo g T A n c bs i h) (k : Nat) : Src (w.drewN k) lo g T A n c bs i h := ⟨s.blk, s.above, s.code, s.byte, s.le, s.st⟩
theorem Chg.drewN {lo hi : Nat} {a w : World} (h : Chg lo hi a w) (k : Nat) : Chg lo hi a (w.drewN k) := ⟨h.os, h.tape, h.output, h.size, h.block⟩
/-- what l01Next leaves: a number below x, the source with its next state -/
structure NextP (w w' : World) (lo g : Nat) (T : TypeId) (A : Option Addr) (n c : Nat) (bs : List Int) (i H q : Nat) (x v : Int) (i' : Nat) : Prop where
  ge : 0 ≤ v
  lt : v < x
  src : Src w' lo g T A n c bs i' H
  chg : Chg g (g + 1) w w'
  size : w'.heap.size = w.heap.size
  step : i < n → i' = i + 1
  done : ¬ i < n → i' = i ∧ v = (q : Int) % x
end
theorem next_core (w : World) (lo g : Nat) (A : Option Addr) (n c : Nat) (bs : List Int) (i h H u q : Nat) (s : Src w lo g 74 A n c bs i h) (x : Int) (h1 : 1 ≤ x) (hx : x ≤ 1099511627776)
    (e1 : IntKind.u64.wrap ((h : Int) * 6364136223846793005) = (u : Int)) (e2 : IntKind.u64.wrap ((u : Int) + 1442695040888963407) = (H : Int)) (e3 : bits BinOp.and IntKind.u64 ((H : Int) / 8589934592) 16777215 = (q : Int)) (hH : H < 18446744073709551616) (hq2 : q < 16777216) :
    Calls Tryz.prog 44 #[.pointer (some ⟨g, 0, none⟩), .int .i64 x] w fun e w' => ∃ (v : Int) (i' : Nat), e = .returned (.int .i64 v) ∧ NextP w w' lo g 74 A n c bs i H q x v i' := by
  have hst := s.st
  have c2 := s.cell2
  have f2 := s.frozen 2
  have s1 := s.setH hH
  have d0 := s1.cell0
  have d1 := s1.cell1
  have d2 := s1.cell2
  have g1 := s1.frozen 1
  have hn := s.code.2.1
  have hin := s.le
  have hB1 : Chg g (g + 1) w (w.setCell ⟨g, 2, none⟩ (.int .u64 H)) := (Chg.refl _ _ _).setCell (by simp) (by simp) _
  by_cases hlt : i < n
  · obtain ⟨b, o, y, rfl, hb, hy, y0, y1⟩ := s1.byteAt hlt
    have hd : decide ((i : Int) < (n : Int)) = true := by simp; omega
    have k1 : (0 : Int) ≤ (i : Int) := by omega
    have k2 : (i : Int) < (n : Int) := by omega
    go_enter Tryz.func44, Tryz.ntmps44
    go_wp2_with fail
    go_quiet (fail)
    go_wp2_with fail
    go_quiet (fail)
    go_wp2_with fail
    go_ret
    refine ⟨((q : Int) + y) % x, i + 1, rfl, ?_⟩
    constructor
    · exact Int.emod_nonneg _ (by omega)
    · exact Int.emod_lt_of_pos _ (by omega)
    · exact (s1.drewN _).setI (I := i + 1) hlt
    · exact (hB1.drewN _).setCell (by simp) (by simp) _
    · simp
    · exact fun _ => rfl
    · exact fun hh => absurd hlt hh
  · have hd : decide ((i : Int) < (n : Int)) = false := by simp; omega
    go_enter Tryz.func44, Tryz.ntmps44
    go_wp2_with fail
    go_quiet (fail)
    go_wp2_with fail
    go_ret
    refine ⟨(q : Int) % x, i, rfl, ?_⟩
    constructor
    · exact Int.emod_nonneg _ (by omega)
    · exact Int.emod_lt_of_pos _ (by omega)
    · exact s1.drewN _
    · exact hB1.drewN _
    · simp
    · exact fun hh => absurd hh hlt
    · exact fun _ => ⟨rfl, rfl⟩
theorem next_any (w : World) (lo g : Nat) (A : Option Addr) (n c : Nat) (bs : List Int) (i h : Nat) (s : Src w lo g 74 A n c bs i h) (x : Int) (h1 : 1 ≤ x) (hx : x ≤ 1099511627776) :
    Calls Tryz.prog 44 #[.pointer (some ⟨g, 0, none⟩), .int .i64 x] w fun e w' => ∃ (v : Int) (i' : Nat), e = .returned (.int .i64 v) ∧ NextP w w' lo g 74 A n c bs i (lcg h) (lcg h / 8589934592 % 16777216) x v i' := by
  obtain ⟨u, hu⟩ : ∃ u, (h * 6364136223846793005) % 18446744073709551616 = u := ⟨_, rfl⟩
  obtain ⟨e1, e2⟩ := lcg_wrap h u hu
  have hH : lcg h < 18446744073709551616 := by unfold lcg; omega
  exact next_core w lo g A n c bs i h (lcg h) u _ s x h1 hx e1 e2 (lcg_bits (lcg h) hH) hH (by omega)
/-- below 1: it returns 0 and the source stays -/
theorem next_zero (w : World) (g : Nat) (x : Int) (hx : x < 1) :
    Calls Tryz.prog 44 #[.pointer (some ⟨g, 0, none⟩), .int .i64 x] w fun e w' => e = .returned (.int .i64 0) ∧ w = w' := by
  go_enter Tryz.func44, Tryz.ntmps44
  go_wp2_with fail
  go_ret
  exact ⟨rfl, rfl⟩
end Go.Proofs.YtbioelmofceaaaaGreat
/- DrwF -/
namespace Go.Proofs.YtbioelmofceaaaaGreat
open Go.RowKit
set_option linter.unusedVariables false
set_option maxRecDepth 100000
theorem u64_nat (z : Int) : ∃ H : Nat, H < 18446744073709551616 ∧ IntKind.u64.wrap z = (H : Int) := by
  rw [IntKind.wrap_u64]
  exact ⟨(z % 18446744073709551616).toNat, by omega, by omega⟩
theorem heap_newest (w : World) (o : Obj) : (w.alloc o).heap[w.heap.size]? = some o := by unfold World.alloc; exact Array.getElem?_push_size
theorem Src.drew {w : World} {lo g : Nat} {T : TypeId} {A : Option Addr} {n c : Nat} {bs : List Int} {i h : Nat} (s : Src w lo g T A n c bs i h) : Src w.drew lo g T A n c bs i h := ⟨s.blk, s.above, s.code, s.byte, s.le, s.st⟩
theorem from_any (w : World) (A : Option Addr) (n c : Nat) (bs : List Int) (h : Rd w 0 w.heap.size A n (bs.map (Value.int .u8))) (hb : ∀ x ∈ bs, 0 ≤ x ∧ x < 256) (hn : n ≤ 1048576) :
    Calls Tryz.prog 24 #[.slice A n c] w fun e w' => ∃ H : Nat, e = .returned (.pointer (some ⟨w.heap.size, 0, none⟩)) ∧ Src w' w.heap.size w.heap.size 74 A n c bs 0 H ∧ Below w.heap.size w w' := by
  have hsrc : Src (w.alloc (.cells #[.slice A n c, .int .i64 0, .int .u64 ((8191 + n : Nat) : Int)] 74)) w.heap.size w.heap.size 74 A n c bs 0 (8191 + n) :=
    ⟨heap_newest w _, Nat.le_refl _, h.below ((Below.refl _ _).alloc (Nat.le_refl _) _) (Nat.le_refl _), hb, Nat.zero_le _, by omega⟩
  have e0 : IntKind.u64.wrap (8191 + (n : Int)) = ((8191 + n : Nat) : Int) := by rw [IntKind.wrap_u64]; omega
  replace hsrc := Lib.hid hsrc
  replace hb := Lib.hid hb
  go_enter Tryz.func24, Tryz.ntmps24
  go_wp2_with fail
  go_loopw [4] (fun iv wr => ∃ (k H : Nat), iv = .int .i64 k ∧ k ≤ n ∧ Hid (Src wr w.heap.size w.heap.size 74 A n c bs 0 H) ∧ Below w.heap.size w wr) (fun iv _ => n - (intOf iv).toNat)
  case atStart => exact ⟨0, 8191 + n, rfl, Nat.zero_le _, hsrc, (Below.refl _ _).alloc (Nat.le_refl _) _⟩
  case round =>
    obtain ⟨k, H, rfl, hk, hS, hB⟩ := hrel
    by_cases hlt : k < n
    · by_cases h4 : k < 4096
      · have S := hS.out
        have c2 := S.cell2
        have f2 := S.frozen 2
        obtain ⟨b, o, v, rfl, _, hb2, hv, hc⟩ := S.code.at_ hlt
        simp only [List.getElem?_map, Option.map_eq_some_iff] at hv
        obtain ⟨y, hy, rfl⟩ := hv
        obtain ⟨y0, y1⟩ := S.byte y (List.mem_of_getElem? hy)
        obtain ⟨H1, g1, e1⟩ := u64_nat ((H : Int) * 1099511628211)
        obtain ⟨H2, g2, e2⟩ := u64_nat ((H1 : Int) + y)
        obtain ⟨H3, g3, e3⟩ := u64_nat ((H2 : Int) + 11)
        have S3 := Lib.hid (S.setH g3)
        have k1 : (0 : Int) ≤ (k : Int) := by omega
        have k2 : (k : Int) < (n : Int) := by omega
        clear hy S
        go_wp2_with fail
        go_region
        go_wp2_with fail
        go_roundw
        case rel =>
          have hB2 := hB.setCell (p := ⟨w.heap.size, 2, none⟩) (Nat.le_refl _) (.int .u64 H3)
          exact ⟨k + 1, H3, by go_num, by omega, Lib.hid S3.out.drew, ⟨hB2.os, hB2.tape, hB2.output, hB2.size, hB2.block⟩⟩
        case measure => simp [intOf]; omega
      · go_wp2_with fail
        go_ret
        exact ⟨H, rfl, hS.out, hB⟩
    · go_wp2_with fail
      go_ret
      exact ⟨H, rfl, hS.out, hB⟩
end Go.Proofs.YtbioelmofceaaaaGreat
/- Pow -/
namespace Go.Proofs.YtbioelmofceaaaaGreat
open Go.RowKit
set_option linter.unusedVariables false
set_option maxRecDepth 100000
set_option maxHeartbeats 400000 in
theorem unit_any (n : Nat) (w : World) (h4 : n ≤ 1048576) :
    Calls Tryz.prog 82 #[.int .i64 n] w fun e w' => ∃ A1 c1, e = .returned (.slice A1 n c1) ∧ Own w' w.heap.size w'.heap.size 2 A1 n c1 ((idL n).map (Value.int .i64)) ∧ Below w.heap.size w w' := by
  obtain ⟨j0, hj0, hy0, hy1, hy2⟩ := info_parts infoI
  have h0 := World.ownsRow_lit (e := 2) (base := w.heap.size) (size := 1) w #[] 0 (Nat.le_refl _) (by omega) rfl
  go_enter Tryz.func82, Tryz.ntmps82
  go_wp2_with fail
  go_loopw [3, 4] (fun v i wr => ∃ (k : Nat) (A2 : Option Addr) (c2 : Nat), k ≤ n ∧ v = .slice A2 k c2 ∧ i = .int .i64 k ∧ wr.ownsRow w.heap.size 2 1 (.slice A2 k c2) k (((idL n).take k).map (Value.int .i64)) ∧ Below w.heap.size w wr) (fun _ i wr => n - (intOf i).toNat)
  case atStart => exact ⟨0, _, 0, by omega, rfl, rfl, by simpa using h0, (Below.refl _ _).alloc (Nat.le_refl _) _⟩
  case round =>
    obtain ⟨k, A2, c2, hk, rfl, rfl, ho, hb⟩ := hrel
    by_cases hlt : k < n
    · have hbs := hb.size
      go_wp2_with (at_builtin; refine wpList_append1 wr rfl (.tmp 11) (.tmp 13) 35 rfl w.heap.size 2 j0 (.int .i64 0) 8 Tryz.underlying35 hj0 hy0 hy1 hy2 rfl (by omega) _ k c2 _ (.int .i64 k) rfl ho _ rfl rfl rfl (by omega) hbs ?_)
      intro g c3 w2 ho2 hg2 hlo2 hlt2 hor2
      have hb2 : Below w.heap.size w w2 := hb.grown hg2 hbs (fun q hq => (ho.lt q hq).1)
      go_wp2_with fail
      go_roundw
      case rel =>
        refine ⟨k + 1, _, c3, by omega, rfl, by go_num, ?_, hb2⟩
        rw [take_succ_of (idL_get hlt), List.map_append]
        simpa using ho2
      case measure => simp [intOf]; omega
    · go_wp2_with fail
      go_ret
      have hkn : k = n := by omega
      subst hkn
      rw [List.take_of_length_le (by rw [idL_length]; omega)] at ho
      exact ⟨_, _, rfl, Own.of_row ho, hb⟩
theorem rng_of {p : List Int} {n : Nat} (h : isPermP p) (hl : p.length = n) : ∀ x ∈ p, 0 ≤ x ∧ x < n := by
  have := h.rng; rw [hl] at this; exact this
end Go.Proofs.YtbioelmofceaaaaGreat
/- DrwD -/
namespace Go.Proofs.YtbioelmofceaaaaGreat
open Go.RowKit
set_option linter.unusedVariables false
set_option maxRecDepth 100000
theorem Src.far {w : World} {lo g : Nat} {T : TypeId} {A : Option Addr} {n c : Nat} {bs : List Int} {i h : Nat} (s : Src w lo g T A n c bs i h) {p : Addr} (h1 : p.block ≠ g) (h2 : lo ≤ p.block) (u : Value) : Src (w.setCell p u) lo g T A n c bs i h :=
  ⟨(Below.heap_setCell _ _ _ _ (fun e => h1 e.symm)).trans s.blk, s.above, s.code.keep fun k _ hk => Below.heap_setCell _ _ _ _ (by omega), s.byte, s.le, s.st⟩
theorem Chg.setNew {lo hi : Nat} {a w : World} (h : Chg lo hi a w) {p : Addr} (h1 : a.heap.size ≤ p.block) (u : Value) : Chg lo hi a (w.setCell p u) :=
  ⟨h.os, h.tape, h.output, by have := h.size; simp only [World.size_setCell]; omega, fun k hk g => (Below.heap_setCell _ _ _ _ (by omega)).trans (h.block k hk g)⟩
/-- what l01Draw leaves: a permutation of m points in a row of its own, the source with another state -/
def DrawnP (w w' : World) (lo g : Nat) (T T1 : TypeId) (A : Option Addr) (n c : Nat) (bs : List Int) (A1 : Option Addr) (m c1 : Nat) : Prop :=
  ∃ (i' h' : Nat) (xs : List Int), Own w' w.heap.size w'.heap.size T1 A1 m c1 (xs.map (Value.int .i64)) ∧ xs.Perm (idL m) ∧ Src w' lo g T A n c bs i' h' ∧ Chg g (g + 1) w w'
theorem pick_any (w : World) (lo g : Nat) (A : Option Addr) (n c : Nat) (bs : List Int) (i h : Nat) (s : Src w lo g 74 A n c bs i h) (A1 : Option Addr) (m c1 : Nat) (xs : List Int) {lo1 hi1 : Nat} (hx : RI w lo1 hi1 A1 m xs) (hg : hi1 ≤ g ∨ g < lo1) (hhi : hi1 ≤ w.heap.size) (h1 : 1 ≤ m) (hm : m ≤ 1048576) :
    Calls Tryz.prog 45 #[.pointer (some ⟨g, 0, none⟩), .slice A1 m c1] w fun e w' => ∃ (v i' h' : Nat) (y : Int), e = .returned (.int .i64 y) ∧ xs[v]? = some y ∧ Src w' lo g 74 A n c bs i' h' ∧ Chg g (g + 1) w w' ∧ w'.heap.size = w.heap.size := by
  have hn := next_any w lo g A n c bs i h s (m : Int) (by omega) (by omega)
  go_enter Tryz.func45, Tryz.ntmps45
  go_wp2_with fail
  ((with_reducible refine hn.mono ?_); rintro e w2 ⟨v, i', rfl, P⟩)
  have p1 := P.ge
  have p2 := P.lt
  obtain ⟨V, rfl⟩ := Int.eq_ofNat_of_zero_le p1
  have hx2 := hx.keep (Same.of_chg P.chg hhi (by omega))
  obtain ⟨b, o, y, rfl, _, _, hy, hc⟩ := hx2.at_ (k := V) (by omega)
  have hs := P.src
  have hc2 := P.chg
  have hz := P.size
  replace hy := Lib.hid hy
  clear P hn
  go_wp2_with fail
  go_ret
  exact ⟨V, i', _, y, rfl, hy.out, hs, hc2, hz⟩
set_option maxHeartbeats 1000000 in
theorem draw_any (w : World) (lo g : Nat) (A : Option Addr) (n c : Nat) (bs : List Int) (i h : Nat) (s : Src w lo g 74 A n c bs i h) (m : Nat) (hm : m ≤ 1048576) :
    Calls Tryz.prog 67 #[.pointer (some ⟨g, 0, none⟩), .int .i64 m] w fun e w' => ∃ (A1 : Option Addr) (c1 : Nat), e = .returned (.slice A1 m c1) ∧ DrawnP w w' lo g 74 2 A n c bs A1 m c1 := by
  have hgl := s.lt
  go_enter Tryz.func67, Tryz.ntmps67
  go_wp2_with fail
  ((with_reducible refine (unit_any m w (by omega)).mono ?_); rintro e w1 ⟨A1, c1, rfl, ho1, hb1⟩)
  have hs1 := hb1.size
  have s1 := s.below hb1 hgl
  have C1 : Chg g (g + 1) w w1 := Chg.of_below _ _ hb1
  go_wp2_with fail
  go_loopw [6] (fun iv wr => ∃ (j : Int) (ys : List Int) (i' h' : Nat), iv = .int .i64 j ∧ -1 ≤ j ∧ j < m ∧ ys.Perm (idL m) ∧ Own wr w.heap.size w1.heap.size 2 A1 m c1 (ys.map (Value.int .i64)) ∧ Src wr lo g 74 A n c bs i' h' ∧ Chg g (g + 1) w wr ∧ w1.heap.size ≤ wr.heap.size) (fun iv _ => (intOf iv).toNat)
  case atStart => exact ⟨(m : Int) - 1, idL m, i, h, by go_num, by omega, by omega, List.Perm.refl _, ho1, s1, C1, Nat.le_refl _⟩
  case round =>
    obtain ⟨j, ys, i', h', rfl, j1, j2, hP, hO, hS, hC, hz⟩ := hrel
    by_cases hj : 0 < j
    · obtain ⟨J, rfl⟩ := Int.eq_ofNat_of_zero_le (show 0 ≤ j by omega)
      have hn := next_any wr lo g A n c bs i' h' hS ((J : Int) + 1) (by omega) (by omega)
      replace hP := Lib.hid hP
      have d1 : decide ((0 : Int) < (J : Int)) = true := by simp; omega
      go_wp2_with fail
      ((with_reducible refine hn.mono ?_); rintro e w2 ⟨v, i2, rfl, P⟩)
      have p1 := P.ge
      have p2 := P.lt
      obtain ⟨V, rfl⟩ := Int.eq_ofNat_of_zero_le p1
      have hs2 := P.src
      have hc2 := P.chg
      have hz2 := P.size
      have hO2 := hO.keep (Same.of_chg hc2 hz (by omega))
      clear P hn
      obtain ⟨b, x, rfl, hb0, hb2, hb3, hx, -, -, hf⟩ := hO2.at_ (k := J) (by omega)
      simp only [List.getElem?_map, Option.map_eq_some_iff] at hx
      obtain ⟨x, hx, rfl⟩ := hx
      obtain ⟨y, hy⟩ : ∃ y, ys[V]? = some y := ⟨_, List.getElem?_eq_getElem (by rw [hO2.lenI]; omega)⟩
      have cJ := hO2.cellI hx
      have cV := hO2.cellI hy
      have fJ := hf J
      have fV := hf V
      clear hf
      have hVy : (ys.set J y)[V]? = some y := by
        rw [List.getElem?_set]
        split
        · split
          · rfl
          · rename_i h3 h4; subst h3; rw [List.getElem?_eq_none (by omega)] at hy; cases hy
        · exact hy
      have cV2 := (hO2.setI (k := J) y).cellI hVy
      have fV2 := (hO2.setI (k := J) y).frz V
      clear hVy
      have k0 : (0 : Int) ≤ (J : Int) := by omega
      have k1 : (J : Int) < (m : Int) := by omega
      have k2 : (V : Int) < (m : Int) := by omega
      replace hx := Lib.hid hx
      replace hy := Lib.hid hy
      go_wp2_with fail
      go_roundw
      case rel =>
        refine ⟨(J : Int) - 1, (ys.set J y).set V x, i2, lcg h', by go_num, by omega, by omega, ?_, ?_, ?_, ?_, ?_⟩
        · refine List.Perm.trans ?_ hP.out
          obtain ⟨q1, e1⟩ := List.getElem?_eq_some_iff.1 hx.out
          obtain ⟨q2, e2⟩ := List.getElem?_eq_some_iff.1 hy.out
          subst e1; subst e2
          exact List.set_set_perm q1 q2
        · exact (hO2.setI y).setI x
        · exact (hs2.far (p := ⟨b, J, none⟩) (by simp; omega) (by simp; have := hs2.above; omega) _).far (by simp; omega) (by simp; have := hs2.above; omega) _
        · exact ((hC.trans hc2 ⟨Nat.le_refl _, Nat.le_refl _⟩ ⟨Nat.le_refl _, Nat.le_refl _⟩).setNew hb0 _).setNew hb0 _
        · simp; omega
      case measure => simp [intOf]; omega
    · have d1 : decide ((0 : Int) < j) = false := by simp; omega
      go_wp2_with fail
      go_ret
      exact ⟨A1, c1, rfl, i', h', ys, hO.more (Nat.le_refl _) hz, hP, hS, hC⟩
end Go.Proofs.YtbioelmofceaaaaGreat
/- Step -/
namespace Go.Proofs.YtbioelmofceaaaaGreat
open Go.RowKit
set_option linter.unusedVariables false
theorem step_call {P : Program} {w : World} {ops : Array Oper} {o : Oper} {a : Act} {K : Act → World → Prop} {Q : Exit → Act → World → Prop} {E : Prop} (hgd : o.guard = none) (f : FuncId) (vs : Array Value)
    (hrun : (execOp a.eval o).run P w = .ok (.enter f vs) w) {R : Ending → World → Prop} (h : Calls P f vs w R)
    (hK : ∀ e w', R e w' → ∃ u, e = .returned u ∧ K (a.put o.dst u) w') :
    if Region.wanted o (yielded ops a.tmps) = true then Oper.wp P o a w K Q else E := by
  have hw : Region.wanted o (yielded ops a.tmps) = true := by simp [Region.wanted, hgd]
  rw [if_pos hw]
  unfold Oper.wp
  rw [hrun, Oper.upon_enter]
  refine h.mono fun e w' hr => ?_
  obtain ⟨u, rfl, hk⟩ := hK e w' hr
  exact hk
/-- 'append(s, xs...)': whole slices, inside a region that draws -/
theorem step_appendL {P : Program} (w : World) {ops : Array Oper} {o : Oper} {a : Act} {K : Act → World → Prop} {Q : Exit → Act → World → Prop} {E : Prop} (hgd : o.guard = none) (s x : Operand) (t : TypeId)
    (ho : o.op = .call { callee := .builtin .append, args := #[s, x], argTypes := #[t, t] })
    (lo : Nat) (e : TypeId) (i : TypeInfo) (z : Value) (bytes : Nat) (ht : P.underlying t = some (.slice e)) (hi : P.info? e = some i) (hz : i.zero = some z)
    (hsize : i.size = 1) (hby : i.bytes = bytes) (hzs : z.cells.size = 1) (hbs : bytes ≤ 64)
    (A : Option Addr) (n c : Nat) (vs : List Value) (hs : a.eval s = .slice A n c) (hown : w.ownsRow lo e 1 (.slice A n c) n vs)
    (A' : Option Addr) (m c' : Nat) (us : List Value) (l1 l2 : Nat) (hx : a.eval x = .slice A' m c') (hr : Rd w l1 l2 A' m us) (h1 : ∀ u ∈ us, u.oneCell' = true) (h63 : n + m ≤ 1099511627776) (hlo : lo ≤ w.heap.size)
    (h : ∀ A2 c2 w', w'.ownsRow lo e 1 (.slice A2 (n + m) c2) (n + m) (vs ++ us) → w.grownBy w' (Value.slice A n c).ownBlock →
      ((Value.slice A2 (n + m) c2).ownBlock = (Value.slice A n c).ownBlock ∨ (Value.slice A2 (n + m) c2).ownBlock = some w.heap.size) → K (a.put o.dst (.slice A2 (n + m) c2)) w') :
    if Region.wanted o (yielded ops a.tmps) = true then Oper.wp P o a w K Q else E := by
  have hl : us.length = m := hr.1
  have key : ∃ v' w', (Builtin.append_ #[t, t] o.type #[.slice A n c, .slice A' m c']).run P w = .ok v' w' ∧ w'.ownsRow lo e 1 v' (n + m) (vs ++ us) ∧ w.grownBy w' (Value.slice A n c).ownBlock ∧
      (v'.ownBlock = (Value.slice A n c).ownBlock ∨ v'.ownBlock = some w.heap.size) := by
    have hb : (n + m) * bytes ≤ 140737488355328 := by have := Nat.mul_le_mul h63 hbs; omega
    rcases Nat.eq_zero_or_pos m with h0 | h0
    · subst h0
      have hn : us = [] := List.eq_nil_of_length_eq_zero hl
      subst hn
      rcases A' with _ | ad
      · refine ⟨_, w, ?_, by simpa using hown, World.grownBy.refl w _, .inl rfl⟩
        rcases hown.2 with ⟨hv, hn⟩ | ⟨g, cap, cur, hv, _, _, hnc, _⟩
        · subst hn
          injection hv with h1 _ h3
          subst h1; subst h3
          simp [Builtin.append_, run_underlying ht, sizeOf, typeInfo, hi, Builtin.lenOf, Builtin.firstCells]
        · injection hv with h1 _ h3
          subst h1; subst h3
          simp [Builtin.append_, run_underlying ht, sizeOf, typeInfo, hi, Builtin.lenOf, Builtin.firstCells, hnc, storeCells]
      · obtain ⟨v', w', q1, q2, q3, _, q5⟩ := run_append_own_at (P := P) w lo t o.type e i z 1 bytes ht hi hz hsize hby hzs (by omega) (.slice A n c) n vs hown ad 0 c' [] rfl (by simp) (by simp) (by simp only [maxLen]; omega) hb hlo
        exact ⟨v', w', q1, q2, q3, q5⟩
    · obtain ⟨b, off, rfl, _, _, hc⟩ := hr.2.2 h0
      obtain ⟨v', w', q1, q2, q3, _, q5⟩ := run_append_own_at (P := P) w lo t o.type e i z 1 bytes ht hi hz hsize hby hzs (by omega) (.slice A n c) n vs hown ⟨b, off, none⟩ m c' us (by omega) (fun j u hu => by rw [Addr.add_lit]; exact hc j u hu) h1 (by simp only [maxLen]; omega) hb hlo
      exact ⟨v', w', q1, q2, q3, q5⟩
  obtain ⟨v', w', hrun, r1, r2, r3⟩ := key
  obtain ⟨A2, c2, rfl⟩ := slice_of_own' r1
  have hw : Region.wanted o (yielded ops a.tmps) = true := by simp [Region.wanted, hgd]
  rw [if_pos hw]
  unfold Oper.wp execOp
  simp only [ho, resolve, invoke, builtin, Sem.run_bind, Sem.run_pure, Result.andThen_ok, List.map_toArray, List.map_cons, List.map_nil, hs, hx, hrun]
  exact h A2 c2 w' r1 r2 r3
end Go.Proofs.YtbioelmofceaaaaGreat
/- Dic -/
namespace Go.Proofs.YtbioelmofceaaaaGreat
open Go.RowKit
set_option linter.unusedVariables false
set_option maxRecDepth 100000
theorem below_core (w : World) (lo g : Nat) (A : Option Addr) (n c : Nat) (bs : List Int) (i h H u q : Nat) (s : Src w lo g 56 A n c bs i h) (x : Int) (h1 : 1 ≤ x) (hx : x ≤ 1099511627776)
    (e1 : IntKind.u64.wrap ((h : Int) * 6364136223846793005) = (u : Int)) (e2 : IntKind.u64.wrap ((u : Int) + 1442695040888963407) = (H : Int)) (e3 : bits BinOp.and IntKind.u64 ((H : Int) / 8589934592) 16777215 = (q : Int)) (hH : H < 18446744073709551616) (hq2 : q < 16777216) :
    Calls Tryz.prog 14 #[.pointer (some ⟨g, 0, none⟩), .int .i64 x] w fun e w' => ∃ (v : Int) (i' : Nat), e = .returned (.int .i64 v) ∧ NextP w w' lo g 56 A n c bs i H q x v i' := by
  have hst := s.st
  have c2 := s.cell2
  have f2 := s.frozen 2
  have s1 := s.setH hH
  have d0 := s1.cell0
  have d1 := s1.cell1
  have d2 := s1.cell2
  have g1 := s1.frozen 1
  have hn := s.code.2.1
  have hin := s.le
  have hB1 : Chg g (g + 1) w (w.setCell ⟨g, 2, none⟩ (.int .u64 H)) := (Chg.refl _ _ _).setCell (by simp) (by simp) _
  by_cases hlt : i < n
  · obtain ⟨b, o, y, rfl, hb, hy, y0, y1⟩ := s1.byteAt hlt
    have hd : decide ((i : Int) < (n : Int)) = true := by simp; omega
    have k1 : (0 : Int) ≤ (i : Int) := by omega
    have k2 : (i : Int) < (n : Int) := by omega
    go_enter Tryz.func14, Tryz.ntmps14
    go_wp2_with fail
    go_quiet (fail)
    go_wp2_with fail
    go_quiet (fail)
    go_wp2_with fail
    go_ret
    refine ⟨((q : Int) + y) % x, i + 1, rfl, ?_⟩
    constructor
    · exact Int.emod_nonneg _ (by omega)
    · exact Int.emod_lt_of_pos _ (by omega)
    · exact (s1.drewN _).setI (I := i + 1) hlt
    · exact (hB1.drewN _).setCell (by simp) (by simp) _
    · simp
    · exact fun _ => rfl
    · exact fun hh => absurd hlt hh
  · have hd : decide ((i : Int) < (n : Int)) = false := by simp; omega
    go_enter Tryz.func14, Tryz.ntmps14
    go_wp2_with fail
    go_quiet (fail)
    go_wp2_with fail
    go_ret
    refine ⟨(q : Int) % x, i, rfl, ?_⟩
    constructor
    · exact Int.emod_nonneg _ (by omega)
    · exact Int.emod_lt_of_pos _ (by omega)
    · exact s1.drewN _
    · exact hB1.drewN _
    · simp
    · exact fun hh => absurd hh hlt
    · exact fun _ => ⟨rfl, rfl⟩
theorem below_any (w : World) (lo g : Nat) (A : Option Addr) (n c : Nat) (bs : List Int) (i h : Nat) (s : Src w lo g 56 A n c bs i h) (x : Int) (h1 : 1 ≤ x) (hx : x ≤ 1099511627776) :
    Calls Tryz.prog 14 #[.pointer (some ⟨g, 0, none⟩), .int .i64 x] w fun e w' => ∃ (v : Int) (i' : Nat), e = .returned (.int .i64 v) ∧ NextP w w' lo g 56 A n c bs i (lcg h) (lcg h / 8589934592 % 16777216) x v i' := by
  obtain ⟨u, hu⟩ : ∃ u, (h * 6364136223846793005) % 18446744073709551616 = u := ⟨_, rfl⟩
  obtain ⟨e1, e2⟩ := lcg_wrap h u hu
  have hH : lcg h < 18446744073709551616 := by unfold lcg; omega
  exact below_core w lo g A n c bs i h (lcg h) u _ s x h1 hx e1 e2 (lcg_bits (lcg h) hH) hH (by omega)
/-- below 1: it returns 0 and the source stays -/
theorem below_zero (w : World) (g : Nat) (x : Int) (hx : x < 1) :
    Calls Tryz.prog 14 #[.pointer (some ⟨g, 0, none⟩), .int .i64 x] w fun e w' => e = .returned (.int .i64 0) ∧ w = w' := by
  go_enter Tryz.func14, Tryz.ntmps14
  go_wp2_with fail
  go_ret
  exact ⟨rfl, rfl⟩
theorem roll_any (w : World) (A : Option Addr) (n c : Nat) (bs : List Int) (h : Rd w 0 w.heap.size A n (bs.map (Value.int .u8))) (hb : ∀ x ∈ bs, 0 ≤ x ∧ x < 256) (hn : n ≤ 1048576) (sd : Nat) (hsd : sd ≤ 1048576) :
    Calls Tryz.prog 9 #[.slice A n c, .int .u64 sd] w fun e w' => ∃ H : Nat, e = .returned (.pointer (some ⟨w.heap.size, 0, none⟩)) ∧ Src w' w.heap.size w.heap.size 56 A n c bs 0 H ∧ Below w.heap.size w w' := by
  have hsrc : Src (w.alloc (.cells #[.slice A n c, .int .i64 0, .int .u64 ((sd * 7681 + n : Nat) : Int)] 56)) w.heap.size w.heap.size 56 A n c bs 0 (sd * 7681 + n) :=
    ⟨heap_newest w _, Nat.le_refl _, h.below ((Below.refl _ _).alloc (Nat.le_refl _) _) (Nat.le_refl _), hb, Nat.zero_le _, by omega⟩
  have e0 : IntKind.u64.wrap ((sd : Int) * 7681) = ((sd * 7681 : Nat) : Int) := by rw [IntKind.wrap_u64]; omega
  have e4 : IntKind.u64.wrap (((sd * 7681 : Nat) : Int) + (n : Int)) = ((sd * 7681 + n : Nat) : Int) := by rw [IntKind.wrap_u64]; omega
  replace hsrc := Lib.hid hsrc
  replace hb := Lib.hid hb
  go_enter Tryz.func9, Tryz.ntmps9
  go_wp2_with fail
  go_loopw [6] (fun iv wr => ∃ (k H : Nat), iv = .int .i64 k ∧ k ≤ n ∧ Hid (Src wr w.heap.size w.heap.size 56 A n c bs 0 H) ∧ Below w.heap.size w wr) (fun iv _ => n - (intOf iv).toNat)
  case atStart => exact ⟨0, sd * 7681 + n, rfl, Nat.zero_le _, hsrc, (Below.refl _ _).alloc (Nat.le_refl _) _⟩
  case round =>
    obtain ⟨k, H, rfl, hk, hS, hB⟩ := hrel
    by_cases hlt : k < n
    · have h4 : True := trivial
      · have S := hS.out
        have c2 := S.cell2
        have f2 := S.frozen 2
        obtain ⟨b, o, v, rfl, _, hb2, hv, hc⟩ := S.code.at_ hlt
        simp only [List.getElem?_map, Option.map_eq_some_iff] at hv
        obtain ⟨y, hy, rfl⟩ := hv
        obtain ⟨y0, y1⟩ := S.byte y (List.mem_of_getElem? hy)
        obtain ⟨H1, g1, e1⟩ := u64_nat ((H : Int) * 1099511628211)
        obtain ⟨H2, g2, e2⟩ := u64_nat ((H1 : Int) + y)
        obtain ⟨H3, g3, e3⟩ := u64_nat ((H2 : Int) + 5)
        have S3 := Lib.hid (S.setH g3)
        have k1 : (0 : Int) ≤ (k : Int) := by omega
        have k2 : (k : Int) < (n : Int) := by omega
        clear hy S
        go_wp2_with fail
        go_region
        go_wp2_with fail
        go_roundw
        case rel =>
          have hB2 := hB.setCell (p := ⟨w.heap.size, 2, none⟩) (Nat.le_refl _) (.int .u64 H3)
          exact ⟨k + 1, H3, by go_num, by omega, Lib.hid S3.out.drew, ⟨hB2.os, hB2.tape, hB2.output, hB2.size, hB2.block⟩⟩
        case measure => simp [intOf]; omega
    · go_wp2_with fail
      go_ret
      exact ⟨H, rfl, hS.out, hB⟩
end Go.Proofs.YtbioelmofceaaaaGreat
/- Prm -/
namespace Go.Proofs.YtbioelmofceaaaaGreat
open Go.RowKit
set_option linter.unusedVariables false
set_option maxRecDepth 100000
theorem below_drw {B : Nat} {a w : World} (h : Below B a w) : Below B a w.drew := ⟨h.os, h.tape, h.output, h.size, h.block⟩
theorem ins_perm {l : List Int} {i k : Nat} (h : l.Perm (idL i)) (hk : k ≤ i) : ((l.take k ++ [(i : Int)]) ++ l.drop k).Perm (idL (i + 1)) := by
  have e : idL (i + 1) = idL i ++ [(i : Int)] := by unfold idL; rw [List.range_succ, List.map_append]; rfl
  rw [e, List.append_assoc]
  have h1 : (l.take k ++ ([(i : Int)] ++ l.drop k)).Perm (l.take k ++ (l.drop k ++ [(i : Int)])) := List.Perm.append_left _ List.perm_append_comm
  refine h1.trans ?_
  rw [← List.append_assoc, List.take_append_drop]
  exact h.append_right _
theorem ri_part {w : World} {lo hi n b : Nat} {xs : List Int} (h : RI w lo hi (some ⟨b, 0, none⟩) n xs) {i j : Nat} (hij : i ≤ j) (hj : j ≤ n) {A' : Option Addr} (hA : i < j → A' = some ⟨b, i, none⟩) : RI w lo hi A' (j - i) ((xs.drop i).take (j - i)) := by
  refine ⟨by have := h.1; simp at this ⊢; omega, by have := h.2.1; omega, fun hn => ?_⟩
  obtain ⟨b', o', e, h1, h2, hc⟩ := h.2.2 (by omega)
  injection e with e
  injection e with e1 e2 _
  subst e1; subst e2
  refine ⟨b, i, hA (by omega), h1, h2, fun k v hv => ?_⟩
  have hk := (List.getElem?_eq_some_iff.1 hv).1
  simp at hk
  rw [List.getElem?_map, List.getElem?_take_of_lt (by omega), List.getElem?_drop] at hv
  have := hc (i + k) v (by rw [List.getElem?_map]; exact hv)
  simpa using this
theorem cell_one_of {w : World} {b : Nat} {u : Value} {T : TypeId} (h : w.heap[b]? = some (.cells #[u] T (0, 0))) : ∀ z v, [u][z]? = some v → w.cell? ((⟨b, 0, none⟩ : Addr).add z) = some v := by
  intro z v hv
  have hz : z = 0 := by have := (List.getElem?_eq_some_iff.1 hv).1; simp at this; omega
  subst hz
  simp at hv
  subst hv
  rw [Addr.add_lit, cell_of_row _ _ _ _ _ _ h]
  rfl
theorem lit_own {w : World} {lo z : Nat} {T : TypeId} (h : w.heap[z]? = some (.cells #[] T (0, 0))) (hz : lo ≤ z) : w.ownsRow lo T 1 (.slice (some ⟨z, 0, none⟩) 0 0) 0 [] := blk_own (vs := []) h rfl hz (by simp)
set_option maxHeartbeats 8000000 in
theorem perm5_any (w : World) (lo g : Nat) (A : Option Addr) (n c : Nat) (bs : List Int) (i0 h0 : Nat) (s : Src w lo g 56 A n c bs i0 h0) (N : Nat) (hN : N ≤ 1048576) :
    Calls Tryz.prog 11 #[.pointer (some ⟨g, 0, none⟩), .int .i64 (N : Int)] w fun e w' => ∃ (A1 : Option Addr) (c1 : Nat), e = .returned (.slice A1 N c1) ∧ DrawnP w w' lo g 56 2 A n c bs A1 N c1 := by
  obtain ⟨j0, hj0, hy0, hy1, hy2⟩ := info_parts infoI
  have hgl := s.lt
  have hlit := own_lit0 w 2 (Nat.le_refl _)
  have s1 : Src (w.alloc (.cells #[] 2)) lo g 56 A n c bs i0 h0 := s.below ((Below.refl _ _).alloc (Nat.le_refl _) _) hgl
  replace s1 := Lib.hid s1
  clear s
  go_enter Tryz.func11, Tryz.ntmps11
  go_wp2_with fail
  go_loopw [5, 6] (fun lv iv wq => ∃ (i b2 c2 i' h' : Nat) (xs : List Int), i ≤ N ∧ iv = .int .i64 i ∧ lv = .slice (some ⟨b2, 0, none⟩) i c2 ∧ Own wq w.heap.size wq.heap.size 2 (some ⟨b2, 0, none⟩) i c2 (xs.map (Value.int .i64)) ∧ Hid (xs.Perm (idL i)) ∧ Hid (Src wq lo g 56 A n c bs i' h') ∧ Chg g (g + 1) w wq) (fun _ iv _ => N - (intOf iv).toNat)
  case atStart => exact ⟨0, w.heap.size, 0, i0, h0, [], by omega, rfl, rfl, by simpa using hlit, Lib.hid (by simp [idL]), s1, (Chg.refl _ _ _).alloc _⟩
  case round =>
    clear hlit s1
    obtain ⟨i, b2, c2, i', h', xs, hi, rfl, rfl, ho, hpm, hs, hch⟩ := hrel
    have hzz := hch.size
    by_cases hlt : i < N
    · have hb := below_any wr lo g A n c bs i' h' hs.out ((i : Int) + 1) (by omega) (by omega)
      have hw1 : IntKind.i64.wrap ((i : Int) + 1) = (i : Int) + 1 := by rw [IntKind.wrap_i64]; omega
      replace hb := Lib.hid hb
      go_wp2_with fail
      ((with_reducible refine hb.out.mono ?_); rintro e w2 ⟨v, i2, rfl, np⟩)
      clear hb hw1
      obtain ⟨v0, v1⟩ : 0 ≤ v ∧ v < (i : Int) + 1 := ⟨np.ge, np.lt⟩
      obtain ⟨k, rfl⟩ : ∃ z : Nat, v = z := ⟨v.toNat, by omega⟩
      have hki : k ≤ i := by omega
      have hsz := np.size
      have s2 := np.src
      have hch2 : Chg g (g + 1) w w2 := hch.trans np.chg ⟨Nat.le_refl _, Nat.le_refl _⟩ ⟨Nat.le_refl _, Nat.le_refl _⟩
      have ho2 : Own w2 w.heap.size w2.heap.size 2 (some ⟨b2, 0, none⟩) i c2 (xs.map (Value.int .i64)) := (ho.keep (Same.of_chg np.chg (Nat.le_refl _) (.inr (by omega)))).more (Nat.le_refl _) (by omega)
      have hxl := ho2.lenI
      have hcap : i ≤ c2 := ho2.cap
      have hpn := ins_perm hpm.out hki
      have hwz : w.heap.size ≤ w2.heap.size := by omega
      clear np hch ho hs hsz hpm hzz
      replace s2 := Lib.hid s2
      replace hpn := Lib.hid hpn
      replace hxl := Lib.hid hxl
      --REGION
      by_cases hkc : c2 = k
      · obtain rfl : i = k := by omega
        obtain rfl : i = c2 := hkc.symm
        have hT : RI w2 w.heap.size w2.heap.size (some ⟨b2, 0, none⟩) i (xs.take i) := by simpa using ri_part ho2.ri (i := 0) (j := i) (by omega) hki (fun _ => rfl)
        have hD : RI w2 w.heap.size w2.heap.size (some ⟨b2, 0, none⟩) 0 (xs.drop i) := by
          have h1 := ri_part ho2.ri (i := i) (j := i) hki (Nat.le_refl _) (A' := (some ⟨b2, 0, none⟩)) (fun h => by first | rfl | omega)
          rw [List.take_of_length_le (by simp; have := hxl.out; omega)] at h1; simpa using h1
        have hB1 : Below w2.heap.size w2 (w2.alloc (.cells #[] 2)).drew := below_drw ((Below.refl _ _).alloc (Nat.le_refl _) _)
        have hA1 : Hid ((w2.alloc (.cells #[] 2)).ownsRow w2.heap.size 2 1 (.slice (some ⟨w2.heap.size, 0, none⟩) 0 0) 0 []) := Lib.hid (lit_own (heap_new _ _ _ rfl) (by omega))
        have hT1 : Hid (Rd (w2.alloc (.cells #[] 2)).drew w.heap.size w2.heap.size (some ⟨b2, 0, none⟩) i ((xs.take i).map (Value.int .i64))) := Lib.hid (hT.below hB1 (Nat.le_refl _))
        have hS1 : Hid (w2.heap.size ≤ (w2.alloc (.cells #[] 2)).drew.heap.size) := Lib.hid (hB1.size)
        replace hB1 := Lib.hid hB1
        have hB2 : Below w2.heap.size w2 ((w2.alloc (.cells #[] 2)).alloc (.cells #[.int .i64 (i : Int)] 2)).drew := below_drw (((Below.refl _ _).alloc (Nat.le_refl _) _).alloc (by simp) _)
        have hA2 : Hid (((w2.alloc (.cells #[] 2)).alloc (.cells #[.int .i64 (i : Int)] 2)).ownsRow w2.heap.size 2 1 (.slice (some ⟨w2.heap.size, 0, none⟩) 0 0) 0 []) := Lib.hid (lit_own ((Below.heap_alloc _ _ _ (by simp)).trans (heap_new _ _ _ rfl)) (by omega))
        have hT2 : Hid (Rd ((w2.alloc (.cells #[] 2)).alloc (.cells #[.int .i64 (i : Int)] 2)).drew w.heap.size w2.heap.size (some ⟨b2, 0, none⟩) i ((xs.take i).map (Value.int .i64))) := Lib.hid (hT.below hB2 (Nat.le_refl _))
        have hS2 : Hid (w2.heap.size ≤ ((w2.alloc (.cells #[] 2)).alloc (.cells #[.int .i64 (i : Int)] 2)).drew.heap.size) := Lib.hid (hB2.size)
        have hL2 : Hid (((w2.alloc (.cells #[] 2)).alloc (.cells #[.int .i64 (i : Int)] 2)).heap[w2.heap.size + 1]? = some (.cells #[.int .i64 (i : Int)] 2 (0, 0))) := Lib.hid (heap_new _ _ _ (by simp))
        replace hB2 := Lib.hid hB2
        have hB3 : Below w2.heap.size w2 ((w2.alloc (.cells #[.int .i64 (i : Int)] 2)).alloc (.cells #[] 2)).drew := below_drw (((Below.refl _ _).alloc (Nat.le_refl _) _).alloc (by simp) _)
        have hA3 : Hid (((w2.alloc (.cells #[.int .i64 (i : Int)] 2)).alloc (.cells #[] 2)).ownsRow w2.heap.size 2 1 (.slice (some ⟨w2.heap.size + 1, 0, none⟩) 0 0) 0 []) := Lib.hid (lit_own (heap_new _ _ _ (by simp)) (by omega))
        have hT3 : Hid (Rd ((w2.alloc (.cells #[.int .i64 (i : Int)] 2)).alloc (.cells #[] 2)).drew w.heap.size w2.heap.size (some ⟨b2, 0, none⟩) i ((xs.take i).map (Value.int .i64))) := Lib.hid (hT.below hB3 (Nat.le_refl _))
        have hS3 : Hid (w2.heap.size ≤ ((w2.alloc (.cells #[.int .i64 (i : Int)] 2)).alloc (.cells #[] 2)).drew.heap.size) := Lib.hid (hB3.size)
        have hL3 : Hid (((w2.alloc (.cells #[.int .i64 (i : Int)] 2)).alloc (.cells #[] 2)).heap[w2.heap.size]? = some (.cells #[.int .i64 (i : Int)] 2 (0, 0))) := Lib.hid ((Below.heap_alloc _ _ _ (by simp)).trans (heap_new _ _ _ rfl))
        replace hB3 := Lib.hid hB3
        have hml : Hid (i + 1 ≤ maxLen) := Lib.hid (by simp only [maxLen]; omega)
        have hDr : ∀ wq, Below w2.heap.size w2 wq → Rd wq w.heap.size w2.heap.size (some ⟨b2, 0, none⟩) 0 ((xs.drop i).map (Value.int .i64)) := fun wq hq => hD.below hq (Nat.le_refl _)
        replace hDr := Lib.hid hDr
        clear hT hD
        have hI0 : (0 : Int) ≤ (i : Int) := by omega
        have hI1 : (i : Int) ≤ (i : Int) := by omega
        have hI2 : (i : Int) ≤ (i : Int) := by omega
        have hI3 : (i : Int) ≤ (i : Int) := by omega
        go_wp2_with fail
        go_region_law? (first
          | (refine step_appendL (w2.alloc (.cells #[] 2)).drew rfl (.tmp 18) (.tmp 21) 35 rfl w2.heap.size 2 j0 (.int .i64 0) 8 Tryz.underlying35 hj0 hy0 hy1 hy2 rfl (by omega) (some ⟨w2.heap.size, 0, none⟩) 0 0 [] (by rfl) hA1.out (some ⟨b2, 0, none⟩) i i ((xs.take i).map (Value.int .i64)) w.heap.size w2.heap.size (by rfl) hT1.out (ints_oneCell _ _) (by omega) hS1.out ?_; intro A5 c5 w5 r5 g5 b5; have f5 : Below w2.heap.size w2 w5 := hB1.out.grown g5 hS1.out (fun z hz => by simp [Value.ownBlock] at hz; omega); simp only [Nat.zero_add, List.nil_append] at r5; have z5 := f5.size; have q25 : Hid ((w5.alloc (.cells #[.int .i64 (i : Int)] 2)).ownsRow w2.heap.size 2 1 (.slice A5 i c5) i ((xs.take i).map (Value.int .i64))) := Lib.hid (r5.alloc _); have n25 : Hid (∀ z v, [Value.int .i64 (i : Int)][z]? = some v → (w5.alloc (.cells #[.int .i64 (i : Int)] 2)).cell? ((⟨w5.heap.size, 0, none⟩ : Addr).add z) = some v) := Lib.hid (cell_one_new w5 _ _); have s25 : Hid (w2.heap.size ≤ (w5.alloc (.cells #[.int .i64 (i : Int)] 2)).heap.size) := Lib.hid (by simp; omega); have f25 : Hid (Below w2.heap.size w2 (w5.alloc (.cells #[.int .i64 (i : Int)] 2))) := Lib.hid (f5.alloc z5 _))
          | (refine step_appendL ((w2.alloc (.cells #[] 2)).alloc (.cells #[.int .i64 (i : Int)] 2)).drew rfl (.tmp 18) (.tmp 21) 35 rfl w2.heap.size 2 j0 (.int .i64 0) 8 Tryz.underlying35 hj0 hy0 hy1 hy2 rfl (by omega) (some ⟨w2.heap.size, 0, none⟩) 0 0 [] (by rfl) hA2.out (some ⟨b2, 0, none⟩) i i ((xs.take i).map (Value.int .i64)) w.heap.size w2.heap.size (by rfl) hT2.out (ints_oneCell _ _) (by omega) hS2.out ?_; intro A5 c5 w5 r5 g5 b5; have f5 : Below w2.heap.size w2 w5 := hB2.out.grown g5 hS2.out (fun z hz => by simp [Value.ownBlock] at hz; omega); simp only [Nat.zero_add, List.nil_append] at r5; have z5 := f5.size; have k5 := (g5.block (w2.heap.size + 1) (by simp <;> omega) (by simp [Value.ownBlock] <;> omega)).trans hL2.out; have q252 : Hid (w5.ownsRow w2.heap.size 2 1 (.slice A5 i c5) i ((xs.take i).map (Value.int .i64))) := Lib.hid r5; have n252 : Hid (∀ z v, [Value.int .i64 (i : Int)][z]? = some v → w5.cell? ((⟨w2.heap.size + 1, 0, none⟩ : Addr).add z) = some v) := Lib.hid (cell_one_of k5); have s252 : Hid (w2.heap.size ≤ w5.heap.size) := Lib.hid z5; have f252 : Hid (Below w2.heap.size w2 w5) := Lib.hid f5)
          | (refine step_appendL ((w2.alloc (.cells #[.int .i64 (i : Int)] 2)).alloc (.cells #[] 2)).drew rfl (.tmp 18) (.tmp 21) 35 rfl w2.heap.size 2 j0 (.int .i64 0) 8 Tryz.underlying35 hj0 hy0 hy1 hy2 rfl (by omega) (some ⟨w2.heap.size + 1, 0, none⟩) 0 0 [] (by rfl) hA3.out (some ⟨b2, 0, none⟩) i i ((xs.take i).map (Value.int .i64)) w.heap.size w2.heap.size (by rfl) hT3.out (ints_oneCell _ _) (by omega) hS3.out ?_; intro A5 c5 w5 r5 g5 b5; have f5 : Below w2.heap.size w2 w5 := hB3.out.grown g5 hS3.out (fun z hz => by simp [Value.ownBlock] at hz; omega); simp only [Nat.zero_add, List.nil_append] at r5; have z5 := f5.size; have k5 := (g5.block (w2.heap.size) (by simp <;> omega) (by simp [Value.ownBlock] <;> omega)).trans hL3.out; have q253 : Hid (w5.ownsRow w2.heap.size 2 1 (.slice A5 i c5) i ((xs.take i).map (Value.int .i64))) := Lib.hid r5; have n253 : Hid (∀ z v, [Value.int .i64 (i : Int)][z]? = some v → w5.cell? ((⟨w2.heap.size, 0, none⟩ : Addr).add z) = some v) := Lib.hid (cell_one_of k5); have s253 : Hid (w2.heap.size ≤ w5.heap.size) := Lib.hid z5; have f253 : Hid (Below w2.heap.size w2 w5) := Lib.hid f5)
          | (refine step_append_lies _ rfl (.tmp 22) (.tmp 24) 35 rfl w2.heap.size 2 j0 (.int .i64 0) 1 8 Tryz.underlying35 hj0 hy0 hy1 hy2 rfl (by decide) (.slice A5 i c5) i ((xs.take i).map (Value.int .i64)) (by simp [Act.eval]) q25.out ⟨w5.heap.size, 0, none⟩ 1 1 [.int .i64 (i : Int)] (by simp [Act.eval]) rfl n25.out (by simp [Value.oneCell']) (by decide) hml.out (by omega) s25.out _ rfl ?_; intro g6 c6 w6 r6 gg6 hor6 hlt6; have f6 : Below w2.heap.size w2 w6 := f25.out.grown gg6 s25.out (fun z hz => (r5.lt z hz).1); have d6 := hDr.out w6 f6; have z6 := f6.size)
          | (refine step_append_lies _ rfl (.tmp 22) (.tmp 24) 35 rfl w2.heap.size 2 j0 (.int .i64 0) 1 8 Tryz.underlying35 hj0 hy0 hy1 hy2 rfl (by decide) (.slice A5 i c5) i ((xs.take i).map (Value.int .i64)) (by simp [Act.eval]) q252.out ⟨w2.heap.size + 1, 0, none⟩ 1 1 [.int .i64 (i : Int)] (by simp [Act.eval]) rfl n252.out (by simp [Value.oneCell']) (by decide) hml.out (by omega) s252.out _ rfl ?_; intro g6 c6 w6 r6 gg6 hor6 hlt6; have f6 : Below w2.heap.size w2 w6 := f252.out.grown gg6 s252.out (fun z hz => (r5.lt z hz).1); have d6 := hDr.out w6 f6; have z6 := f6.size)
          | (refine step_append_lies _ rfl (.tmp 22) (.tmp 24) 35 rfl w2.heap.size 2 j0 (.int .i64 0) 1 8 Tryz.underlying35 hj0 hy0 hy1 hy2 rfl (by decide) (.slice A5 i c5) i ((xs.take i).map (Value.int .i64)) (by simp [Act.eval]) q253.out ⟨w2.heap.size, 0, none⟩ 1 1 [.int .i64 (i : Int)] (by simp [Act.eval]) rfl n253.out (by simp [Value.oneCell']) (by decide) hml.out (by omega) s253.out _ rfl ?_; intro g6 c6 w6 r6 gg6 hor6 hlt6; have f6 : Below w2.heap.size w2 w6 := f253.out.grown gg6 s253.out (fun z hz => (r5.lt z hz).1); have d6 := hDr.out w6 f6; have z6 := f6.size)
          | (refine step_appendL w6 rfl (.tmp 25) (.tmp 28) 35 rfl w2.heap.size 2 j0 (.int .i64 0) 8 Tryz.underlying35 hj0 hy0 hy1 hy2 rfl (by omega) (some ⟨g6, 0, none⟩) (i + 1) c6 (((xs.take i).map (Value.int .i64)) ++ [.int .i64 (i : Int)]) (by rfl) r6 (some ⟨b2, 0, none⟩) 0 0 ((xs.drop i).map (Value.int .i64)) w.heap.size w2.heap.size (by rfl) d6 (ints_oneCell _ _) (by omega) z6 ?_; intro A7 c7 w7 r7 gg7 b7))
        all_goals
          have f7 : Below w2.heap.size w2 w7 := f6.grown gg7 z6 (fun z hz => (r6.lt z hz).1)
          have z7 := f7.size
          have e7 : i + 1 + 0 = i + 1 := by omega
          rw [e7] at r7
          (try rw [e7])
          obtain ⟨g8, c8, hsl, hg8, _⟩ := slice_of_own r7 (by omega)
          injection hsl with h1 _ h3
          subst h1; subst h3
          have o7 : Own w7 w.heap.size w7.heap.size 2 (some ⟨g8, 0, none⟩) (i + 1) c7 (((xs.take i ++ [(i : Int)]) ++ xs.drop i).map (Value.int .i64)) := (Own.of_row (by rw [List.map_append, List.map_append]; exact r7)).more (by omega) (Nat.le_refl _)
          have s7 := s2.out.below f7 (by omega)
          have h7 := hch2.trans_below f7
          replace s7 := Lib.hid s7
          clear r7 gg7 r6 gg6 r5 g5 f6 d6 f5 e7
          go_wp2_with fail
          go_roundw
          case measure => simp [intOf]; omega
          case rel => exact ⟨i + 1, g8, c7, i2, _, _, by omega, by go_num, rfl, o7, hpn, s7, h7⟩
      · skip
        have hT : RI w2 w.heap.size w2.heap.size (some ⟨b2, 0, none⟩) k (xs.take k) := by simpa using ri_part ho2.ri (i := 0) (j := k) (by omega) hki (fun _ => rfl)
        have hD : RI w2 w.heap.size w2.heap.size (some ⟨b2, k, none⟩) (i - k) (xs.drop k) := by
          have h1 := ri_part ho2.ri (i := k) (j := i) hki (Nat.le_refl _) (A' := (some ⟨b2, k, none⟩)) (fun h => by first | rfl | omega)
          rw [List.take_of_length_le (by simp; have := hxl.out; omega)] at h1; simpa using h1
        have hB1 : Below w2.heap.size w2 (w2.alloc (.cells #[] 2)).drew := below_drw ((Below.refl _ _).alloc (Nat.le_refl _) _)
        have hA1 : Hid ((w2.alloc (.cells #[] 2)).ownsRow w2.heap.size 2 1 (.slice (some ⟨w2.heap.size, 0, none⟩) 0 0) 0 []) := Lib.hid (lit_own (heap_new _ _ _ rfl) (by omega))
        have hT1 : Hid (Rd (w2.alloc (.cells #[] 2)).drew w.heap.size w2.heap.size (some ⟨b2, 0, none⟩) k ((xs.take k).map (Value.int .i64))) := Lib.hid (hT.below hB1 (Nat.le_refl _))
        have hS1 : Hid (w2.heap.size ≤ (w2.alloc (.cells #[] 2)).drew.heap.size) := Lib.hid (hB1.size)
        replace hB1 := Lib.hid hB1
        have hB2 : Below w2.heap.size w2 ((w2.alloc (.cells #[] 2)).alloc (.cells #[.int .i64 (i : Int)] 2)).drew := below_drw (((Below.refl _ _).alloc (Nat.le_refl _) _).alloc (by simp) _)
        have hA2 : Hid (((w2.alloc (.cells #[] 2)).alloc (.cells #[.int .i64 (i : Int)] 2)).ownsRow w2.heap.size 2 1 (.slice (some ⟨w2.heap.size, 0, none⟩) 0 0) 0 []) := Lib.hid (lit_own ((Below.heap_alloc _ _ _ (by simp)).trans (heap_new _ _ _ rfl)) (by omega))
        have hT2 : Hid (Rd ((w2.alloc (.cells #[] 2)).alloc (.cells #[.int .i64 (i : Int)] 2)).drew w.heap.size w2.heap.size (some ⟨b2, 0, none⟩) k ((xs.take k).map (Value.int .i64))) := Lib.hid (hT.below hB2 (Nat.le_refl _))
        have hS2 : Hid (w2.heap.size ≤ ((w2.alloc (.cells #[] 2)).alloc (.cells #[.int .i64 (i : Int)] 2)).drew.heap.size) := Lib.hid (hB2.size)
        have hL2 : Hid (((w2.alloc (.cells #[] 2)).alloc (.cells #[.int .i64 (i : Int)] 2)).heap[w2.heap.size + 1]? = some (.cells #[.int .i64 (i : Int)] 2 (0, 0))) := Lib.hid (heap_new _ _ _ (by simp))
        replace hB2 := Lib.hid hB2
        have hB3 : Below w2.heap.size w2 ((w2.alloc (.cells #[.int .i64 (i : Int)] 2)).alloc (.cells #[] 2)).drew := below_drw (((Below.refl _ _).alloc (Nat.le_refl _) _).alloc (by simp) _)
        have hA3 : Hid (((w2.alloc (.cells #[.int .i64 (i : Int)] 2)).alloc (.cells #[] 2)).ownsRow w2.heap.size 2 1 (.slice (some ⟨w2.heap.size + 1, 0, none⟩) 0 0) 0 []) := Lib.hid (lit_own (heap_new _ _ _ (by simp)) (by omega))
        have hT3 : Hid (Rd ((w2.alloc (.cells #[.int .i64 (i : Int)] 2)).alloc (.cells #[] 2)).drew w.heap.size w2.heap.size (some ⟨b2, 0, none⟩) k ((xs.take k).map (Value.int .i64))) := Lib.hid (hT.below hB3 (Nat.le_refl _))
        have hS3 : Hid (w2.heap.size ≤ ((w2.alloc (.cells #[.int .i64 (i : Int)] 2)).alloc (.cells #[] 2)).drew.heap.size) := Lib.hid (hB3.size)
        have hL3 : Hid (((w2.alloc (.cells #[.int .i64 (i : Int)] 2)).alloc (.cells #[] 2)).heap[w2.heap.size]? = some (.cells #[.int .i64 (i : Int)] 2 (0, 0))) := Lib.hid ((Below.heap_alloc _ _ _ (by simp)).trans (heap_new _ _ _ rfl))
        replace hB3 := Lib.hid hB3
        have hml : Hid (k + 1 ≤ maxLen) := Lib.hid (by simp only [maxLen]; omega)
        have hDr : ∀ wq, Below w2.heap.size w2 wq → Rd wq w.heap.size w2.heap.size (some ⟨b2, k, none⟩) (i - k) ((xs.drop k).map (Value.int .i64)) := fun wq hq => hD.below hq (Nat.le_refl _)
        replace hDr := Lib.hid hDr
        clear hT hD
        have hI0 : (0 : Int) ≤ (k : Int) := by omega
        have hI1 : (k : Int) ≤ (i : Int) := by omega
        have hI2 : (k : Int) ≤ (c2 : Int) := by omega
        have hI3 : (i : Int) ≤ (c2 : Int) := by omega
        go_wp2_with fail
        go_region_law? (first
          | (refine step_appendL (w2.alloc (.cells #[] 2)).drew rfl (.tmp 18) (.tmp 21) 35 rfl w2.heap.size 2 j0 (.int .i64 0) 8 Tryz.underlying35 hj0 hy0 hy1 hy2 rfl (by omega) (some ⟨w2.heap.size, 0, none⟩) 0 0 [] (by rfl) hA1.out (some ⟨b2, 0, none⟩) k c2 ((xs.take k).map (Value.int .i64)) w.heap.size w2.heap.size (by rfl) hT1.out (ints_oneCell _ _) (by omega) hS1.out ?_; intro A5 c5 w5 r5 g5 b5; have f5 : Below w2.heap.size w2 w5 := hB1.out.grown g5 hS1.out (fun z hz => by simp [Value.ownBlock] at hz; omega); simp only [Nat.zero_add, List.nil_append] at r5; have z5 := f5.size; have q25 : Hid ((w5.alloc (.cells #[.int .i64 (i : Int)] 2)).ownsRow w2.heap.size 2 1 (.slice A5 k c5) k ((xs.take k).map (Value.int .i64))) := Lib.hid (r5.alloc _); have n25 : Hid (∀ z v, [Value.int .i64 (i : Int)][z]? = some v → (w5.alloc (.cells #[.int .i64 (i : Int)] 2)).cell? ((⟨w5.heap.size, 0, none⟩ : Addr).add z) = some v) := Lib.hid (cell_one_new w5 _ _); have s25 : Hid (w2.heap.size ≤ (w5.alloc (.cells #[.int .i64 (i : Int)] 2)).heap.size) := Lib.hid (by simp; omega); have f25 : Hid (Below w2.heap.size w2 (w5.alloc (.cells #[.int .i64 (i : Int)] 2))) := Lib.hid (f5.alloc z5 _))
          | (refine step_appendL ((w2.alloc (.cells #[] 2)).alloc (.cells #[.int .i64 (i : Int)] 2)).drew rfl (.tmp 18) (.tmp 21) 35 rfl w2.heap.size 2 j0 (.int .i64 0) 8 Tryz.underlying35 hj0 hy0 hy1 hy2 rfl (by omega) (some ⟨w2.heap.size, 0, none⟩) 0 0 [] (by rfl) hA2.out (some ⟨b2, 0, none⟩) k c2 ((xs.take k).map (Value.int .i64)) w.heap.size w2.heap.size (by rfl) hT2.out (ints_oneCell _ _) (by omega) hS2.out ?_; intro A5 c5 w5 r5 g5 b5; have f5 : Below w2.heap.size w2 w5 := hB2.out.grown g5 hS2.out (fun z hz => by simp [Value.ownBlock] at hz; omega); simp only [Nat.zero_add, List.nil_append] at r5; have z5 := f5.size; have k5 := (g5.block (w2.heap.size + 1) (by simp <;> omega) (by simp [Value.ownBlock] <;> omega)).trans hL2.out; have q252 : Hid (w5.ownsRow w2.heap.size 2 1 (.slice A5 k c5) k ((xs.take k).map (Value.int .i64))) := Lib.hid r5; have n252 : Hid (∀ z v, [Value.int .i64 (i : Int)][z]? = some v → w5.cell? ((⟨w2.heap.size + 1, 0, none⟩ : Addr).add z) = some v) := Lib.hid (cell_one_of k5); have s252 : Hid (w2.heap.size ≤ w5.heap.size) := Lib.hid z5; have f252 : Hid (Below w2.heap.size w2 w5) := Lib.hid f5)
          | (refine step_appendL ((w2.alloc (.cells #[.int .i64 (i : Int)] 2)).alloc (.cells #[] 2)).drew rfl (.tmp 18) (.tmp 21) 35 rfl w2.heap.size 2 j0 (.int .i64 0) 8 Tryz.underlying35 hj0 hy0 hy1 hy2 rfl (by omega) (some ⟨w2.heap.size + 1, 0, none⟩) 0 0 [] (by rfl) hA3.out (some ⟨b2, 0, none⟩) k c2 ((xs.take k).map (Value.int .i64)) w.heap.size w2.heap.size (by rfl) hT3.out (ints_oneCell _ _) (by omega) hS3.out ?_; intro A5 c5 w5 r5 g5 b5; have f5 : Below w2.heap.size w2 w5 := hB3.out.grown g5 hS3.out (fun z hz => by simp [Value.ownBlock] at hz; omega); simp only [Nat.zero_add, List.nil_append] at r5; have z5 := f5.size; have k5 := (g5.block (w2.heap.size) (by simp <;> omega) (by simp [Value.ownBlock] <;> omega)).trans hL3.out; have q253 : Hid (w5.ownsRow w2.heap.size 2 1 (.slice A5 k c5) k ((xs.take k).map (Value.int .i64))) := Lib.hid r5; have n253 : Hid (∀ z v, [Value.int .i64 (i : Int)][z]? = some v → w5.cell? ((⟨w2.heap.size, 0, none⟩ : Addr).add z) = some v) := Lib.hid (cell_one_of k5); have s253 : Hid (w2.heap.size ≤ w5.heap.size) := Lib.hid z5; have f253 : Hid (Below w2.heap.size w2 w5) := Lib.hid f5)
          | (refine step_append_lies _ rfl (.tmp 22) (.tmp 24) 35 rfl w2.heap.size 2 j0 (.int .i64 0) 1 8 Tryz.underlying35 hj0 hy0 hy1 hy2 rfl (by decide) (.slice A5 k c5) k ((xs.take k).map (Value.int .i64)) (by simp [Act.eval]) q25.out ⟨w5.heap.size, 0, none⟩ 1 1 [.int .i64 (i : Int)] (by simp [Act.eval]) rfl n25.out (by simp [Value.oneCell']) (by decide) hml.out (by omega) s25.out _ rfl ?_; intro g6 c6 w6 r6 gg6 hor6 hlt6; have f6 : Below w2.heap.size w2 w6 := f25.out.grown gg6 s25.out (fun z hz => (r5.lt z hz).1); have d6 := hDr.out w6 f6; have z6 := f6.size)
          | (refine step_append_lies _ rfl (.tmp 22) (.tmp 24) 35 rfl w2.heap.size 2 j0 (.int .i64 0) 1 8 Tryz.underlying35 hj0 hy0 hy1 hy2 rfl (by decide) (.slice A5 k c5) k ((xs.take k).map (Value.int .i64)) (by simp [Act.eval]) q252.out ⟨w2.heap.size + 1, 0, none⟩ 1 1 [.int .i64 (i : Int)] (by simp [Act.eval]) rfl n252.out (by simp [Value.oneCell']) (by decide) hml.out (by omega) s252.out _ rfl ?_; intro g6 c6 w6 r6 gg6 hor6 hlt6; have f6 : Below w2.heap.size w2 w6 := f252.out.grown gg6 s252.out (fun z hz => (r5.lt z hz).1); have d6 := hDr.out w6 f6; have z6 := f6.size)
          | (refine step_append_lies _ rfl (.tmp 22) (.tmp 24) 35 rfl w2.heap.size 2 j0 (.int .i64 0) 1 8 Tryz.underlying35 hj0 hy0 hy1 hy2 rfl (by decide) (.slice A5 k c5) k ((xs.take k).map (Value.int .i64)) (by simp [Act.eval]) q253.out ⟨w2.heap.size, 0, none⟩ 1 1 [.int .i64 (i : Int)] (by simp [Act.eval]) rfl n253.out (by simp [Value.oneCell']) (by decide) hml.out (by omega) s253.out _ rfl ?_; intro g6 c6 w6 r6 gg6 hor6 hlt6; have f6 : Below w2.heap.size w2 w6 := f253.out.grown gg6 s253.out (fun z hz => (r5.lt z hz).1); have d6 := hDr.out w6 f6; have z6 := f6.size)
          | (refine step_appendL w6 rfl (.tmp 25) (.tmp 28) 35 rfl w2.heap.size 2 j0 (.int .i64 0) 8 Tryz.underlying35 hj0 hy0 hy1 hy2 rfl (by omega) (some ⟨g6, 0, none⟩) (k + 1) c6 (((xs.take k).map (Value.int .i64)) ++ [.int .i64 (i : Int)]) (by rfl) r6 (some ⟨b2, k, none⟩) (i - k) (c2 - k) ((xs.drop k).map (Value.int .i64)) w.heap.size w2.heap.size (by rfl) d6 (ints_oneCell _ _) (by omega) z6 ?_; intro A7 c7 w7 r7 gg7 b7))
        all_goals
          have f7 : Below w2.heap.size w2 w7 := f6.grown gg7 z6 (fun z hz => (r6.lt z hz).1)
          have z7 := f7.size
          have e7 : k + 1 + (i - k) = i + 1 := by omega
          rw [e7] at r7
          (try rw [e7])
          obtain ⟨g8, c8, hsl, hg8, _⟩ := slice_of_own r7 (by omega)
          injection hsl with h1 _ h3
          subst h1; subst h3
          have o7 : Own w7 w.heap.size w7.heap.size 2 (some ⟨g8, 0, none⟩) (i + 1) c7 (((xs.take k ++ [(i : Int)]) ++ xs.drop k).map (Value.int .i64)) := (Own.of_row (by rw [List.map_append, List.map_append]; exact r7)).more (by omega) (Nat.le_refl _)
          have s7 := s2.out.below f7 (by omega)
          have h7 := hch2.trans_below f7
          replace s7 := Lib.hid s7
          clear r7 gg7 r6 gg6 r5 g5 f6 d6 f5 e7
          go_wp2_with fail
          go_roundw
          case measure => simp [intOf]; omega
          case rel => exact ⟨i + 1, g8, c7, i2, _, _, by omega, by go_num, rfl, o7, hpn, s7, h7⟩
      --END
    · have hiN : i = N := by omega
      subst hiN
      go_wp2_with fail
      go_ret
      exact ⟨some ⟨b2, 0, none⟩, c2, rfl, i', h', xs, ho, hpm.out, hs.out, hch⟩
end Go.Proofs.YtbioelmofceaaaaGreat
/- Mat -/
namespace Go.Proofs.YtbioelmofceaaaaGreat
open Go.RowKit
set_option linter.unusedVariables false
set_option maxRecDepth 100000
def prt (t : Nat) : Nat := if t % 2 = 0 then t + 1 else t - 1
/-- the first 2 * j places of xs are matched in zs -/
def MatI (xs zs : List Int) (N j : Nat) : Prop := zs.length = N ∧ ∀ t, t < 2 * j → ∀ u : Nat, xs[t]? = some (u : Int) → zs[u]? = xs[prt t]?
theorem MatI.step {xs zs : List Int} {N j a b : Nat} (h : MatI xs zs N j) (hn : xs.Nodup) (ha : xs[2 * j]? = some (a : Int)) (hb : xs[2 * j + 1]? = some (b : Int)) (haN : a < N) (hbN : b < N) : MatI xs ((zs.set a (b : Int)).set b (a : Int)) N (j + 1) := by
  obtain ⟨hl, h⟩ := h
  have inj : ∀ (s t u : Nat), xs[s]? = some (u : Int) → xs[t]? = some (u : Int) → s = t := by
    intro s t u h1 h2
    exact (idxOf_of_get? hn h1).symm.trans (idxOf_of_get? hn h2)
  have hab : a ≠ b := fun e => by subst e; have := inj _ _ _ ha hb; omega
  refine ⟨by simp [hl], fun t ht u hu => ?_⟩
  by_cases e0 : t = 2 * j
  · subst e0
    have e1 : a = u := by rw [ha] at hu; have := Option.some.inj hu; omega
    subst e1
    have e2 : prt (2 * j) = 2 * j + 1 := by unfold prt; rw [if_pos (by omega)]
    rw [e2, hb, List.getElem?_set, if_neg (Ne.symm hab), List.getElem?_set, if_pos rfl, if_pos (by omega)]
  · by_cases e1 : t = 2 * j + 1
    · subst e1
      have e3 : b = u := by rw [hb] at hu; have := Option.some.inj hu; omega
      subst e3
      have e2 : prt (2 * j + 1) = 2 * j := by unfold prt; rw [if_neg (by omega)]; omega
      rw [e2, ha, List.getElem?_set, if_pos rfl, if_pos (by rw [List.length_set]; omega)]
    · have n1 : b ≠ u := fun e => by subst e; have := inj _ _ _ hb hu; omega
      have n2 : a ≠ u := fun e => by subst e; have := inj _ _ _ ha hu; omega
      rw [List.getElem?_set, if_neg n1, List.getElem?_set, if_neg n2]
      exact h t (by omega) u hu
theorem perm_id {xs : List Int} {N : Nat} (h : xs.Perm (idL N)) : xs.Nodup ∧ xs.length = N ∧ (∀ x ∈ xs, 0 ≤ x ∧ x < N) ∧ ∀ u : Nat, u < N → (u : Int) ∈ xs := by
  refine ⟨h.nodup_iff.2 ?_, by rw [h.length_eq, idL_length], fun x hx => mem_ints.1 (h.mem_iff.1 hx), fun u hu => h.mem_iff.2 (mem_ints.2 (by omega))⟩
  unfold idL
  rw [List.nodup_iff_pairwise_ne, List.pairwise_map]
  exact (List.nodup_iff_pairwise_ne.1 List.nodup_range).imp (by intro a b h e; exact h (Int.ofNat.inj e))
theorem MatI.end_ {xs zs : List Int} {k : Nat} (h : MatI xs zs (2 * k) k) (hp : xs.Perm (idL (2 * k))) : (∀ x ∈ zs, 0 ≤ x ∧ x < (2 * k : Nat)) ∧ zs.Nodup ∧ zs.length = 2 * k := by
  obtain ⟨hn, hl, hr, hall⟩ := perm_id hp
  obtain ⟨hzl, h⟩ := h
  have key : ∀ u, u < 2 * k → ∃ t, t < 2 * k ∧ xs[t]? = some (u : Int) ∧ zs[u]? = xs[prt t]? ∧ prt t < 2 * k := by
    intro u hu
    obtain ⟨t, ht⟩ := List.mem_iff_getElem?.1 (hall u hu)
    have htl := (List.getElem?_eq_some_iff.1 ht).1
    refine ⟨t, by omega, ht, h t (by omega) u ht, ?_⟩
    unfold prt
    by_cases e : t % 2 = 0
    · rw [if_pos e]; omega
    · rw [if_neg e]; omega
  refine ⟨fun x hx => ?_, ?_, hzl⟩
  · obtain ⟨u, hu⟩ := List.mem_iff_getElem?.1 hx
    obtain ⟨t, _, _, h3, _⟩ := key u (by have := (List.getElem?_eq_some_iff.1 hu).1; omega)
    rw [hu] at h3
    exact hr x (List.mem_of_getElem? h3.symm)
  · rw [List.nodup_iff_pairwise_ne, List.pairwise_iff_getElem]
    intro i j hi hj hij e
    obtain ⟨t, t1, t2, t3, t4⟩ := key i (by omega)
    obtain ⟨s, s1, s2, s3, s4⟩ := key j (by omega)
    rw [List.getElem?_eq_getElem hi] at t3
    rw [List.getElem?_eq_getElem hj, ← e] at s3
    have h3 : prt t = prt s := by
      have q1 := idxOf_of_get? hn t3.symm
      have q2 := idxOf_of_get? hn s3.symm
      exact q1.symm.trans q2
    have h4 : t = s := by
      unfold prt at h3
      by_cases e1 : t % 2 = 0
      · rw [if_pos e1] at h3
        by_cases e2 : s % 2 = 0
        · rw [if_pos e2] at h3; omega
        · rw [if_neg e2] at h3; omega
      · rw [if_neg e1] at h3
        by_cases e2 : s % 2 = 0
        · rw [if_pos e2] at h3; omega
        · rw [if_neg e2] at h3; omega
    subst h4
    rw [t2] at s2
    have := Option.some.inj s2
    omega
/-- a permutation of N points in a row of its own -/
def MatP (w w' : World) (lo g : Nat) (T T1 : TypeId) (A : Option Addr) (n c : Nat) (bs : List Int) (A1 : Option Addr) (N c1 : Nat) : Prop :=
  ∃ (i' h' : Nat) (zs : List Int), Own w' w.heap.size w'.heap.size T1 A1 N c1 (zs.map (Value.int .i64)) ∧ ((∀ x ∈ zs, 0 ≤ x ∧ x < N) ∧ zs.Nodup ∧ zs.length = N) ∧ Src w' lo g T A n c bs i' h' ∧ Chg g (g + 1) w w'
/-- the drawn permutation and the row to be filled -/
def MatC (w wx : World) (lo g : Nat) (T T1 : TypeId) (A : Option Addr) (n c : Nat) (bs : List Int) (A5 : Option Addr) (N c5 g6 : Nat) : Prop :=
  ∃ (lo5 hi5 i' h' : Nat) (xs : List Int), Own wx lo5 hi5 T1 A5 N c5 (xs.map (Value.int .i64)) ∧ (g6 < lo5 ∨ hi5 ≤ g6) ∧ w.heap.size ≤ lo5 ∧ w.heap.size ≤ g6 ∧ hi5 ≤ wx.heap.size ∧ Own wx g6 (g6 + 1) T1 (some ⟨g6, 0, none⟩) N N ((List.replicate N 0).map (Value.int .i64)) ∧ xs.Perm (idL N) ∧ Src wx lo g T A n c bs i' h' ∧ Chg g (g + 1) w wx
theorem matC1 {w v w5 : World} {lo g : Nat} {T T1 : TypeId} {A : Option Addr} {n c : Nat} {bs : List Int} {A5 : Option Addr} {N c5 i' h' : Nat} {xs : List Int} (hB : Below w.heap.size w v) (hz : v.heap.size = w.heap.size) (hg : g < w.heap.size) (hml : N ≤ maxLen)
    (o : Own w5 v.heap.size w5.heap.size T1 A5 N c5 (xs.map (Value.int .i64))) (hp : xs.Perm (idL N)) (s : Src w5 lo g T A n c bs i' h') (C : Chg g (g + 1) v w5) :
    MatC w (w5.alloc (.cells (madeCells #[.int .i64 0] N) T1)) lo g T T1 A n c bs A5 N c5 w5.heap.size := by
  have C1 : Chg g (g + 1) w w5 := (Chg.of_below g (g + 1) hB).trans C ⟨Nat.le_refl _, Nat.le_refl _⟩ ⟨Nat.le_refl _, Nat.le_refl _⟩
  have hs := C1.size
  have Bz : Below w5.heap.size w5 (w5.alloc (.cells (madeCells #[.int .i64 0] N) T1)) := (Below.refl _ _).alloc (Nat.le_refl _) _
  refine ⟨v.heap.size, w5.heap.size, i', h', xs, o.below Bz (Nat.le_refl _), .inr (Nat.le_refl _), by omega, hs, by simp, ⟨?_, fun ad e => by injection e with e; subst e; simp⟩, hp, s.below Bz s.lt, C1.trans_below Bz⟩
  simpa using made_own (z := .int .i64 0) rfl (heap_new w5 _ _ rfl) (Nat.le_refl _) hml
theorem matC2 {w v w5 : World} {lo g : Nat} {T T1 : TypeId} {A : Option Addr} {n c : Nat} {bs : List Int} {A5 : Option Addr} {N c5 i' h' : Nat} {xs : List Int} (hB : Below w.heap.size w v) (hz : v.heap.size = w.heap.size + 1) (hv : v.heap[w.heap.size]? = some (.cells (madeCells #[.int .i64 0] N) T1 (0, 0))) (hg : g < w.heap.size) (hml : N ≤ maxLen)
    (o : Own w5 v.heap.size w5.heap.size T1 A5 N c5 (xs.map (Value.int .i64))) (hp : xs.Perm (idL N)) (s : Src w5 lo g T A n c bs i' h') (C : Chg g (g + 1) v w5) :
    MatC w w5 lo g T T1 A n c bs A5 N c5 w.heap.size := by
  have C1 : Chg g (g + 1) w w5 := (Chg.of_below g (g + 1) hB).trans C ⟨Nat.le_refl _, Nat.le_refl _⟩ ⟨Nat.le_refl _, Nat.le_refl _⟩
  have hs := C.size
  refine ⟨v.heap.size, w5.heap.size, i', h', xs, o, .inl (by omega), by omega, Nat.le_refl _, Nat.le_refl _, ⟨?_, fun ad e => by injection e with e; subst e; simp⟩, hp, s, C1⟩
  simpa using made_own (z := .int .i64 0) rfl ((C.block w.heap.size (by omega) (by omega)).trans hv) (Nat.le_refl _) hml
theorem Src.drew1 {w : World} {lo g : Nat} {T : TypeId} {A : Option Addr} {n c : Nat} {bs : List Int} {i h : Nat} (s : Src w lo g T A n c bs i h) : Src w.drew lo g T A n c bs i h := ⟨s.blk, s.above, s.code, s.byte, s.le, s.st⟩
set_option maxHeartbeats 4000000 in
theorem matching_any (w : World) (lo g : Nat) (A : Option Addr) (n c : Nat) (bs : List Int) (i h : Nat) (s : Src w lo g 74 A n c bs i h) (k : Nat) (hk4 : 2 * k ≤ 400) :
    Calls Tryz.prog 46 #[.pointer (some ⟨g, 0, none⟩), .int .i64 ((2 * k : Nat) : Int)] w fun e w' => ∃ (A1 : Option Addr) (c1 : Nat), e = .returned (.slice A1 (2 * k) c1) ∧ MatP w w' lo g 74 2 A n c bs A1 (2 * k) c1 := by
  obtain ⟨N, hN⟩ : ∃ N, 2 * k = N := ⟨_, rfl⟩
  rw [hN]
  have hgl := s.lt
  have mk1 := run_make_row' (P := Tryz.prog) 35 2 (.int .i64 0) 8 Tryz.underlying35 infoI rfl .i64 .i64 N (by omega) (by omega)
  have hDr : ∀ wq, Below w.heap.size w wq → _ := fun wq hq => draw_any wq lo g A n c bs i h (s.below hq hgl) N (by omega)
  replace hDr := Lib.hid hDr
  go_enter Tryz.func46, Tryz.ntmps46
  go_wp2_with fail
  go_cut [5, 6] from 8 to 12 (fun s5 s6 wx => ∃ (A5 : Option Addr) (c5 g6 : Nat), s5 = .slice A5 N c5 ∧ s6 = .slice (some ⟨g6, 0, none⟩) N N ∧ MatC w wx lo g 74 2 A n c bs A5 N c5 g6)
  case first =>
    have hml : N ≤ maxLen := by simp only [maxLen]; omega
    go_region_law? (first | (refine step_call rfl 67 #[.pointer (some ⟨g, 0, none⟩), .int .i64 (N : Int)] (by go_simp) (hDr.out _ (by first | exact below_drw (Below.refl _ _) | exact below_drw ((Below.refl _ _).alloc (Nat.le_refl _) _) | exact (below_drw (Below.refl _ _)).alloc (Nat.le_refl _) _)) ?_; rintro e w5 ⟨A5, c5, rfl, i5, h5, xs, o5, hp5, s5, C5⟩; refine ⟨_, rfl, ?_⟩))
    all_goals (go_wp2_with fail; go_meet)
    all_goals
      first
        | exact ⟨_, _, _, rfl, rfl, matC1 (below_drw (Below.refl _ _)) (by simp) hgl hml o5 hp5 s5 C5⟩
        | exact ⟨_, _, _, rfl, rfl, matC2 (below_drw ((Below.refl _ _).alloc (Nat.le_refl _) _)) (by simp) (heap_new _ _ _ rfl) hgl hml o5 hp5 s5 C5⟩
        | trace_state
  case rest =>
    obtain ⟨A5, c5, g6, rfl, rfl, lo5, hi5, i', h', xs, o5, hg6, hlo, hlg, hhi, o6, hp, s5, C5⟩ := hcut
    clear mk1 hDr
    obtain ⟨hn5, hl5, hr5, _⟩ := perm_id hp
    replace hn5 := Lib.hid hn5
    replace hr5 := Lib.hid hr5
    replace hp := Lib.hid hp
    replace hl5 := Lib.hid hl5
    replace s5 := Lib.hid s5
    go_wp2_with fail
    go_loopw [7] (fun iv wq => ∃ (t j : Nat) (zs : List Int), t = 2 * j ∧ t ≤ N ∧ iv = .int .i64 t ∧ Hid (MatI xs zs N j) ∧ Own wq lo5 hi5 2 A5 N c5 (xs.map (Value.int .i64)) ∧ Own wq g6 (g6 + 1) 2 (some ⟨g6, 0, none⟩) N N (zs.map (Value.int .i64)) ∧ Hid (Src wq lo g 74 A n c bs i' h') ∧ Chg g (g + 1) w wq ∧ hi5 ≤ wq.heap.size) (fun iv _ => N + 2 - (intOf iv).toNat)
    case atStart => exact ⟨0, 0, List.replicate N 0, by omega, by omega, rfl, Lib.hid ⟨by simp, fun t ht => by omega⟩, o5, o6, s5, C5, hhi⟩
    case round =>
      clear o5 o6 s5 C5 hhi
      obtain ⟨t, j, zs, rfl, htN, rfl, hmt, o5, o6, s5, C5, hhi⟩ := hrel
      have hzl := Lib.hid o6.lenI
      by_cases hlt : 2 * j + 1 < N
      · obtain ⟨bx, av, rfl, hb1, hb2, hb3, hav, hca, _⟩ := o5.atI (show 2 * j < N by omega)
        obtain ⟨bv, hbv⟩ : ∃ v, xs[2 * j + 1]? = some v := ⟨_, List.getElem?_eq_getElem (by have := hl5.out; omega)⟩
        have hcb := o5.cellI hbv
        obtain ⟨ha0, haN⟩ := hr5.out av (List.mem_of_getElem? hav)
        obtain ⟨hb0, hbN⟩ := hr5.out bv (List.mem_of_getElem? hbv)
        obtain ⟨a, rfl⟩ := Int.eq_ofNat_of_zero_le ha0
        obtain ⟨b, rfl⟩ := Int.eq_ofNat_of_zero_le hb0
        have haN' : a < N := by omega
        have hbN' : b < N := by omega
        have hst := hmt.out.step hn5.out hav hbv haN' hbN'
        have hg6l := (o6.1.lt g6 (by simp [Value.ownBlock])).2
        have hne : bx ≠ g6 := by omega
        obtain ⟨za, hza⟩ : ∃ v, zs[a]? = some v := ⟨_, List.getElem?_eq_getElem (by have := hzl.out; omega)⟩
        obtain ⟨zb, hzb⟩ : ∃ v, (zs.set a (b : Int))[b]? = some v := ⟨_, List.getElem?_eq_getElem (by have := hzl.out; simp; omega)⟩
        have hcA := o6.cellI hza
        have hfA := o6.frz a
        have p5 : Own (wr.setCell ⟨g6, a, none⟩ (.int .i64 (b : Int))).drew lo5 hi5 2 (some ⟨bx, 0, none⟩) N c5 (xs.map (Value.int .i64)) := (o5.far (by simp; omega) _).keep (fun _ _ _ => rfl)
        have p6 : Own (wr.setCell ⟨g6, a, none⟩ (.int .i64 (b : Int))).drew g6 (g6 + 1) 2 (some ⟨g6, 0, none⟩) N N ((zs.set a (b : Int)).map (Value.int .i64)) := (o6.setI _).keep (fun _ _ _ => rfl)
        have hca2 := p5.cellI hav
        have hcb2 := p5.cellI hbv
        have hcA2 := p6.cellI hzb
        have hfA2 := p6.frz b
        have q5 : Own ((wr.setCell ⟨g6, a, none⟩ (.int .i64 (b : Int))).drew.setCell ⟨g6, b, none⟩ (.int .i64 (a : Int))).drew lo5 hi5 2 (some ⟨bx, 0, none⟩) N c5 (xs.map (Value.int .i64)) := (p5.far (by simp; omega) _).keep (fun _ _ _ => rfl)
        have q6 : Own ((wr.setCell ⟨g6, a, none⟩ (.int .i64 (b : Int))).drew.setCell ⟨g6, b, none⟩ (.int .i64 (a : Int))).drew g6 (g6 + 1) 2 (some ⟨g6, 0, none⟩) N N (((zs.set a (b : Int)).set b (a : Int)).map (Value.int .i64)) := (p6.setI _).keep (fun _ _ _ => rfl)
        have hgg := s5.out.above
        have q7 : Src ((wr.setCell ⟨g6, a, none⟩ (.int .i64 (b : Int))).drew.setCell ⟨g6, b, none⟩ (.int .i64 (a : Int))).drew lo g 74 A n c bs i' h' := ((s5.out.far (by simp; omega) (by simp; omega) _).drew1.far (by simp; omega) (by simp; omega) _).drew1
        have q8 : Chg g (g + 1) w ((wr.setCell ⟨g6, a, none⟩ (.int .i64 (b : Int))).drew.setCell ⟨g6, b, none⟩ (.int .i64 (a : Int))).drew := ((C5.setNew (by simp; omega) _).drew.setNew (by simp; omega) _).drew
        replace hst := Lib.hid hst
        replace hav := Lib.hid hav
        replace hbv := Lib.hid hbv
        replace hza := Lib.hid hza
        replace hzb := Lib.hid hzb
        replace q7 := Lib.hid q7
        clear p5 p6 o5 o6 hmt s5 C5 ha0 haN hb0 hbN hb1
        go_wp2_with fail
        go_region
        go_wp2_with fail
        go_region
        go_wp2_with fail
        go_roundw
        case rel => exact ⟨2 * j + 2, j + 1, (zs.set a (b : Int)).set b (a : Int), by omega, by omega, by go_num, hst, q5, q6, q7, q8, by simp; omega⟩
        case measure => simp [intOf]; omega
      · have hjk : j = k := by omega
        subst hjk
        subst hN
        have hE := hmt.out.end_ hp.out
        replace hE := Lib.hid hE
        clear hmt hzl
        go_wp2_with fail
        go_ret
        exact ⟨_, _, rfl, i', h', zs, o6.more hlg (by have := (o6.1.lt g6 (by simp [Value.ownBlock])).2; omega), hE.out, s5.out, C5⟩
end Go.Proofs.YtbioelmofceaaaaGreat
/- MapP -/
namespace Go.Proofs.YtbioelmofceaaaaGreat
set_option linter.unusedVariables false
/-- f xor 2 -/
def xor2 (f : Nat) : Int := if f / 2 % 2 = 0 then (f : Int) + 2 else (f : Int) - 2
theorem xor1_perm (n : Nat) : (∀ x ∈ (List.range (4 * n)).map plyA, 0 ≤ x ∧ x < (4 * n : Nat)) ∧ ((List.range (4 * n)).map plyA).Nodup ∧ ((List.range (4 * n)).map plyA).length = 4 * n := by
  refine fun_perm (fun f hf => ?_) (fun f h hf hh e => ?_)
  · unfold plyA
    by_cases g : f % 2 = 0
    · rw [if_pos g]; omega
    · rw [if_neg g]; omega
  · unfold plyA at e
    by_cases g : f % 2 = 0
    · rw [if_pos g] at e
      by_cases g2 : h % 2 = 0
      · rw [if_pos g2] at e; omega
      · rw [if_neg g2] at e; omega
    · rw [if_neg g] at e
      by_cases g2 : h % 2 = 0
      · rw [if_pos g2] at e; omega
      · rw [if_neg g2] at e; omega
theorem xor2_perm (n : Nat) : (∀ x ∈ (List.range (4 * n)).map xor2, 0 ≤ x ∧ x < (4 * n : Nat)) ∧ ((List.range (4 * n)).map xor2).Nodup ∧ ((List.range (4 * n)).map xor2).length = 4 * n := by
  refine fun_perm (fun f hf => ?_) (fun f h hf hh e => ?_)
  · unfold xor2
    by_cases g : f / 2 % 2 = 0
    · rw [if_pos g]; omega
    · rw [if_neg g]; omega
  · unfold xor2 at e
    by_cases g : f / 2 % 2 = 0
    · rw [if_pos g] at e
      by_cases g2 : h / 2 % 2 = 0
      · rw [if_pos g2] at e; omega
      · rw [if_neg g2] at e; omega
    · rw [if_neg g] at e
      by_cases g2 : h / 2 % 2 = 0
      · rw [if_pos g2] at e; omega
      · rw [if_neg g2] at e; omega
theorem xor1_free (N : Nat) (hN : 4 ∣ N) (z : Int) (z0 : 0 ≤ z) (z1 : z < N) : at' ((List.range N).map plyA) z ≠ z ∧ at' ((List.range N).map plyA) (at' ((List.range N).map plyA) z) = z := by
  obtain ⟨f, rfl⟩ := Int.eq_ofNat_of_zero_le z0
  have key : ∀ f : Nat, f < N → at' ((List.range N).map plyA) (f : Int) = plyA f := fun f hf => by
    unfold at'
    rw [Int.toNat_natCast]
    exact getD_some (by simp [hf])
  rw [key f (by omega)]
  obtain ⟨q, hq⟩ := hN
  unfold plyA
  by_cases g : f % 2 = 0
  · rw [if_pos g]
    have := key (f + 1) (by omega)
    rw [Int.natCast_add] at this
    refine ⟨by omega, this.trans ?_⟩
    unfold plyA
    rw [if_neg (by omega)]
    omega
  · rw [if_neg g]
    have := key (f - 1) (by omega)
    rw [Int.natCast_sub (by omega)] at this
    refine ⟨by omega, this.trans ?_⟩
    unfold plyA
    rw [if_pos (by omega)]
    omega
/-- a row cut down to the points of ls, numbered by their places in it -/
def subRow (ls row : List Int) : List Int := (List.range ls.length).map fun i => ((ls.idxOf (at' row (ls.getD i 0)) : Nat) : Int)
theorem sub_sys {xss : List (List Int)} {n : Nat} {ls : List Int} (hs : SysOf xss n) (hn : ls.Nodup) (hr : ∀ x ∈ ls, 0 ≤ x ∧ x < n) (hc : ∀ x ∈ ls, ∀ p ∈ xss, at' p x ∈ ls) : SysOf (xss.map (subRow ls)) ls.length := by
  intro r hrm
  obtain ⟨p, hp, rfl⟩ := List.mem_map.1 hrm
  obtain ⟨p1, p2, p3⟩ := hs p hp
  have key : ∀ i, i < ls.length → ls.getD i 0 ∈ ls := by
    intro i hi
    rw [List.getD_eq_getElem?_getD, List.getElem?_eq_getElem hi]
    exact List.getElem_mem hi
  unfold subRow
  refine fun_perm (fun i hi => ?_) (fun i j hi hj e => ?_)
  · have := List.idxOf_lt_length_iff.2 (hc _ (key i hi) p hp)
    omega
  · have h1 := hc _ (key i hi) p hp
    have h2 := hc _ (key j hj) p hp
    have e1 := Int.ofNat.inj e
    have l1 := List.idxOf_lt_length_iff.2 h1
    have l2 := List.idxOf_lt_length_iff.2 h2
    have g1 := List.getElem_idxOf l1
    have g2 := List.getElem_idxOf l2
    have e2 : at' p (ls.getD i 0) = at' p (ls.getD j 0) := by
      rw [← g1, ← g2]
      simp only [e1]
    have r1 := hr _ (key i hi)
    have r2 := hr _ (key j hj)
    have e3 := at'_inj p2 p3 r1.1 r1.2 r2.1 r2.2 e2
    rw [List.getD_eq_getElem?_getD, List.getD_eq_getElem?_getD, List.getElem?_eq_getElem hi, List.getElem?_eq_getElem hj] at e3
    have q1 := idxOf_of_get? hn (List.getElem?_eq_getElem hi)
    have q2 := idxOf_of_get? hn (List.getElem?_eq_getElem hj)
    have e4 : ls[i] = ls[j] := e3
    rw [e4] at q1
    exact q1.symm.trans q2
/-- the points that 0 leads to -/
theorem orbit_sys {xss : List (List Int)} {n : Nat} (hs : SysOf xss n) (hn : 1 ≤ n) : SysOf (xss.map (subRow (bfs xss n 0))) (bfs xss n 0).length ∧ 1 ≤ (bfs xss n 0).length ∧ (bfs xss n 0).length ≤ n := by
  have hm := bfs_met hs (x := 0) (by omega) (by omega)
  have h0 : (0 : Int) ∈ bfs xss n 0 := (bfs_mem hs (by omega) (by omega)).2 .refl
  refine ⟨sub_sys hs hm.nd (fun x hx => ((bfs_mem hs (by omega) (by omega)).1 hx).rng hs (by omega) (by omega)) (fun x hx p hp => ?_), ?_, hm.len⟩
  · exact (bfs_mem hs (by omega) (by omega)).2 (.step ((bfs_mem hs (by omega) (by omega)).1 hx) hp)
  · exact List.length_pos_of_mem h0
end Go.Proofs.YtbioelmofceaaaaGreat
/- ManS -/
namespace Go.Proofs.YtbioelmofceaaaaGreat
open Go.RowKit
set_option linter.unusedVariables false
set_option maxRecDepth 100000
set_option maxHeartbeats 8000000 in
theorem l02Is_any (A : Option Addr) (n c : Nat) (xss : List (List Int)) (w : World) {lo hi : Nat} (h : RS w lo hi A n xss) (hhi : hi ≤ w.heap.size) :
    Calls Tryz.prog 27 #[.agg #[.slice A n c]] w fun e w' => e = .returned (.bool (isManB xss)) ∧ Below w.heap.size w w' := by
  have hm := h.max
  have hl := h.len
  have hR : RS (w.alloc (.cells #[.slice A n c] 26)) lo hi A n xss := h.keep (same_alloc w _ _ _ hhi)
  have hC : (w.alloc (.cells #[.slice A n c] 26)).cell? ⟨w.heap.size, 0, none⟩ = some (.slice A n c) := by simp
  have hB : Below w.heap.size w (w.alloc (.cells #[.slice A n c] 26)) := (Below.refl _ _).alloc (Nat.le_refl _) _
  by_cases hn1 : n < 1
  · have d1 : decide ((n : Int) < 1) = true := by simp; omega
    have hF : isManB xss = false := isManB_false fun hh => by have := hh.r1; omega
    replace hF := Lib.hid hF
    replace hl := Lib.hid hl
    go_enter Tryz.func27, Tryz.ntmps27
    go_wp2_with fail
    go_ret
    exact ⟨ret_bool hF.out.symm, hB⟩
  have d1 : decide ((n : Int) < 1) = false := by simp; omega
  by_cases hn5 : 5 < n
  · have d2 : decide ((5 : Int) < (n : Int)) = true := by simp; omega
    have hF : isManB xss = false := isManB_false fun hh => by have := hh.r5; omega
    replace hF := Lib.hid hF
    replace hl := Lib.hid hl
    go_enter Tryz.func27, Tryz.ntmps27
    go_wp2_with fail
    go_ret
    exact ⟨ret_bool hF.out.symm, hB⟩
  have d2 : decide ((5 : Int) < (n : Int)) = false := by simp; omega
  obtain ⟨b, o, A0, n0, c0, p0, rfl, _, hbh, hp0, hc0, hr0⟩ := hR.at_ (k := 0) (by omega)
  rw [Nat.add_zero] at hc0
  have hn0 : n0 = flg xss := by rw [flg_of hp0]; exact hr0.len.symm
  subst hn0
  have hm0 := hr0.max
  by_cases hf2 : flg xss < 2
  · have d3 : decide (((flg xss : Nat) : Int) < 2) = true := by simp; omega
    have hF : isManB xss = false := isManB_false fun hh => by have := hh.f2; omega
    replace hF := Lib.hid hF
    replace hl := Lib.hid hl
    replace hp0 := Lib.hid hp0
    go_enter Tryz.func27, Tryz.ntmps27
    go_wp2_with fail
    go_ret
    exact ⟨ret_bool hF.out.symm, hB⟩
  have d3 : decide (((flg xss : Nat) : Int) < 2) = false := by simp; omega
  by_cases hf4 : 400 < flg xss
  · have d4 : decide ((400 : Int) < ((flg xss : Nat) : Int)) = true := by simp; omega
    have hF : isManB xss = false := isManB_false fun hh => by have := hh.f4; omega
    replace hF := Lib.hid hF
    replace hl := Lib.hid hl
    replace hp0 := Lib.hid hp0
    go_enter Tryz.func27, Tryz.ntmps27
    go_wp2_with fail
    go_ret
    exact ⟨ret_bool hF.out.symm, hB⟩
  have d4 : decide ((400 : Int) < ((flg xss : Nat) : Int)) = false := by simp; omega
  replace hl := Lib.hid hl
  replace hp0 := Lib.hid hp0
  go_enter Tryz.func27, Tryz.ntmps27
  go_wp2_with fail
  obtain ⟨W1, hW⟩ : ∃ W1 : World, w.alloc (.cells #[.slice (some ⟨b, o, none⟩) n c] 26) = W1 := ⟨_, rfl⟩
  have hz1 : W1.heap.size = w.heap.size + 1 := by rw [← hW]; simp
  rw [hW] at hR hC hB hr0 hc0 ⊢
  clear hW h
  have Hs : ∀ w' : World, Below W1.heap.size W1 w' → w'.cell? ⟨w.heap.size, 0, none⟩ = some (.slice (some ⟨b, o, none⟩) n c) ∧ w'.cell? ⟨b, o, none⟩ = some (.slice A0 (flg xss) c0) := fun w' hb =>
    ⟨(hb.cell (p := ⟨w.heap.size, 0, none⟩) (by simp; omega)).trans hC, (hb.cell (p := ⟨b, o, none⟩) (by simp; omega)).trans hc0⟩
  replace Hs := Lib.hid Hs
  go_loopw [4] (fun kv wr => ∃ k : Nat, k ≤ n ∧ kv = .int .i64 k ∧ Hid (∀ p ∈ xss.take k, mvB (flg xss) p = true) ∧ Below W1.heap.size W1 wr) (fun kv _ => n - (intOf kv).toNat)
  case atStart => exact ⟨0, by omega, rfl, Lib.hid (by simp), Below.refl _ _⟩
  case round =>
    obtain ⟨k, hk, rfl, hmv, hb⟩ := hrel
    have hbz := hb.size
    obtain ⟨hCk, hc0k⟩ := Hs.out _ hb
    have hRk := hR.below hb (by omega)
    by_cases hlt : k < n
    · obtain ⟨b', o', Ak, nk, ck, ys, hA, _, _, hys, hcell, hrow⟩ := hRk.at_ hlt
      injection hA with hA
      injection hA with hA1 hA2 _
      subst hA1; subst hA2
      have hyl := hrow.len
      have hnm := hrow.max
      haveI := Since.ne wr
      have u1 : ∀ u : Since wr, u.val.cell? ⟨w.heap.size, 0, none⟩ = some (.slice (some ⟨b, o, none⟩) n c) := fun u => (u.ok.cell (p := ⟨w.heap.size, 0, none⟩) (by simp; omega)).trans hCk
      have u2 : ∀ u : Since wr, u.val.cell? ⟨b, o, none⟩ = some (.slice A0 (flg xss) c0) := fun u => (u.ok.cell (p := ⟨b, o, none⟩) (by simp; omega)).trans hc0k
      have u3 : ∀ u : Since wr, u.val.cell? ⟨b, o + k, none⟩ = some (.slice Ak nk ck) := fun u => (u.ok.cell (p := ⟨b, o + k, none⟩) (by simp; omega)).trans hcell
      have hhb : hi ≤ wr.heap.size := by omega
      have hpn : 0 < n := by omega
      have hpn2 : ¬ n = 0 := by omega
      by_cases hlen : nk = flg xss
      · subst hlen
        have hd : (((flg xss : Nat) : Int) != ((flg xss : Nat) : Int)) = false := by simp
        cases hp : isPermB ys with
        | false =>
          have hF : isManB xss = false := isManB_mv (mem_of_get? hys) (by unfold mvB; rw [hp]; rfl)
          replace hF := Lib.hid hF
          replace hp := Lib.hid hp
          replace hys := Lib.hid hys
          go_wp2_with fail
          refine wp_region_since_lit (by kernel_rfl) (by kernel_rfl) ?_
          repeat (go_big_quiet_step ((go_at_call 52; refine since_call (hp.out ▸ l01Perm_any _ _ _ ys _ lo hi (hrow.below (Since.ok _) hhb) ?_); exact Nat.le_trans hhb (Since.ok _).size)))
          refine wpQuiet_nil ?_
          intro w2 hw2
          have hb2 : Below wr.heap.size wr w2 := by obtain ⟨u, hu⟩ := hw2; rw [hu]; exact u.ok
          clear hw2 u1 u2 u3
          go_wp2_with fail
          go_ret
          exact ⟨ret_bool hF.out.symm, (hB.trans (hb.mono (by omega))).trans (hb2.mono (by omega))⟩
        | true =>
          have hpp := isPermB_iff.1 hp
          cases hfr : freeB ys with
          | false =>
            have hF : isManB xss = false := isManB_mv (mem_of_get? hys) (by unfold mvB; rw [hp, hfr]; rfl)
            replace hF := Lib.hid hF
            replace hp := Lib.hid hp
            replace hpp := Lib.hid hpp
            replace hfr := Lib.hid hfr
            replace hys := Lib.hid hys
            go_wp2_with fail
            refine wp_region_since_lit (by kernel_rfl) (by kernel_rfl) ?_
            repeat (go_big_quiet_step (first | (go_at_call 52; refine since_call (hp.out ▸ l01Perm_any _ _ _ ys _ lo hi (hrow.below (Since.ok _) hhb) ?_); exact Nat.le_trans hhb (Since.ok _).size) | (go_at_call 53; refine since_call (hfr.out ▸ l01Free_any _ _ _ ys _ lo hi (hrow.below (Since.ok _) hhb) ?_ hpp.out); exact Nat.le_trans hhb (Since.ok _).size)))
            refine wpQuiet_nil ?_
            intro w2 hw2
            have hb2 : Below wr.heap.size wr w2 := by obtain ⟨u, hu⟩ := hw2; rw [hu]; exact u.ok
            clear hw2 u1 u2 u3
            go_wp2_with fail
            go_ret
            exact ⟨ret_bool hF.out.symm, (hB.trans (hb.mono (by omega))).trans (hb2.mono (by omega))⟩
          | true =>
            have hmy : mvB (flg xss) ys = true := by unfold mvB; rw [hp, hfr, hyl]; simp
            have htk := take_succ_of hys
            replace htk := Lib.hid htk
            replace hmy := Lib.hid hmy
            replace hp := Lib.hid hp
            replace hpp := Lib.hid hpp
            replace hfr := Lib.hid hfr
            replace hys := Lib.hid hys
            go_wp2_with fail
            refine wp_region_since_lit (by kernel_rfl) (by kernel_rfl) ?_
            repeat (go_big_quiet_step (first | (go_at_call 52; refine since_call (hp.out ▸ l01Perm_any _ _ _ ys _ lo hi (hrow.below (Since.ok _) hhb) ?_); exact Nat.le_trans hhb (Since.ok _).size) | (go_at_call 53; refine since_call (hfr.out ▸ l01Free_any _ _ _ ys _ lo hi (hrow.below (Since.ok _) hhb) ?_ hpp.out); exact Nat.le_trans hhb (Since.ok _).size)))
            refine wpQuiet_nil ?_
            intro w2 hw2
            have hb2 : Below wr.heap.size wr w2 := by obtain ⟨u, hu⟩ := hw2; rw [hu]; exact u.ok
            clear hw2 u1 u2 u3
            have hB2 : Below W1.heap.size W1 w2 := hb.trans (hb2.mono hbz)
            go_wp2_with fail
            go_roundw
            case measure => simp [intOf]; omega
            case rel =>
              refine ⟨k + 1, by omega, by go_num, Lib.hid fun p hp => ?_, hB2⟩
              rw [htk.out] at hp
              rcases List.mem_append.1 hp with hp | hp
              · exact hmv.out p hp
              · simp at hp; subst hp; exact hmy.out
      · have hd : ((nk : Int) != ((flg xss : Nat) : Int)) = true := by simp; omega
        have hF : isManB xss = false := isManB_mv (mem_of_get? hys) (by unfold mvB; rw [hyl, decide_eq_false hlen]; simp)
        replace hF := Lib.hid hF
        replace hys := Lib.hid hys
        clear hlen
        go_wp2_with fail
        go_quiet (fail)
        go_wp2_with fail
        go_ret
        exact ⟨ret_bool hF.out.symm, hB.trans ((below_dn hb _).mono (by omega))⟩
    · have hkn : k = n := by omega
      subst hkn
      have hmvA : ∀ p ∈ xss, mvB (flg xss) p = true := by
        have := hmv.out
        rwa [List.take_of_length_le (by have := hl.out; omega)] at this
      have hS := sysOf_mv hmvA
      replace hmvA := Lib.hid hmvA
      replace hS := Lib.hid hS
      clear hmv hCk hc0k hRk hbz
      go_wp2_with fail
      go_loopw [5] (fun iv wq => ∃ i : Nat, i ≤ k ∧ iv = .int .i64 i ∧ Hid (PairsTo xss i (i + 2)) ∧ Below W1.heap.size W1 wq) (fun iv _ => k - (intOf iv).toNat)
      case atStart => exact ⟨0, by omega, rfl, Lib.hid (PairsTo.zero xss), hb⟩
      case round =>
        clear hb
        obtain ⟨i, hi, rfl, hpt, hb⟩ := hrel
        by_cases hlt : i < k
        · obtain ⟨b', o', Aa, na, ca, pa, hA, _, _, hpa, hcaW, hra⟩ := hR.at_ hlt
          injection hA with hA
          injection hA with hA1 hA2 _
          subst hA1; subst hA2
          have hna : na = flg xss := by rw [← hra.len]; exact (hS.out _ (mem_of_get? hpa)).2.2
          subst hna
          have hpaS := (hS.out _ (mem_of_get? hpa)).1
          replace hpaS := Lib.hid hpaS
          replace hpa := Lib.hid hpa
          go_wp2_with fail
          go_loopw [6] (fun tv wq => ∃ t : Nat, i + 2 ≤ t ∧ t ≤ k + 2 ∧ tv = .int .i64 t ∧ Hid (PairsTo xss i t) ∧ Below W1.heap.size W1 wq) (fun tv _ => k - (intOf tv).toNat)
          case atStart => exact ⟨i + 2, by omega, by omega, by go_num, hpt, hb⟩
          case round =>
            clear hb hpt
            obtain ⟨t, hit, htk2, rfl, hpt, hb⟩ := hrel
            by_cases htk : t < k
            · obtain ⟨b', o', Ab, nb, cb, pb, hA, _, _, hpb, hcbW, hrb⟩ := hR.at_ htk
              injection hA with hA
              injection hA with hA1 hA2 _
              subst hA1; subst hA2
              have hnb : nb = flg xss := by rw [← hrb.len]; exact (hS.out _ (mem_of_get? hpb)).2.2
              subst hnb
              have hpbS := (hS.out _ (mem_of_get? hpb)).1
              replace hpbS := Lib.hid hpbS
              replace hpb := Lib.hid hpb
              go_wp2_with fail
              go_loopw [7] (fun fv wq => ∃ f : Nat, f ≤ flg xss ∧ fv = .int .i64 f ∧ Hid ((List.range f).all (comB pa pb) = true) ∧ Below W1.heap.size W1 wq) (fun fv _ => flg xss - (intOf fv).toNat)
              case atStart => exact ⟨0, by omega, rfl, Lib.hid (by simp), hb⟩
              case round =>
                clear hb
                obtain ⟨f, hf, rfl, hall, hb⟩ := hrel
                have hbz := hb.size
                obtain ⟨hCk, hc0k⟩ := Hs.out _ hb
                have hcak := (hb.cell (p := ⟨b, o + i, none⟩) (by simp; omega)).trans hcaW
                have hcbk := (hb.cell (p := ⟨b, o + t, none⟩) (by simp; omega)).trans hcbW
                have hpn : 0 < k := by omega
                have hpn2 : ¬ k = 0 := by omega
                by_cases hfn : f < flg xss
                · obtain ⟨ba, oa, x, rfl, _, _, hx, hxc⟩ := (hra.below hb (by omega)).at_ hfn
                  obtain ⟨bb, ob, y, rfl, _, _, hy, hyc⟩ := (hrb.below hb (by omega)).at_ hfn
                  obtain ⟨hx0, hx1⟩ := hpaS.out x (mem_of_get? hx)
                  obtain ⟨hy0, hy1⟩ := hpbS.out y (mem_of_get? hy)
                  obtain ⟨x, rfl⟩ : ∃ q : Nat, x = q := ⟨x.toNat, by omega⟩
                  obtain ⟨y, rfl⟩ : ∃ q : Nat, y = q := ⟨y.toNat, by omega⟩
                  obtain ⟨_, _, u, hu1, _, _, hu, huc⟩ := (hrb.below hb (by omega)).at_ (k := x) (by omega)
                  injection hu1 with hu1
                  injection hu1 with hu1 hu2 _
                  subst hu1; subst hu2
                  obtain ⟨_, _, v, hv1, _, _, hv, hvc⟩ := (hra.below hb (by omega)).at_ (k := y) (by omega)
                  injection hv1 with hv1
                  injection hv1 with hv1 hv2 _
                  subst hv1; subst hv2
                  have hcm : comB pa pb f = (decide ((x : Int) ≠ y) && decide (u = v)) := by
                    unfold comB
                    rw [getD_some hx, getD_some hy, Int.toNat_natCast, Int.toNat_natCast, getD_some hu, getD_some hv]
                  have hxN : x < flg xss := by omega
                  have hyN : y < flg xss := by omega
                  replace hx := Lib.hid hx
                  replace hy := Lib.hid hy
                  replace hu := Lib.hid hu
                  replace hv := Lib.hid hv
                  by_cases huv : u = v
                  · have hd2 : (u != v) = false := by simpa using huv
                    by_cases hxy : (x : Int) = y
                    · have hd1 : ((x : Int) == (y : Int)) = true := by simpa using hxy
                      have hF : isManB xss = false := isManB_com (by omega) hpa.out hpb.out hfn (by rw [hcm]; simp [hxy])
                      replace hF := Lib.hid hF
                      clear hcm hxy huv
                      go_wp2_with fail
                      go_quiet (fail)
                      go_wp2_with fail
                      go_ret
                      exact ⟨ret_bool hF.out.symm, hB.trans ((below_dn hb _).mono (by omega))⟩
                    · have hd1 : ((x : Int) == (y : Int)) = false := by simpa using hxy
                      have hok : comB pa pb f = true := by rw [hcm]; simp [hxy, huv]
                      replace hok := Lib.hid hok
                      clear hcm hxy huv
                      go_wp2_with fail
                      go_quiet (fail)
                      go_wp2_with fail
                      go_roundw
                      case measure => simp [intOf]; omega
                      case rel => exact ⟨f + 1, by omega, by go_num, Lib.hid (all_range_succ hall.out hok.out), below_dn hb _⟩
                  · have hd2 : (u != v) = true := by simpa using huv
                    have hF : isManB xss = false := isManB_com (by omega) hpa.out hpb.out hfn (by rw [hcm]; simp [huv])
                    replace hF := Lib.hid hF
                    clear hcm huv
                    go_wp2_with fail
                    go_quiet (fail)
                    go_wp2_with fail
                    go_ret
                    exact ⟨ret_bool hF.out.symm, hB.trans ((below_dn hb _).mono (by omega))⟩
                · have hfe : f = flg xss := by omega
                  have hpar : parB (flg xss) pa pb = true := by unfold parB; rw [← hfe]; exact hall.out
                  replace hpar := Lib.hid hpar
                  go_wp2_with fail
                  go_roundw
                  case measure => simp [intOf]; omega
                  case rel => exact ⟨t + 1, by omega, by omega, by go_num, Lib.hid (hpt.out.step hpa.out hpb.out hpar.out), hb⟩
            · have hnx := hpt.out.next (by have := hl.out; omega)
              replace hnx := Lib.hid hnx
              go_wp2_with fail
              go_roundw
              case measure => simp [intOf]; omega
              case rel => exact ⟨i + 1, by omega, by go_num, hnx, hb⟩
        · have hik : i = k := by omega
          subst hik
          have hfin := (isManB_all (by have := hl.out; omega) (by have := hl.out; omega) (by omega) (by omega) hmvA.out (hpt.out.done (by have := hl.out; omega))).2
          replace hfin := Lib.hid hfin
          have hbd := below_drew hb
          have hbz := hb.size
          obtain ⟨hCk, hc0k⟩ := Hs.out _ hb
          have hpn : 0 < i := by omega
          have hpn2 : ¬ i = 0 := by omega
          have hO := l01Orbit_any (flg xss) (some ⟨b, o, none⟩) i c xss 0 wr.drew (rs_drew (hR.below hb (by omega))) (show _ ≤ wr.heap.size by omega) (by omega) hS.out (by omega) (by omega)
          go_wp2_with fail
          go_region_with (go_at_call 54; refine hO.mono ?_; rintro e w2 ⟨A2, n2, c2, rfl, ho2, hb2⟩; have hC2 := (hb2.cell (p := ⟨w.heap.size, 0, none⟩) (by simp; omega)).trans hCk; have hc02 := (hb2.cell (p := ⟨b, o, none⟩) (by simp; omega)).trans hc0k)
          all_goals
            have hl2 := ho2.lenI
            go_wp2_with fail
            go_ret
            refine ⟨ret_bool ?_, hB.trans ((hbd.mono (by omega)).trans (hb2.mono (by simp; omega)))⟩
            rw [hfin.out, hl2]
            by_cases hq : n2 = flg xss
            · simp [hq]
            · have : ¬ ((n2 : Nat) : Int) = ((flg xss : Nat) : Int) := by omega
              simp [hq, this]
end Go.Proofs.YtbioelmofceaaaaGreat
/- ManX -/
namespace Go.Proofs.YtbioelmofceaaaaGreat
open Go.RowKit
set_option linter.unusedVariables false
set_option maxRecDepth 100000
theorem i_IsManiplex_any (A : Option Addr) (n c : Nat) (xss : List (List Int)) (w : World) {lo hi : Nat} (h : RS w lo hi A n xss) (hhi : hi ≤ w.heap.size) (hnc : n ≤ c) :
    Calls Tryz.prog 21 #[.agg #[.slice A n c]] w fun e w' => e = .returned (.bool (isManB xss)) ∧ Below w.heap.size w w' := by
  have hR := rs_alloc h hhi (.cells #[.slice A n c] 26)
  have hB : Below w.heap.size w (w.alloc (.cells #[.slice A n c] 26)) := (Below.refl _ _).alloc (Nat.le_refl _) _
  go_enter Tryz.func21, Tryz.ntmps21
  go_wp2_with fail
  ((with_reducible refine (isMan_any A n c xss _ hR (by simp; omega) hnc).mono ?_); rintro e w1 ⟨rfl, hb1⟩)
  go_wp2_with fail
  go_ret
  exact ⟨rfl, hB.trans (hb1.mono (by simp))⟩
end Go.Proofs.YtbioelmofceaaaaGreat
/- Run -/
namespace Go.Proofs.YtbioelmofceaaaaGreat
open Go.RowKit
set_option linter.unusedVariables false
set_option maxRecDepth 100000
noncomputable def runF (xss : List (List Int)) (x : Int) (word : List Int) : Int × Int :=
  if isManB xss = true then (if (inR 0 ((flg xss : Nat) - 1 : Int) x && (decide (word.length ≤ 64) && allIn 0 ((xss.length : Int) - 1) word)) = true then (runW xss word x, 0) else (0, 2)) else (0, 1)
theorem runW_take {xss : List (List Int)} {word : List Int} {k : Nat} {g x : Int} (h : word[k]? = some g) : runW xss (word.take (k + 1)) x = (xss.getD g.toNat []).getD (runW xss (word.take k) x).toNat 0 := by
  rw [take_succ_of h, runW_snoc]
theorem l02Flags_any (A : Option Addr) (n c : Nat) (xss : List (List Int)) (w : World) {lo hi : Nat} (h : RS w lo hi A n xss) (hhi : hi ≤ w.heap.size) (hn : 0 < n) :
    Calls Tryz.prog 43 #[.agg #[.slice A n c]] w fun e w' => e = .returned (.int .i64 (flg xss : Nat)) ∧ Below w.heap.size w w' := by
  obtain ⟨b0, o0, A0, n0, c0, p0, rfl, _, _, hp0, hc0, hr0⟩ := (rs_alloc h hhi (.cells #[.slice A n c] 26)).at_ (k := 0) hn
  rw [Nat.add_zero] at hc0
  have hm := h.max
  have hm0 := hr0.max
  have hf : flg xss = n0 := by rw [flg_of hp0]; exact hr0.len
  replace hf := Lib.hid hf
  have hpn : ¬ n = 0 := by omega
  clear hp0
  go_enter Tryz.func43, Tryz.ntmps43
  go_wp2_with fail
  go_ret
  exact ⟨ret_int (by rw [hf.out]), (Below.refl _ _).alloc (Nat.le_refl _) _⟩
theorem hasFlag_any (b : Nat) (A : Option Addr) (n c : Nat) (xss : List (List Int)) (x : Int) (w : World) (hc : w.cell? ⟨b, 0, none⟩ = some (.slice A n c)) {lo hi : Nat} (h : RS w lo hi A n xss) (hn : 0 < n) (h4 : flg xss ≤ 400) :
    Calls Tryz.prog 35 #[.pointer (some ⟨b, 0, none⟩), .int .i64 x] w fun e w' => e = .returned (.bool (inR 0 ((flg xss : Nat) - 1 : Int) x)) ∧ w = w' := by
  go_enter Tryz.func35, Tryz.ntmps35
  go_wp2_with fail
  ((with_reducible refine (flags_any _ A n c xss _ hc h hn).mono ?_); rintro e w' ⟨rfl, rfl⟩)
  go_wp2_with fail
  ((with_reducible refine (within_any _ _ _ _).mono ?_); rintro e w' ⟨rfl, rfl⟩)
  go_wp2_with fail
  go_ret
  exact ⟨rfl, rfl⟩
end Go.Proofs.YtbioelmofceaaaaGreat
/- Two -/
namespace Go.Proofs.YtbioelmofceaaaaGreat
open Go.RowKit
set_option linter.unusedVariables false
/-- two rows of one type that grow in turn: apart from each other and from the blocks of [l, h) -/
structure Two (wq : World) (base l h : Nat) (T : TypeId) (A6 : Option Addr) (n6 c6 : Nat) (us6 : List Value) (A7 : Option Addr) (n7 c7 : Nat) (us7 : List Value) : Prop where
  r6 : wq.ownsRow base T 1 (.slice A6 n6 c6) n6 us6
  r7 : wq.ownsRow base T 1 (.slice A7 n7 c7) n7 us7
  ap : ∀ q, (Value.slice A6 n6 c6).ownBlock = some q → (Value.slice A7 n7 c7).ownBlock ≠ some q
  f6 : ∀ q, (Value.slice A6 n6 c6).ownBlock = some q → q < l ∨ h ≤ q
  f7 : ∀ q, (Value.slice A7 n7 c7).ownBlock = some q → q < l ∨ h ≤ q
  hh : h ≤ wq.heap.size
theorem Two.swap {wq : World} {base l h : Nat} {T : TypeId} {A6 A7 : Option Addr} {n6 c6 n7 c7 : Nat} {us6 us7 : List Value} (t : Two wq base l h T A6 n6 c6 us6 A7 n7 c7 us7) : Two wq base l h T A7 n7 c7 us7 A6 n6 c6 us6 :=
  ⟨t.r7, t.r6, fun q h1 h2 => t.ap q h2 h1, t.f7, t.f6, t.hh⟩
/-- the first row has grown by one -/
theorem Two.grow {wq wz : World} {base l h : Nat} {T : TypeId} {A6 A7 : Option Addr} {n6 c6 n7 c7 g c' : Nat} {us6 us7 us : List Value} (t : Two wq base l h T A6 n6 c6 us6 A7 n7 c7 us7)
    (ho : wz.ownsRow base T 1 (.slice (some ⟨g, 0, none⟩) (n6 + 1) c') (n6 + 1) us) (hg : wq.grownBy wz (Value.slice A6 n6 c6).ownBlock) (hor : A6 = some ⟨g, 0, none⟩ ∨ wq.heap.size ≤ g) :
    Two wz base l h T (some ⟨g, 0, none⟩) (n6 + 1) c' us A7 n7 c7 us7 ∧ Same l h wq wz := by
  have hz := hg.size
  have hh := t.hh
  have e6 : ∀ q, (Value.slice (some ⟨g, 0, none⟩) (n6 + 1) c').ownBlock = some q → q = g := fun q hq => by
    simp [Value.ownBlock] at hq
    exact hq.symm
  have hold : A6 = some ⟨g, 0, none⟩ → (Value.slice A6 n6 c6).ownBlock = some g := fun e => by rw [e]; simp [Value.ownBlock]
  refine ⟨⟨ho, t.r7.kept hg ?_, fun q h1 h2 => ?_, fun q hq => ?_, t.f7, by omega⟩, same_grown hg hh t.f6⟩
  · cases hb : (Value.slice A7 n7 c7).ownBlock with
    | none => exact .inl rfl
    | some z => exact .inr (fun e => t.ap z e.symm hb)
  · have hq := e6 q h1
    subst hq
    rcases hor with e | e
    · exact t.ap q (hold e) h2
    · have := (t.r7.lt q h2).2; omega
  · have hq := e6 q hq
    subst hq
    rcases hor with e | e
    · exact t.f6 q (hold e)
    · omega
end Go.Proofs.YtbioelmofceaaaaGreat
/- DrwS -/
namespace Go.Proofs.YtbioelmofceaaaaGreat
open Go.RowKit
set_option linter.unusedVariables false
set_option maxRecDepth 100000
theorem lit_rd (w : World) (vs : Array Value) (T : TypeId) (h : vs.size ≤ 9223372036854775807) : Rd (w.alloc (.cells vs T)) w.heap.size (w.heap.size + 1) (some ⟨w.heap.size, 0, none⟩) vs.size vs.toList := by
  refine ⟨by simp, h, fun _ => ⟨_, _, rfl, Nat.le_refl _, Nat.lt_succ_self _, fun k v hv => ?_⟩⟩
  unfold World.cell?
  rw [heap_newest]
  simpa using hv
/-- what l01Spoil leaves: a list of m numbers in a row of its own, the source with another state -/
def DrawnL (w w' : World) (lo g : Nat) (T T1 : TypeId) (A : Option Addr) (n c : Nat) (bs : List Int) (A1 : Option Addr) (m c1 : Nat) : Prop :=
  ∃ (i' h' : Nat) (xs : List Int), Own w' w.heap.size w'.heap.size T1 A1 m c1 (xs.map (Value.int .i64)) ∧ Src w' lo g T A n c bs i' h' ∧ Chg g (g + 1) w w'
end Go.Proofs.YtbioelmofceaaaaGreat
/- BesP -/
namespace Go.Proofs.YtbioelmofceaaaaGreat
set_option linter.unusedVariables false
/-- a row of the first system, at pairs; f = x * b + y -/
def besA (p : List Int) (b f : Nat) : Int := p.getD (f / b) 0 * (b : Int) + ((f % b : Nat) : Int)
def besB (q : List Int) (b f : Nat) : Int := ((f / b * b : Nat) : Int) + q.getD (f % b) 0
/-- the rows of both -/
def besL (xss yss : List (List Int)) (a b : Nat) : List (List Int) := xss.map (fun p => (List.range (a * b)).map (besA p b)) ++ yss.map (fun q => (List.range (a * b)).map (besB q b))
theorem besL_length (xss yss : List (List Int)) (a b : Nat) : (besL xss yss a b).length = xss.length + yss.length := by simp [besL]
theorem pair_lt {a b x y : Nat} (hx : x < a) (hy : y < b) : x * b + y < a * b := by
  have h1 : (x + 1) * b ≤ a * b := Nat.mul_le_mul_right b (by omega)
  rw [Nat.succ_mul] at h1
  omega
theorem pair_inj {b x y x' y' : Nat} (hy : y < b) (hy' : y' < b) (h : x * b + y = x' * b + y') : x = x' ∧ y = y' := by
  have hb : 0 < b := by omega
  have e1 : (x * b + y) / b = x := by rw [Nat.mul_comm, Nat.mul_add_div hb, Nat.div_eq_of_lt hy]; rfl
  have e2 : (x' * b + y') / b = x' := by rw [Nat.mul_comm, Nat.mul_add_div hb, Nat.div_eq_of_lt hy']; rfl
  have : x = x' := by rw [← e1, h, e2]
  subst this
  exact ⟨rfl, by omega⟩
theorem row_at {p : List Int} {n : Nat} (hr : ∀ x ∈ p, 0 ≤ x ∧ x < n) (hl : p.length = n) {i : Nat} (hi : i < n) : ∃ u : Nat, p[i]? = some (u : Int) ∧ p.getD i 0 = (u : Int) ∧ u < n := by
  have h1 : i < p.length := by omega
  obtain ⟨h2, h3⟩ := hr p[i] (List.getElem_mem h1)
  obtain ⟨u, hu⟩ := Int.eq_ofNat_of_zero_le h2
  refine ⟨u, by rw [List.getElem?_eq_getElem h1, hu], by rw [List.getD_eq_getElem?_getD, List.getElem?_eq_getElem h1, hu]; rfl, by omega⟩
theorem row_inj {p : List Int} (hn : p.Nodup) {i j : Nat} {x : Int} (h1 : p[i]? = some x) (h2 : p[j]? = some x) : i = j := (idxOf_of_get? hn h1).symm.trans (idxOf_of_get? hn h2)
theorem bes_sys {xss yss : List (List Int)} {a b : Nat} (hx : SysOf xss a) (hy : SysOf yss b) : SysOf (besL xss yss a b) (a * b) := by
  intro r hr
  unfold besL at hr
  have hbp : ∀ f, f < a * b → 0 < b ∧ f / b < a ∧ f % b < b ∧ f / b * b + f % b = f := by
    intro f hf
    have hb : 0 < b := by rcases Nat.eq_zero_or_pos b with e | e; subst e; simp at hf; exact e
    exact ⟨hb, by rw [Nat.div_lt_iff_lt_mul hb]; exact hf, Nat.mod_lt _ hb, by rw [Nat.mul_comm]; exact Nat.div_add_mod f b⟩
  rcases List.mem_append.1 hr with h | h
  · obtain ⟨p, hp, rfl⟩ := List.mem_map.1 h
    obtain ⟨p1, p2, p3⟩ := hx p hp
    have key : ∀ f, f < a * b → ∃ u : Nat, p[f / b]? = some (u : Int) ∧ besA p b f = ((u * b + f % b : Nat) : Int) ∧ u < a := by
      intro f hf
      obtain ⟨hb, h1, h2, h3⟩ := hbp f hf
      obtain ⟨u, u1, u2, u3⟩ := row_at p1 p3 h1
      exact ⟨u, u1, by unfold besA; rw [u2, Int.natCast_add, Int.natCast_mul], u3⟩
    refine fun_perm (fun f hf => ?_) (fun f g hf hg e => ?_)
    · obtain ⟨u, _, u2, u3⟩ := key f hf
      obtain ⟨hb, h1, h2, h3⟩ := hbp f hf
      have := pair_lt u3 h2
      rw [u2]; omega
    · obtain ⟨u, u1, u2, u3⟩ := key f hf
      obtain ⟨v, v1, v2, v3⟩ := key g hg
      obtain ⟨hb, h1, h2, h3⟩ := hbp f hf
      obtain ⟨_, k1, k2, k3⟩ := hbp g hg
      rw [u2, v2] at e
      obtain ⟨e1, e2⟩ := pair_inj h2 k2 (Int.ofNat.inj e)
      subst e1
      have e3 := row_inj p2 u1 v1
      rw [← h3, ← k3, e3, e2]
  · obtain ⟨p, hp, rfl⟩ := List.mem_map.1 h
    obtain ⟨p1, p2, p3⟩ := hy p hp
    have key : ∀ f, f < a * b → ∃ u : Nat, p[f % b]? = some (u : Int) ∧ besB p b f = ((f / b * b + u : Nat) : Int) ∧ u < b := by
      intro f hf
      obtain ⟨hb, h1, h2, h3⟩ := hbp f hf
      obtain ⟨u, u1, u2, u3⟩ := row_at p1 p3 h2
      exact ⟨u, u1, by unfold besB; rw [u2, Int.natCast_add], u3⟩
    refine fun_perm (fun f hf => ?_) (fun f g hf hg e => ?_)
    · obtain ⟨u, _, u2, u3⟩ := key f hf
      obtain ⟨hb, h1, h2, h3⟩ := hbp f hf
      have := pair_lt h1 u3
      rw [u2]; omega
    · obtain ⟨u, u1, u2, u3⟩ := key f hf
      obtain ⟨v, v1, v2, v3⟩ := key g hg
      obtain ⟨hb, h1, h2, h3⟩ := hbp f hf
      obtain ⟨_, k1, k2, k3⟩ := hbp g hg
      rw [u2, v2] at e
      obtain ⟨e1, e2⟩ := pair_inj u3 v3 (Int.ofNat.inj e)
      subst e2
      have e3 := row_inj p2 u1 v1
      rw [← h3, ← k3, e1, e3]
end Go.Proofs.YtbioelmofceaaaaGreat
/- Sub -/
namespace Go.Proofs.YtbioelmofceaaaaGreat
open Go.RowKit
set_option linter.unusedVariables false
set_option maxRecDepth 100000
theorem rd_sub {w : World} {lo hi n b o : Nat} {vs : List Value} (h : Rd w lo hi (some ⟨b, o, none⟩) n vs) {i j : Nat} (hij : i ≤ j) (hj : j ≤ n) {A' : Option Addr} (hA : i < j → A' = some ⟨b, o + i, none⟩) : Rd w lo hi A' (j - i) ((vs.drop i).take (j - i)) := by
  refine ⟨by have := h.1; simp; omega, by have := h.2.1; omega, fun hn => ?_⟩
  obtain ⟨b', o', e, h1, h2, hc⟩ := h.2.2 (by omega)
  injection e with e
  injection e with e1 e2 _
  subst e1; subst e2
  refine ⟨b, o + i, hA (by omega), h1, h2, fun k v hv => ?_⟩
  have hk := (List.getElem?_eq_some_iff.1 hv).1
  simp at hk
  rw [List.getElem?_take_of_lt (by omega), List.getElem?_drop] at hv
  rw [Nat.add_assoc]
  exact hc (i + k) v hv
theorem rowsAt_sub {w : World} {lo hi : Nat} {vs : List Value} {xss : List (List Int)} (h : RowsAt w lo hi vs xss) (i m : Nat) : RowsAt w lo hi ((vs.drop i).take m) ((xss.drop i).take m) := by
  refine ⟨by simp [h.1], fun k v xs h1 h2 => ?_⟩
  have hk := (List.getElem?_eq_some_iff.1 h1).1
  simp at hk
  rw [List.getElem?_take_of_lt (by omega), List.getElem?_drop] at h1 h2
  exact h.2 (i + k) v xs h1 h2
theorem rs_sub {w : World} {lo hi n b o : Nat} {xss : List (List Int)} (h : RS w lo hi (some ⟨b, o, none⟩) n xss) {i j : Nat} (hij : i ≤ j) (hj : j ≤ n) {A' : Option Addr} (hA : i < j → A' = some ⟨b, o + i, none⟩) : RS w lo hi A' (j - i) ((xss.drop i).take (j - i)) := by
  obtain ⟨vs, h1, h2⟩ := h
  exact ⟨_, rd_sub h1 hij hj hA, rowsAt_sub h2 i _⟩
/-- some of the moves, from the i-th to the one ahead of the j-th -/
def subL (xss : List (List Int)) (i j : Nat) : List (List Int) := (xss.drop i).take (j - i)
theorem subL_length {xss : List (List Int)} {i j : Nat} (h : j ≤ xss.length) (hij : i ≤ j) : (subL xss i j).length = j - i := by simp [subL]; omega
theorem sysOf_sub {xss : List (List Int)} {n : Nat} (h : SysOf xss n) (i j : Nat) : SysOf (subL xss i j) n := fun p hp => h p (List.mem_of_mem_drop (List.mem_of_mem_take hp))
end Go.Proofs.YtbioelmofceaaaaGreat
/- IsoP -/
namespace Go.Proofs.YtbioelmofceaaaaGreat
set_option linter.unusedVariables false
set_option maxRecDepth 100000
/-- the points of ys (m of them) are carried to points of zs (n of them), row by row -/
structure Iso (ys zs : List (List Int)) (m n : Nat) (φ : Int → Int) : Prop where
  len : ys.length = zs.length
  le : m ≤ n
  rng : ∀ z : Int, 0 ≤ z → z < m → 0 ≤ φ z ∧ φ z < n
  inj : ∀ z u : Int, 0 ≤ z → z < m → 0 ≤ u → u < m → φ z = φ u → z = u
  com : ∀ (j : Nat) (q p : List Int), ys[j]? = some q → zs[j]? = some p → ∀ z : Int, 0 ≤ z → z < m → φ (at' q z) = at' p (φ z)
theorem Iso.sub {ys zs : List (List Int)} {m n : Nat} {φ : Int → Int} (h : Iso ys zs m n φ) (i j : Nat) : Iso (subL ys i j) (subL zs i j) m n φ := by
  refine ⟨by simp [subL, h.len], h.le, h.rng, h.inj, fun k q p hq hp => ?_⟩
  unfold subL at hq hp
  rw [List.getElem?_take] at hq hp
  by_cases e : k < j - i
  · rw [if_pos e, List.getElem?_drop] at hq hp
    exact h.com _ q p hq hp
  · rw [if_neg e] at hq
    exact absurd hq (by simp)
theorem map_mem_iff {φ : Int → Int} {m : Nat} (hi : ∀ z u : Int, 0 ≤ z → z < m → 0 ≤ u → u < m → φ z = φ u → z = u) {out : List Int} (hr : ∀ y ∈ out, 0 ≤ y ∧ y < m) {x : Int} (h0 : 0 ≤ x) (h1 : x < m) : φ x ∈ out.map φ ↔ x ∈ out := by
  refine ⟨fun h => ?_, fun h => List.mem_map_of_mem h⟩
  obtain ⟨y, hy, e⟩ := List.mem_map.1 h
  have := hi y x (hr y hy).1 (hr y hy).2 h0 h1 e
  rwa [← this]
theorem iso_step {m n : Nat} {φ : Int → Int} {y : Int} (h0 : 0 ≤ y) (h1 : y < m) : ∀ (ys zs : List (List Int)) (out : List Int), SysOf ys m → Iso ys zs m n φ → (∀ x ∈ out, 0 ≤ x ∧ x < m) →
    bfsStep zs (φ y) (out.map φ) = (bfsStep ys y out).map φ ∧ ∀ x ∈ bfsStep ys y out, 0 ≤ x ∧ x < m := by
  intro ys
  induction ys with
  | nil =>
    intro zs out _ hI hr
    obtain rfl : zs = [] := by have := hI.len; cases zs with | nil => rfl | cons _ _ => simp at this
    exact ⟨rfl, hr⟩
  | cons q t ih =>
    intro zs out hs hI hr
    cases zs with
    | nil => have := hI.len; simp at this
    | cons p s =>
      have hc := hI.com 0 q p rfl rfl y h0 h1
      have hq := at'_rng (hs q (by simp)).1 (hs q (by simp)).2.2 h0 h1
      have hI' : Iso t s m n φ := ⟨by have := hI.len; simpa using this, hI.le, hI.rng, hI.inj, fun j a b ha hb => hI.com (j + 1) a b (by simpa using ha) (by simpa using hb)⟩
      have hs' : SysOf t m := fun a ha => hs a (by simp [ha])
      have hmem := map_mem_iff hI.inj hr hq.1 hq.2
      have e : bfsStep (p :: s) (φ y) (out.map φ) = bfsStep s (φ y) (if at' p (φ y) ∈ out.map φ then out.map φ else out.map φ ++ [at' p (φ y)]) := rfl
      have e2 : bfsStep (q :: t) y out = bfsStep t y (if at' q y ∈ out then out else out ++ [at' q y]) := rfl
      rw [e, e2, ← hc]
      by_cases hm : at' q y ∈ out
      · rw [if_pos hm, if_pos (hmem.2 hm)]
        exact ih s out hs' hI' hr
      · rw [if_neg hm, if_neg (fun g => hm (hmem.1 g)), show out.map φ ++ [φ (at' q y)] = (out ++ [at' q y]).map φ by simp]
        refine ih s _ hs' hI' ?_
        intro x hx
        rcases List.mem_append.1 hx with g | g
        · exact hr x g
        · rw [List.mem_singleton.1 g]; exact hq
theorem iso_go {m n : Nat} {φ : Int → Int} {ys zs : List (List Int)} (hs : SysOf ys m) (hI : Iso ys zs m n φ) : ∀ (f : Nat) (out : List Int) (i : Nat), (∀ x ∈ out, 0 ≤ x ∧ x < m) → bfsGo zs f (out.map φ) i = (bfsGo ys f out i).map φ := by
  intro f
  induction f with
  | zero => intro out i _; rfl
  | succ f ih =>
    intro out i hr
    cases hx : out[i]? with
    | none =>
      have := List.getElem?_eq_none_iff.1 hx
      rw [bfsGo_stop this, bfsGo_stop (by simpa using this)]
    | some y =>
      have hy := hr y (mem_of_get? hx)
      obtain ⟨e1, e2⟩ := iso_step hy.1 hy.2 ys zs out hs hI hr
      rw [bfsGo_step hx, bfsGo_step (show (out.map φ)[i]? = some (φ y) by simp [hx]), e1]
      exact ih _ _ e2
theorem bfsGo_more {list : List (List Int)} {m : Nat} {x : Int} (hs : SysOf list m) (k : Nat) : ∀ (f : Nat) (out : List Int) (i : Nat), Met list m x out → m < f + i → bfsGo list (f + k) out i = bfsGo list f out i := by
  intro f
  induction f with
  | zero =>
    intro out i h hf
    have := h.len
    rw [bfsGo_stop (by omega), bfsGo_stop (by omega)]
  | succ f ih =>
    intro out i h hf
    cases hx : out[i]? with
    | none =>
      have := List.getElem?_eq_none_iff.1 hx
      rw [bfsGo_stop this, bfsGo_stop this]
    | some y =>
      rw [show f + 1 + k = (f + k) + 1 by omega, bfsGo_step hx, bfsGo_step hx]
      exact ih _ _ (bfsStep_spec hs list out (fun _ g => g) h (mem_of_get? hx)).1 (by omega)
theorem iso_bfs {m n : Nat} {φ : Int → Int} {ys zs : List (List Int)} {x : Int} (hs : SysOf ys m) (hI : Iso ys zs m n φ) (h0 : 0 ≤ x) (h1 : x < m) : bfs zs n (φ x) = (bfs ys m x).map φ := by
  have e := iso_go hs hI (n + 1) [x] 0 (by simpa using ⟨h0, h1⟩)
  unfold bfs
  rw [show ([φ x] : List Int) = [x].map φ from rfl, e]
  have hle := hI.le
  have := bfsGo_more hs (n - m) (m + 1) [x] 0 (Met.one h0 h1) (by omega)
  rw [show m + 1 + (n - m) = n + 1 by omega] at this
  rw [this]
theorem iso_len {m n : Nat} {φ : Int → Int} {ys zs : List (List Int)} {x : Int} (hs : SysOf ys m) (hI : Iso ys zs m n φ) (h0 : 0 ≤ x) (h1 : x < m) : (bfs zs n (φ x)).length = (bfs ys m x).length := by
  rw [iso_bfs hs hI h0 h1, List.length_map]
theorem idxOf_map {φ : Int → Int} {m : Nat} (hi : ∀ z u : Int, 0 ≤ z → z < m → 0 ≤ u → u < m → φ z = φ u → z = u) {x : Int} (h0 : 0 ≤ x) (h1 : x < m) : ∀ out : List Int, (∀ y ∈ out, 0 ≤ y ∧ y < m) → (out.map φ).idxOf (φ x) = out.idxOf x := by
  intro out
  induction out with
  | nil => intro _; rfl
  | cons a t ih =>
    intro hr
    rw [List.map_cons, List.idxOf_cons, List.idxOf_cons, ih (fun y hy => hr y (by simp [hy]))]
    by_cases e : a = x
    · subst e; simp
    · have : φ a ≠ φ x := fun g => e (hi a x (hr a (by simp)).1 (hr a (by simp)).2 h0 h1 g)
      rw [show (φ a == φ x) = false from beq_false_of_ne this, show (a == x) = false from beq_false_of_ne e]
/-- the form from a flag is that from the flag to which it is carried -/
theorem iso_form {m n : Nat} {φ : Int → Int} {ys zs : List (List Int)} {x : Int} (hs : SysOf ys m) (hI : Iso ys zs m n φ) (h0 : 0 ≤ x) (h1 : x < m) : formL zs n (φ x) = formL ys m x := by
  have hm := bfs_met hs h0 h1
  unfold formL
  rw [iso_bfs hs hI h0 h1]
  refine List.ext_getElem? fun j => ?_
  rw [List.getElem?_map, List.getElem?_map]
  by_cases hj : j < ys.length
  · have hj2 : j < zs.length := by have := hI.len; omega
    have e1 := List.getElem?_eq_getElem hj
    have e2 := List.getElem?_eq_getElem hj2
    rw [e1, e2]
    simp only [Option.map_some, Option.some.injEq]
    unfold ixF
    rw [List.map_map]
    refine List.map_congr_left fun f hf => ?_
    have hr := hm.rng f hf
    have hq := hs _ (mem_of_get? e1)
    have hb := at'_rng hq.1 hq.2.2 hr.1 hr.2
    have hc := hI.com j _ _ e1 e2 f hr.1 hr.2
    show ((List.map φ (bfs ys m x)).idxOf (at' zs[j] (φ f)) : Int) = _
    rw [← hc, idxOf_map hI.inj hb.1 hb.2 _ hm.rng]
  · have hj2 : ¬ j < zs.length := by have := hI.len; omega
    rw [List.getElem?_eq_none (by omega), List.getElem?_eq_none (by omega)]
    rfl
theorem iso_rch {m n : Nat} {φ : Int → Int} {ys zs : List (List Int)} (hs : SysOf ys m) (hI : Iso ys zs m n φ) {x y : Int} (h0 : 0 ≤ x) (h1 : x < m) (h : Rch ys x y) : Rch zs (φ x) (φ y) := by
  induction h with
  | refl => exact .refl
  | step hxy hp ih =>
    rename_i y p
    obtain ⟨j, hj⟩ := List.mem_iff_getElem?.1 hp
    have hj2 : j < zs.length := by have := (List.getElem?_eq_some_iff.1 hj).1; have := hI.len; omega
    have hr := hxy.rng hs h0 h1
    rw [hI.com j p _ hj (List.getElem?_eq_getElem hj2) y hr.1 hr.2]
    exact ih.step (List.getElem_mem hj2)
/-- what is reached from a point carried over is carried over -/
theorem iso_rch_back {m n : Nat} {φ : Int → Int} {ys zs : List (List Int)} (hs : SysOf ys m) (hI : Iso ys zs m n φ) {x u : Int} (h0 : 0 ≤ x) (h1 : x < m) (h : Rch zs (φ x) u) : ∃ y, u = φ y ∧ 0 ≤ y ∧ y < m ∧ Rch ys x y := by
  induction h with
  | refl => exact ⟨x, rfl, h0, h1, .refl⟩
  | step hxy hp ih =>
    rename_i u p
    obtain ⟨y, rfl, y0, y1, hy⟩ := ih
    obtain ⟨j, hj⟩ := List.mem_iff_getElem?.1 hp
    have hj2 : j < ys.length := by have := (List.getElem?_eq_some_iff.1 hj).1; have := hI.len; omega
    have e := List.getElem?_eq_getElem hj2
    have hq := hs _ (List.getElem_mem hj2)
    have hb := at'_rng hq.1 hq.2.2 y0 y1
    exact ⟨at' ys[j] y, (hI.com j _ p e hj y y0 y1).symm, hb.1, hb.2, hy.step (List.getElem_mem hj2)⟩
/-- the form from a flag is like what the flag leads to -/
theorem form_iso {xss : List (List Int)} {n : Nat} {x : Int} (hs : SysOf xss n) (h0 : 0 ≤ x) (h1 : x < n) : Iso (formL xss n x) xss (bfs xss n x).length n (fun j => (bfs xss n x).getD j.toNat 0) := by
  have hm := bfs_met hs h0 h1
  have key : ∀ j : Int, 0 ≤ j → j < (bfs xss n x).length → (bfs xss n x)[j.toNat]? = some ((bfs xss n x).getD j.toNat 0) := fun j j0 j1 => get?_getD 0 (by omega)
  refine ⟨formL_length _ _ _, hm.len, fun z z0 z1 => hm.rng _ (mem_of_get? (key z z0 z1)), fun z u z0 z1 u0 u1 e => ?_, fun j q p hq hp z z0 z1 => ?_⟩
  · have a := idxOf_of_get? hm.nd (key z z0 z1)
    have b := idxOf_of_get? hm.nd (key u u0 u1)
    have e : (bfs xss n x).getD z.toNat 0 = (bfs xss n x).getD u.toNat 0 := e
    rw [e, b] at a
    omega
  · unfold formL at hq
    rw [List.getElem?_map, hp] at hq
    simp only [Option.map_some, Option.some.injEq] at hq
    subst hq
    have hk := key z z0 z1
    have hmem := bfs_closed hs h0 h1 (mem_of_get? hk) (mem_of_get? hp)
    have e : at' (ixF (bfs xss n x) p) z = ((bfs xss n x).idxOf (at' p ((bfs xss n x).getD z.toNat 0)) : Int) := by
      unfold at' ixF
      rw [List.getD_eq_getElem?_getD, List.getElem?_map, hk]
      rfl
    show (bfs xss n x).getD (at' (ixF (bfs xss n x) p) z).toNat 0 = _
    rw [e, Int.toNat_natCast]
    exact getD_some (get?_idxOf hmem)
theorem form_sys {xss : List (List Int)} {n : Nat} {x : Int} (hs : SysOf xss n) (h0 : 0 ≤ x) (h1 : x < n) : SysOf (formL xss n x) (bfs xss n x).length := by
  have hm := bfs_met hs h0 h1
  intro q hq
  obtain ⟨p, hp, rfl⟩ := List.mem_map.1 hq
  obtain ⟨p1, p2, p3⟩ := hs p hp
  refine ⟨fun y hy => ?_, ?_, ixF_length _ _⟩
  · obtain ⟨f, hf, rfl⟩ := List.mem_map.1 hy
    have := List.idxOf_lt_length_iff.2 (bfs_closed hs h0 h1 hf hp)
    omega
  · unfold ixF
    rw [List.nodup_iff_pairwise_ne, List.pairwise_map]
    refine List.Pairwise.imp_of_mem ?_ (List.nodup_iff_pairwise_ne.1 hm.nd)
    intro a b ha hb hab e
    have ea := get?_idxOf (bfs_closed hs h0 h1 ha hp)
    have eb := get?_idxOf (bfs_closed hs h0 h1 hb hp)
    have e' : (bfs xss n x).idxOf (at' p a) = (bfs xss n x).idxOf (at' p b) := by omega
    rw [e', eb] at ea
    have := Option.some.inj ea
    exact hab (at'_inj p2 p3 (hm.rng a ha).1 (hm.rng a ha).2 (hm.rng b hb).1 (hm.rng b hb).2 this.symm)
end Go.Proofs.YtbioelmofceaaaaGreat
/- FsP -/
namespace Go.Proofs.YtbioelmofceaaaaGreat
set_option linter.unusedVariables false
set_option maxRecDepth 100000
open Classical
/-- each of hs commutes with each of ks -/
def CommL (hs ks : List (List Int)) (n : Nat) : Prop := ∀ p ∈ hs, ∀ q ∈ ks, ∀ z : Int, 0 ≤ z → z < n → at' q (at' p z) = at' p (at' q z)
theorem CommL.symm {hs ks : List (List Int)} {n : Nat} (h : CommL hs ks n) : CommL ks hs n := fun p hp q hq z z0 z1 => (h q hq p hp z z0 z1).symm
/-- a permutation that commutes with all of hs -/
theorem comm_iso {hs : List (List Int)} {q : List Int} {n : Nat} (hq : (∀ x ∈ q, 0 ≤ x ∧ x < n) ∧ q.Nodup ∧ q.length = n) (hc : ∀ p ∈ hs, ∀ z : Int, 0 ≤ z → z < n → at' q (at' p z) = at' p (at' q z)) : Iso hs hs n n (at' q) := by
  refine ⟨rfl, Nat.le_refl _, fun z z0 z1 => at'_rng hq.1 hq.2.2 z0 z1, fun z u z0 z1 u0 u1 e => at'_inj hq.2.1 hq.2.2 z0 z1 u0 u1 e, fun j a b ha hb z z0 z1 => ?_⟩
  rw [ha] at hb
  cases hb
  exact hc _ (mem_of_get? ha) z z0 z1
theorem bfs_same {hs : List (List Int)} {n : Nat} {x y : Int} (hS : SysOf hs n) (h0 : 0 ≤ x) (h1 : x < n) (h : Rch hs x y) : (bfs hs n y).length = (bfs hs n x).length := by
  have hr := h.rng hS h0 h1
  have a := bfs_met hS h0 h1
  have b := bfs_met hS hr.1 hr.2
  have hb := h.symm hS h0 h1
  exact Nat.le_antisymm (nodup_sub_len _ _ b.nd fun z hz => (bfs_mem hS h0 h1).2 (h.trans (b.rch z hz))) (nodup_sub_len _ _ a.nd fun z hz => (bfs_mem hS hr.1 hr.2).2 (hb.trans (a.rch z hz)))
/-- the orbits of hs have one size within an orbit of all -/
theorem orb_size {hs ks ls : List (List Int)} {n : Nat} {x y : Int} (hH : SysOf hs n) (hK : SysOf ks n) (hl : ∀ p ∈ ls, p ∈ hs ∨ p ∈ ks) (hc : CommL hs ks n) (h0 : 0 ≤ x) (h1 : x < n) (h : Rch ls x y) : 0 ≤ y ∧ y < n ∧ (bfs hs n y).length = (bfs hs n x).length := by
  induction h with
  | refl => exact ⟨h0, h1, rfl⟩
  | step hxy hp ih =>
    rename_i y p
    obtain ⟨y0, y1, e⟩ := ih
    rcases hl p hp with g | g
    · have hr := at'_rng (hH p g).1 (hH p g).2.2 y0 y1
      exact ⟨hr.1, hr.2, (bfs_same hH y0 y1 (Rch.refl.step g)).trans e⟩
    · have hr := at'_rng (hK p g).1 (hK p g).2.2 y0 y1
      exact ⟨hr.1, hr.2, (iso_len hH (comm_iso (hK p g) (fun a ha => hc a ha p g)) y0 y1).trans e⟩
/-- first the moves of ks, then those of hs -/
theorem rch_split {hs ks ls : List (List Int)} {n : Nat} {x y : Int} (hH : SysOf hs n) (hK : SysOf ks n) (hl : ∀ p ∈ ls, p ∈ hs ∨ p ∈ ks) (hc : CommL hs ks n) (h0 : 0 ≤ x) (h1 : x < n) (h : Rch ls x y) : ∃ z, Rch ks x z ∧ Rch hs z y := by
  induction h with
  | refl => exact ⟨x, .refl, .refl⟩
  | step hxy hp ih =>
    rename_i y p
    obtain ⟨z, hz1, hz2⟩ := ih
    rcases hl p hp with g | g
    · exact ⟨z, hz1, hz2.step g⟩
    · have hr := hz1.rng hK h0 h1
      exact ⟨at' p z, hz1.step g, iso_rch hH (comm_iso (hK p g) (fun a ha => hc a ha p g)) hr.1 hr.2 hz2⟩
theorem sum_const {l : List Int} {f : Int → List Int} {h : Nat} (hf : ∀ z ∈ l, (f z).length = h) : (l.flatMap f).length = l.length * h := by
  induction l with
  | nil => simp
  | cons a t ih =>
    rw [List.flatMap_cons, List.length_append, hf a (by simp), ih (fun z hz => hf z (by simp [hz])), List.length_cons, Nat.add_mul, Nat.one_mul, Nat.add_comm]
theorem filter_two (p : Int → Bool) (l : List Int) : l.length = (l.filter p).length + (l.filter fun y => !p y).length := by
  induction l with
  | nil => rfl
  | cons a t ih =>
    rw [List.filter_cons, List.filter_cons]
    cases h : p a <;> simp <;> omega
/-- a list that falls into classes of h each -/
theorem part_dvd (R : Int → Int → Prop) (h : Nat) : ∀ (m : Nat) (L : List Int), L.length ≤ m → (∀ x ∈ L, R x x) → (∀ x ∈ L, ∀ y ∈ L, R x y → R y x) → (∀ x ∈ L, ∀ y ∈ L, ∀ z ∈ L, R x y → R y z → R x z) → (∀ x ∈ L, (L.filter fun y => decide (R x y)).length = h) → h ∣ L.length := by
  intro m
  induction m with
  | zero => intro L hm _ _ _ _; rw [List.eq_nil_of_length_eq_zero (l := L) (by omega)]; exact ⟨0, rfl⟩
  | succ m ih =>
    intro L hm hr hs ht hc
    cases L with
    | nil => exact ⟨0, rfl⟩
    | cons a t =>
      have hsplit := filter_two (fun y => decide (R a y)) (a :: t)
      have hca := hc a (by simp)
      have hpos : 1 ≤ ((a :: t).filter fun y => decide (R a y)).length := by
        rw [List.filter_cons, if_pos (decide_eq_true (hr a (by simp)))]
        simp
      have hmem : ∀ {x : Int}, x ∈ ((a :: t).filter fun y => !decide (R a y)) → x ∈ a :: t ∧ ¬ R a x := by
        intro x hx
        rw [List.mem_filter] at hx
        exact ⟨hx.1, by simpa using hx.2⟩
      have := ih ((a :: t).filter fun y => !decide (R a y)) (by omega) (fun x hx => hr x (hmem hx).1) (fun x hx y hy => hs x (hmem hx).1 y (hmem hy).1)
        (fun x hx y hy z hz => ht x (hmem hx).1 y (hmem hy).1 z (hmem hz).1) (fun x hx => by
          rw [List.filter_filter]
          have e : ((a :: t).filter fun y => decide (R x y) && !decide (R a y)) = (a :: t).filter fun y => decide (R x y) := by
            refine List.filter_congr fun y hy => ?_
            by_cases g : R x y
            · have : ¬ R a y := fun g2 => (hmem hx).2 (ht a (by simp) y hy x (hmem hx).1 g2 (hs x (hmem hx).1 y hy g))
              simp [g, this]
            · simp [g]
          rw [e]
          exact hc x (hmem hx).1)
      obtain ⟨k, hk⟩ := this
      refine ⟨k + 1, ?_⟩
      rw [hsplit, hca, hk, Nat.mul_add, Nat.mul_one, Nat.add_comm]
/-- the flags of an orbit of all -/
theorem orb_dvd {hs ks ls : List (List Int)} {n : Nat} {x : Int} (hH : SysOf hs n) (hK : SysOf ks n) (hL : SysOf ls n) (hl : ∀ p ∈ ls, p ∈ hs ∨ p ∈ ks) (hhl : ∀ p ∈ hs, p ∈ ls) (hc : CommL hs ks n) (h0 : 0 ≤ x) (h1 : x < n) : (bfs hs n x).length ∣ (bfs ls n x).length := by
  have hm := bfs_met hL h0 h1
  have up : ∀ a b, Rch hs a b → Rch ls a b := by
    intro a b h
    induction h with
    | refl => exact .refl
    | step _ hp ih => exact ih.step (hhl _ hp)
  refine part_dvd (Rch hs) _ _ (bfs ls n x) (Nat.le_refl _) (fun a _ => .refl) (fun a ha b _ h => h.symm hH (hm.rng a ha).1 (hm.rng a ha).2) (fun a _ b _ c _ g1 g2 => g1.trans g2) (fun a ha => ?_)
  have hr := hm.rng a ha
  have e := (orb_size hH hK hl hc h0 h1 (hm.rch a ha)).2.2
  rw [← e]
  have hb := bfs_met hH hr.1 hr.2
  refine Nat.le_antisymm (nodup_sub_len _ _ (hm.nd.filter _) fun z hz => ?_) (nodup_sub_len _ _ hb.nd fun z hz => ?_)
  · rw [List.mem_filter] at hz
    exact (bfs_mem hH hr.1 hr.2).2 (by simpa using hz.2)
  · rw [List.mem_filter]
    exact ⟨(bfs_mem hL h0 h1).2 ((hm.rch a ha).trans (up _ _ (hb.rch z hz))), by simpa using hb.rch z hz⟩
theorem orb_mul {hs ks ls : List (List Int)} {n : Nat} {x : Int} (hH : SysOf hs n) (hK : SysOf ks n) (hL : SysOf ls n) (hl : ∀ p ∈ ls, p ∈ hs ∨ p ∈ ks) (hc : CommL hs ks n) (hkl : ∀ p ∈ ks, p ∈ ls) (h0 : 0 ≤ x) (h1 : x < n) : (bfs ls n x).length ≤ (bfs ks n x).length * (bfs hs n x).length := by
  have hm := bfs_met hL h0 h1
  have hk := bfs_met hK h0 h1
  have up : ∀ a b, Rch ks a b → Rch ls a b := by
    intro a b h
    induction h with
    | refl => exact .refl
    | step _ hp ih => exact ih.step (hkl _ hp)
  rw [← sum_const (l := bfs ks n x) (f := bfs hs n) (h := (bfs hs n x).length) (fun z hz => (orb_size hH hK hl hc h0 h1 (up _ _ (hk.rch z hz))).2.2)]
  refine nodup_sub_len _ _ hm.nd fun y hy => ?_
  obtain ⟨z, hz1, hz2⟩ := rch_split hH hK hl hc h0 h1 (hm.rch y hy)
  have hzr := hz1.rng hK h0 h1
  exact List.mem_flatMap.2 ⟨z, (bfs_mem hK h0 h1).2 hz1, (bfs_mem hH hzr.1 hzr.2).2 hz2⟩
def TwoR (p : List Int) (a b : Int) : Prop := b = a ∨ b = at' p a
/-- an orbit under a free involution has an even number of points -/
theorem orb_even {tr : List (List Int)} {p : List Int} {n : Nat} {x : Int} (hS : SysOf tr n) (hp : p ∈ tr) (hi : ∀ z : Int, 0 ≤ z → z < n → at' p z ≠ z ∧ at' p (at' p z) = z) (h0 : 0 ≤ x) (h1 : x < n) : 2 ∣ (bfs tr n x).length := by
  have hm := bfs_met hS h0 h1
  refine part_dvd (TwoR p) 2 _ (bfs tr n x) (Nat.le_refl _) (fun a _ => .inl rfl) (fun a ha b _ h => ?_) (fun a ha b _ c _ g1 g2 => ?_) (fun a ha => ?_)
  · have hr := hm.rng a ha
    rcases h with rfl | rfl
    · exact .inl rfl
    · exact .inr (hi a hr.1 hr.2).2.symm
  · have hr := hm.rng a ha
    rcases g1 with rfl | rfl
    · exact g2
    · rcases g2 with rfl | rfl
      · exact .inr rfl
      · exact .inl (hi a hr.1 hr.2).2
  · have hr := hm.rng a ha
    have hne := (hi a hr.1 hr.2).1
    have hb : at' p a ∈ bfs tr n x := (bfs_mem hS h0 h1).2 ((hm.rch a ha).step hp)
    have hnd : [a, at' p a].Nodup := by simp; exact fun e => hne e.symm
    refine Nat.le_antisymm (nodup_sub_len _ [a, at' p a] (hm.nd.filter _) fun z hz => ?_) (nodup_sub_len [a, at' p a] _ hnd fun z hz => ?_)
    · rw [List.mem_filter] at hz
      have : TwoR p a z := of_decide_eq_true hz.2
      unfold TwoR at this
      simpa using this
    · simp only [List.mem_cons, List.not_mem_nil, or_false] at hz
      rw [List.mem_filter]
      rcases hz with rfl | rfl
      · exact ⟨ha, decide_eq_true (show TwoR p z z from .inl rfl)⟩
      · exact ⟨hb, decide_eq_true (show TwoR p a (at' p a) from .inr rfl)⟩
theorem erase_two {xss : List (List Int)} {i : Nat} (p : List Int) : p ∈ xss.eraseIdx i ↔ p ∈ subL xss 0 i ∨ p ∈ subL xss (i + 1) xss.length := by
  rw [List.eraseIdx_eq_take_drop_succ, List.mem_append]
  unfold subL
  rw [List.drop_zero, Nat.sub_zero, List.take_of_length_le (l := xss.drop (i + 1)) (by rw [List.length_drop]; omega)]
end Go.Proofs.YtbioelmofceaaaaGreat
/- Map -/
namespace Go.Proofs.YtbioelmofceaaaaGreat
open Go.RowKit
set_option linter.unusedVariables false
set_option maxRecDepth 100000
theorem bits_xor1 : ∀ f : Nat, f < 400 → bits BinOp.xor IntKind.i64 (f : Int) 1 = plyA f := by decide +kernel
theorem bits_xor2 : ∀ f : Nat, f < 400 → bits BinOp.xor IntKind.i64 (f : Int) 2 = xor2 f := by decide +kernel
/-- the row's number at i -/
def subF (ls row : List Int) (i : Nat) : Int := ((ls.idxOf (at' row (ls.getD i 0)) : Nat) : Int)
theorem subRow_eq {ls : List Int} {n : Nat} (h : ls.length = n) (row : List Int) : subRow ls row = (List.range n).map (subF ls row) := by subst h; rfl
theorem subF_val {ls pr : List Int} {i y u t : Nat} (hn : ls.Nodup) (h1 : ls[i]? = some (y : Int)) (h2 : pr[y]? = some (u : Int)) (h3 : ls[t]? = some (u : Int)) : subF ls pr i = (t : Int) := by
  unfold subF
  rw [List.getD_eq_getElem?_getD, h1]
  have e : at' pr (y : Int) = (u : Int) := by unfold at'; simp [List.getD_eq_getElem?_getD, h2]
  simp only [Option.getD_some]
  rw [e, idxOf_of_get? hn h3]
set_option maxHeartbeats 8000000 in
theorem l02Map_any (w : World) (lo g : Nat) (A : Option Addr) (n c : Nat) (bs : List Int) (i h : Nat) (s : Src w lo g 74 A n c bs i h) (k : Nat) (hk : 1 ≤ k) (hk4 : 4 * k ≤ 400) :
    Calls Tryz.prog 81 #[.pointer (some ⟨g, 0, none⟩), .int .i64 (k : Int)] w fun e w' => ∃ (A1 : Option Addr) (c1 : Nat) (zss : List (List Int)) (F i' h' : Nat), e = .returned (.agg #[.slice A1 3 c1]) ∧ OwnS w' w.heap.size w'.heap.size 35 2 A1 3 c1 zss ∧ SysOf zss F ∧ 1 ≤ F ∧ F ≤ 4 * k ∧ 2 ∣ F ∧ Src w' lo g 74 A n c bs i' h' ∧ Chg g (g + 1) w w' := by
  obtain ⟨j0, hj0, hy0, hy1, hy2⟩ := info_parts infoI
  obtain ⟨s0, hs0, hu0, hu1, hu2⟩ := info_parts infoS
  obtain ⟨N, hN⟩ : ∃ N, 4 * k = N := ⟨_, rfl⟩
  have hkn : (4 : Int) * (k : Int) = (N : Int) := by omega
  have hgl := s.lt
  have B0 : Below w.heap.size w (((w.alloc (.cells #[.slice none 0 0] 26)).alloc (.cells #[] 2)).alloc (.cells #[] 2)) := (((Below.refl _ _).alloc (Nat.le_refl _) _).alloc (by simp) _).alloc (by simp; omega) _
  have hM := matching_any _ lo g A n c bs i h (s.below B0 hgl) (2 * k) (by omega)
  rw [show 2 * (2 * k) = N by omega] at hM
  go_enter Tryz.func81, Tryz.ntmps81
  go_wp2_with fail
  ((with_reducible refine hM.mono ?_); rintro e w2 ⟨A8, c8, rfl, i2, h2, ms, o8, hms, s2, C2⟩)
  clear hM
  go_wp2_with fail
  have hz0 : ((w.alloc (.cells #[.slice none 0 0] 26)).alloc (.cells #[] 2)).heap.size = w.heap.size + 1 + 1 := by simp
  have hz00 : (w.alloc (.cells #[.slice none 0 0] 26)).heap.size = w.heap.size + 1 := by simp
  have zC := C2.size
  have zC3 : w.heap.size + 3 ≤ w2.heap.size := by simp at zC; omega
  have E6 := World.ownsRow_lit (e := 2) (base := w.heap.size + 1) (size := 1) (w.alloc (.cells #[.slice none 0 0] 26)) #[] 0 (by simp) (by omega) rfl
  have E7 := World.ownsRow_lit (e := 2) (base := w.heap.size + 1) (size := 1) ((w.alloc (.cells #[.slice none 0 0] 26)).alloc (.cells #[] 2)) #[] 0 (by simp) (by omega) rfl
  rw [hz00] at E6
  rw [hz0] at E7
  have o6 := ((Own.of_row E6).keep (same_alloc _ (.cells #[] 2) _ _ (Nat.le_refl _))).keep (Same.of_chg C2 (by simp) (.inr (by omega)))
  have o7 := (Own.of_row E7).keep (Same.of_chg C2 (Nat.le_refl _) (.inr (by omega)))
  have hTwo : Two w2 (w.heap.size + 1) (w.heap.size + 3) w2.heap.size 2 (some ⟨w.heap.size + 1, 0, none⟩) 0 0 (((List.range 0).map plyA).map (Value.int .i64)) (some ⟨w.heap.size + 1 + 1, 0, none⟩) 0 0 (((List.range 0).map xor2).map (Value.int .i64)) :=
    ⟨by simpa using o6.1, by simpa using o7.1, fun q h1 h2 => by simp [Value.ownBlock] at h1 h2; omega, fun q h1 => by simp [Value.ownBlock] at h1; omega, fun q h1 => by simp [Value.ownBlock] at h1; omega, Nat.le_refl _⟩
  have o8s : Own w2 (w.heap.size + 3) w2.heap.size 2 A8 N c8 (ms.map (Value.int .i64)) := o8.more (by simp) (Nat.le_refl _)
  have hms' := Lib.hid hms
  have g0 : w2.heap[w.heap.size]? = some (.cells #[.slice none 0 0] 26 (0, 0)) := (C2.block w.heap.size (by simp; omega) (.inr (by omega))).trans (((Below.heap_alloc _ _ _ (by simp; omega)).trans (Below.heap_alloc _ _ _ (by simp))).trans (heap_new _ _ _ rfl))
  have C2' : Chg g (g + 1) w w2 := (Chg.of_below g (g + 1) B0).trans C2 ⟨Nat.le_refl _, Nat.le_refl _⟩ ⟨Nat.le_refl _, Nat.le_refl _⟩
  replace g0 := Lib.hid g0
  replace s2 := Lib.hid s2
  clear E6 E7 o6 o7 o8 B0 hms C2 s hz0 hz00 zC
  go_loopw [6, 7, 9] (fun v6 v7 fv wq => ∃ (f : Nat) (A6 : Option Addr) (c6 : Nat) (A7 : Option Addr) (c7 : Nat), f ≤ N ∧ v6 = .slice A6 f c6 ∧ v7 = .slice A7 f c7 ∧ fv = .int .i64 f ∧ Hid (Two wq (w.heap.size + 1) (w.heap.size + 3) w2.heap.size 2 A6 f c6 (((List.range f).map plyA).map (Value.int .i64)) A7 f c7 (((List.range f).map xor2).map (Value.int .i64))) ∧ w2.heap.size ≤ wq.heap.size ∧ Below (w.heap.size + 1) w2 wq ∧ Hid (Same (w.heap.size + 3) w2.heap.size w2 wq)) (fun _ _ fv _ => N - (intOf fv).toNat)
  case atStart => exact ⟨0, _, _, _, _, by omega, rfl, rfl, rfl, Lib.hid hTwo, Nat.le_refl _, Below.refl _ _, Lib.hid (Same.refl _ _ _)⟩
  case round =>
    obtain ⟨f, A6, c6, A7, c7, hf, rfl, rfl, rfl, hT, hz, hb, hsm⟩ := hrel
    by_cases hlt : f < N
    · have hx1 := bits_xor1 f (by omega)
      have hx2 := bits_xor2 f (by omega)
      have T := hT.out
      go_wp2_with (at_builtin; refine wpList_append1 wr rfl (.tmp 30) (.tmp 33) 35 rfl (w.heap.size + 1) 2 j0 (.int .i64 0) 8 Tryz.underlying35 hj0 hy0 hy1 hy2 rfl (by omega) A6 f c6 _ (.int .i64 (plyA f)) rfl T.r6 _ rfl rfl rfl (by omega) (by omega) ?_)
      intro g4 c4 w4 ho4 hg4 hlo4 hlt4 hor4
      obtain ⟨T4, S4⟩ := T.grow ho4 hg4 hor4
      have z4 := hg4.size
      have hb4 : Below (w.heap.size + 1) w2 w4 := hb.grown hg4 (by omega) (fun q hq => (T.r6.lt q hq).1)
      have hs4 : Hid (Same (w.heap.size + 3) w2.heap.size w2 w4) := Lib.hid (hsm.out.trans S4)
      clear T hT ho4 hg4 hor4 hb hsm S4
      go_wp2_with (at_builtin; refine wpList_append1 w4 rfl (.tmp 35) (.tmp 38) 35 rfl (w.heap.size + 1) 2 j0 (.int .i64 0) 8 Tryz.underlying35 hj0 hy0 hy1 hy2 rfl (by omega) A7 f c7 _ (.int .i64 (xor2 f)) rfl T4.r7 _ rfl rfl rfl (by omega) (by omega) ?_)
      intro g5 c5 w5 ho5 hg5 hlo5 hlt5 hor5
      obtain ⟨T5, S5⟩ := T4.swap.grow ho5 hg5 hor5
      have z5 := hg5.size
      have hb5 : Below (w.heap.size + 1) w2 w5 := hb4.grown hg5 (by omega) (fun q hq => (T4.r7.lt q hq).1)
      have hs5 : Hid (Same (w.heap.size + 3) w2.heap.size w2 w5) := Lib.hid (hs4.out.trans S5)
      have e1 : ∀ h : Nat → Int, ((List.range (f + 1)).map h).map (Value.int .i64) = (List.range f).map (Value.int .i64 ∘ h) ++ [.int .i64 (h f)] := fun h => by rw [List.range_succ, List.map_append, List.map_append, List.map_map]; rfl
      have T6 := T5.swap
      rw [← e1, ← e1] at T6
      replace T6 := Lib.hid T6
      clear T4 T5 ho5 hg5 hor5 hb4 hs4 S5 hx1 hx2 e1
      go_wp2_with fail
      go_roundw
      case measure => simp [intOf]; omega
      case rel => exact ⟨f + 1, _, _, _, _, by omega, rfl, rfl, by go_num, T6, by omega, hb5, hs5⟩
    · obtain rfl : N = f := by omega
      obtain ⟨wl, rfl⟩ : ∃ wl : World, wl = wr := ⟨_, rfl⟩
      have T := hT.out
      have q6 := (Own.of_row T.r6).ri
      have q7 := (Own.of_row T.r7).ri
      have q8 := (o8s.keep hsm.out).ri
      have Bh : Below wl.heap.size wl (wl.alloc (.cells #[.slice A6 N c6, .slice A8 N c8, .slice A7 N c7] 35)) := (Below.refl _ _).alloc (Nat.le_refl _) _
      have L := lit_rd wl #[.slice A6 N c6, .slice A8 N c8, .slice A7 N c7] 35 (by simp)
      have hRS : RS (wl.alloc (.cells #[.slice A6 N c6, .slice A8 N c8, .slice A7 N c7] 35)) (w.heap.size + 1) (wl.heap.size + 1) (some ⟨wl.heap.size, 0, none⟩) 3 [(List.range N).map plyA, ms, (List.range N).map xor2] := by
        refine ⟨[.slice A6 N c6, .slice A8 N c8, .slice A7 N c7], L.more (by omega) (Nat.le_refl _), rfl, ?_⟩
        intro j v xs h1 h2
        match j, h1, h2 with
        | 0, h1, h2 => simp at h1 h2; subst h1; subst h2; exact ⟨_, _, _, rfl, (q6.below Bh (Nat.le_refl _)).more (Nat.le_refl _) (by omega)⟩
        | 1, h1, h2 => simp at h1 h2; subst h1; subst h2; exact ⟨_, _, _, rfl, (q8.below Bh (by omega)).more (by omega) (by omega)⟩
        | 2, h1, h2 => simp at h1 h2; subst h1; subst h2; exact ⟨_, _, _, rfl, (q7.below Bh (Nat.le_refl _)).more (Nat.le_refl _) (by omega)⟩
        | j + 3, h1, h2 => simp at h1
      have hSys : SysOf [(List.range N).map plyA, ms, (List.range N).map xor2] N := by
        intro p hp
        simp only [List.mem_cons, List.not_mem_nil, or_false] at hp
        rcases hp with rfl | rfl | rfl
        · have := xor1_perm k; rwa [hN] at this
        · exact hms'.out
        · have := xor2_perm k; rwa [hN] at this
      obtain ⟨tr, htr⟩ : ∃ tr, [(List.range N).map plyA, ms, (List.range N).map xor2] = tr := ⟨_, rfl⟩
      rw [htr] at hRS hSys
      have htl : tr.length = 3 := by rw [← htr]; rfl
      have hOrb := orbit_sys hSys (by omega)
      have hMet := bfs_met hSys (x := 0) (by omega) (by omega)
      have hcl : ∀ x ∈ bfs tr N 0, ∀ p ∈ tr, at' p x ∈ bfs tr N 0 := fun x hx p hp => (bfs_mem hSys (by omega) (by omega)).2 (.step ((bfs_mem hSys (by omega) (by omega)).1 hx) hp)
      have hO := l01Orbit_any N _ _ 3 _ 0 _ hRS (by simp) (by omega) hSys (by omega) (by omega)
      have hEv : 2 ∣ (bfs tr N 0).length := orb_even (p := (List.range N).map plyA) hSys (by rw [← htr]; simp) (xor1_free N ⟨k, hN.symm⟩) (by omega) (by omega)
      obtain ⟨ls, hls⟩ : ∃ ls, bfs tr N 0 = ls := ⟨_, rfl⟩
      rw [hls] at hOrb hMet hcl hO hEv
      replace hEv := Lib.hid hEv
      have hrng := hMet.rng
      have hnd := hMet.nd
      replace hcl := Lib.hid hcl
      replace hrng := Lib.hid hrng
      replace hnd := Lib.hid hnd
      replace htl := Lib.hid htl
      replace hOrb := Lib.hid hOrb
      replace hSys := Lib.hid hSys
      have B2l : Below (w.heap.size + 1) w2 (wl.alloc (.cells #[.slice A6 N c6, .slice A8 N c8, .slice A7 N c7] 35)) := hb.trans (Bh.mono (by omega))
      clear q6 q7 q8 L Bh T hMet htr hls hT hsm hTwo o8s hb
      go_wp2_with fail
      ((with_reducible refine hO.mono ?_); rintro e w3 ⟨A9, n9, c9, rfl, o9, f9⟩)
      clear hO
      have hn9 : Hid (ls.length = n9) := Lib.hid o9.lenI
      have hn9N : n9 ≤ N := by have := hOrb.out.2.2; have := hn9.out; omega
      have z3 := f9.size
      have hR3 := hRS.below f9 (by simp)
      have B23 : Below (w.heap.size + 1) w2 w3 := B2l.trans (f9.mono (by simp; omega))
      have hz3 : wl.heap.size + 1 ≤ w3.heap.size := by simp at z3; omega
      clear hRS B2l f9 z3
      go_wp2_with (at_make; refine wpList_make_full _ rfl _ _ 35 rfl w3.heap.size 2 j0 (.int .i64 0) 1 Tryz.underlying35 hj0 hy0 hy1 _ _ _ _ N rfl rfl rfl rfl ?c1 ?c2 (Nat.le_refl _) ?_)
      case c1 => rw [hy2]; omega
      case c2 => simp only [maxLen]; omega
      intro w4 hown hg
      have B4 : Below w3.heap.size w3 w4 := (Below.refl _ _).grown hg (Nat.le_refl _) (by simp)
      have o12 : Own w4 w3.heap.size w4.heap.size 2 (some ⟨w3.heap.size, 0, none⟩) N N ((List.replicate N 0).map (Value.int .i64)) := by
        have := Own.of_row hown
        simpa [toList_madeCells_one, Value.cells] using this
      clear hown hg
      go_wp2_with fail
      go_loopw [13] (fun iv wq => ∃ (j : Nat) (at_ : List Int), j ≤ n9 ∧ iv = .int .i64 j ∧ Hid (at_.length = N ∧ ∀ t, t < j → ∀ u : Nat, ls[t]? = some (u : Int) → at_[u]? = some (t : Int)) ∧ Own wq w3.heap.size w4.heap.size 2 (some ⟨w3.heap.size, 0, none⟩) N N (at_.map (Value.int .i64)) ∧ w4.heap.size ≤ wq.heap.size ∧ Below w3.heap.size w3 wq) (fun iv _ => n9 - (intOf iv).toNat)
      case atStart => exact ⟨0, List.replicate N 0, by omega, rfl, Lib.hid ⟨by simp, fun t ht => by omega⟩, o12, Nat.le_refl _, B4⟩
      case round =>
        clear o12 B4
        obtain ⟨j, at_, hj, rfl, hat, oa, hz4, hb4⟩ := hrel
        by_cases hj9 : j < n9
        · obtain ⟨bx, yv, rfl, _, _, _, hyv, hcy, _⟩ := (o9.below hb4 (Nat.le_refl _)).atI hj9
          obtain ⟨hy0', hyN⟩ := hrng.out yv (List.mem_of_getElem? hyv)
          obtain ⟨y, rfl⟩ := Int.eq_ofNat_of_zero_le hy0'
          obtain ⟨za, hza⟩ : ∃ v, at_[y]? = some v := ⟨_, List.getElem?_eq_getElem (by have := hat.out.1; omega)⟩
          have hcA := oa.cellI hza
          have hfA := oa.frz y
          have hyN' : y < N := by omega
          have hst : Hid ((at_.set y (j : Int)).length = N ∧ ∀ t, t < j + 1 → ∀ u : Nat, ls[t]? = some (u : Int) → (at_.set y (j : Int))[u]? = some (t : Int)) := Lib.hid ⟨by rw [List.length_set]; exact hat.out.1, fun t ht u hu => by
            rw [List.getElem?_set]
            by_cases e : t = j
            · subst e
              rw [hyv] at hu
              have e2 : y = u := by have := Option.some.inj hu; omega
              subst e2
              rw [if_pos rfl, if_pos (by have := hat.out.1; omega)]
            · have hne : y ≠ u := fun e2 => by subst e2; exact e (row_inj hnd.out hu hyv)
              rw [if_neg hne]
              exact hat.out.2 t (by omega) u hu⟩
          replace hyv := Lib.hid hyv
          replace hza := Lib.hid hza
          clear hat
          go_wp2_with fail
          go_roundw
          case measure => simp [intOf]; omega
          case rel => exact ⟨j + 1, at_.set y (j : Int), by omega, by go_num, hst, oa.setI _, by simp; omega, hb4.setCell (by simp) _⟩
        · obtain rfl : n9 = j := by omega
          have hz4' := hb4.size
          obtain ⟨w5, rfl⟩ : ∃ w5 : World, w5 = wr := ⟨_, rfl⟩
          have o9' := o9.below hb4 (Nat.le_refl _)
          have hR5 := hR3.below hb4 (by omega)
          have B25 : Below (w.heap.size + 1) w2 w5 := B23.trans (hb4.mono (by omega))
          clear o9 hR3 B23 hb4
          go_wp2_with fail
          go_loopw [15] (fun kv wq => ∃ (q : Nat) (vs : List Value) (A2 : Option Addr) (c2 : Nat), q ≤ 3 ∧ Hid (vs.length = q) ∧ kv = .int .i64 q ∧ Hid (wq.heap[w5.heap.size]? = some (.cells #[.slice A2 q c2] 26 (0, 0))) ∧
            Own wq (w5.heap.size + 1) wq.heap.size 35 A2 q c2 vs ∧ RowsOwn wq (w5.heap.size + 1) wq.heap.size 2 vs ((tr.map (subRow ls)).take q) ∧ w5.heap.size + 1 ≤ wq.heap.size ∧ Below w5.heap.size w5 wq) (fun kv _ => 3 - (intOf kv).toNat)
          case atStart => exact ⟨0, [], none, 0, by omega, Lib.hid rfl, rfl, Lib.hid (heap_new _ _ _ rfl), Own.nil, by simpa using RowsOwn.nil, by simp, (Below.refl _ _).alloc (Nat.le_refl _) _⟩
          case round =>
            obtain ⟨q, vs, A2, c2, hq, hvq, rfl, g6, ho6, hrows, hz6, hb6⟩ := hrel
            obtain ⟨wo, rfl⟩ : ∃ wo : World, wo = wr := ⟨_, rfl⟩
            by_cases hq3 : q < 3
            · obtain ⟨bA, oA, Ak, nk, ck, pr, hA, _, hbA, hpr, hcp, hrp⟩ := hR5.at_ hq3
              have hA' := Option.some.inj hA
              injection hA' with hA1 hA2
              subst hA1; subst hA2
              rw [Nat.zero_add] at hcp
              have hprm := List.mem_of_getElem? hpr
              obtain ⟨r1, r2, r3⟩ := hSys.out pr hprm
              obtain rfl : N = nk := by have := hrp.len; omega
              have b0 := own_lit0 wo 2 (Nat.le_refl wo.heap.size)
              have hrow : Hid ((tr.map (subRow ls))[q]? = some ((List.range n9).map (subF ls pr))) := Lib.hid (by rw [List.getElem?_map, hpr, ← subRow_eq hn9.out]; rfl)
              replace r1 := Lib.hid r1
              replace r3 := Lib.hid r3
              replace hpr := Lib.hid hpr
              replace hprm := Lib.hid hprm
              clear r2 hA
              go_wp2_with fail
              go_loopw [16, 17] (fun rv fv wq => ∃ (f : Nat) (A3 : Option Addr) (c3 : Nat), f ≤ n9 ∧ rv = .slice A3 f c3 ∧ fv = .int .i64 f ∧ wq.ownsRow wo.heap.size 2 1 (.slice A3 f c3) f (((List.range f).map (subF ls pr)).map (Value.int .i64)) ∧ wo.heap.size ≤ wq.heap.size ∧ Below wo.heap.size wo wq) (fun _ fv _ => n9 - (intOf fv).toNat)
              case atStart => exact ⟨0, _, 0, by omega, rfl, rfl, by simpa using b0.1, by simp, (Below.refl _ _).alloc (Nat.le_refl _) _⟩
              case round =>
                obtain ⟨f, A3, c3, hf, rfl, rfl, ho, hzi, hbi⟩ := hrel
                have hbw := hb6.trans (hbi.mono (by omega))
                by_cases hlt : f < n9
                · obtain ⟨bx, yv, rfl, _, _, _, hyv, hcy, _⟩ := (o9'.below hbw (by omega)).atI hlt
                  obtain ⟨hy0', hyN⟩ := hrng.out yv (List.mem_of_getElem? hyv)
                  obtain ⟨y, rfl⟩ := Int.eq_ofNat_of_zero_le hy0'
                  have hcp2 := (hbw.cell (p := ⟨wl.heap.size, q, none⟩) (by simp; omega)).trans hcp
                  obtain ⟨bp, op, uv, rfl, _, hbp, huv, hcu⟩ := (hrp.below hbw (by omega)).at_ (show y < N by omega)
                  obtain ⟨hu0, huN⟩ := r1.out uv (List.mem_of_getElem? huv)
                  obtain ⟨u, rfl⟩ := Int.eq_ofNat_of_zero_le hu0
                  have hul : (u : Int) ∈ ls := by
                    have e : at' pr (y : Int) = (u : Int) := by unfold at'; simp [List.getD_eq_getElem?_getD, huv]
                    have := hcl.out y (List.mem_of_getElem? hyv) pr hprm.out
                    rwa [e] at this
                  obtain ⟨t, ht⟩ := List.mem_iff_getElem?.1 hul
                  have htl9 : t < n9 := by have := (List.getElem?_eq_some_iff.1 ht).1; have := hn9.out; omega
                  have hta : at_[u]? = some (t : Int) := hat.out.2 t htl9 u ht
                  have hcA := (oa.below hbw (by omega)).cellI hta
                  have hval : subF ls pr f = (t : Int) := subF_val hnd.out hyv huv ht
                  have i0 : (0 : Int) ≤ (y : Int) := by omega
                  have i1 : (y : Int) < (N : Int) := by omega
                  have hrs : ((List.range (f + 1)).map (subF ls pr)).map (Value.int .i64) = (((List.range f).map (subF ls pr)).map (Value.int .i64)) ++ [.int .i64 (t : Int)] := by rw [List.range_succ, List.map_append, List.map_append, List.map_singleton, hval]; rfl
                  have hown' : Hid ((wr.alloc (.cells #[.int .i64 (t : Int)] 2)).drew.ownsRow wo.heap.size 2 1 (.slice A3 f c3) f (((List.range f).map (subF ls pr)).map (Value.int .i64))) := Lib.hid (ho.alloc _)
                  have hnew' : Hid (∀ q v, [Value.int .i64 (t : Int)][q]? = some v → (wr.alloc (.cells #[.int .i64 (t : Int)] 2)).drew.cell? ((⟨wr.heap.size, 0, none⟩ : Addr).add q) = some v) := Lib.hid (cell_one_of (heap_new _ _ _ rfl))
                  have hml : Hid (f + 1 ≤ maxLen) := Lib.hid (by simp only [maxLen]; omega)
                  have hbs : Hid (wo.heap.size ≤ (wr.alloc (.cells #[.int .i64 (t : Int)] 2)).drew.heap.size) := Lib.hid (by simp; omega)
                  have hBa : Hid (Below wo.heap.size wo (wr.alloc (.cells #[.int .i64 (t : Int)] 2)).drew) := Lib.hid (below_drw (hbi.alloc hzi _))
                  have hlo6 : Hid (∀ q, (Value.slice A3 f c3).ownBlock = some q → wo.heap.size ≤ q) := Lib.hid (fun q hq => (ho.lt q hq).1)
                  replace hrs := Lib.hid hrs
                  replace huv := Lib.hid huv
                  replace hyv := Lib.hid hyv
                  replace ht := Lib.hid ht
                  replace hta := Lib.hid hta
                  replace hul := Lib.hid hul
                  replace hval := Lib.hid hval
                  clear ho
                  go_wp2_with fail
                  go_region_law? (refine step_append_lies _ (by rfl) (.tmp 73) (.tmp 87) 35 (by rfl) wo.heap.size 2 j0 (.int .i64 0) 1 8 Tryz.underlying35 hj0 hy0 hy1 hy2 rfl (by decide) (.slice A3 f c3) f (((List.range f).map (subF ls pr)).map (Value.int .i64)) (by rfl) hown'.out ⟨wr.heap.size, 0, none⟩ 1 1 [.int .i64 (t : Int)] (by rfl) rfl hnew'.out (by simp [Value.oneCell']) (by decide) hml.out (by omega) hbs.out (wr.heap.size + 1) (by simp) ?_; intro g4 c4 w7 ho7 hg7 hor7 hlt7; have f7 : Below wo.heap.size wo w7 := hBa.out.grown hg7 hbs.out hlo6.out; rw [← hrs.out] at ho7)
                  all_goals
                    have z7 := f7.size
                    clear hown' hnew' hbs hBa hlo6 hg7 hor7
                    go_wp2_with fail
                    go_roundw
                    case measure => simp [intOf]; omega
                    case rel => exact ⟨f + 1, _, c4, by omega, rfl, by go_num, ho7, z7, f7⟩
                · obtain rfl : n9 = f := by omega
                  have g6w := (hbi.block w5.heap.size (by omega)).trans g6.out
                  have C9 : wr.cell? ⟨w5.heap.size, 0, none⟩ = some (.slice A2 q c2) := by rw [cell_of_row _ _ _ _ _ _ g6w]; rfl
                  have F9 : wr.frozen? ⟨w5.heap.size, 0, none⟩ = false := frozen_of_row _ _ _ _ _ g6w
                  have o6 := ho6.below hbi (Nat.le_refl _)
                  have r6 := hrows.keep (Same.of_below hbi (Nat.le_refl _))
                  have orow := Own.of_row ho
                  have htk := take_succ_of hrow.out
                  replace htk := Lib.hid htk
                  have hz3' := hb6.size
                  replace g6w := Lib.hid g6w
                  clear ho b0 hrows ho6 g6
                  go_wp2_with (at_builtin; refine wpList_append1 wr rfl (.tmp 90) (.tmp 92) 24 rfl (w5.heap.size + 1) 35 s0 (.slice none 0 0) 24 Tryz.underlying24 hs0 hu0 hu1 hu2 rfl (by omega) A2 q c2 _ (.slice A3 n9 c3) rfl o6.1 _ rfl rfl rfl (by omega) (by omega) ?_)
                  intro g4 c4 w8 ho5 hg5 hlo5 hlt5 hor5
                  have g5 := (hg5.block w5.heap.size (by omega) (fun e => by have := (o6.1.lt _ e.symm).1; omega)).trans g6w.out
                  have C5 : w8.cell? ⟨w5.heap.size, 0, none⟩ = some (.slice A2 q c2) := by rw [cell_of_row _ _ _ _ _ _ g5]; rfl
                  have F5 : w8.frozen? ⟨w5.heap.size, 0, none⟩ = false := frozen_of_row _ _ _ _ _ g5
                  have hrw5 := (r6.kept_ty o6.1 (by decide) hg5).snoc (orow.kept_ty o6.1 (by decide) hg5) (by omega) (by omega)
                  have hz5 := hg5.size
                  have hb5 : Below w5.heap.size w5 w8 := hbw.grown hg5 (by omega) (fun q hq => by have := (o6.1.lt q hq).1; omega)
                  have ho5p := Own.of_row ho5
                  replace g5 := Lib.hid g5
                  clear C9 F9 o6 r6 orow hg5 ho5
                  go_wp2_with fail
                  go_roundw
                  case measure => simp [intOf]; omega
                  case rel =>
                    refine ⟨q + 1, vs ++ [.slice A3 n9 c3], _, c4, by omega, Lib.hid (by simp [hvq.out]), by go_num, Lib.hid ?_, (ho5p.far (.inl (by simp)) _).more (Nat.le_refl _) (by simp), ?_, by simp; omega, hb5.setCell (by simp) _⟩
                    · have := heap_setCell_same _ _ 0 _ _ (Value.slice (some ⟨g4, 0, none⟩) (q + 1) c4) g5.out
                      simpa using this
                    · rw [htk.out]
                      exact (hrw5.keep (same_set _ _ _ _ _ (.inl (by simp)))).more (Nat.le_refl _) (by simp; omega)
            · obtain rfl : q = 3 := by omega
              have hz7 := hb6.size
              have B2w : Below (w.heap.size + 1) w2 wo := B25.trans (hb6.mono (by omega))
              have g1 := (B2w.block w.heap.size (by omega)).trans g0.out
              have C2 : wo.cell? ⟨w.heap.size, 0, none⟩ = some (.slice none 0 0) := by rw [cell_of_row _ _ _ _ _ _ g1]; rfl
              have F2 : wo.frozen? ⟨w.heap.size, 0, none⟩ = false := frozen_of_row _ _ _ _ _ g1
              have C9 : wo.cell? ⟨w5.heap.size, 0, none⟩ = some (.slice A2 3 c2) := by rw [cell_of_row _ _ _ _ _ _ g6.out]; rfl
              replace g1 := Lib.hid g1
              go_wp2_with fail
              have g2 := heap_setCell_same _ _ 0 _ _ (Value.slice A2 3 c2) g1.out
              (try simp only [Exit.inBlock, Exit.then])
              refine bodyPost_ret (v := .agg #[.slice A2 3 c2]) ?_ rfl ?_
              · exact results_cell_row rfl _ _ w.heap.size 26 #[.slice A2 3 c2] (0, 0) _ rfl (by simpa using g2) Tryz.underlying26 rfl (by kernel_rfl)
              · have e : (tr.map (subRow ls)).take 3 = tr.map (subRow ls) := List.take_of_length_le (by have := htl.out; simp; omega)
                rw [e] at hrows
                have hO1 := hOrb.out
                rw [hn9.out] at hO1
                have s3 := s2.out.below B2w (by omega)
                have C2w : Chg g (g + 1) w wo := ⟨B2w.os.trans C2'.os, B2w.tape.trans C2'.tape, B2w.output.trans C2'.output, by have := B2w.size; have := C2'.size; omega, fun k hk e => (B2w.block k (by omega)).trans (C2'.block k hk e)⟩
                refine ⟨A2, c2, _, n9, i2, h2, rfl, ⟨vs, ?_, ?_⟩, hO1.1, hO1.2.1, by have := hO1.2.2; omega, by have := hEv.out; rwa [hn9.out] at this, s3.far (by simp; omega) (by have := s3.above; simp; omega) _, C2w.setNew (by simp) _⟩
                · exact (ho6.keep (same_set _ _ _ _ _ (.inl (by simp; omega)))).more (by omega) (by simp)
                · exact (hrows.keep (same_set _ _ _ _ _ (.inl (by simp; omega)))).more (by omega) (by simp)
end Go.Proofs.YtbioelmofceaaaaGreat
