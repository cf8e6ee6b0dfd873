/- Walks: the form of moves from a flag, the program's. Up to 400 flags. -/
import Derived.Test.YtbioelmofceaaaaFormP
import Derived.Test.YtbioelmofceaaaaMan
import Derived.Test.YtbioelmofceaaaaLawM
namespace Go.Proofs.Ytbioelmofceaaaa
open Go.RowKit
set_option linter.unusedVariables false
set_option maxRecDepth 100000
set_option maxHeartbeats 4000000 in
theorem numberedFrom_any (n : Nat) (A : Option Addr) (m c : Nat) (xss : List (List Int)) (x : Int) (w : World) {lo hi : Nat} (h : RS w lo hi A m xss) (hhi : hi ≤ w.heap.size) (hm0 : 0 < m) (hn : n ≤ 400) (hs : SysOf xss n) (hx0 : 0 ≤ x) (hx1 : x < n) :
    Calls Try.prog 97 #[.slice A m c, .int .i64 x] w fun e w' => ∃ (A1 : Option Addr) (n1 c1 : Nat), e = .returned (.slice A1 n1 c1) ∧ Own w' w.heap.size w'.heap.size 2 A1 n1 c1 ((bfs xss n x).map (Value.int .i64)) ∧ Below w.heap.size w w' := by
  obtain ⟨i0, hi0, hz0, hz1, hz2⟩ := info_parts infoB
  obtain ⟨j0, hj0, hy0, hy1, hy2⟩ := info_parts infoI
  have hm := h.max
  have hl := h.len
  obtain ⟨x, rfl⟩ : ∃ q : Nat, x = q := ⟨x.toNat, by omega⟩
  obtain ⟨b0, o0, A0, n0, c0, p0, hA0, _, hb0, hp0, hc0, hr0⟩ := h.at_ (k := 0) (by omega)
  rw [Nat.add_zero] at hc0
  have hn0 : n0 = n := by rw [← hr0.len]; exact (hs p0 (mem_of_get? hp0)).2.2
  subst hn0
  subst hA0
  clear hp0 hr0
  replace hs := Lib.hid hs
  replace hl := Lib.hid hl
  go_enter Try.func97, Try.ntmps97
  go_wp2_with (at_make; refine wpList_make_full _ rfl _ _ 80 rfl w.heap.size 4 i0 (.bool false) 1 Try.underlying80 hi0 hz0 hz1 _ _ _ _ n0 rfl rfl (by simp) (by simp) ?c1 ?c2 (by simp) ?_)
  case c1 => rw [hz2]; omega
  case c2 => simp only [maxLen]; omega
  intro w1 hown hg
  have hb1 : Below w.heap.size w w1 := (Below.refl _ _).grown hg (by simp) (by simp)
  have hs1 := hb1.size
  have hfr := hown.frozenAt x
  have hcx : w1.cell? ⟨w.heap.size, x, none⟩ = some (.bool false) := by rw [hown.cellAt x (by omega)]; simp [toList_madeCells_one, List.getElem?_replicate]; try omega
  go_wp2_with fail
  have hset := hown.stored x (.bool true)
  have ho2 := (own_lit1 (w1.setCell ⟨w.heap.size, x, none⟩ (.bool true)) 2 (x : Int) (lo := w.heap.size) (by simp; omega)).1
  rw [World.size_setCell] at ho2
  have hb2 : Below w.heap.size w ((w1.setCell ⟨w.heap.size, x, none⟩ (.bool true)).alloc (.cells #[.int .i64 (x : Int)] 2)) := (hb1.setCell (by simp) _).alloc (by simp; omega) _
  have hset1 : ((w1.setCell ⟨w.heap.size, x, none⟩ (.bool true)).alloc (.cells #[.int .i64 (x : Int)] 2)).ownsRow w.heap.size 4 1 (.slice (some ⟨w.heap.size, 0, none⟩) n0 n0) n0 (((List.replicate n0 false).set x true).map Value.bool) := by
    have := hset.1.alloc (.cells #[.int .i64 (x : Int)] 2)
    rw [List.map_set]
    simpa [toList_madeCells_one, Value.cells] using this
  clear hset hown hg hb1 hcx hfr hc0
  go_loopw [6, 7] (fun ov jv wr => ∃ (j : Nat) (ys : List Int) (A1 : Option Addr) (c1 : Nat) (bs : List Bool), j ≤ ys.length ∧ ys.length ≤ n0 ∧ ov = .slice A1 ys.length c1 ∧ jv = .int .i64 j ∧ Hid (bfsGo xss (n0 + 1 - j) ys j = bfs xss n0 x) ∧ Hid (Met xss n0 x ys) ∧ Hid (∀ z : Nat, z < n0 → bs[z]? = some (decide ((z : Int) ∈ ys))) ∧
      wr.ownsRow w.heap.size 4 1 (.slice (some ⟨w.heap.size, 0, none⟩) n0 n0) n0 (bs.map Value.bool) ∧ wr.ownsRow w.heap.size 2 1 (.slice A1 ys.length c1) ys.length (ys.map (Value.int .i64)) ∧ Below w.heap.size w wr) (fun _ jv _ => n0 - (intOf jv).toNat)
  case atStart =>
    refine ⟨0, [(x : Int)], _, 1, _, by simp, by simp; omega, rfl, rfl, Lib.hid rfl, Lib.hid (Met.one hx0 hx1), Lib.hid fun z hz => ?_, hset1, ho2, hb2⟩
    by_cases e : x = z
    · subst e; simp [show x < n0 by omega]
    · have hne : ¬ (z : Int) = x := by omega
      rw [List.getElem?_set_ne e]; simp [hz, hne]
  case round =>
    clear hset1 ho2 hb2
    obtain ⟨j, ys, A1, c1, bs, hj, hyn, rfl, rfl, heq, hmet, hbs, hsn, ho, hb⟩ := hrel
    have hmq := hb.size
    by_cases hlt : j < ys.length
    · obtain ⟨g, y, rfl, _, _, _, hy, _, _⟩ := (Own.of_row ho).atI hlt
      have hyr := hmet.out.rng y (mem_of_get? hy)
      obtain ⟨y, rfl⟩ : ∃ q : Nat, y = q := ⟨y.toNat, by omega⟩
      replace hy := Lib.hid hy
      go_wp2_with fail
      obtain ⟨wo, hwo⟩ : ∃ wo : World, wo = wr := ⟨_, rfl⟩
      go_loopw [6, 29] (fun ov kv wq => ∃ (k : Nat) (zs : List Int) (A2 : Option Addr) (c2 : Nat) (bs : List Bool), k ≤ m ∧ zs.length ≤ n0 ∧ ov = .slice A2 zs.length c2 ∧ kv = .int .i64 k ∧ Hid (zs = bfsStep (xss.take k) y ys) ∧ Hid (Met xss n0 x zs) ∧ Hid (zs[j]? = some (y : Int)) ∧ Hid (∀ z : Nat, z < n0 → bs[z]? = some (decide ((z : Int) ∈ zs))) ∧
          wq.ownsRow w.heap.size 4 1 (.slice (some ⟨w.heap.size, 0, none⟩) n0 n0) n0 (bs.map Value.bool) ∧ wq.ownsRow w.heap.size 2 1 (.slice A2 zs.length c2) zs.length (zs.map (Value.int .i64)) ∧ Below w.heap.size w wq) (fun _ kv _ => m - (intOf kv).toNat)
      case atStart => exact ⟨0, ys, _, c1, bs, by omega, hyn, rfl, rfl, Lib.hid rfl, hmet, hy, hbs, hsn, ho, hb⟩
      case round =>
        clear hsn ho hb hbs hwo
        obtain ⟨k, zs, A2, c2, bs, hk, hzn, rfl, rfl, hzs, hmz, hzy, hbs, hsn, ho, hb⟩ := hrel
        have hjz : j < zs.length := (List.getElem?_eq_some_iff.1 hzy.out).1
        by_cases hkm : k < m
        · obtain ⟨bb, oo, Ak, nk, ck, p, hA, _, hbb, hp, hpc, hpr⟩ := (h.below hb hhi).at_ hkm
          injection hA with hA
          injection hA with hA1 hA2 _
          subst hA1; subst hA2
          have hpm := mem_of_get? hp
          obtain ⟨hpr0, hpn, hpl⟩ := hs.out p hpm
          have hnk := hpr.len
          have hynk : y < nk := by omega
          obtain ⟨bp, oq, v, rfl, _, hbp, hv, hvc⟩ := hpr.at_ hynk
          have hva : at' p y = v := by unfold at'; rw [Int.toNat_natCast]; exact getD_some hv
          obtain ⟨hv0, hv1⟩ := hpr0 v (mem_of_get? hv)
          obtain ⟨v, rfl⟩ : ∃ q : Nat, v = q := ⟨v.toNat, by omega⟩
          obtain ⟨gz, y', rfl, hgz1, hgz2, hgz3, hy', hyc, _⟩ := (Own.of_row ho).atI hjz
          have e : y' = y := by rw [hzy.out] at hy'; exact (Option.some.inj hy').symm
          subst e
          clear hy'
          have htk := take_succ_of hp
          have hbv := hbs.out v (by omega)
          have hsc : wr.cell? ⟨w.heap.size, v, none⟩ = some (.bool (decide ((v : Int) ∈ zs))) := by
            rw [hsn.cellAt v (by omega), List.getElem?_map, hbv]; rfl
          have hsf := hsn.frozenAt v
          replace hbv := Lib.hid hbv
          replace hp := Lib.hid hp
          replace hv := Lib.hid hv
          replace hpr0 := Lib.hid hpr0
          have hvn : v < n0 := by omega
          by_cases hmem : (v : Int) ∈ zs
          · have hst : zs = bfsStep (xss.take (k + 1)) y ys := by
              rw [htk, bfsStep_snoc, hva, ← hzs.out, if_pos hmem]
            replace hst := Lib.hid hst
            rw [decide_eq_true hmem] at hsc
            replace htk := Lib.hid htk
            replace hva := Lib.hid hva
            replace hmem := Lib.hid hmem
            replace hpl := Lib.hid hpl
            go_wp2_with fail
            go_roundw
            case measure => simp [intOf]; omega
            case rel => exact ⟨k + 1, zs, _, c2, bs, by omega, hzn, rfl, by go_num, hst, hmz, hzy, hbs, hsn, ho, hb⟩
          · have hst : zs ++ [(v : Int)] = bfsStep (xss.take (k + 1)) y ys := by
              rw [htk, bfsStep_snoc, hva, ← hzs.out, if_neg hmem]
            replace hst := Lib.hid hst
            have hmz2 : Met xss n0 x (zs ++ [(v : Int)]) := by
              have := hmz.out.add hs.out (mem_of_get? hzy.out) hpm (by rw [hva]; exact hmem)
              rwa [hva] at this
            have hzn2 := hmz2.len
            rw [List.length_append, List.length_singleton] at hzn2
            replace hmz2 := Lib.hid hmz2
            rw [decide_eq_false hmem] at hsc
            replace htk := Lib.hid htk
            replace hva := Lib.hid hva
            replace hmem := Lib.hid hmem
            replace hpl := Lib.hid hpl
            have hset := hsn.stored v (.bool true)
            have ho' := own_kept_ty ho hsn (by decide) hset.2
            have hss : (wr.setCell ⟨w.heap.size, v, none⟩ (.bool true)).heap.size = wr.heap.size := World.size_setCell _ _ _
            have hsize := hb.size
            replace hss := Lib.hid hss
            go_wp2_with (at_builtin; refine wpList_append1 (wr.setCell ⟨w.heap.size, v, none⟩ (.bool true)) rfl (.tmp 48) (.tmp 50) 22 rfl w.heap.size 2 j0 (.int .i64 0) 8 Try.underlying22 hj0 hy0 hy1 hy2 rfl (by omega) _ zs.length c2 _ (.int .i64 v) rfl ho' _ rfl (World.size_setCell _ _ _).symm rfl (by omega) (by rw [hss.out]; exact hsize) ?_)
            intro g4 c4 w2 ho2 hg2 hlo2 hlt2 hor2
            have hb4 : Below w.heap.size w w2 := (hb.setCell (p := ⟨w.heap.size, v, none⟩) (by simp) (.bool true)).grown hg2 (by rw [hss.out]; exact hsize) (fun q hq => by have := (ho.lt q hq).1; omega)
            have hsn4 : w2.ownsRow w.heap.size 4 1 (.slice (some ⟨w.heap.size, 0, none⟩) n0 n0) n0 ((bs.set v true).map Value.bool) :=
              own_kept_ty (by rw [List.map_set]; exact hset.1) ho' (by decide) hg2
            clear hset ho' ho hsn hb hpc hvc hyc hsc hsf hpr hg2
            go_wp2_with fail
            go_roundw
            case measure => simp [intOf]; omega
            case rel =>
              refine ⟨k + 1, zs ++ [(v : Int)], _, c4, bs.set v true, by omega, by simp; omega, by rw [List.length_append]; rfl, by go_num, hst, hmz2, Lib.hid ?_, Lib.hid fun z hz => ?_, hsn4, by simpa using ho2, hb4⟩
              · rw [List.getElem?_append_left hjz]; exact hzy.out
              · by_cases e : v = z
                · subst e
                  have := (List.getElem?_eq_some_iff.1 hbv.out).1
                  simp [this]
                · rw [List.getElem?_set_ne e, hbs.out z hz]
                  have : ¬ (z : Int) = v := by omega
                  simp [this]
        · have hkm' : k = m := by omega
          subst hkm'
          go_wp2_with fail
          go_roundw
          case measure => simp [intOf]; omega
          case rel =>
            refine ⟨j + 1, zs, A2, c2, bs, by omega, hzn, rfl, by go_num, Lib.hid ?_, hmz, hbs, hsn, ho, hb⟩
            have h1 := heq.out
            rw [show n0 + 1 - j = (n0 - j) + 1 by omega, bfsGo_step hy.out] at h1
            have h2 := hzs.out
            rw [List.take_of_length_le (by have := hl.out; omega)] at h2
            rw [← h1, h2, show n0 + 1 - (j + 1) = n0 - j by omega]
    · go_wp2_with fail
      go_ret
      refine ⟨A1, ys.length, c1, rfl, ?_, hb⟩
      have h1 := heq.out
      rw [bfsGo_stop (by omega)] at h1
      rw [← h1]
      exact Own.of_row ho
set_option maxHeartbeats 8000000 in
theorem formFrom_any (n : Nat) (A : Option Addr) (m c : Nat) (xss : List (List Int)) (x : Int) (w : World) {lo hi : Nat} (h : RS w lo hi A m xss) (hhi : hi ≤ w.heap.size) (hm0 : 0 < m) (hm5 : m ≤ 20) (hn : n ≤ 400) (hs : SysOf xss n) (hx0 : 0 ≤ x) (hx1 : x < n) :
    Calls Try.prog 74 #[.slice A m c, .int .i64 x] w fun e w' => ∃ (A1 : Option Addr) (c1 : Nat), e = .returned (.agg #[.slice A1 m c1]) ∧ OwnS w' w.heap.size w'.heap.size 22 2 A1 m c1 (formL xss n x) ∧ Below w.heap.size w w' := by
  obtain ⟨j0, hj0, hy0, hy1, hy2⟩ := info_parts infoI
  obtain ⟨s0, hs0, hu0, hu1, hu2⟩ := info_parts infoS
  have hl := h.len
  have hnf := numberedFrom_any n A m c xss x (w.alloc (.cells #[.slice none 0 0] 38)) (rs_alloc h hhi _) (by simp; omega) hm0 hn hs hx0 hx1
  have hmet := bfs_met hs hx0 hx1
  have hclo : ∀ y ∈ bfs xss n x, ∀ p ∈ xss, at' p y ∈ bfs xss n x := fun y hy p hp => bfs_closed hs hx0 hx1 hy hp
  have hfl : formL xss n x = xss.map (ixF (bfs xss n x)) := rfl
  rw [hfl]
  generalize bfs xss n x = ord at *
  have hol := hmet.len
  replace hfl := Lib.hid hfl
  replace hmet := Lib.hid hmet
  replace hclo := Lib.hid hclo
  replace hs := Lib.hid hs
  go_enter Try.func74, Try.ntmps74
  go_wp2_with fail
  ((with_reducible refine hnf.mono ?_); rintro e w1 ⟨A5, n5, c5, rfl, o5, f1⟩)
  have B1 : Below w.heap.size w w1 := ((Below.refl _ _).alloc (Nat.le_refl _) _).trans (f1.mono (by simp))
  have g4 : w1.heap[w.heap.size]? = some (.cells #[.slice none 0 0] 38 (0, 0)) := (f1.block _ (by simp)).trans (heap_new _ _ _ rfl)
  have z1 : w.heap.size + 1 ≤ w1.heap.size := by have := f1.size; simpa using this
  have e5 := o5.lenI
  subst e5
  clear f1 hnf
  obtain ⟨b0, o0, A0, n0, c0, p0, rfl, _, _, hp0, hc0, hr0⟩ := (h.below B1 hhi).at_ hm0
  rw [Nat.add_zero] at hc0
  have hn0 : n0 = n := by rw [← hr0.len]; exact (hs.out p0 (mem_of_get? hp0)).2.2
  subst hn0
  clear hp0 hr0
  go_wp2_with (at_make; refine wpList_make_full _ rfl _ _ 22 rfl w1.heap.size 2 j0 (.int .i64 0) 1 Try.underlying22 hj0 hy0 hy1 _ _ _ _ n0 rfl rfl rfl rfl ?c1 ?c2 (Nat.le_refl _) ?_)
  case c1 => rw [hy2]; omega
  case c2 => simp only [maxLen]; omega
  intro w2 hown hg
  have B2 : Below w1.heap.size w1 w2 := (Below.refl _ _).grown hg (Nat.le_refl _) (by simp)
  have z2 : w1.heap.size < w2.heap.size := (hown.lt w1.heap.size (by simp [Value.ownBlock])).2
  have o6 : Own w2 w1.heap.size w2.heap.size 2 (some ⟨w1.heap.size, 0, none⟩) n0 n0 ((List.replicate n0 0).map (Value.int .i64)) := by
    have := Own.of_row hown
    simpa [toList_madeCells_one, Value.cells] using this
  clear hown hg hc0
  go_wp2_with fail
  go_loopw [25] (fun kv wq => ∃ (k : Nat) (ns : List Int), k ≤ ord.length ∧ kv = .int .i64 k ∧ Hid (NumI ord n0 k ns) ∧ Own wq w1.heap.size w2.heap.size 2 (some ⟨w1.heap.size, 0, none⟩) n0 n0 (ns.map (Value.int .i64)) ∧ w2.heap.size ≤ wq.heap.size ∧ Below w1.heap.size w1 wq) (fun kv _ => ord.length - (intOf kv).toNat)
  case atStart => exact ⟨0, _, by omega, rfl, Lib.hid (NumI.zero ord n0), o6, Nat.le_refl _, B2⟩
  case round =>
    clear o6 B2
    obtain ⟨k, ns, hk, rfl, hns, ho, hz, hb⟩ := hrel
    by_cases hlt : k < ord.length
    · obtain ⟨b5, f, rfl, _, _, _, hf, hcf, _⟩ := (o5.below hb (Nat.le_refl _)).atI hlt
      obtain ⟨hf0, hf1⟩ := hmet.out.rng f (mem_of_get? hf)
      obtain ⟨f, rfl⟩ : ∃ q : Nat, f = q := ⟨f.toNat, by omega⟩
      have hcn := ho.cellI (hns.out.2 f (by omega))
      have hfr := ho.frz f
      have hfn : f < n0 := by omega
      have hst := hns.out.step hmet.out.nd hf
      replace hst := Lib.hid hst
      replace hf := Lib.hid hf
      generalize (if (f : Int) ∈ ord.take k then (ord.idxOf (f : Int) : Int) else 0) = old at *
      go_wp2_with fail
      go_roundw
      case measure => simp [intOf]; omega
      case rel => exact ⟨k + 1, ns.set f (k : Int), by omega, by go_num, hst, ho.setI (k : Int), by simp; omega, hb.setCell (by simp) _⟩
    · have hko : k = ord.length := by omega
      subst hko
      have hnum : ∀ z : Nat, z < n0 → (z : Int) ∈ ord → ns[z]? = some (ord.idxOf (z : Int) : Int) := fun z hz' hm => hns.out.get hz' hm
      replace hnum := Lib.hid hnum
      go_wp2_with fail
      obtain ⟨w3, rfl⟩ : ∃ w3 : World, w3 = wr := ⟨_, rfl⟩
      have g9 : (w3.alloc (.cells #[.slice none 0 0] 38)).heap[w3.heap.size]? = some (.cells #[.slice none 0 0] 38 (0, 0)) := heap_new _ _ _ rfl
      go_loopw [37] (fun kv wq => ∃ (k : Nat) (vs : List Value) (A2 : Option Addr) (c2 : Nat), k ≤ m ∧ vs.length = k ∧ kv = .int .i64 k ∧ wq.heap[w3.heap.size]? = some (.cells #[.slice A2 k c2] 38 (0, 0)) ∧
          Own wq (w3.heap.size + 1) wq.heap.size 22 A2 k c2 vs ∧ RowsOwn wq (w3.heap.size + 1) wq.heap.size 2 vs ((xss.take k).map (ixF ord)) ∧ w3.heap.size + 1 ≤ wq.heap.size ∧ Below w3.heap.size w3 wq) (fun kv _ => m - (intOf kv).toNat)
      case atStart => exact ⟨0, [], none, 0, by omega, rfl, rfl, g9, Own.nil, by simpa using RowsOwn.nil, by simp, (Below.refl _ _).alloc (Nat.le_refl _) _⟩
      case round =>
        clear g9
        obtain ⟨k, vs, A2, c2, hk, hvk, rfl, g9, ho9, hrows, hz9, hb9⟩ := hrel
        have C9 : wr.cell? ⟨w3.heap.size, 0, none⟩ = some (.slice A2 k c2) := by rw [cell_of_row _ _ _ _ _ _ g9]; rfl
        have F9 : wr.frozen? ⟨w3.heap.size, 0, none⟩ = false := frozen_of_row _ _ _ _ _ g9
        have hbw : Below w1.heap.size w1 wr := hb.trans (hb9.mono (by omega))
        have ho6 := ho.below hb9 hz
        by_cases hkm : k < m
        · obtain ⟨bb, oo, Ak, nk, ck, p, e, _, _, hp, hpc, hpr⟩ := ((h.below B1 hhi).below hbw (by omega)).at_ hkm
          injection e with e
          injection e with e1 e2 _
          subst e1; subst e2
          have hpm := mem_of_get? hp
          obtain ⟨hpr0, hpn, hpl⟩ := hs.out p hpm
          have hnk := hpr.len
          have hkk : nk = n0 := by omega
          subst hkk
          have htk := take_succ_of hp
          replace hp := Lib.hid hp
          replace htk := Lib.hid htk
          replace hpr0 := Lib.hid hpr0
          replace hpl := Lib.hid hpl
          replace g9 := Lib.hid g9
          have hnk1 := hpr.max
          go_wp2_with fail
          obtain ⟨wo, rfl⟩ : ∃ wo : World, wo = wr := ⟨_, rfl⟩
          go_loopw [12, 43] (fun lv kv wq => ∃ (j : Nat) (ys : List Int) (A3 : Option Addr) (c3 : Nat), j ≤ ord.length ∧ ys.length = j ∧ lv = .slice A3 j c3 ∧ kv = .int .i64 j ∧ Hid (ys = (ixF ord p).take j) ∧ Own wq wo.heap.size wq.heap.size 2 A3 j c3 (ys.map (Value.int .i64)) ∧ wo.heap.size ≤ wq.heap.size ∧ Below wo.heap.size wo wq) (fun _ kv _ => ord.length - (intOf kv).toNat)
          case atStart => exact ⟨0, [], none, 0, by omega, rfl, rfl, rfl, Lib.hid rfl, Own.nil, Nat.le_refl _, Below.refl _ _⟩
          case round =>
            obtain ⟨j, ys, A3, c3, hj, hyl, rfl, rfl, hys, ho3, hz3, hb3⟩ := hrel
            by_cases hjo : j < ord.length
            · obtain ⟨b5, f, hA5, _, _, _, hf, hcf, _⟩ := ((o5.below hbw (Nat.le_refl _)).below hb3 (by omega)).atI hjo
              subst hA5
              have hfm := mem_of_get? hf
              obtain ⟨hf0, hf1⟩ := hmet.out.rng f hfm
              obtain ⟨f, rfl⟩ : ∃ q : Nat, f = q := ⟨f.toNat, by omega⟩
              have hfn : f < nk := by omega
              obtain ⟨bp, oq, v, rfl, _, _, hv, hvc⟩ := (hpr.below hb3 (by omega)).at_ hfn
              have hva : at' p f = v := by unfold at'; rw [Int.toNat_natCast]; exact getD_some hv
              have hvo := hclo.out _ hfm p hpm
              rw [hva] at hvo
              obtain ⟨hv0, hv1⟩ := hpr0.out v (mem_of_get? hv)
              obtain ⟨v, rfl⟩ : ∃ q : Nat, v = q := ⟨v.toNat, by omega⟩
              have hvn : v < nk := by omega
              have hcn := (ho6.below hb3 (by omega)).cellI (hnum.out v hvn hvo)
              have hst : ys ++ [(ord.idxOf (v : Int) : Int)] = (ixF ord p).take (j + 1) := by
                rw [take_succ_of (x := (ord.idxOf (v : Int) : Int)) (by simp [ixF, hf, hva]), ← hys.out]
              replace hst := Lib.hid hst
              replace hf := Lib.hid hf
              replace hfm := Lib.hid hfm
              replace hv := Lib.hid hv
              replace hva := Lib.hid hva
              replace hvo := Lib.hid hvo
              generalize (ord.idxOf (v : Int) : Int) = u at *
              go_wp2_with (at_builtin; refine wpList_append1 wr rfl (.tmp 47) (.tmp 55) 22 rfl wo.heap.size 2 j0 (.int .i64 0) 8 Try.underlying22 hj0 hy0 hy1 hy2 rfl (by omega) A3 j c3 _ (.int .i64 u) rfl ho3.1 _ rfl rfl rfl (by omega) hz3 ?_)
              intro g4 c4 w5 ho5 hg5 hlo5 hlt5 hor5
              have hb5 : Below wo.heap.size wo w5 := hb3.grown hg5 hz3 (fun q hq => by have := (ho3.1.lt q hq).1; omega)
              have hz5 := hg5.size
              clear hcf hvc hcn ho3 hb3 hg5
              go_wp2_with fail
              go_roundw
              case measure => simp [intOf]; omega
              case rel => exact ⟨j + 1, ys ++ [u], _, c4, by omega, by simp; omega, rfl, by go_num, hst, by simpa using Own.of_row ho5, by omega, hb5⟩
            · have hjo' : j = ord.length := by omega
              subst hjo'
              have hyf : ys = ixF ord p := by have := hys.out; rwa [List.take_of_length_le (by rw [ixF_length]; exact Nat.le_refl _)] at this
              have ho9' := ho9.below hb3 (Nat.le_refl _)
              have hrows' := hrows.keep (Same.of_below hb3 (Nat.le_refl _))
              have g9' := (hb3.block w3.heap.size (by omega)).trans g9.out
              have C9' : wr.cell? ⟨w3.heap.size, 0, none⟩ = some (.slice A2 k c2) := by rw [cell_of_row _ _ _ _ _ _ g9']; rfl
              have F9' : wr.frozen? ⟨w3.heap.size, 0, none⟩ = false := frozen_of_row _ _ _ _ _ g9'
              replace g9' := Lib.hid g9'
              replace hyf := Lib.hid hyf
              replace hyl := Lib.hid hyl
              go_wp2_with (at_builtin; refine wpList_append1 wr rfl (.tmp 59) (.tmp 61) 23 rfl (w3.heap.size + 1) 22 s0 (.slice none 0 0) 24 Try.underlying23 hs0 hu0 hu1 hu2 rfl (by omega) A2 k c2 _ (.slice A3 ord.length c3) rfl ho9'.1 _ rfl rfl rfl (by omega) (by omega) ?_)
              intro g4 c4 w5 ho5 hg5 hlo5 hlt5 hor5
              have g5 := (hg5.block w3.heap.size (by omega) (fun e => by have := (ho9'.1.lt _ e.symm).1; omega)).trans g9'.out
              have C5 : w5.cell? ⟨w3.heap.size, 0, none⟩ = some (.slice A2 k c2) := by rw [cell_of_row _ _ _ _ _ _ g5]; rfl
              have F5 : w5.frozen? ⟨w3.heap.size, 0, none⟩ = false := frozen_of_row _ _ _ _ _ g5
              have hrw5 := (hrows'.kept_ty ho9'.1 (by decide) hg5).snoc (ho3.kept_ty ho9'.1 (by decide) hg5) (by omega) hz3
              have hz5 := hg5.size
              have hb5 : Below w3.heap.size w3 w5 := (hb9.trans (hb3.mono (by omega))).grown hg5 (by omega) (fun q hq => by have := (ho9'.1.lt q hq).1; omega)
              have ho5' := Own.of_row ho5
              replace g5 := Lib.hid g5
              clear C9 F9 C9' F9' ho9 ho9' hrows hrows' ho3 hg5 ho5
              go_wp2_with fail
              go_roundw
              case measure => simp [intOf]; omega
              case rel =>
                refine ⟨k + 1, vs ++ [.slice A3 ord.length c3], _, c4, by omega, by simp; omega, by go_num, ?_, (ho5'.far (.inl (by simp)) _).more (Nat.le_refl _) (by simp), ?_, by simp; omega, hb5.setCell (by simp) _⟩
                · have := heap_setCell_same _ _ 0 _ _ (Value.slice (some ⟨g4, 0, none⟩) (k + 1) c4) g5.out
                  simpa using this
                · rw [htk.out, List.map_append, List.map_singleton, ← hyf.out]
                  exact (hrw5.keep (same_set _ _ _ _ _ (.inl (by simp)))).more (Nat.le_refl _) (by simp; omega)
        · have hkm' : k = m := by omega
          subst hkm'
          have g4' := (hbw.block w.heap.size (by omega)).trans g4
          have C4 : wr.cell? ⟨w.heap.size, 0, none⟩ = some (.slice none 0 0) := by rw [cell_of_row _ _ _ _ _ _ g4']; rfl
          have F4 : wr.frozen? ⟨w.heap.size, 0, none⟩ = false := frozen_of_row _ _ _ _ _ g4'
          replace g4' := Lib.hid g4'
          replace g9 := Lib.hid g9
          replace g4 := Lib.hid g4
          go_wp2_with fail
          have g2 := heap_setCell_same _ _ 0 _ _ (Value.slice A2 k c2) g4'.out
          (try simp only [Exit.inBlock, Exit.then])
          refine bodyPost_ret (v := .agg #[.slice A2 k c2]) ?_ rfl ?_
          · exact results_cell_row rfl _ _ w.heap.size 38 #[.slice A2 k c2] (0, 0) _ rfl (by simpa using g2) Try.underlying38 rfl (by kernel_rfl)
          · have e : xss.take k = xss := List.take_of_length_le (by omega)
            rw [e] at hrows
            refine ⟨A2, c2, rfl, ⟨vs, ?_, ?_⟩, (B1.trans (hbw.mono (by omega))).setCell (by simp) _⟩
            · exact (ho9.keep (same_set _ _ _ _ _ (.inl (by simp; omega)))).more (by omega) (by simp)
            · exact (hrows.keep (same_set _ _ _ _ _ (.inl (by simp; omega)))).more (by omega) (by simp)
end Go.Proofs.Ytbioelmofceaaaa
