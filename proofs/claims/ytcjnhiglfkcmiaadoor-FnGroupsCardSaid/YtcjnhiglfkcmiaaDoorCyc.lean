/- Walks: the cycles of a permutation in both packages. Lengths up to 2^20. -/
import Derived.Test.YtcjnhiglfkcmiaaDoorPerm2
import Derived.Test.YtcjnhiglfkcmiaaDoorSls
import Derived.Test.YtcjnhiglfkcmiaaDoorCycP
import Derived.Deep.LoopGhost
namespace Go.Proofs.YtcjnhiglfkcmiaaDoor
open Go.RowKit
set_option linter.unusedVariables false
set_option maxRecDepth 100000
theorem infoS : (Tryd.prog.info? 24).map (fun i => (i.zero, i.size, i.bytes)) = some (some (.slice none 0 0), 1, 24) := by kernel_rfl
set_option maxHeartbeats 2000000 in
theorem cycles_any (A : Option Addr) (n c : Nat) (xs : List Int) (w : World) {lo hi : Nat} (h : RI w lo hi A n xs) (hhi : hi ≤ w.heap.size) (h4 : n ≤ 1048576) (hr : ∀ x ∈ xs, 0 ≤ x ∧ x < n) :
    Calls Tryd.prog 71 #[.slice A n c] w fun e w' => ∃ (A1 : Option Addr) (n1 c1 : Nat), e = .returned (.slice A1 n1 c1) ∧ OwnS w' w.heap.size w'.heap.size 24 2 A1 n1 c1 (cycAll xs) ∧ Below w.heap.size w w' := by
  obtain ⟨i0, hi0, hz0, hz1, hz2⟩ := info_parts infoB
  obtain ⟨j0, hj0, hy0, hy1, hy2⟩ := info_parts infoI
  obtain ⟨s0, hs0, hu0, hu1, hu2⟩ := info_parts infoS
  have hl := Lib.hid h.len
  replace hr := Lib.hid hr
  go_enter Tryd.func71, Tryd.ntmps71
  go_wp2_with (at_make; refine wpList_make_full _ rfl _ _ 60 rfl w.heap.size 4 i0 (.bool false) 1 Tryd.underlying60 hi0 hz0 hz1 _ _ _ _ n rfl rfl rfl rfl ?c1 ?c2 (Nat.le_refl _) ?_)
  case c1 => rw [hz2]; omega
  case c2 => simp only [maxLen]; omega
  intro w1 hown hg
  have hb1 : Below w.heap.size w w1 := below_of_grown hg (Nat.le_refl _) (by simp)
  have hs1 : w.heap.size + 1 ≤ w1.heap.size := (hown.lt _ rfl).2
  go_wp2_with (go_at_call 70; refine (sizeI_any _ _ _ _ (by omega)).mono ?_; rintro e w' ⟨rfl, rfl⟩)
  go_loopw [3, 13] (fun v i wr => ∃ (k : Nat) (vs : List Value) (A1 : Option Addr) (c1 : Nat) (bs : List Bool), k ≤ n ∧ v = .slice A1 vs.length c1 ∧ i = .int .i64 k ∧ Hid (cycLoop xs n k = (bs, (cycLoop xs n k).2)) ∧
      wr.ownsRow w.heap.size 4 1 (.slice (some ⟨w.heap.size, 0, none⟩) n n) n (bs.map Value.bool) ∧
      wr.ownsRow w.heap.size 24 1 (.slice A1 vs.length c1) vs.length vs ∧ RowsOwn wr w.heap.size wr.heap.size 2 vs (cycLoop xs n k).2 ∧ w.heap.size ≤ wr.heap.size ∧ Below w.heap.size w wr) (fun _ i wr => n - (intOf i).toNat)
  case atStart =>
    refine ⟨0, [], none, 0, List.replicate n false, by omega, rfl, rfl, Lib.hid rfl, ?_, World.ownsRow_nil _ _ _ _, RowsOwn.nil, by omega, hb1⟩
    simpa [toList_madeCells_one, Value.cells] using hown
  case round =>
    obtain ⟨k, vs, A1, c1, bs, hk, rfl, rfl, hst, hsn, hh, hrows, hsz, hb⟩ := hrel
    by_cases hlt : k < n
    · have hbl : bs.length = n := by have := hsn.1; simpa using this
      replace hbl := Lib.hid hbl
      have hvl : vs.length ≤ k := by have := hrows.1; have := (cycLoop_len xs n k).1; omega

      go_wp2_with fail
      obtain ⟨wo, rfl⟩ : ∃ wo : World, wo = wr := ⟨_, rfl⟩
      go_loopg [6, 7] (n + 1) (fun f cv xv wq => ∃ (ys : List Int) (A2 : Option Addr) (c2 : Nat) (x : Int) (bq : List Bool), cv = .slice A2 ys.length c2 ∧ xv = .int .i64 x ∧ 0 ≤ x ∧ x < n ∧ ys.length + f ≤ n + 1 ∧ Hid (bq.count false < f) ∧
          Hid (cycGo xs (n + 1) bs k [] = cycGo xs f bq x ys) ∧
          wq.ownsRow w.heap.size 4 1 (.slice (some ⟨w.heap.size, 0, none⟩) n n) n (bq.map Value.bool) ∧
          wq.ownsRow w.heap.size 24 1 (.slice A1 vs.length c1) vs.length vs ∧ RowsOwn wq w.heap.size wo.heap.size 2 vs (cycLoop xs n k).2 ∧
          wq.ownsRow wo.heap.size 2 1 (.slice A2 ys.length c2) ys.length (ys.map (Value.int .i64)) ∧ wo.heap.size ≤ wq.heap.size ∧ Below w.heap.size w wq)
      case atStart =>
        refine ⟨[], none, 0, k, bs, rfl, rfl, by omega, by omega, by simp, Lib.hid ?_, Lib.hid rfl, hsn, hh, hrows, World.ownsRow_nil _ _ _ _, Nat.le_refl _, hb⟩
        have := List.count_le_length (a := false) (l := bs); have := hbl.out; omega
      case round =>
        obtain ⟨ys, A2, c2, x, bq, rfl, rfl, hx0, hx1, hyn, hcnt, heq, hsn, hh, hrows, hc, hsz2, hb⟩ := hrel
        have hbl : bq.length = n := by have := hsn.1; simpa using this
        obtain ⟨b, o, y, rfl, _, _, hy, hcy⟩ := (h.below hb hhi).at_ (k := x.toNat) (by omega)
        have hbx : bq[x.toNat]? = some (bq.getD x.toNat true) := get?_getD true (by omega)
        have hcell : wr.cell? ⟨w.heap.size, x.toNat, none⟩ = some (.bool (bq.getD x.toNat true)) := by
          rw [hsn.cellAt x.toNat (by omega), List.getElem?_map, hbx]; rfl
        have hfr := hsn.frozenAt x.toNat
        obtain ⟨hyr0, hyr1⟩ := hr.out y (mem_of_get? hy)
        replace hy := Lib.hid hy
        replace hbl := Lib.hid hbl
        obtain ⟨f, rfl⟩ : ∃ f, gk = f + 1 := ⟨gk - 1, by have := hcnt.out; omega⟩
        cases hv : bq.getD x.toNat true with
        | false =>
          rw [hv] at hbx hcell
          replace hbx := Lib.hid hbx
          clear hv
          have hset := (hsn.stored x.toNat (.bool true))
          have hss : (wr.setCell ⟨w.heap.size, x.toNat, none⟩ (.bool true)).heap.size = wr.heap.size := World.size_setCell _ _ _
          have hc' : (wr.setCell ⟨w.heap.size, x.toNat, none⟩ (.bool true)).ownsRow wo.heap.size 2 1 (.slice A2 ys.length c2) ys.length (ys.map (Value.int .i64)) :=
            own_kept_ty hc hsn (by decide) hset.2
          replace hss := Lib.hid hss
          go_wp2_with (at_builtin; refine wpList_append1 (wr.setCell ⟨w.heap.size, x.toNat, none⟩ (.bool true)) rfl (.tmp 29) (.tmp 31) 24 rfl wo.heap.size 2 j0 (.int .i64 0) 8 Tryd.underlying24 hj0 hy0 hy1 hy2 rfl (by omega) _ ys.length c2 _ (.int .i64 x) rfl hc' _ rfl (World.size_setCell _ _ _).symm rfl (by omega) (by rw [hss.out]; exact hsz2) ?_)
          intro g c3 w2 ho2 hg2 hlo2 hlt2 hor2
          have hb2 : Below w.heap.size w w2 := (hb.setCell (p := ⟨w.heap.size, x.toNat, none⟩) (by simp) (.bool true)).grown hg2 (by rw [hss.out]; exact hb.size) (fun q hq => by have := (hc.lt q hq).1; omega)
          have hcy2 : w2.cell? ⟨b, o + x.toNat, none⟩ = some (.int .i64 y) := (h.below hb2 hhi).cell hy.out
          have hrw2 : RowsOwn w2 w.heap.size wo.heap.size 2 vs (cycLoop xs n k).2 :=
            (hrows.kept_ty hsn (by decide) hset.2).keep (same_grown hg2 (by rw [hss.out]; exact hsz2) (fun q hq => by have := (hc.lt q hq).1; omega))
          have hhd2 : w2.ownsRow w.heap.size 24 1 (.slice A1 vs.length c1) vs.length vs :=
            own_kept_ty (own_kept_ty hh hsn (by decide) hset.2) hc' (by decide) hg2
          have hsn2 : w2.ownsRow w.heap.size 4 1 (.slice (some ⟨w.heap.size, 0, none⟩) n n) n ((bq.set x.toNat true).map Value.bool) :=
            own_kept_ty (by rw [List.map_set]; exact hset.1) hc' (by decide) hg2
          have hsz3 : wo.heap.size ≤ w2.heap.size := by have := hg2.size; have := hss.out; omega
          clear hcy
          go_wp2_with fail
          go_roundg f
          case measure => omega
          case rel =>
            refine ⟨ys ++ [x], _, c3, y, bq.set x.toNat true, by rw [List.length_append]; rfl, rfl, hyr0, hyr1, by simp; omega, Lib.hid ?_, Lib.hid ?_, hsn2, hhd2, hrw2, by simpa using ho2, hsz3, hb2⟩
            · have := count_set_true hbx.out; have := hcnt.out; omega
            · rw [heq.out, cycGo_step hbx.out hy.out]
        | true =>
          rw [hv] at hbx hcell
          replace hbx := Lib.hid hbx
          clear hv
          rw [cycGo_stop hbx.out] at heq
          have hsz1 := hsz
          by_cases hnil : ys = []
          · subst hnil
            go_wp2_with fail
            go_roundw
            case measure => simp [intOf]; omega
            case rel =>
              have e := cycLoop_succ hst.out heq.out
              rw [if_pos rfl] at e
              refine ⟨k + 1, vs, _, c1, bq, by omega, rfl, by go_num, Lib.hid ?_, hsn, hh, ?_, by omega, hb⟩
              · rw [e]
              · rw [e]; exact hrows.more (Nat.le_refl _) hsz2
          · have hpos : 0 < ys.length := List.length_pos_iff.2 hnil
            replace hnil := Lib.hid hnil
            have hsq := hb.size
            go_wp2_with (at_builtin; refine wpList_append1 wr rfl (.tmp 36) (.tmp 38) 33 rfl w.heap.size 24 s0 (.slice none 0 0) 24 Tryd.underlying33 hs0 hu0 hu1 hu2 rfl (by omega) _ vs.length c1 _ (.slice A2 ys.length c2) rfl hh _ rfl rfl rfl (by omega) (by omega) ?_)
            intro g c3 w2 ho2 hg2 hlo2 hlt2 hor2
            have hb2 : Below w.heap.size w w2 := hb.grown hg2 hsq (fun q hq => by have := (hh.lt q hq).1; omega)
            have hrw2 := hrows.kept_ty hh (by decide) hg2
            have hc2 := (Own.of_row hc).kept_ty hh (by decide) hg2
            have hsn2 := own_kept_ty hsn hh (by decide) hg2
            have hz2' := hg2.size
            go_wp2_with fail
            go_roundw
            case measure => simp [intOf]; omega
            case rel =>
              have e := cycLoop_succ hst.out heq.out
              rw [if_neg hnil.out] at e
              refine ⟨k + 1, vs ++ [.slice A2 ys.length c2], _, c3, bq, by omega, by rw [List.length_append]; rfl, by go_num, Lib.hid ?_, hsn2, by rw [List.length_append]; exact ho2, ?_, by omega, hb2⟩
              · rw [e]
              · rw [e]; exact (hrw2.snoc hc2 (by omega) hsz2).more (Nat.le_refl _) (by omega)
    · go_wp2_with fail
      go_ret
      have hkn : k = n := by omega
      subst hkn
      refine ⟨_, _, _, rfl, ⟨vs, (Own.of_row hh).more (by have := hb.size; omega) (Nat.le_refl _), ?_⟩, hb⟩
      have e : (cycLoop xs k k).2 = cycAll xs := by unfold cycAll; rw [hl.out]
      rw [← e]
      exact hrows.more (by omega) (Nat.le_refl _)
set_option maxHeartbeats 2000000 in
theorem l01Cycles_any (A : Option Addr) (n c : Nat) (xs : List Int) (w : World) {lo hi : Nat} (h : RI w lo hi A n xs) (hhi : hi ≤ w.heap.size) (h4 : n ≤ 1048576) (hr : ∀ x ∈ xs, 0 ≤ x ∧ x < n) :
    Calls Tryd.prog 73 #[.slice A n c] w fun e w' => ∃ (A1 : Option Addr) (n1 c1 : Nat), e = .returned (.slice A1 n1 c1) ∧ OwnS w' w.heap.size w'.heap.size 24 2 A1 n1 c1 (cycAll xs) ∧ Below w.heap.size w w' := by
  obtain ⟨i0, hi0, hz0, hz1, hz2⟩ := info_parts infoB
  obtain ⟨j0, hj0, hy0, hy1, hy2⟩ := info_parts infoI
  obtain ⟨s0, hs0, hu0, hu1, hu2⟩ := info_parts infoS
  have hl := Lib.hid h.len
  replace hr := Lib.hid hr
  go_enter Tryd.func73, Tryd.ntmps73
  go_wp2_with (at_make; refine wpList_make_full _ rfl _ _ 60 rfl w.heap.size 4 i0 (.bool false) 1 Tryd.underlying60 hi0 hz0 hz1 _ _ _ _ n rfl rfl rfl rfl ?c1 ?c2 (by simp) ?_)
  case c1 => rw [hz2]; omega
  case c2 => simp only [maxLen]; omega
  intro w1 hown hg
  have hb1 : Below w.heap.size w w1 := ((Below.refl _ _).alloc (Nat.le_refl _) _).grown hg (by simp) (by simp)
  have hs1 : w.heap.size + 1 ≤ w1.heap.size := by have := hg.size; simp at this; omega
  have hh1 : w1.ownsRow w.heap.size 24 1 (.slice (some ⟨w.heap.size, 0, none⟩) 0 0) 0 [] := by
    have h0 := World.ownsRow_lit (e := 24) (base := w.heap.size) (size := 1) w #[] 0 (Nat.le_refl _) (by omega) rfl
    exact h0.kept hg (.inr (by simp [Value.ownBlock]))
  go_wp2_with fail
  go_loopw [3, 5] (fun v i wr => ∃ (k : Nat) (vs : List Value) (A1 : Option Addr) (c1 : Nat) (bs : List Bool), k ≤ n ∧ v = .slice A1 vs.length c1 ∧ i = .int .i64 k ∧ Hid (cycLoop xs n k = (bs, (cycLoop xs n k).2)) ∧
      wr.ownsRow w.heap.size 4 1 (.slice (some ⟨w.heap.size + 1, 0, none⟩) n n) n (bs.map Value.bool) ∧
      wr.ownsRow w.heap.size 24 1 (.slice A1 vs.length c1) vs.length vs ∧ RowsOwn wr w.heap.size wr.heap.size 2 vs (cycLoop xs n k).2 ∧ w.heap.size ≤ wr.heap.size ∧ Below w.heap.size w wr) (fun _ i wr => n - (intOf i).toNat)
  case atStart =>
    refine ⟨0, [], _, 0, List.replicate n false, by omega, rfl, rfl, Lib.hid rfl, ?_, hh1, RowsOwn.nil, by omega, hb1⟩
    simpa [toList_madeCells_one, Value.cells] using hown
  case round =>
    obtain ⟨k, vs, A1, c1, bs, hk, rfl, rfl, hst, hsn, hh, hrows, hsz, hb⟩ := hrel
    by_cases hlt : k < n
    · have hbl : bs.length = n := by have := hsn.1; simpa using this
      replace hbl := Lib.hid hbl
      have hvl : vs.length ≤ k := by have := hrows.1; have := (cycLoop_len xs n k).1; omega
      have hbk : bs[(k : Int).toNat]? = some (bs.getD k true) := by rw [Int.toNat_natCast]; exact get?_getD true (by have := hbl.out; omega)
      have hcell : wr.cell? ⟨w.heap.size + 1, k, none⟩ = some (.bool (bs.getD k true)) := by
        rw [hsn.cellAt k (by omega), List.getElem?_map]; rw [Int.toNat_natCast] at hbk; rw [hbk]; rfl
      obtain ⟨b0, o0, y0, hAe, _, _, hyk, _⟩ := (h.below hb hhi).at_ hlt
      clear hAe
      replace hyk := Lib.hid hyk
      by_cases hbt : bs.getD k true = true
      · rw [hbt] at hcell hbk
        replace hbk := Lib.hid hbk
        clear hbt
        go_wp2_with fail
        go_roundw
        case measure => simp [intOf]; omega
        case rel =>
          have e := cycLoop_succ hst.out (cycGo_stop hbk.out)
          rw [if_pos rfl] at e
          refine ⟨k + 1, vs, _, c1, bs, by omega, rfl, by go_num, Lib.hid ?_, hsn, hh, ?_, by omega, hb⟩
          · rw [e]
          · rw [e]; exact hrows
      have hbf : bs.getD k true = false := by simpa using hbt
      rw [hbf] at hcell hbk
      replace hbk := Lib.hid hbk
      clear hbt hbf
      go_wp2_with fail
      obtain ⟨wo, rfl⟩ : ∃ wo : World, wo = wr := ⟨_, rfl⟩
      go_loopg [6, 7] (n + 1) (fun f cv xv wq => ∃ (ys : List Int) (A2 : Option Addr) (c2 : Nat) (x : Int) (bq : List Bool), cv = .slice A2 ys.length c2 ∧ xv = .int .i64 x ∧ 0 ≤ x ∧ x < n ∧ ys.length + f ≤ n + 1 ∧ Hid (bq.count false < f) ∧
          Hid (cycGo xs (n + 1) bs k [] = cycGo xs f bq x ys) ∧
          wq.ownsRow w.heap.size 4 1 (.slice (some ⟨w.heap.size + 1, 0, none⟩) n n) n (bq.map Value.bool) ∧
          wq.ownsRow w.heap.size 24 1 (.slice A1 vs.length c1) vs.length vs ∧ RowsOwn wq w.heap.size wo.heap.size 2 vs (cycLoop xs n k).2 ∧
          wq.ownsRow wo.heap.size 2 1 (.slice A2 ys.length c2) ys.length (ys.map (Value.int .i64)) ∧ wo.heap.size ≤ wq.heap.size ∧ Below w.heap.size w wq)
      case atStart =>
        refine ⟨[], _, 0, k, bs, rfl, rfl, by omega, by omega, by simp, Lib.hid ?_, Lib.hid rfl, hsn.alloc _, hh.alloc _, hrows.keep (same_alloc wo _ _ _ (Nat.le_refl _)), World.ownsRow_lit (e := 2) (base := wo.heap.size) (size := 1) wo #[] 0 (Nat.le_refl _) (by omega) rfl, by simp, hb.alloc hb.size _⟩
        have := List.count_le_length (a := false) (l := bs); have := hbl.out; omega
      case round =>
        obtain ⟨ys, A2, c2, x, bq, rfl, rfl, hx0, hx1, hyn, hcnt, heq, hsn, hh, hrows, hc, hsz2, hb⟩ := hrel
        have hbl : bq.length = n := by have := hsn.1; simpa using this
        obtain ⟨b, o, y, rfl, _, _, hy, hcy⟩ := (h.below hb hhi).at_ (k := x.toNat) (by omega)
        have hbx : bq[x.toNat]? = some (bq.getD x.toNat true) := get?_getD true (by omega)
        have hcell : wr.cell? ⟨w.heap.size + 1, x.toNat, none⟩ = some (.bool (bq.getD x.toNat true)) := by
          rw [hsn.cellAt x.toNat (by omega), List.getElem?_map, hbx]; rfl
        have hfr := hsn.frozenAt x.toNat
        obtain ⟨hyr0, hyr1⟩ := hr.out y (mem_of_get? hy)
        replace hy := Lib.hid hy
        replace hbl := Lib.hid hbl
        obtain ⟨f, rfl⟩ : ∃ f, gk = f + 1 := ⟨gk - 1, by have := hcnt.out; omega⟩
        cases hv : bq.getD x.toNat true with
        | false =>
          rw [hv] at hbx hcell
          replace hbx := Lib.hid hbx
          clear hv
          have hset := (hsn.stored x.toNat (.bool true))
          have hss : (wr.setCell ⟨w.heap.size + 1, x.toNat, none⟩ (.bool true)).heap.size = wr.heap.size := World.size_setCell _ _ _
          have hc' : (wr.setCell ⟨w.heap.size + 1, x.toNat, none⟩ (.bool true)).ownsRow wo.heap.size 2 1 (.slice A2 ys.length c2) ys.length (ys.map (Value.int .i64)) :=
            own_kept_ty hc hsn (by decide) hset.2
          replace hss := Lib.hid hss
          go_wp2_with (at_builtin; refine wpList_append1 (wr.setCell ⟨w.heap.size + 1, x.toNat, none⟩ (.bool true)) rfl (.tmp 36) (.tmp 38) 24 rfl wo.heap.size 2 j0 (.int .i64 0) 8 Tryd.underlying24 hj0 hy0 hy1 hy2 rfl (by omega) _ ys.length c2 _ (.int .i64 x) rfl hc' _ rfl (World.size_setCell _ _ _).symm rfl (by omega) (by rw [hss.out]; exact hsz2) ?_)
          intro g c3 w2 ho2 hg2 hlo2 hlt2 hor2
          have hb2 : Below w.heap.size w w2 := (hb.setCell (p := ⟨w.heap.size + 1, x.toNat, none⟩) (by simp) (.bool true)).grown hg2 (by rw [hss.out]; exact hb.size) (fun q hq => by have := (hc.lt q hq).1; omega)
          have hcy2 : w2.cell? ⟨b, o + x.toNat, none⟩ = some (.int .i64 y) := (h.below hb2 hhi).cell hy.out
          have hrw2 : RowsOwn w2 w.heap.size wo.heap.size 2 vs (cycLoop xs n k).2 :=
            (hrows.kept_ty hsn (by decide) hset.2).keep (same_grown hg2 (by rw [hss.out]; exact hsz2) (fun q hq => by have := (hc.lt q hq).1; omega))
          have hhd2 : w2.ownsRow w.heap.size 24 1 (.slice A1 vs.length c1) vs.length vs :=
            own_kept_ty (own_kept_ty hh hsn (by decide) hset.2) hc' (by decide) hg2
          have hsn2 : w2.ownsRow w.heap.size 4 1 (.slice (some ⟨w.heap.size + 1, 0, none⟩) n n) n ((bq.set x.toNat true).map Value.bool) :=
            own_kept_ty (by rw [List.map_set]; exact hset.1) hc' (by decide) hg2
          have hsz3 : wo.heap.size ≤ w2.heap.size := by have := hg2.size; have := hss.out; omega
          clear hcy
          go_wp2_with fail
          go_roundg f
          case measure => omega
          case rel =>
            refine ⟨ys ++ [x], _, c3, y, bq.set x.toNat true, by rw [List.length_append]; rfl, rfl, hyr0, hyr1, by simp; omega, Lib.hid ?_, Lib.hid ?_, hsn2, hhd2, hrw2, by simpa using ho2, hsz3, hb2⟩
            · have := count_set_true hbx.out; have := hcnt.out; omega
            · rw [heq.out, cycGo_step hbx.out hy.out]
        | true =>
          rw [hv] at hbx hcell
          replace hbx := Lib.hid hbx
          clear hv
          rw [cycGo_stop hbx.out] at heq
          have hsz1 := hsz
          have hnil : ys ≠ [] := cycGo_ne hbk.out (by rw [Int.toNat_natCast]; exact hyk.out) heq.out
          replace hnil := Lib.hid hnil
          have hsq := hb.size
          go_wp2_with (at_builtin; refine wpList_append1 wr rfl (.tmp 40) (.tmp 42) 33 rfl w.heap.size 24 s0 (.slice none 0 0) 24 Tryd.underlying33 hs0 hu0 hu1 hu2 rfl (by omega) _ vs.length c1 _ (.slice A2 ys.length c2) rfl hh _ rfl rfl rfl (by omega) (by omega) ?_)
          intro g c3 w2 ho2 hg2 hlo2 hlt2 hor2
          have hb2 : Below w.heap.size w w2 := hb.grown hg2 hsq (fun q hq => by have := (hh.lt q hq).1; omega)
          have hrw2 := hrows.kept_ty hh (by decide) hg2
          have hc2 := (Own.of_row hc).kept_ty hh (by decide) hg2
          have hsn2 := own_kept_ty hsn hh (by decide) hg2
          have hz2' := hg2.size
          go_wp2_with fail
          go_roundw
          case measure => simp [intOf]; omega
          case rel =>
            have e := cycLoop_succ hst.out heq.out
            rw [if_neg hnil.out] at e
            refine ⟨k + 1, vs ++ [.slice A2 ys.length c2], _, c3, bq, by omega, by rw [List.length_append]; rfl, by go_num, Lib.hid ?_, hsn2, by rw [List.length_append]; exact ho2, ?_, by omega, hb2⟩
            · rw [e]
            · rw [e]; exact (hrw2.snoc hc2 (by omega) hsz2).more (Nat.le_refl _) (by omega)
    · go_wp2_with fail
      go_ret
      have hkn : k = n := by omega
      subst hkn
      refine ⟨_, _, _, rfl, ⟨vs, (Own.of_row hh).more (by have := hb.size; omega) (Nat.le_refl _), ?_⟩, hb⟩
      have e : (cycLoop xs k k).2 = cycAll xs := by unfold cycAll; rw [hl.out]
      rw [← e]
      exact hrows.more (by omega) (Nat.le_refl _)
end Go.Proofs.YtcjnhiglfkcmiaaDoor
