/- Walks: the program's labels of orbits. Up to 400 points. -/
import Derived.Test.YtcjnhiglfkcmiaaDoorOrbD
import Derived.Test.YtcjnhiglfkcmiaaDoorRep
import Derived.Test.YtcjnhiglfkcmiaaDoorSls
import Derived.Test.YtcjnhiglfkcmiaaDoorApp
import Derived.Deep.LoopGhost
namespace Go.Proofs.YtcjnhiglfkcmiaaDoor
open Go.RowKit
set_option linter.unusedVariables false
set_option maxRecDepth 100000
section
variable {w : World} {lo hi n c : Nat} {T : TypeId} {A : Option Addr} {xs : List Int}
theorem Own.atI {k : Nat} (h : Own w lo hi T A n c (xs.map (Value.int .i64))) (hk : k < n) : ∃ b x, A = some ⟨b, 0, none⟩ ∧ lo ≤ b ∧ b < hi ∧ b < w.heap.size ∧ xs[k]? = some x ∧ w.cell? ⟨b, k, none⟩ = some (.int .i64 x) ∧ ∀ j, w.frozen? ⟨b, j, none⟩ = false := by
  obtain ⟨b, v, e, h1, h2, h3, h4, _, h6, h7⟩ := h.at_ hk
  simp only [List.getElem?_map, Option.map_eq_some_iff] at h4
  obtain ⟨x, hx, rfl⟩ := h4
  exact ⟨b, x, e, h1, h2, h3, hx, h6, h7⟩
theorem Own.cellI {b k : Nat} {x : Int} (h : Own w lo hi T (some ⟨b, 0, none⟩) n c (xs.map (Value.int .i64))) (hx : xs[k]? = some x) : w.cell? ⟨b, k, none⟩ = some (.int .i64 x) := by
  have := RI.cell h.ri hx
  simpa using this
theorem Own.frz {b : Nat} {vs : List Value} (h : Own w lo hi T (some ⟨b, 0, none⟩) n c vs) (k : Nat) : w.frozen? ⟨b, k, none⟩ = false := h.1.frozenAt k
theorem Own.lenI (h : Own w lo hi T A n c (xs.map (Value.int .i64))) : xs.length = n := by have := h.len; simpa using this
theorem Own.setI {b k : Nat} (h : Own w lo hi T (some ⟨b, 0, none⟩) n c (xs.map (Value.int .i64))) (u : Int) : Own (w.setCell ⟨b, k, none⟩ (.int .i64 u)) lo hi T (some ⟨b, 0, none⟩) n c ((xs.set k u).map (Value.int .i64)) := by
  rw [List.map_set]; exact h.set _
theorem Own.cap {vs : List Value} (h : Own w lo hi T A n c vs) : n ≤ c := by
  rcases h.1.2 with ⟨hv, h0⟩ | ⟨g, cap, cur, hv, hb, hg, hnc, hcm, hcs, htake⟩
  · omega
  · injection hv with _ _ h3
    omega
/-- the last element falls away -/
theorem Own.popI {b : Nat} {x : Int} (h : Own w lo hi T (some ⟨b, 0, none⟩) (n + 1) c ((xs ++ [x]).map (Value.int .i64))) : Own w lo hi T (some ⟨b, 0, none⟩) n c (xs.map (Value.int .i64)) := by
  have hl := h.lenI
  simp at hl
  refine ⟨⟨by simp [hl], ?_⟩, h.2⟩
  rcases h.1.2 with ⟨hv, h0⟩ | ⟨g, cap, cur, hv, hb, hg, hnc, hcm, hcs, htake⟩
  · cases hv
  · injection hv with h1 _ h3
    injection h1 with h1
    injection h1 with h1 _ _
    subst h1; subst h3
    refine .inr ⟨b, c, cur, rfl, hb, hg, by omega, hcm, hcs, ?_⟩
    have e : cur.toList.take (n * 1) = (cur.toList.take ((n + 1) * 1)).take (n * 1) := by rw [List.take_take]; congr 1; omega
    rw [e, htake, List.map_append, List.take_append_of_le_length (by simp [hl]), List.take_of_length_le (by simp [hl])]
theorem ri_lit1 (w : World) (T : TypeId) (v : Int) : RI (w.alloc (.cells #[.int .i64 v] T)) w.heap.size (w.heap.size + 1) (some ⟨w.heap.size, 0, none⟩) 1 [v] := by
  refine ⟨rfl, by omega, fun _ => ⟨w.heap.size, 0, rfl, Nat.le_refl _, by omega, fun k u hk => ?_⟩⟩
  have h0 := (List.getElem?_eq_some_iff.1 hk).1
  simp at h0
  subst h0
  simp at hk
  subst hk
  simp
theorem own_lit1 (w : World) (T : TypeId) (v : Int) {lo : Nat} (hlo : lo ≤ w.heap.size) : Own (w.alloc (.cells #[.int .i64 v] T)) lo (w.heap.size + 1) T (some ⟨w.heap.size, 0, none⟩) 1 1 ([v].map (Value.int .i64)) :=
  ⟨World.ownsRow_lit (e := T) (base := lo) (size := 1) w #[.int .i64 v] 1 hlo (by simp only [maxLen]; omega) rfl, fun a e => by injection e with e; subst e; simp⟩
end
theorem count_app_set {ls : List Int} {y : Nat} {u : Int} (h : ls[y]? = some (-1)) (hu : 0 ≤ u) : (ls.set y u).count (-1) + 1 = ls.count (-1) := count_set_ne h (by omega)
set_option maxHeartbeats 4000000 in
theorem orbitLabels_any (n : Nat) (A : Option Addr) (m c : Nat) (xss : List (List Int)) (w : World) {lo hi : Nat} (h : RS w lo hi A m xss) (hhi : hi ≤ w.heap.size) (hn : n ≤ 400) (hs : SysOf xss n) :
    Calls Tryd.prog 67 #[.int .i64 n, .slice A m c] w fun e w' => ∃ A1, e = .returned (.tuple #[.slice A1 n n, .int .i64 (cntR xss n)]) ∧ Own w' w.heap.size w'.heap.size 2 A1 n n ((labL xss n).map (Value.int .i64)) ∧ Below w.heap.size w w' := by
  obtain ⟨j0, hj0, hy0, hy1, hy2⟩ := info_parts infoI
  have hm := h.max
  have hl := Lib.hid h.len
  replace hs := Lib.hid hs
  go_enter Tryd.func67, Tryd.ntmps67
  go_wp2_with fail
  ((with_reducible refine (repeat_any _ _ n (-1) _ (ri_lit1 w _ _) (by simp) (by omega)).mono ?_); rintro e w1 ⟨A1, rfl, ho1, hb1⟩)
  have hB1 : Below w.heap.size w w1 := ((Below.refl _ _).alloc (Nat.le_refl _) _).trans (hb1.mono (by simp))
  replace ho1 := ho1.more (lo' := w.heap.size) (hi' := w1.heap.size) (by simp) (Nat.le_refl _)
  have hz1 := hB1.size
  clear hb1
  go_wp2_with fail
  go_loopw [7, 18] (fun cv iv wr => ∃ (i : Nat) (ls : List Int), i ≤ n ∧ iv = .int .i64 i ∧ cv = .int .i64 (cntR xss i : Nat) ∧ Hid (OutI xss n i ls) ∧ Own wr w.heap.size w1.heap.size 2 A1 n n (ls.map (Value.int .i64)) ∧ w1.heap.size ≤ wr.heap.size ∧ Below w.heap.size w wr) (fun _ iv _ => n - (intOf iv).toNat)
  case atStart => exact ⟨0, _, by omega, rfl, rfl, Lib.hid (OutI.zero xss n), ho1, Nat.le_refl _, hB1⟩
  case round =>
    obtain ⟨i, ls, hi, rfl, rfl, hout, ho, hz, hb⟩ := hrel
    clear ho1 hB1
    by_cases hlt : i < n
    · obtain ⟨b, x, rfl, hb1, hb2, hb3, hx, hc, hfr⟩ := ho.atI hlt
      have hcle := cntR_le xss i
      by_cases hold : Old xss i i
      · have hx0 : decide ((0 : Int) ≤ x) = true := by
          have := (hout.out.nonneg hlt).2 hold
          rw [getD_some hx] at this; simpa using this
        obtain ⟨k1, k2⟩ := hout.out.skip hs.out hlt hold
        replace k2 := Lib.hid k2
        replace hx := Lib.hid hx
        clear hold
        go_wp2_with fail
        go_roundw
        case measure => simp [intOf]; omega
        case rel => exact ⟨i + 1, ls, by omega, by go_num, by rw [k2.out], Lib.hid k1, ho, hz, hb⟩
      · have hx0 : decide ((0 : Int) ≤ x) = false := by
          have := mt (hout.out.nonneg hlt).1 hold
          rw [getD_some hx] at this; simpa using this
        replace hold := Lib.hid hold
        replace hx := Lib.hid hx
        go_wp2_with fail
        clear hc hfr
        have hset := (ho.setI (b := b) (k := i) (cntR xss i : Int)).keep (same_alloc _ (.cells #[.int .i64 i] 2) _ _ (by simp; omega))
        have hopen := (own_lit1 (wr.setCell ⟨b, i, none⟩ (.int .i64 (cntR xss i : Nat))) 2 (i : Int) (lo := w1.heap.size) (by simp; omega)).more (hi' := ((wr.setCell ⟨b, i, none⟩ (.int .i64 (cntR xss i : Nat))).alloc (.cells #[.int .i64 i] 2)).heap.size) (Nat.le_refl _) (by simp)
        rw [World.size_setCell] at hopen
        have hbA : Below w.heap.size w ((wr.setCell ⟨b, i, none⟩ (.int .i64 (cntR xss i : Nat))).alloc (.cells #[.int .i64 i] 2)) := (hb.setCell (by simp; omega) _).alloc (by simp; omega) _
        clear ho hb
        go_loopg [9] (n + 2) (fun f ov wq => ∃ (ys ls : List Int) (A2 : Option Addr) (c2 : Nat) (x : Int), ov = .slice A2 ys.length c2 ∧ f ≤ n + 2 ∧ Hid (ls.count (-1) + ys.length < f) ∧ Hid (Dfs xss n i ls ys x xss) ∧
            Own wq w.heap.size w1.heap.size 2 (some ⟨b, 0, none⟩) n n (ls.map (Value.int .i64)) ∧ Own wq w1.heap.size wq.heap.size 2 A2 ys.length c2 (ys.map (Value.int .i64)) ∧ w1.heap.size ≤ wq.heap.size ∧ Below w.heap.size w wq)
        case atStart =>
          refine ⟨[(i : Int)], ls.set i (cntR xss i : Int), _, 1, i, rfl, Nat.le_refl _, Lib.hid ?_, Lib.hid (hout.out.start hlt hold.out), hset, hopen, by simp; omega, hbA⟩
          have := List.count_le_length (a := (-1 : Int)) (l := ls.set i (cntR xss i : Int))
          have := hout.out.len
          simp at *
          omega
        case round =>
          clear hset hopen hbA
          obtain ⟨ys, ls, A2, c2, x, rfl, hfn, hcnt, hd, ho, hop, hz, hb⟩ := hrel
          obtain ⟨f, rfl⟩ : ∃ f, gk = f + 1 := ⟨gk - 1, by have := hcnt.out; omega⟩
          have hol := hop.lenI
          rcases List.eq_nil_or_concat ys with rfl | ⟨ys, y, rfl⟩
          · go_wp2_with fail
            go_roundw
            case measure => simp [intOf]; omega
            case rel =>
              obtain ⟨k1, k2⟩ := hd.out.finish hs.out hlt hold.out
              exact ⟨i + 1, ls, by omega, by go_num, by rw [k2]; go_num, Lib.hid k1, ho, hz, hb⟩
          · rw [List.concat_eq_append] at hcnt hop hd hol ⊢
            rw [List.length_append, List.length_singleton] at hcnt hop ⊢
            obtain ⟨g, y', rfl, hg1, hg2, hg3, hy', hgc, hgf⟩ := hop.atI (k := ys.length) (by omega)
            have e : y' = y := by simp at hy'; exact hy'.symm
            subst e
            clear hy'
            have hyr := hd.out.opn y' (by simp)
            have hy01 := hyr.rng hs.out (by omega) (by omega)
            obtain ⟨y, rfl⟩ : ∃ q : Nat, y' = q := ⟨y'.toNat, by omega⟩
            replace hyr := Lib.hid hyr
            have hd2 := Lib.hid hd.out.pop
            have hop2 := hop.popI
            have hcap := hop.cap
            clear hd hop
            have hyl : ys.length ≤ 402 := by have := hcnt.out; omega
            go_wp2_with fail
            obtain ⟨wo, hwo⟩ : ∃ wo : World, wo = wr := ⟨_, rfl⟩
            have hcnt2 : Hid (ls.count (-1) + ys.length < f) := Lib.hid (by have := hcnt.out; omega)
            go_loopw [9, 48] (fun ov kv wq => ∃ (k : Nat) (zs ls : List Int) (A2 : Option Addr) (c2 : Nat), k ≤ m ∧ kv = .int .i64 k ∧ ov = .slice A2 zs.length c2 ∧ zs.length ≤ n + 2 ∧ Hid (ls.count (-1) + zs.length < f) ∧ Hid (Dfs xss n i ls zs y (xss.take k)) ∧
                Own wq w.heap.size w1.heap.size 2 (some ⟨b, 0, none⟩) n n (ls.map (Value.int .i64)) ∧ Own wq w1.heap.size wq.heap.size 2 A2 zs.length c2 (zs.map (Value.int .i64)) ∧ w1.heap.size ≤ wq.heap.size ∧ Below w.heap.size w wq) (fun _ kv _ => m - (intOf kv).toNat)
            case atStart => exact ⟨0, ys, ls, _, c2, by omega, rfl, rfl, by have := hcnt.out; omega, hcnt2, Lib.hid (by simpa using hd2.out), ho, hop2, hz, hb⟩
            case round =>
              clear ho hop2 hz hb hd2 hcnt2 hcnt hgc hgf hwo
              obtain ⟨k, zs, ls, A2, c3, hk, rfl, rfl, hzl, hcnt, hd, ho, hop, hz, hb⟩ := hrel
              by_cases hkm : k < m
              · obtain ⟨bb, oo, Ak, nk, ck, p, rfl, _, _, hp, hpc, hpr⟩ := (h.below hb hhi).at_ hkm
                have hpm := mem_of_get? hp
                obtain ⟨hpr0, hpn, hpl⟩ := hs.out p hpm
                have hnk := hpr.len
                obtain ⟨bp, oq, v, rfl, _, _, hv, hvc⟩ := hpr.at_ (k := y) (by omega)
                have hva : at' p y = v := by unfold at'; rw [Int.toNat_natCast]; exact getD_some hv
                obtain ⟨hv0, hv1⟩ := hpr0 v (mem_of_get? hv)
                have hlen := ho.lenI
                have hlb : ls[v.toNat]? = some (ls.getD v.toNat 0) := get?_getD 0 (by omega)
                have hlc := ho.cellI hlb
                have hfr := ho.frz v.toNat
                have htk := take_succ_of hp
                have hynk : y < nk := by omega
                have hxy := hyr.out
                generalize hu : ls.getD v.toNat 0 = u at hlb hlc
                clear hu
                by_cases hneg : u < 0
                · have hvo : ¬ Old xss i (v.toNat : Nat) := by
                    rw [Int.toNat_of_nonneg hv0, ← hva]; exact not_old hs.out hlt hold.out (hxy.step hpm)
                  have hu1 : u = -1 := by
                    rcases hd.out.new v.toNat (by omega) hvo with h1 | h1
                    · rw [h1] at hlb; exact (Option.some.inj hlb).symm
                    · rw [h1.1] at hlb; have := Option.some.inj hlb; omega
                  subst hu1
                  have hmk := hd.out.mark hs.out hlt hold.out hpm hxy (by rw [hva]; exact hlb) hneg
                  rw [hva, ← htk] at hmk
                  replace hmk := Lib.hid hmk
                  have hcs := count_app_set hlb (show (0 : Int) ≤ (cntR xss i : Nat) by omega)
                  replace hcs := Lib.hid hcs
                  replace hlb := Lib.hid hlb
                  replace hv := Lib.hid hv
                  replace hp := Lib.hid hp
                  replace htk := Lib.hid htk
                  replace hva := Lib.hid hva
                  replace hpr0 := Lib.hid hpr0
                  replace hpl := Lib.hid hpl
                  clear hneg hvo
                  have hop' := hop.far (p := ⟨b, v.toNat, none⟩) (.inl hb2) (.int .i64 (cntR xss i : Nat))
                  have hss : (wr.setCell ⟨b, v.toNat, none⟩ (.int .i64 (cntR xss i : Nat))).heap.size = wr.heap.size := World.size_setCell _ _ _
                  replace hss := Lib.hid hss
                  go_wp2_with (at_builtin; refine wpList_append1 (wr.setCell ⟨b, v.toNat, none⟩ (.int .i64 (cntR xss i : Nat))) rfl (.tmp 65) (.tmp 67) 24 rfl w1.heap.size 2 j0 (.int .i64 0) 8 Tryd.underlying24 hj0 hy0 hy1 hy2 rfl (by omega) A2 zs.length c3 _ (.int .i64 v) rfl hop'.1 _ rfl (World.size_setCell _ _ _).symm rfl (by omega) (by rw [hss.out]; exact hz) ?_)
                  intro g4 c4 w2 ho2 hg2 hlo2 hlt2 hor2
                  have hown : ∀ q, some q = (Value.slice A2 zs.length c3).ownBlock → w1.heap.size ≤ q := fun q hq => (hop.1.lt q hq.symm).1
                  have hb4 : Below w.heap.size w w2 := (hb.setCell (p := ⟨b, v.toNat, none⟩) hb1 (.int .i64 (cntR xss i : Nat))).grown hg2 (by rw [hss.out]; omega) (fun q hq => by have := hown q hq.symm; omega)
                  have ho4 := (ho.setI (b := b) (k := v.toNat) (cntR xss i : Int)).keep (same_grown hg2 (lo := w.heap.size) (hi := w1.heap.size) (by rw [hss.out]; omega) (fun q hq => .inr (hown q hq.symm)))
                  have hz4 : w1.heap.size ≤ w2.heap.size := by have := hg2.size; have := hss.out; omega
                  have hop4 := Own.of_row ho2
                  clear ho hop hop' hb hpc hvc hlc hfr hpr hown ho2 hg2
                  go_wp2_with fail
                  go_roundw
                  case measure => simp [intOf]; omega
                  case rel =>
                    refine ⟨k + 1, zs ++ [v], ls.set v.toNat (cntR xss i : Int), _, c4, by omega, by go_num, by rw [List.length_append]; rfl, ?_, Lib.hid ?_, hmk, ho4, by simpa using hop4, hz4, hb4⟩
                    · have := hcnt.out; have := hcs.out; simp; omega
                    · have := hcnt.out; have := hcs.out; simp; omega
                · have hsn := hd.out.seen (p := p) (by rw [hva]; exact hlb) (by omega)
                  rw [← htk] at hsn
                  replace hsn := Lib.hid hsn
                  replace hlb := Lib.hid hlb
                  replace hv := Lib.hid hv
                  replace hp := Lib.hid hp
                  replace htk := Lib.hid htk
                  replace hva := Lib.hid hva
                  replace hpr0 := Lib.hid hpr0
                  replace hpl := Lib.hid hpl
                  have hn0 : decide (u < 0) = false := by simpa using hneg
                  go_wp2_with fail
                  go_roundw
                  case measure => simp [intOf]; omega
                  case rel => exact ⟨k + 1, zs, ls, A2, c3, by omega, by go_num, rfl, hzl, hcnt, hsn, ho, hop, hz, hb⟩
              · have hkm' : k = m := by omega
                subst hkm'
                go_wp2_with fail
                go_roundg f
                case measure => omega
                case rel => exact ⟨zs, ls, A2, c3, y, rfl, by omega, hcnt, Lib.hid (by have := hd.out; rwa [List.take_of_length_le (by have := hl.out; omega)] at this), ho, hop, hz, hb⟩
    · go_wp2_with fail
      go_ret2
      have hin : i = n := by omega
      subst hin
      refine ⟨A1, rfl, ?_, hb⟩
      rw [← hout.out.end_]
      exact ho.more (Nat.le_refl _) hz
end Go.Proofs.YtcjnhiglfkcmiaaDoor
