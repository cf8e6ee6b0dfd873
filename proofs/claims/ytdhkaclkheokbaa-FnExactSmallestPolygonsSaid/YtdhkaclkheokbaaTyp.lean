/- Walks: the type of a maniplex: the program's helpers. Up to 400 flags. -/
import Derived.Test.YtdhkaclkheokbaaTypP
import Derived.Test.YtdhkaclkheokbaaSrt
import Derived.Test.YtdhkaclkheokbaaCpt
import Derived.Test.YtdhkaclkheokbaaMan
import Derived.Test.YtdhkaclkheokbaaRow
namespace Go.Proofs.Ytdhkaclkheokbaa
open Go.RowKit
set_option linter.unusedVariables false
set_option maxRecDepth 100000
set_option maxHeartbeats 2000000 in
theorem orbitSizes_any (n : Nat) (A : Option Addr) (m c : Nat) (xss : List (List Int)) (w : World) {lo hi : Nat} (h : RS w lo hi A m xss) (hhi : hi ≤ w.heap.size) (hn : n ≤ 400) (hs : SysOf xss n) :
    Calls Try.prog 86 #[.int .i64 n, .slice A m c] w fun e w' => ∃ A1, e = .returned (.slice A1 (cntR xss n) (cntR xss n)) ∧ Own w' w.heap.size w'.heap.size 2 A1 (cntR xss n) (cntR xss n) ((hist (labL xss n) (cntR xss n)).map (Value.int .i64)) ∧ Below w.heap.size w w' := by
  obtain ⟨j0, hj0, hy0, hy1, hy2⟩ := info_parts infoI
  have hlab := orbitLabels_any n A m c xss w h hhi hn hs
  have hlt : ∀ (k : Nat) (v : Int), (labL xss n)[k]? = some v → 0 ≤ v ∧ v < cntR xss n := by
    intro k v hv
    obtain ⟨x, hx, rfl⟩ := List.mem_map.1 (mem_of_get? hv)
    exact ⟨labOf_nonneg _ _, lab_lt hs (List.mem_range.1 hx)⟩
  have hll := labL_length xss n
  have hcn := cntR_le_n (list := xss) n
  generalize labL xss n = ls at *
  generalize cntR xss n = q at *
  replace hlt := Lib.hid hlt
  replace hll := Lib.hid hll
  replace hs := Lib.hid hs
  go_enter Try.func86, Try.ntmps86
  go_wp2_with fail
  ((with_reducible refine hlab.mono ?_); rintro e w1 ⟨A1, rfl, o1, f1⟩)
  clear hlab
  have y1 := f1.size
  go_wp2_with (at_make; refine wpList_make_full _ rfl _ _ 22 rfl w1.heap.size 2 j0 (.int .i64 0) 1 Try.underlying22 hj0 hy0 hy1 _ _ _ _ q rfl rfl rfl rfl ?c1 ?c2 (Nat.le_refl _) ?_)
  case c1 => rw [hy2]; omega
  case c2 => simp only [maxLen]; omega
  intro w2 hown hg
  have B2 : Below w1.heap.size w1 w2 := (Below.refl _ _).grown hg (Nat.le_refl _) (by simp)
  have z2 : w1.heap.size < w2.heap.size := (hown.lt w1.heap.size (by simp [Value.ownBlock])).2
  have o6 : Own w2 w1.heap.size w2.heap.size 2 (some ⟨w1.heap.size, 0, none⟩) q q ((List.replicate q 0).map (Value.int .i64)) := by
    have := Own.of_row hown
    simpa [toList_madeCells_one, Value.cells] using this
  have o6 : Own w2 w1.heap.size w2.heap.size 2 (some ⟨w1.heap.size, 0, none⟩) q q ((hist (ls.take 0) q).map (Value.int .i64)) := by simpa [hist_nil] using o6
  clear hown hg
  go_wp2_with fail
  go_loopw [20] (fun kv wq => ∃ (k : Nat), k ≤ n ∧ kv = .int .i64 k ∧ Own wq w1.heap.size w2.heap.size 2 (some ⟨w1.heap.size, 0, none⟩) q q ((hist (ls.take k) q).map (Value.int .i64)) ∧ w2.heap.size ≤ wq.heap.size ∧ Below w1.heap.size w1 wq) (fun kv _ => n - (intOf kv).toNat)
  case atStart => exact ⟨0, by omega, rfl, o6, Nat.le_refl _, B2⟩
  case round =>
    clear o6 B2
    obtain ⟨k, hk, rfl, ho, hz, hb⟩ := hrel
    by_cases hkn : k < n
    · obtain ⟨b5, v, rfl, _, _, _, hv, hcv, _⟩ := (o1.below hb (by omega)).atI hkn
      obtain ⟨hv0, hv1⟩ := hlt.out k v hv
      obtain ⟨v, rfl⟩ : ∃ z : Nat, v = z := ⟨v.toNat, by omega⟩
      have hst := hist_snoc (l := ls.take k) (c := q) hv0 hv1
      rw [← take_succ_of hv, Int.toNat_natCast] at hst
      have hgv : (hist (ls.take k) q)[v]? = some ((ls.take k).count (v : Int) : Int) := hist_get (by omega)
      have hcl : (ls.take k).count (v : Int) ≤ n := by
        have h1 := List.count_le_length (a := (v : Int)) (l := ls.take k)
        rw [List.length_take] at h1
        omega
      have hcc := ho.cellI hgv
      have hfr := ho.frz v
      replace hst := Lib.hid hst
      replace hgv := Lib.hid hgv
      replace hv := Lib.hid hv
      generalize (ls.take k).count (v : Int) = u at *
      have hvq : v < q := by omega
      go_wp2_with fail
      go_roundw
      case measure => simp [intOf]; omega
      case rel =>
        refine ⟨k + 1, by omega, by go_num, ?_, by simp; omega, hb.setCell (by simp) _⟩
        rw [hst.out]
        exact ho.setI _
    · have hkn' : k = n := by omega
      subst hkn'
      rw [List.take_of_length_le (by have := hll.out; omega)] at ho
      go_wp2_with fail
      go_ret
      exact ⟨_, rfl, ho.more y1 hz, below_then f1 hb y1⟩
theorem setL_sortL (l : List Int) : setL (sortL l) = setL l := setL_congr fun x => (sortL_perm l).mem_iff
/-- the first k numbers halved -/
def halfTo (zs : List Int) (k : Nat) : List Int := halves (zs.take k) ++ zs.drop k
theorem halfTo_length (zs : List Int) (k : Nat) : (halfTo zs k).length = zs.length := by unfold halfTo halves; simp; omega
theorem halfTo_get {zs : List Int} {k : Nat} {v : Int} (h : zs[k]? = some v) : (halfTo zs k)[k]? = some v := by
  have hk := (List.getElem?_eq_some_iff.1 h).1
  unfold halfTo
  have e : (halves (zs.take k)).length = k := by unfold halves; simp; omega
  rw [List.getElem?_append_right (by omega), e, Nat.sub_self, List.getElem?_drop, Nat.add_zero, h]
theorem halfTo_set {zs : List Int} {k : Nat} {v : Int} (h : zs[k]? = some v) : (halfTo zs k).set k (Int.tdiv v 2) = halfTo zs (k + 1) := by
  have hk := (List.getElem?_eq_some_iff.1 h).1
  have e : (halves (zs.take k)).length = k := by unfold halves; simp; omega
  unfold halfTo
  rw [List.set_append_right _ _ (by omega), e, Nat.sub_self, take_succ_of h]
  have hd : zs.drop k = v :: zs.drop (k + 1) := by
    rw [List.drop_eq_getElem_cons hk]
    congr 1
    exact (List.getElem?_eq_some_iff.1 h).2
  rw [hd]
  unfold halves
  simp
theorem halfTo_all {zs : List Int} {k : Nat} (h : zs.length ≤ k) : halfTo zs k = halves zs := by unfold halfTo; rw [List.take_of_length_le h, List.drop_eq_nil_of_le h, List.append_nil]
theorem halfTo_zero (zs : List Int) : halfTo zs 0 = zs := by simp [halfTo, halves]
set_option maxHeartbeats 4000000 in
theorem typeOf_any (b : Nat) (A : Option Addr) (n c : Nat) (xss : List (List Int)) (w : World) (hc : w.cell? ⟨b, 0, none⟩ = some (.slice A n c)) (hbs : b < w.heap.size) {lo hi : Nat} (h : RS w lo hi A n xss) (hhi : hi ≤ w.heap.size) (hn1 : 1 ≤ n) (hn5 : n ≤ 5) (hnc : n ≤ c) (N : Nat) (hN : flg xss = N) (h4 : N ≤ 400) (hs : SysOf xss N) :
    Calls Try.prog 54 #[.pointer (some ⟨b, 0, none⟩)] w fun e w' => ∃ (A1 : Option Addr) (c1 : Nat), e = .returned (.slice A1 (n - 1) c1) ∧ OwnS w' w.heap.size w'.heap.size 22 2 A1 (n - 1) c1 (typL xss N) ∧ Below w.heap.size w w' := by
  obtain ⟨j0, hj0, hy0, hy1, hy2⟩ := info_parts infoI
  obtain ⟨s0, hs0, hu0, hu1, hu2⟩ := info_parts infoS
  have hl := h.len
  have htl := typL_length xss N
  rw [hl] at htl
  have hget : ∀ k, k < n - 1 → (typL xss N)[k]? = some (typI (subL xss k (k + 2)) N) := fun k hk => typL_get (by omega)
  obtain ⟨b0, o0, A0, n0, c0, p0, rfl, _, _, _, _, _⟩ := h.at_ (k := 0) (by omega)
  generalize hcs : typL xss N = cs at *
  replace hcs := Lib.hid hcs
  replace hget := Lib.hid hget
  replace htl := Lib.hid htl
  replace hl := Lib.hid hl
  have hsub : ∀ k, k < n - 1 → RS w lo hi (some ⟨b0, o0 + k, none⟩) (k + 2 - k) (subL xss k (k + 2)) := fun k hk => rs_sub h (by omega) (by omega) (fun _ => rfl)
  replace hs := Lib.hid hs
  replace hsub := Lib.hid hsub
  go_enter Try.func54, Try.ntmps54
  go_wp2_with fail
  ((with_reducible refine (rank_any _ _ n c _ hc (by omega)).mono ?_); rintro e w' ⟨rfl, rfl⟩)
  go_wp2_with fail
  go_loopw [3, 10] (fun sv kv wq => ∃ (k : Nat) (vs : List Value) (A2 : Option Addr) (c2 : Nat), k ≤ n - 1 ∧ vs.length = k ∧ sv = .slice A2 k c2 ∧ kv = .int .i64 k ∧ Own wq w.heap.size wq.heap.size 22 A2 k c2 vs ∧ RowsOwn wq w.heap.size wq.heap.size 2 vs (cs.take k) ∧ Below w.heap.size w wq) (fun _ kv _ => n - (intOf kv).toNat)
  case atStart => exact ⟨0, [], none, 0, by omega, rfl, rfl, rfl, Own.nil, by simpa using RowsOwn.nil, Below.refl _ _⟩
  case round =>
    obtain ⟨k, vs, A2, c2, hk, hvk, rfl, rfl, ho, hrows, hb⟩ := hrel
    have hz := hb.size
    by_cases hlt : k < n - 1
    · have hCk := (hb.cell (p := ⟨b, 0, none⟩) (by simp; omega)).trans hc
      have htk := take_succ_of (hget.out k hlt)
      replace htk := Lib.hid htk
      have hRd := rs_drew (h.below hb hhi)
      have hbd := below_drew hb
      have hF1 := flags_any b (some ⟨b0, o0, none⟩) n c xss wr.drew hCk hRd (by omega)
      have hF2 := orbitSizes_any N (some ⟨b0, o0 + k, none⟩) (k + 2 - k) (c - k) (subL xss k (k + 2)) wr.drew (rs_drew ((hsub.out k hlt).below hb hhi)) (show _ ≤ wr.heap.size by omega) h4 (sysOf_sub hs.out k (k + 2))
      rw [hN] at hF1
      have hteq := typI_eq (sysOf_sub hs.out k (k + 2))
      have hzb := hist_le (labL (subL xss k (k + 2)) N) (cntR (subL xss k (k + 2)) N)
      rw [labL_length] at hzb
      have hq4 := cntR_le_n (list := subL xss k (k + 2)) N
      generalize hist (labL (subL xss k (k + 2)) N) (cntR (subL xss k (k + 2)) N) = zs at *
      generalize cntR (subL xss k (k + 2)) N = q at *
      replace hteq := Lib.hid hteq
      replace hzb := Lib.hid hzb
      have hci : ¬ c = k := by omega
      have hic : k ≤ c := by omega
      have hI1 : (k : Int) ≤ (k : Int) + 2 := by omega
      have hI2 : (k : Int) + 2 ≤ (n : Int) := by omega
      have hI3 : (k : Int) + 2 ≤ (c : Int) := by omega
      have hI0 : (0 : Int) ≤ (k : Int) := by omega
      have hI4 : (0 : Int) ≤ (k : Int) + 2 := by omega
      have hw2 : IntKind.i64.wrap ((k : Int) + 2) = (k : Int) + 2 := wrap_in rfl (by omega) (by omega)
      go_wp2_with fail
      go_region_with (first
        | (go_at_call 83; refine hF1.mono ?_; rintro e w' ⟨rfl, rfl⟩)
        | (go_at_call 86; refine hF2.mono ?_; rintro e w2 ⟨A5, rfl, o5, f5⟩))
      all_goals
        clear hF2 hF1 hbd hRd
        obtain ⟨wo, rfl⟩ : ∃ wo : World, wo = wr := ⟨_, rfl⟩
        have y2 : wo.heap.size ≤ w2.heap.size := f5.size
        have f2 : Below wo.heap.size wo w2 := ⟨f5.os, f5.tape, f5.output, f5.size, f5.block⟩
        have o2 : Own w2 wo.heap.size w2.heap.size 2 A5 q q ((halfTo zs 0).map (Value.int .i64)) := by rw [halfTo_zero]; exact o5
        have hzl : zs.length = q := o5.lenI
        replace hzl := Lib.hid hzl
        clear f5 o5
        go_wp2_with fail
        go_loopw [26] (fun kv wq => ∃ (j : Nat), j ≤ q ∧ kv = .int .i64 j ∧ Own wq wo.heap.size w2.heap.size 2 A5 q q ((halfTo zs j).map (Value.int .i64)) ∧ w2.heap.size ≤ wq.heap.size ∧ Below wo.heap.size wo wq) (fun kv _ => q - (intOf kv).toNat)
        case atStart => exact ⟨0, by omega, rfl, o2, Nat.le_refl _, f2⟩
        case round =>
          clear o2 f2
          obtain ⟨j, hj, rfl, o2, z2, f2⟩ := hrel
          by_cases hjq : j < q
          · obtain ⟨b5, v, rfl, hb5, _, _, hv, hcv, hfr⟩ := o2.atI hjq
            have hv' : zs[j]? = some v := by
              have hg : zs[j]? = some (zs.getD j 0) := get?_getD 0 (by have := hzl.out; omega)
              rw [halfTo_get hg] at hv
              rw [hg, hv]
            obtain ⟨hv0, hv1⟩ := hzb.out v (mem_of_get? hv')
            have hst := halfTo_set hv'
            have hw3 : IntKind.i64.wrap (Int.tdiv v 2) = Int.tdiv v 2 := by
              rw [Int.tdiv_eq_ediv_of_nonneg hv0]
              exact wrap_in rfl (by omega) (by omega)
            have o3 := o2.setI (b := b5) (k := j) (Int.tdiv v 2)
            rw [hst] at o3
            replace hst := Lib.hid hst
            replace hv := Lib.hid hv
            replace hv' := Lib.hid hv'
            go_wp2_with fail
            go_roundw
            case measure => simp [intOf]; omega
            case rel => exact ⟨j + 1, by omega, by go_num, by simpa using o3, by simp; omega, f2.setCell (by simp; omega) _⟩
          · have hjq' : j = q := by omega
            subst hjq'
            rw [halfTo_all (by have := hzl.out; omega)] at o2
            have o2r : wr.ownsRow wo.heap.size 2 1 (.slice A5 j j) j ((halves zs).map (Value.int .i64)) := o2.1
            go_wp2_with fail
            ((with_reducible refine (isort_any A5 j j (halves zs) _ o2r (by omega) (by omega)).mono ?_); rintro e w3 ⟨rfl, o3, f3⟩)
            have y3 := f3.size
            go_wp2_with fail
            ((with_reducible refine (icompact_any A5 j j _ _ o3 (by omega) (by omega) (sortL_sorted _)).mono ?_); rintro e w4 ⟨q2, rfl, hq2, o4, hg4⟩)
            rw [setL_sortL, hteq.out] at o4
            have f4 : Below wo.heap.size wo w4 := (f2.trans f3).grown hg4 (by omega) (fun z hz' => (o3.lt z hz').1)
            have y4 := f4.size
            have o4 := Own.of_row o4
            have ho' := ho.below f4 (Nat.le_refl _)
            have hrows' := hrows.keep (Same.of_below f4 (Nat.le_refl _))
            have hb4 := hb.trans (f4.mono hz)
            clear ho hrows hb o3 f3 hg4 o2 o2r f2
            go_wp2_with (at_builtin; refine wpList_append1 w4 rfl (.tmp 38) (.tmp 41) 23 rfl w.heap.size 22 s0 (.slice none 0 0) 24 Try.underlying23 hs0 hu0 hu1 hu2 rfl (by omega) A2 k c2 _ (.slice A5 q2 j) rfl (ho'.more (Nat.le_refl _) y4).1 _ rfl rfl rfl (by omega) (by omega) ?_)
            intro g4 c4 w5 ho5 hg5 hlo5 hlt5 hor5
            have hrw5 := (hrows'.kept_ty ho'.1 (by decide) hg5).snoc (o4.kept_ty ho'.1 (by decide) hg5) (by omega) (by omega)
            have hz5 := hg5.size
            have hb5 := hb4.grown hg5 (by omega) (fun q hq => by have := (ho'.1.lt q hq).1; omega)
            have ho5' := Own.of_row ho5
            clear ho' hrows' o4 hg5 ho5 f4
            go_wp2_with fail
            go_roundw
            case measure => simp [intOf]; omega
            case rel =>
              refine ⟨k + 1, vs ++ [.slice A5 q2 j], _, c4, by omega, by simp; omega, rfl, by go_num, by simpa using ho5', ?_, hb5⟩
              rw [htk.out]
              exact hrw5.more (Nat.le_refl _) (by omega)
    · have hkn : k = n - 1 := by omega
      subst hkn
      go_wp2_with fail
      go_ret
      rw [List.take_of_length_le (by have := htl.out; omega)] at hrows
      exact ⟨A2, c2, rfl, ⟨vs, ho, hrows⟩, hb⟩
end Go.Proofs.Ytdhkaclkheokbaa
