/- Merged texts: what the statement wants besides (Srl Srt Cpl Cpt Typ TypS TypX Col ColX RenR RegA Lk5 Lk6). No condition but those that each lemma names. -/
import Derived.Shelf.SortM.Plain
import Derived.Shelf.SortM.SortNone
import Derived.Test.YtbioelmofceaaaaGreatProg
import Derived.Sort.OwnSortedInts
import Derived.Shelf.SlicesE.Compact
import Derived.Deep.RegionHeld3
import Derived.Test.YtbioelmofceaaaaGreatHRenumbered
/- Srl -/
namespace Go.Proofs
open Go.Shelf
def YtbioelmofceaaaaGreat.laysSort_ren : Go.Shelf.Ren := ⟨fun | 5 => 60 | 8 => 77 | 7 => 76 | 19 => 96 | 20 => 97 | 10 => 87 | 11 => 88 | 12 => 89 | 13 => 90 | 14 => 91 | 15 => 92 | 16 => 93 | 17 => 94 | 18 => 95 | 30 => 101 | 31 => 102 | 32 => 103 | 33 => 104 | 34 => 105 | 35 => 100 | 40 => 106 | n => n, fun | 23 => 35 | 25 => 2 | 3 => 3 | 32 => 64 | 22 => 35 | 0 => 0 | 44 => 114 | 46 => 33 | 4 => 4 | 36 => 106 | 35 => 105 | 41 => 111 | 5 => 5 | 9 => 9 | 53 => 120 | 57 => 124 | 63 => 126 | 64 => 127 | n => n, fun | n => n⟩
theorem YtbioelmofceaaaaGreat.laysSort : Go.Proofs.SlLaysM.n5 Tryz.prog YtbioelmofceaaaaGreat.laysSort_ren := {
  mixed := by kernel_rfl
  f5 := ⟨Tryz.f60.name, by decide, Tryz.func60.trans (congrArg some (by kernel_rfl))⟩
  f7 := ⟨Tryz.f76.name, by decide, Tryz.func76.trans (congrArg some (by kernel_rfl))⟩
  f8 := Tryz.func77.trans (congrArg some (by kernel_rfl))
  f10 := ⟨Tryz.f87.name, by decide, Tryz.func87.trans (congrArg some (by kernel_rfl))⟩
  f11 := ⟨Tryz.f88.name, by decide, Tryz.func88.trans (congrArg some (by kernel_rfl))⟩
  f12 := ⟨Tryz.f89.name, by decide, Tryz.func89.trans (congrArg some (by kernel_rfl))⟩
  f13 := ⟨Tryz.f90.name, by decide, Tryz.func90.trans (congrArg some (by kernel_rfl))⟩
  f14 := ⟨Tryz.f91.name, by decide, Tryz.func91.trans (congrArg some (by kernel_rfl))⟩
  f15 := ⟨Tryz.f92.name, by decide, Tryz.func92.trans (congrArg some (by kernel_rfl))⟩
  f16 := ⟨Tryz.f93.name, by decide, Tryz.func93.trans (congrArg some (by kernel_rfl))⟩
  f17 := ⟨Tryz.f94.name, by decide, Tryz.func94.trans (congrArg some (by kernel_rfl))⟩
  f18 := ⟨Tryz.f95.name, by decide, Tryz.func95.trans (congrArg some (by kernel_rfl))⟩
  f19 := Tryz.func96.trans (congrArg some (by kernel_rfl))
  f20 := Tryz.func97.trans (congrArg some (by kernel_rfl))
  f30 := ⟨Tryz.f101.name, by decide, Tryz.func101.trans (congrArg some (by kernel_rfl))⟩
  f31 := Tryz.func102.trans (congrArg some (by kernel_rfl))
  f32 := Tryz.func103.trans (congrArg some (by kernel_rfl))
  f33 := ⟨Tryz.f104.name, by decide, Tryz.func104.trans (congrArg some (by kernel_rfl))⟩
  f34 := ⟨Tryz.f105.name, by decide, Tryz.func105.trans (congrArg some (by kernel_rfl))⟩
  f35 := ⟨Tryz.f100.name, by decide, Tryz.func100.trans (congrArg some (by kernel_rfl))⟩
  f40 := ⟨Tryz.f106.name, by decide, Tryz.func106.trans (congrArg some (by kernel_rfl))⟩
  t0 := Tryz.underlying0
  a0 := Tryz.isAgg0
  z0 := Tryz.sizeOf0
  v0 := Tryz.zeroValue0
  t3 := Tryz.underlying3
  a3 := Tryz.isAgg3
  z3 := Tryz.sizeOf3
  v3 := Tryz.zeroValue3
  t4 := Tryz.underlying4
  a4 := Tryz.isAgg4
  z4 := Tryz.sizeOf4
  v4 := Tryz.zeroValue4
  t5 := Tryz.underlying5
  a5 := Tryz.isAgg5
  z5 := Tryz.sizeOf5
  v5 := Tryz.zeroValue5
  t9 := Tryz.underlying9
  a9 := Tryz.isAgg9
  z9 := Tryz.sizeOf9
  v9 := Tryz.zeroValue9
  t22 := Tryz.underlying35
  a22 := Tryz.isAgg35
  z22 := Tryz.sizeOf35
  v22 := Tryz.zeroValue35
  t23 := Tryz.underlying35
  a23 := Tryz.isAgg35
  z23 := Tryz.sizeOf35
  v23 := Tryz.zeroValue35
  t25 := Tryz.underlying2
  a25 := Tryz.isAgg2
  z25 := Tryz.sizeOf2
  v25 := Tryz.zeroValue2
  t32 := Tryz.underlying64
  a32 := Tryz.isAgg64
  z32 := Tryz.sizeOf64
  v32 := Tryz.zeroValue64
  t35 := Tryz.underlying105
  a35 := Tryz.isAgg105
  z35 := Tryz.sizeOf105
  v35 := Tryz.zeroValue105
  t36 := Tryz.underlying106
  a36 := Tryz.isAgg106
  z36 := Tryz.sizeOf106
  v36 := Tryz.zeroValue106
  t41 := Tryz.underlying111
  a41 := Tryz.isAgg111
  z41 := Tryz.sizeOf111
  v41 := Tryz.zeroValue111
  t44 := Tryz.underlying114
  a44 := Tryz.isAgg114
  z44 := Tryz.sizeOf114
  v44 := Tryz.zeroValue114
  t46 := Tryz.underlying33
  a46 := Tryz.isAgg33
  z46 := Tryz.sizeOf33
  v46 := Tryz.zeroValue33
  t53 := Tryz.underlying120
  a53 := Tryz.isAgg120
  z53 := Tryz.sizeOf120
  v53 := Tryz.zeroValue120
  t57 := Tryz.underlying124
  a57 := Tryz.isAgg124
  z57 := Tryz.sizeOf124
  v57 := Tryz.zeroValue124
  t63 := Tryz.underlying126
  a63 := Tryz.isAgg126
  z63 := Tryz.sizeOf126
  v63 := Tryz.zeroValue126
  t64 := Tryz.underlying127
  a64 := Tryz.isAgg127
  z64 := Tryz.sizeOf127
  v64 := Tryz.zeroValue127 }
open Go.Sort Go.RowKit in
theorem YtbioelmofceaaaaGreat.slices_Sort_i64 (blk off cap : Nat) (zs : List Int) (w : World) (hH : Holds (Value.int .i64) w blk off zs.toArray) (hblk : blk < w.heap.size) (hsz : zs.length < 4611686018427387904) :
    Calls Tryz.prog 60 #[.slice (some ⟨blk, off, none⟩) zs.length cap] w fun e w' =>
      e = .returned (.tuple #[]) ∧ ∃ n os, w' = grow (putRow (Value.int .i64) (Sort.ahead w n) blk off (zs.mergeSort fun x y => decide (x ≤ y)).toArray) os := AnyM.slices_Sort_int YtbioelmofceaaaaGreat.laysSort blk off cap zs w hH hblk hsz
theorem YtbioelmofceaaaaGreat.slices_Sort_i64_none (p : Option Addr) (cap : Nat) (w : World) :
    Calls Tryz.prog 60 #[.slice p 0 cap] w fun e w' => e = .returned (.tuple #[]) ∧ w' = w := AnyM.slices_Sort_int_none YtbioelmofceaaaaGreat.laysSort p cap w
end Go.Proofs
/- Srt -/
namespace Go.Proofs.YtbioelmofceaaaaGreat
open Go.RowKit
set_option linter.unusedVariables false
theorem isort_any (A : Option Addr) (k c : Nat) (zs : List Int) (w : World) {lo : Nat} (h : w.ownsRow lo 2 1 (.slice A k c) k (zs.map (Value.int .i64))) (hk : k ≤ 1048576) (hlo : lo ≤ w.heap.size) :
    Calls Tryz.prog 60 #[.slice A k c] w fun e w' => e = .returned (.tuple #[]) ∧ w'.ownsRow lo 2 1 (.slice A k c) k ((sortL zs).map (Value.int .i64)) ∧ Below lo w w' := by
  have hl : zs.length = k := by have := h.1; simpa using this
  rcases h.2 with ⟨hv, hn⟩ | ⟨g, cap, cur, hv, hb, hg, hnc, hcm, hcs, htake⟩
  · cases hv
    have hz : zs = [] := List.length_eq_zero_iff.1 hl
    subst hz
    refine (slices_Sort_i64_none none 0 w).mono ?_
    rintro e w' ⟨rfl, rfl⟩
    exact ⟨rfl, by simpa [sortL] using h, Below.refl _ _⟩
  · cases hv
    subst hl
    refine (slices_Sort_i64 g 0 c zs w (holds_of_blockI hg (by simpa using htake)) (Array.getElem?_eq_some_iff.1 hg).1 (by omega)).mono ?_
    rintro e w' ⟨rfl, n, os, rfl⟩
    refine ⟨rfl, ?_, ?_⟩
    · exact ownsRow_sortedI (sortL_length zs) hb hg hnc hcm hcs
    · exact (Below.refl lo w).grown (grownBy_sortedI _) hlo (fun q e => by cases e; exact hb)
end Go.Proofs.YtbioelmofceaaaaGreat
/- Cpl -/
namespace Go.Proofs
open Go.Shelf
def YtbioelmofceaaaaGreat.laysCompact_ren : Go.Shelf.Ren := ⟨fun | 43 => 61 | n => n, fun | 22 => 35 | 23 => 2 | 3 => 3 | 4 => 4 | 0 => 0 | n => n, fun | n => n⟩
theorem YtbioelmofceaaaaGreat.laysCompact : Go.Proofs.SlLaysE.n43 Tryz.prog YtbioelmofceaaaaGreat.laysCompact_ren := {
  mixed := by kernel_rfl
  f43 := ⟨Tryz.f61.name, by decide, Tryz.func61.trans (congrArg some (by kernel_rfl))⟩
  t0 := Tryz.underlying0
  a0 := Tryz.isAgg0
  z0 := Tryz.sizeOf0
  v0 := Tryz.zeroValue0
  t3 := Tryz.underlying3
  a3 := Tryz.isAgg3
  z3 := Tryz.sizeOf3
  v3 := Tryz.zeroValue3
  t4 := Tryz.underlying4
  a4 := Tryz.isAgg4
  z4 := Tryz.sizeOf4
  v4 := Tryz.zeroValue4
  t22 := Tryz.underlying35
  a22 := Tryz.isAgg35
  z22 := Tryz.sizeOf35
  v22 := Tryz.zeroValue35
  a23 := Tryz.isAgg2
  z23 := Tryz.sizeOf2 }
open Go.Sort Go.RowKit in
theorem YtbioelmofceaaaaGreat.slices_Compact_i64 (blk off cap : Nat) (d : Array Int) (w : World) (hH : Holds (Value.int .i64) w blk off d) (hsz : d.size ≤ 9223372036854775807) (hcap : d.size ≤ cap) :
    Calls Tryz.prog 61 #[.slice (some ⟨blk, off, none⟩) d.size cap] w fun e w' => e = .returned (.slice (some ⟨blk, off, none⟩) (Lib.compactUpTo d d.size).length cap) ∧ ∃ q, w' = putRow (Value.int .i64) (Sort.ahead w q) blk off (Lib.compactUpTo d d.size ++ List.replicate (d.size - (Lib.compactUpTo d d.size).length) 0).toArray := AnyE.slices_Compact YtbioelmofceaaaaGreat.laysCompact (Value.int .i64) (fun _ => rfl) (EqlAt.intD _ _ .i64) (NeqAt.intD _ _ .i64) 0 Tryz.zeroValue2 blk off cap d w hH hsz hcap
end Go.Proofs
/- Cpt -/
namespace Go.Proofs.YtbioelmofceaaaaGreat
open Go.RowKit
set_option linter.unusedVariables false
set_option maxRecDepth 100000
theorem grow_none (w : World) : Sort.grow w #[] = w := by simp [Sort.grow]
theorem isort_grown (A : Option Addr) (k c : Nat) (zs : List Int) (w : World) {lo : Nat} (h : w.ownsRow lo 2 1 (.slice A k c) k (zs.map (Value.int .i64))) (hk : k ≤ 1048576) (hlo : lo ≤ w.heap.size) :
    Calls Tryz.prog 60 #[.slice A k c] w fun e w' => e = .returned (.tuple #[]) ∧ w'.ownsRow lo 2 1 (.slice A k c) k ((sortL zs).map (Value.int .i64)) ∧ w.grownBy w' (Value.slice A k c).ownBlock := by
  have hl : zs.length = k := by have := h.1; simpa using this
  rcases h.2 with ⟨hv, hn⟩ | ⟨g, cap, cur, hv, hb, hg, hnc, hcm, hcs, htake⟩
  · cases hv
    have hz : zs = [] := List.length_eq_zero_iff.1 hl
    subst hz
    refine (slices_Sort_i64_none none 0 w).mono ?_
    rintro e w' ⟨rfl, rfl⟩
    exact ⟨rfl, by simpa [sortL] using h, World.grownBy.refl _ _⟩
  · cases hv
    subst hl
    refine (slices_Sort_i64 g 0 c zs w (holds_of_blockI hg (by simpa using htake)) (Array.getElem?_eq_some_iff.1 hg).1 (by omega)).mono ?_
    rintro e w' ⟨rfl, n, os, rfl⟩
    exact ⟨rfl, ownsRow_sortedI (sortL_length zs) hb hg hnc hcm hcs, grownBy_sortedI _⟩
theorem icompact_none (c : Nat) (w : World) : Calls Tryz.prog 61 #[.slice none 0 c] w fun e w' => e = .returned (.slice none 0 c) ∧ w = w' := by
  go_enter Tryz.func61, Tryz.ntmps61
  go_wp2_with fail
  go_ret
  exact ⟨rfl, rfl⟩
theorem icompact_any (A : Option Addr) (k c : Nat) (zs : List Int) (w : World) {lo : Nat} (h : w.ownsRow lo 2 1 (.slice A k c) k (zs.map (Value.int .i64))) (hk : k ≤ 1048576) (hlo : lo ≤ w.heap.size) (hz : Sorted zs) :
    Calls Tryz.prog 61 #[.slice A k c] w fun e w' => ∃ k', e = .returned (.slice A k' c) ∧ k' ≤ k ∧ w'.ownsRow lo 2 1 (.slice A k' c) k' ((setL zs).map (Value.int .i64)) ∧ w.grownBy w' (Value.slice A k c).ownBlock := by
  have hl : zs.length = k := by have := h.1; simpa using this
  rcases h.2 with ⟨hv, hn⟩ | ⟨g, cap, cur, hv, hb, hg, hnc, hcm, hcs, htake⟩
  · cases hv
    have hz : zs = [] := List.length_eq_zero_iff.1 hl
    subst hz
    refine (icompact_none 0 w).mono ?_
    rintro e w' ⟨rfl, rfl⟩
    exact ⟨0, rfl, Nat.le_refl _, by simpa [setL, nub, sortL] using h, World.grownBy.refl _ _⟩
  · cases hv
    subst hl
    have hcm' := compact_sorted hz
    have hH := holds_of_blockI hg (ss := zs) (by simpa using htake)
    have hc := slices_Compact_i64 g 0 c zs.toArray w hH (by simp; omega) (by simpa using hnc)
    have e1 : Lib.compactUpTo zs.toArray zs.toArray.size = setL zs := by rw [← hcm']; simp [Lib.compact]
    rw [e1] at hc
    have hlen : (setL zs).length ≤ zs.length := setL_length zs
    have hsz : zs.toArray.size = zs.length := by simp
    rw [hsz] at hc
    refine hc.mono ?_
    rintro e w' ⟨rfl, q, hw⟩
    rw [← grow_none (Sort.putRow _ _ _ _ _)] at hw
    subst hw
    refine ⟨(setL zs).length, rfl, hlen, ?_, grownBy_sortedI _⟩
    have hL : (setL zs ++ List.replicate (zs.length - (setL zs).length) 0).length = zs.length := by simp; omega
    have ht := take_putCellsI cur (setL zs ++ List.replicate (zs.length - (setL zs).length) 0) (by omega)
    refine ⟨by simp, .inr ⟨g, c, _, rfl, hb, heap_sortedI _ hg, by omega, hcm, by simp [Sort.putCells, hcs], ?_⟩⟩
    rw [Nat.mul_one]
    have h2 := congrArg (List.take (setL zs).length) ht
    rw [List.take_take, Nat.min_eq_left (by omega)] at h2
    rw [h2, ← List.map_take, List.take_left]
end Go.Proofs.YtbioelmofceaaaaGreat
/- Typ -/
namespace Go.Proofs.YtbioelmofceaaaaGreat
open Go.RowKit
set_option linter.unusedVariables false
set_option maxRecDepth 100000
set_option maxHeartbeats 2000000 in
theorem orbitSizes_any (n : Nat) (A : Option Addr) (m c : Nat) (xss : List (List Int)) (w : World) {lo hi : Nat} (h : RS w lo hi A m xss) (hhi : hi ≤ w.heap.size) (hn : n ≤ 400) (hs : SysOf xss n) :
    Calls Tryz.prog 59 #[.int .i64 n, .slice A m c] w fun e w' => ∃ A1, e = .returned (.slice A1 (cntR xss n) (cntR xss n)) ∧ Own w' w.heap.size w'.heap.size 2 A1 (cntR xss n) (cntR xss n) ((hist (labL xss n) (cntR xss n)).map (Value.int .i64)) ∧ Below w.heap.size w w' := by
  obtain ⟨j0, hj0, hy0, hy1, hy2⟩ := info_parts infoI
  have hlab := orbitLabels_any n A m c xss w h hhi hn hs
  have hlt : ∀ (k : Nat) (v : Int), (labL xss n)[k]? = some v → 0 ≤ v ∧ v < cntR xss n := by
    intro k v hv
    obtain ⟨x, hx, rfl⟩ := List.mem_map.1 (mem_of_get? hv)
    exact ⟨labOf_nonneg _ _, lab_lt hs (List.mem_range.1 hx)⟩
  have hll := labL_length xss n
  have hcn := cntR_le_n (list := xss) n
  generalize labL xss n = ls at *
  generalize cntR xss n = q at *
  replace hlt := Lib.hid hlt
  replace hll := Lib.hid hll
  replace hs := Lib.hid hs
  go_enter Tryz.func59, Tryz.ntmps59
  go_wp2_with fail
  ((with_reducible refine hlab.mono ?_); rintro e w1 ⟨A1, rfl, o1, f1⟩)
  clear hlab
  have y1 := f1.size
  go_wp2_with (at_make; refine wpList_make_full _ rfl _ _ 35 rfl w1.heap.size 2 j0 (.int .i64 0) 1 Tryz.underlying35 hj0 hy0 hy1 _ _ _ _ q rfl rfl rfl rfl ?c1 ?c2 (Nat.le_refl _) ?_)
  case c1 => rw [hy2]; omega
  case c2 => simp only [maxLen]; omega
  intro w2 hown hg
  have B2 : Below w1.heap.size w1 w2 := (Below.refl _ _).grown hg (Nat.le_refl _) (by simp)
  have z2 : w1.heap.size < w2.heap.size := (hown.lt w1.heap.size (by simp [Value.ownBlock])).2
  have o6 : Own w2 w1.heap.size w2.heap.size 2 (some ⟨w1.heap.size, 0, none⟩) q q ((List.replicate q 0).map (Value.int .i64)) := by
    have := Own.of_row hown
    simpa [toList_madeCells_one, Value.cells] using this
  have o6 : Own w2 w1.heap.size w2.heap.size 2 (some ⟨w1.heap.size, 0, none⟩) q q ((hist (ls.take 0) q).map (Value.int .i64)) := by simpa [hist_nil] using o6
  clear hown hg
  go_wp2_with fail
  go_loopw [20] (fun kv wq => ∃ (k : Nat), k ≤ n ∧ kv = .int .i64 k ∧ Own wq w1.heap.size w2.heap.size 2 (some ⟨w1.heap.size, 0, none⟩) q q ((hist (ls.take k) q).map (Value.int .i64)) ∧ w2.heap.size ≤ wq.heap.size ∧ Below w1.heap.size w1 wq) (fun kv _ => n - (intOf kv).toNat)
  case atStart => exact ⟨0, by omega, rfl, o6, Nat.le_refl _, B2⟩
  case round =>
    clear o6 B2
    obtain ⟨k, hk, rfl, ho, hz, hb⟩ := hrel
    by_cases hkn : k < n
    · obtain ⟨b5, v, rfl, _, _, _, hv, hcv, _⟩ := (o1.below hb (by omega)).atI hkn
      obtain ⟨hv0, hv1⟩ := hlt.out k v hv
      obtain ⟨v, rfl⟩ : ∃ z : Nat, v = z := ⟨v.toNat, by omega⟩
      have hst := hist_snoc (l := ls.take k) (c := q) hv0 hv1
      rw [← take_succ_of hv, Int.toNat_natCast] at hst
      have hgv : (hist (ls.take k) q)[v]? = some ((ls.take k).count (v : Int) : Int) := hist_get (by omega)
      have hcl : (ls.take k).count (v : Int) ≤ n := by
        have h1 := List.count_le_length (a := (v : Int)) (l := ls.take k)
        rw [List.length_take] at h1
        omega
      have hcc := ho.cellI hgv
      have hfr := ho.frz v
      replace hst := Lib.hid hst
      replace hgv := Lib.hid hgv
      replace hv := Lib.hid hv
      generalize (ls.take k).count (v : Int) = u at *
      have hvq : v < q := by omega
      go_wp2_with fail
      go_roundw
      case measure => simp [intOf]; omega
      case rel =>
        refine ⟨k + 1, by omega, by go_num, ?_, by simp; omega, hb.setCell (by simp) _⟩
        rw [hst.out]
        exact ho.setI _
    · have hkn' : k = n := by omega
      subst hkn'
      rw [List.take_of_length_le (by have := hll.out; omega)] at ho
      go_wp2_with fail
      go_ret
      exact ⟨_, rfl, ho.more y1 hz, below_then f1 hb y1⟩
theorem setL_sortL (l : List Int) : setL (sortL l) = setL l := setL_congr fun x => (sortL_perm l).mem_iff
/-- the first k numbers halved -/
def halfTo (zs : List Int) (k : Nat) : List Int := halves (zs.take k) ++ zs.drop k
theorem halfTo_length (zs : List Int) (k : Nat) : (halfTo zs k).length = zs.length := by unfold halfTo halves; simp; omega
theorem halfTo_get {zs : List Int} {k : Nat} {v : Int} (h : zs[k]? = some v) : (halfTo zs k)[k]? = some v := by
  have hk := (List.getElem?_eq_some_iff.1 h).1
  unfold halfTo
  have e : (halves (zs.take k)).length = k := by unfold halves; simp; omega
  rw [List.getElem?_append_right (by omega), e, Nat.sub_self, List.getElem?_drop, Nat.add_zero, h]
theorem halfTo_set {zs : List Int} {k : Nat} {v : Int} (h : zs[k]? = some v) : (halfTo zs k).set k (Int.tdiv v 2) = halfTo zs (k + 1) := by
  have hk := (List.getElem?_eq_some_iff.1 h).1
  have e : (halves (zs.take k)).length = k := by unfold halves; simp; omega
  unfold halfTo
  rw [List.set_append_right _ _ (by omega), e, Nat.sub_self, take_succ_of h]
  have hd : zs.drop k = v :: zs.drop (k + 1) := by
    rw [List.drop_eq_getElem_cons hk]
    congr 1
    exact (List.getElem?_eq_some_iff.1 h).2
  rw [hd]
  unfold halves
  simp
theorem halfTo_all {zs : List Int} {k : Nat} (h : zs.length ≤ k) : halfTo zs k = halves zs := by unfold halfTo; rw [List.take_of_length_le h, List.drop_eq_nil_of_le h, List.append_nil]
theorem halfTo_zero (zs : List Int) : halfTo zs 0 = zs := by simp [halfTo, halves]
set_option maxHeartbeats 4000000 in
theorem typeOf_any (b : Nat) (A : Option Addr) (n c : Nat) (xss : List (List Int)) (w : World) (hc : w.cell? ⟨b, 0, none⟩ = some (.slice A n c)) (hbs : b < w.heap.size) {lo hi : Nat} (h : RS w lo hi A n xss) (hhi : hi ≤ w.heap.size) (hn1 : 1 ≤ n) (hn5 : n ≤ 5) (hnc : n ≤ c) (N : Nat) (hN : flg xss = N) (h4 : N ≤ 400) (hs : SysOf xss N) :
    Calls Tryz.prog 38 #[.pointer (some ⟨b, 0, none⟩)] w fun e w' => ∃ (A1 : Option Addr) (c1 : Nat), e = .returned (.slice A1 (n - 1) c1) ∧ OwnS w' w.heap.size w'.heap.size 35 2 A1 (n - 1) c1 (typL xss N) ∧ Below w.heap.size w w' := by
  obtain ⟨j0, hj0, hy0, hy1, hy2⟩ := info_parts infoI
  obtain ⟨s0, hs0, hu0, hu1, hu2⟩ := info_parts infoS
  have hl := h.len
  have htl := typL_length xss N
  rw [hl] at htl
  have hget : ∀ k, k < n - 1 → (typL xss N)[k]? = some (typI (subL xss k (k + 2)) N) := fun k hk => typL_get (by omega)
  obtain ⟨b0, o0, A0, n0, c0, p0, rfl, _, _, _, _, _⟩ := h.at_ (k := 0) (by omega)
  generalize hcs : typL xss N = cs at *
  replace hcs := Lib.hid hcs
  replace hget := Lib.hid hget
  replace htl := Lib.hid htl
  replace hl := Lib.hid hl
  have hsub : ∀ k, k < n - 1 → RS w lo hi (some ⟨b0, o0 + k, none⟩) (k + 2 - k) (subL xss k (k + 2)) := fun k hk => rs_sub h (by omega) (by omega) (fun _ => rfl)
  replace hs := Lib.hid hs
  replace hsub := Lib.hid hsub
  go_enter Tryz.func38, Tryz.ntmps38
  go_wp2_with fail
  ((with_reducible refine (rank_any _ _ n c _ hc (by omega)).mono ?_); rintro e w' ⟨rfl, rfl⟩)
  go_wp2_with fail
  go_loopw [3, 10] (fun sv kv wq => ∃ (k : Nat) (vs : List Value) (A2 : Option Addr) (c2 : Nat), k ≤ n - 1 ∧ vs.length = k ∧ sv = .slice A2 k c2 ∧ kv = .int .i64 k ∧ Own wq w.heap.size wq.heap.size 35 A2 k c2 vs ∧ RowsOwn wq w.heap.size wq.heap.size 2 vs (cs.take k) ∧ Below w.heap.size w wq) (fun _ kv _ => n - (intOf kv).toNat)
  case atStart => exact ⟨0, [], none, 0, by omega, rfl, rfl, rfl, Own.nil, by simpa using RowsOwn.nil, Below.refl _ _⟩
  case round =>
    obtain ⟨k, vs, A2, c2, hk, hvk, rfl, rfl, ho, hrows, hb⟩ := hrel
    have hz := hb.size
    by_cases hlt : k < n - 1
    · have hCk := (hb.cell (p := ⟨b, 0, none⟩) (by simp; omega)).trans hc
      have htk := take_succ_of (hget.out k hlt)
      replace htk := Lib.hid htk
      have hRd := rs_drew (h.below hb hhi)
      have hbd := below_drew hb
      have hF1 := flags_any b (some ⟨b0, o0, none⟩) n c xss wr.drew hCk hRd (by omega)
      have hF2 := orbitSizes_any N (some ⟨b0, o0 + k, none⟩) (k + 2 - k) (c - k) (subL xss k (k + 2)) wr.drew (rs_drew ((hsub.out k hlt).below hb hhi)) (show _ ≤ wr.heap.size by omega) h4 (sysOf_sub hs.out k (k + 2))
      rw [hN] at hF1
      have hteq := typI_eq (sysOf_sub hs.out k (k + 2))
      have hzb := hist_le (labL (subL xss k (k + 2)) N) (cntR (subL xss k (k + 2)) N)
      rw [labL_length] at hzb
      have hq4 := cntR_le_n (list := subL xss k (k + 2)) N
      generalize hist (labL (subL xss k (k + 2)) N) (cntR (subL xss k (k + 2)) N) = zs at *
      generalize cntR (subL xss k (k + 2)) N = q at *
      replace hteq := Lib.hid hteq
      replace hzb := Lib.hid hzb
      have hci : ¬ c = k := by omega
      have hic : k ≤ c := by omega
      have hI1 : (k : Int) ≤ (k : Int) + 2 := by omega
      have hI2 : (k : Int) + 2 ≤ (n : Int) := by omega
      have hI3 : (k : Int) + 2 ≤ (c : Int) := by omega
      have hI0 : (0 : Int) ≤ (k : Int) := by omega
      have hI4 : (0 : Int) ≤ (k : Int) + 2 := by omega
      have hw2 : IntKind.i64.wrap ((k : Int) + 2) = (k : Int) + 2 := wrap_in rfl (by omega) (by omega)
      go_wp2_with fail
      go_region_with (first
        | (go_at_call 32; refine hF1.mono ?_; rintro e w' ⟨rfl, rfl⟩)
        | (go_at_call 59; refine hF2.mono ?_; rintro e w2 ⟨A5, rfl, o5, f5⟩))
      all_goals
        clear hF2 hF1 hbd hRd
        obtain ⟨wo, rfl⟩ : ∃ wo : World, wo = wr := ⟨_, rfl⟩
        have y2 : wo.heap.size ≤ w2.heap.size := f5.size
        have f2 : Below wo.heap.size wo w2 := ⟨f5.os, f5.tape, f5.output, f5.size, f5.block⟩
        have o2 : Own w2 wo.heap.size w2.heap.size 2 A5 q q ((halfTo zs 0).map (Value.int .i64)) := by rw [halfTo_zero]; exact o5
        have hzl : zs.length = q := o5.lenI
        replace hzl := Lib.hid hzl
        clear f5 o5
        go_wp2_with fail
        go_loopw [26] (fun kv wq => ∃ (j : Nat), j ≤ q ∧ kv = .int .i64 j ∧ Own wq wo.heap.size w2.heap.size 2 A5 q q ((halfTo zs j).map (Value.int .i64)) ∧ w2.heap.size ≤ wq.heap.size ∧ Below wo.heap.size wo wq) (fun kv _ => q - (intOf kv).toNat)
        case atStart => exact ⟨0, by omega, rfl, o2, Nat.le_refl _, f2⟩
        case round =>
          clear o2 f2
          obtain ⟨j, hj, rfl, o2, z2, f2⟩ := hrel
          by_cases hjq : j < q
          · obtain ⟨b5, v, rfl, hb5, _, _, hv, hcv, hfr⟩ := o2.atI hjq
            have hv' : zs[j]? = some v := by
              have hg : zs[j]? = some (zs.getD j 0) := get?_getD 0 (by have := hzl.out; omega)
              rw [halfTo_get hg] at hv
              rw [hg, hv]
            obtain ⟨hv0, hv1⟩ := hzb.out v (mem_of_get? hv')
            have hst := halfTo_set hv'
            have hw3 : IntKind.i64.wrap (Int.tdiv v 2) = Int.tdiv v 2 := by
              rw [Int.tdiv_eq_ediv_of_nonneg hv0]
              exact wrap_in rfl (by omega) (by omega)
            have o3 := o2.setI (b := b5) (k := j) (Int.tdiv v 2)
            rw [hst] at o3
            replace hst := Lib.hid hst
            replace hv := Lib.hid hv
            replace hv' := Lib.hid hv'
            go_wp2_with fail
            go_roundw
            case measure => simp [intOf]; omega
            case rel => exact ⟨j + 1, by omega, by go_num, by simpa using o3, by simp; omega, f2.setCell (by simp; omega) _⟩
          · have hjq' : j = q := by omega
            subst hjq'
            rw [halfTo_all (by have := hzl.out; omega)] at o2
            have o2r : wr.ownsRow wo.heap.size 2 1 (.slice A5 j j) j ((halves zs).map (Value.int .i64)) := o2.1
            go_wp2_with fail
            ((with_reducible refine (isort_any A5 j j (halves zs) _ o2r (by omega) (by omega)).mono ?_); rintro e w3 ⟨rfl, o3, f3⟩)
            have y3 := f3.size
            go_wp2_with fail
            ((with_reducible refine (icompact_any A5 j j _ _ o3 (by omega) (by omega) (sortL_sorted _)).mono ?_); rintro e w4 ⟨q2, rfl, hq2, o4, hg4⟩)
            rw [setL_sortL, hteq.out] at o4
            have f4 : Below wo.heap.size wo w4 := (f2.trans f3).grown hg4 (by omega) (fun z hz' => (o3.lt z hz').1)
            have y4 := f4.size
            have o4 := Own.of_row o4
            have ho' := ho.below f4 (Nat.le_refl _)
            have hrows' := hrows.keep (Same.of_below f4 (Nat.le_refl _))
            have hb4 := hb.trans (f4.mono hz)
            clear ho hrows hb o3 f3 hg4 o2 o2r f2
            go_wp2_with (at_builtin; refine wpList_append1 w4 rfl (.tmp 38) (.tmp 41) 24 rfl w.heap.size 35 s0 (.slice none 0 0) 24 Tryz.underlying24 hs0 hu0 hu1 hu2 rfl (by omega) A2 k c2 _ (.slice A5 q2 j) rfl (ho'.more (Nat.le_refl _) y4).1 _ rfl rfl rfl (by omega) (by omega) ?_)
            intro g4 c4 w5 ho5 hg5 hlo5 hlt5 hor5
            have hrw5 := (hrows'.kept_ty ho'.1 (by decide) hg5).snoc (o4.kept_ty ho'.1 (by decide) hg5) (by omega) (by omega)
            have hz5 := hg5.size
            have hb5 := hb4.grown hg5 (by omega) (fun q hq => by have := (ho'.1.lt q hq).1; omega)
            have ho5' := Own.of_row ho5
            clear ho' hrows' o4 hg5 ho5 f4
            go_wp2_with fail
            go_roundw
            case measure => simp [intOf]; omega
            case rel =>
              refine ⟨k + 1, vs ++ [.slice A5 q2 j], _, c4, by omega, by simp; omega, rfl, by go_num, by simpa using ho5', ?_, hb5⟩
              rw [htk.out]
              exact hrw5.more (Nat.le_refl _) (by omega)
    · have hkn : k = n - 1 := by omega
      subst hkn
      go_wp2_with fail
      go_ret
      rw [List.take_of_length_le (by have := htl.out; omega)] at hrows
      exact ⟨A2, c2, rfl, ⟨vs, ho, hrows⟩, hb⟩
end Go.Proofs.YtbioelmofceaaaaGreat
/- TypS -/
namespace Go.Proofs.YtbioelmofceaaaaGreat
open Go.RowKit
set_option linter.unusedVariables false
set_option maxRecDepth 100000
/-- the halves of the numbers of points of the orbits, point by point -/
def orbH (list : List (List Int)) (n : Nat) : List Int := (List.range n).map fun (f : Nat) => Int.tdiv ((bfs list n (f : Int)).length : Int) 2
theorem orbH_get {list : List (List Int)} {n f : Nat} (h : f < n) : (orbH list n)[f]? = some (Int.tdiv ((bfs list n (f : Int)).length : Int) 2) := by simp [orbH, h]
theorem orbH_length (list : List (List Int)) (n : Nat) : (orbH list n).length = n := by simp [orbH]
theorem typI_orbH (list : List (List Int)) (n : Nat) : typI list n = sortL (nub (orbH list n)) := rfl
end Go.Proofs.YtbioelmofceaaaaGreat
/- TypX -/
namespace Go.Proofs.YtbioelmofceaaaaGreat
open Go.RowKit
set_option linter.unusedVariables false
set_option maxRecDepth 100000
/-- what TypeOf returns -/
noncomputable def typF (xss : List (List Int)) : List (List Int) × Int := if isManB xss = true then (typL xss (flg xss), 0) else ([], 1)
/-- the first of each -/
def polL (xss : List (List Int)) (n : Nat) : List Int := (typL xss n).map fun l => l.getD 0 0
/-- what SmallestPolygons returns -/
noncomputable def polF (xss : List (List Int)) : List Int × Int := if isManB xss = true then (polL xss (flg xss), 0) else ([], 1)
theorem typL_nums {xss : List (List Int)} {n N : Nat} (hl : xss.length = n) (hn : n ≤ 5) (hN : N ≤ 400) : n - 1 + numsIn (typL xss N) ≤ 1048576 := by
  have h := numsIn_le (xss := typL xss N) (n := N) (fun p hp => by
    obtain ⟨i, _, rfl⟩ := List.mem_map.1 hp
    exact typI_length _ _)
  rw [typL_length, hl] at h
  have := Nat.mul_le_mul (show n - 1 ≤ 4 by omega) hN
  omega
theorem typL_ne {xss : List (List Int)} {N k : Nat} {l : List Int} (hN : 0 < N) (h : (typL xss N)[k]? = some l) : 0 < l.length := by
  obtain ⟨i, _, rfl⟩ := List.mem_map.1 (mem_of_get? h)
  obtain ⟨x, hx⟩ := typI_ne (list := subL xss i (i + 2)) hN
  exact (List.getElem?_eq_some_iff.1 hx).1
set_option maxHeartbeats 4000000 in
theorem i_TypeOf_any (w : World) (A : Option Addr) (n c : Nat) (xss : List (List Int)) {lo hi : Nat} (h : RS w lo hi A n xss) (hhi : hi ≤ w.heap.size) (hnc : n ≤ c) :
    Calls Tryz.prog 16 #[.agg #[.slice A n c]] w fun e w' => ∃ (A1 : Option Addr) (n1 c1 : Nat) (zss : List (List Int)) (code : Int), e = .returned (.tuple #[.slice A1 n1 c1, .int .i64 code]) ∧ Hid ((zss, code) = typF xss) ∧ OwnS w' w.heap.size w'.heap.size 35 2 A1 n1 c1 zss ∧ n1 + numsIn zss ≤ 1048576 ∧ Below w.heap.size w w' := by
  have hm := h.max
  have hl := h.len
  have hR := rs_alloc h hhi (.cells #[.slice A n c] 26)
  have hC : (w.alloc (.cells #[.slice A n c] 26)).cell? ⟨w.heap.size, 0, none⟩ = some (.slice A n c) := al_new _ _ _ _ rfl
  have hB : Below w.heap.size w (w.alloc (.cells #[.slice A n c] 26)) := (Below.refl _ _).alloc (Nat.le_refl _) _
  cases hM : isManB xss with
  | false =>
    have hF : typF xss = ([], 1) := by unfold typF; rw [hM]; rfl
    replace hF := Lib.hid hF
    replace hM := Lib.hid hM
    replace hl := Lib.hid hl
    go_enter Tryz.func16, Tryz.ntmps16
    go_wp2_with fail
    obtain ⟨W1, hW⟩ : ∃ W1 : World, w.alloc (.cells #[.slice A n c] 26) = W1 := ⟨_, rfl⟩
    have hz1 : W1.heap.size = w.heap.size + 1 := by rw [← hW]; simp
    rw [hW] at hR hC hB ⊢
    clear hW h 
    ((with_reducible refine (isMan_any A n c xss _ hR (by omega) hnc).mono ?_); rintro e w2 ⟨rfl, f2⟩)
    rw [hM.out]
    have y2 := f2.size
    have B2 : Below W1.heap.size W1 w2 := f2
    have C2 := (f2.cell (p := ⟨w.heap.size, 0, none⟩) (by simp; omega)).trans hC
    have R2 := hR.below f2 (by omega)
    go_wp2_with fail
    go_ret2
    exact ⟨_, 0, _, [], _, rfl, Lib.hid hF.out.symm, OwnS.nil, by simp [numsIn], hB.trans (B2.mono (by omega))⟩
  | true =>
    have hP := isManB_iff.1 hM
    have hn1 : 1 ≤ n := by have := hP.r1; omega
    have hn5 : n ≤ 5 := by have := hP.r5; omega
    have hf2 := hP.f2
    have hf4 := hP.f4
    have hS := hP.sys
    replace hP := Lib.hid hP
    replace hS := Lib.hid hS
    have hF : typF xss = (typL xss (flg xss), 0) := by unfold typF; rw [if_pos hM]
    have hnum := typL_nums hl hn5 hf4
    replace hF := Lib.hid hF
    replace hM := Lib.hid hM
    replace hl := Lib.hid hl
    go_enter Tryz.func16, Tryz.ntmps16
    go_wp2_with fail
    obtain ⟨W1, hW⟩ : ∃ W1 : World, w.alloc (.cells #[.slice A n c] 26) = W1 := ⟨_, rfl⟩
    have hz1 : W1.heap.size = w.heap.size + 1 := by rw [← hW]; simp
    rw [hW] at hR hC hB ⊢
    clear hW h 
    ((with_reducible refine (isMan_any A n c xss _ hR (by omega) hnc).mono ?_); rintro e w2 ⟨rfl, f2⟩)
    rw [hM.out]
    have y2 := f2.size
    have B2 : Below W1.heap.size W1 w2 := f2
    have C2 := (f2.cell (p := ⟨w.heap.size, 0, none⟩) (by simp; omega)).trans hC
    have R2 := hR.below f2 (by omega)
    go_wp2_with fail
    ((with_reducible refine (typeOf_any _ A n c xss _ C2 (by omega) R2 (by omega) (by omega) (by omega) hnc _ rfl hf4 hS.out).mono ?_); rintro e w9 ⟨A9, c9, rfl, o9, f9⟩)
    have B9 : Below W1.heap.size W1 w9 := below_then B2 f9 (by omega)
    go_wp2_with fail
    go_ret2
    exact ⟨_, _, _, _, _, rfl, Lib.hid hF.out.symm, o9.more (by omega) (Nat.le_refl _), hnum, hB.trans (B9.mono (by omega))⟩
end Go.Proofs.YtbioelmofceaaaaGreat
/- Col -/
namespace Go.Proofs.YtbioelmofceaaaaGreat
open Go.RowKit
set_option linter.unusedVariables false
set_option maxRecDepth 100000
theorem always_any (x : Int) (w : World) : Calls Tryz.prog 63 #[.int .i64 x] w fun e w' => e = .returned (.bool true) ∧ w = w' := by
  go_enter Tryz.func63, Tryz.ntmps63
  go_wp2_with fail
  go_ret
  exact ⟨rfl, rfl⟩
set_option maxHeartbeats 4000000 in
theorem coloured_any (b : Nat) (A : Option Addr) (n c : Nat) (xss : List (List Int)) (w : World) (hc : w.cell? ⟨b, 0, none⟩ = some (.slice A n c)) (hbs : b < w.heap.size) {lo hi : Nat} (h : RS w lo hi A n xss) (hhi : hi ≤ w.heap.size) (hn : 0 < n) (N : Nat) (hN : flg xss = N) (h4 : N ≤ 400) (hs : SysOf xss N) (hx1 : 0 < N) (hcon : Conn xss N) :
    Calls Tryz.prog 62 #[.pointer (some ⟨b, 0, none⟩), .func (.func 63) #[] #[]] w fun e w' => ∃ A1, e = .returned (.tuple #[.slice A1 N N, .bool (colB xss N (dist xss N 0))]) ∧ Own w' w.heap.size w'.heap.size 2 A1 N N ((parL (dist xss N 0)).map (Value.int .i64)) ∧ Below w.heap.size w w' := by
  obtain ⟨j0, hj0, hy0, hy1, hy2⟩ := info_parts infoI
  have hm := h.max
  have hl := Lib.hid h.len
  have hst := DMet.start (n := N) (x := 0) (list := xss) (by omega) (by omega)
  have hcs := Col.start (n := N) (x := 0) (by omega) (by omega)
  replace hcs := Lib.hid hcs
  replace hcon := Lib.hid hcon
  obtain ⟨D, hD⟩ : ∃ D, D = dist xss N 0 := ⟨_, rfl⟩
  rw [← hD]
  replace hD := Lib.hid hD
  replace hst := Lib.hid hst
  replace hs := Lib.hid hs
  have hR := rs_alloc h hhi (.cells #[.int .i64 (-1)] 2)
  have hC : (w.alloc (.cells #[.int .i64 (-1)] 2)).cell? ⟨b, 0, none⟩ = some (.slice A n c) := (al_old _ _ _ _ hbs).trans hc
  go_enter Tryz.func62, Tryz.ntmps62
  go_wp2_with fail
  ((with_reducible refine (flags_any _ A n c xss _ hC hR hn).mono ?_); rintro e w' ⟨rfl, rfl⟩)
  rw [hN]
  go_wp2_with fail
  ((with_reducible refine (repeat_any _ _ N (-1) _ (ri_lit1 w _ _) (by simp) (by omega)).mono ?_); rintro e w1 ⟨A1, rfl, ho1, hb1⟩)
  have hB1 : Below w.heap.size w w1 := ((Below.refl _ _).alloc (Nat.le_refl _) _).trans (hb1.mono (by simp))
  replace ho1 := ho1.more (lo' := w.heap.size) (hi' := w1.heap.size) (by simp) (Nat.le_refl _)
  have hz1 := hB1.size
  clear hb1 hR hC
  obtain ⟨b1, x1, rfl, hb1, hb2, hb3, hxx, hcx, hfx⟩ := ho1.atI (k := 0) (by omega)
  clear hxx
  have hC1 := (hB1.cell (p := ⟨b, 0, none⟩) (by simp; omega)).trans hc
  go_wp2_with fail
  have hset := (ho1.setI (b := b1) (k := 0) 0).keep (same_alloc _ (.cells #[.int .i64 0] 2) _ _ (by simp))
  have hopen := Que.of_own (own_lit1 (w1.setCell ⟨b1, 0, none⟩ (.int .i64 0)) 2 0 (lo := w1.heap.size) (by simp))
  rw [World.size_setCell] at hopen
  have hbA : Below w.heap.size w ((w1.setCell ⟨b1, 0, none⟩ (.int .i64 0)).alloc (.cells #[.int .i64 0] 2)) := (hB1.setCell (by simp; omega) _).alloc (by simp; omega) _
  clear ho1 hB1 hcx hfx
  go_loopg [7, 8] (N + 2) (fun f okv ov wq => ∃ (i : Nat) (d cs pre q : List Int) (A2 : Option Addr) (c2 : Nat) (ob : Bool), okv = .bool ob ∧ ov = .slice A2 q.length c2 ∧ Hid (ob = pre.all (edgesB xss D)) ∧ Hid (Col N d cs) ∧ f + i = N + 2 ∧ pre.length = i ∧ q.length ≤ 400 ∧ Hid (dGo xss (N + 1 - i) (d, pre ++ q) i = dGo xss (N + 1) (dstart N 0) 0) ∧ Hid (DMet xss N 0 d (pre ++ q) i) ∧
      Own wq w.heap.size w1.heap.size 2 (some ⟨b1, 0, none⟩) N N (cs.map (Value.int .i64)) ∧ Que wq w1.heap.size A2 q.length c2 (q.map (Value.int .i64)) ∧ w1.heap.size ≤ wq.heap.size ∧ Below w.heap.size w wq)
  case atStart =>
    exact ⟨0, (dstart N 0).1, (dstart N 0).1, [], [0], _, 1, true, rfl, rfl, Lib.hid rfl, hcs, by omega, rfl, by simp, Lib.hid rfl, Lib.hid hst.out, by simpa [dstart] using hset, hopen, by simp, hbA⟩
  case round =>
    clear hset hopen hbA hst
    obtain ⟨i, d, cs, pre, q, A2, c2, ob, rfl, rfl, hob, hcol, hfn, hpl, hql, heq, hd, ho, hop, hz, hb⟩ := hrel
    have hlen := hd.out.met.len
    rw [List.length_append] at hlen
    obtain ⟨f, rfl⟩ : ∃ f, gk = f + 1 := ⟨gk - 1, by omega⟩
    rcases q with _ | ⟨y, q⟩
    · have hcq := hop.max
      go_wp2_with fail
      go_ret2
      have h1 := heq.out
      rw [dGo_stop (by simp; omega)] at h1
      have hdD : d = D := by rw [hD.out]; unfold dist; rw [← h1]
      subst hdD
      have hfin := dist_fin hs.out hcon.out (show (0 : Int) ≤ 0 by omega) (show (0 : Int) < N by omega)
      rw [← hD.out] at hfin
      have hmem : ∀ z : Int, 0 ≤ z → z < N → z ∈ pre ++ [] := fun z z0 z1 => (hd.out.pos z z0 z1).1 (hfin.rng z z0 z1).1
      rw [← hcol.out.end_ (fun z z0 z1 => (hfin.rng z z0 z1).1)]
      have hob2 : ob = colB xss N d := by rw [hob.out]; unfold colB; rw [← all_out hd.out.met (met_full hmem) (edgesB xss d)]; simp
      rw [← hob2]
      exact ⟨_, rfl, ho.more (Nat.le_refl _) hz, hb⟩
    · have hiN : (pre ++ y :: q)[i]? = some y := by rw [List.getElem?_append_right (by omega), show i - pre.length = 0 by omega]; rfl
      have hyr := hd.out.met.rng y (mem_of_get? hiN)
      have hyd := hd.out.datn (mem_of_get? hiN)
      obtain ⟨y, rfl⟩ : ∃ q : Nat, y = q := ⟨y.toNat, by omega⟩
      obtain ⟨g2, o2, rfl, hg2, hg3⟩ := hop.addr
      have hgc := hop.cell (k := 0) (v := .int .i64 (y : Int)) rfl
      rw [Nat.add_zero] at hgc
      rw [List.length_cons] at hop hql ⊢
      have hcap := hop.cap
      have hcm := hop.max
      have hCk := (hb.cell (p := ⟨b, 0, none⟩) (by simp; omega)).trans hc
      replace hiN := Lib.hid hiN
      replace hyd := Lib.hid hyd
      go_wp2_with fail
      obtain ⟨wo, hwo⟩ : ∃ wo : World, wo = wr := ⟨_, rfl⟩
      go_loopw [7, 8, 34] (fun okv ov kv wq => ∃ (k : Nat) (d2 cs2 q2 : List Int) (A3 : Option Addr) (c3 : Nat) (ob2 : Bool), okv = .bool ob2 ∧ Hid (ob2 = (pre.all (edgesB xss D) && (xss.take k).all (edgeB D y))) ∧ Hid (Col N d2 cs2) ∧ k ≤ n ∧ kv = .int .i64 k ∧ ov = .slice A3 (q2.length + 1) c3 ∧ q2.length ≤ 400 ∧ Hid ((d2, pre ++ (y : Int) :: q2) = dStep (xss.take k) y (d, pre ++ (y : Int) :: q)) ∧ Hid (DMet xss N 0 d2 (pre ++ (y : Int) :: q2) i) ∧
          Own wq w.heap.size w1.heap.size 2 (some ⟨b1, 0, none⟩) N N (cs2.map (Value.int .i64)) ∧ Que wq w1.heap.size A3 (q2.length + 1) c3 (((y : Int) :: q2).map (Value.int .i64)) ∧ w1.heap.size ≤ wq.heap.size ∧ Below w.heap.size w wq) (fun _ _ kv _ => n - (intOf kv).toNat)
      case atStart => exact ⟨0, d, cs, q, _, c2, ob, rfl, Lib.hid (by simpa using hob.out), hcol, by omega, rfl, rfl, by omega, Lib.hid rfl, hd, ho, hop, hz, hb⟩
      case round =>
        clear ho hop hz hb hgc hwo hcap hcm hCk
        obtain ⟨k, d2, cs2, q2, A3, c3, ob2, rfl, hob2, hcol2, hk, rfl, rfl, hq2, hds, hd2, ho, hop, hz, hb⟩ := hrel
        have hiN2 : (pre ++ (y : Int) :: q2)[i]? = some (y : Int) := by rw [List.getElem?_append_right (by omega), show i - pre.length = 0 by omega]; rfl
        have hlen2 := hd2.out.met.len
        rw [List.length_append, List.length_cons] at hlen2
        have hdl := hd2.out.dl
        have hyd2 := hd2.out.datn (mem_of_get? hiN2)
        by_cases hkm : k < n
        · obtain ⟨bb, oo, Ak, nk, ck, p, rfl, _, _, hp, hpc, hpr⟩ := (h.below hb hhi).at_ hkm
          have hpm := mem_of_get? hp
          obtain ⟨hpr0, hpn, hpll⟩ := hs.out p hpm
          have hnk := hpr.len
          have hynk : y < nk := by omega
          obtain ⟨bp, oq, v, rfl, _, _, hv, hvc⟩ := hpr.at_ hynk
          have hva : at' p y = v := by unfold at'; rw [Int.toNat_natCast]; exact getD_some hv
          obtain ⟨hv0, hv1⟩ := hpr0 v (mem_of_get? hv)
          obtain ⟨v, rfl⟩ : ∃ q : Nat, v = q := ⟨v.toNat, by omega⟩
          have htk := take_succ_of hp
          have hcl := hcol2.out.2.1
          have hcv := ho.cellI (dat_get hcl (show v < N by omega))
          have hcy := ho.cellI (dat_get hcl (show y < N by omega))
          have hfr := ho.frz v
          have hyd0 := hyd2.1
          have hvN : v < N := by omega
          have hyN : y < N := by omega
          have hcyv := hcol2.out.val (z := (y : Int)) (by omega) (by omega) hyd0
          have hcvn := hcol2.out.neg (z := (v : Int)) (by omega) (by omega)
          have hsp := dMove_spec (s := (d2, pre ++ (y : Int) :: q2)) hs.out hd2.out hiN2 hpm
          have hmv : dMove y (d2, pre ++ (y : Int) :: q2) p = dStep (xss.take (k + 1)) y (d, pre ++ (y : Int) :: q) := by rw [htk, dStep_snoc, ← hds.out]
          have hDk : ∀ z ∈ (dMove y (d2, pre ++ (y : Int) :: q2) p).2, dat D z = dat (dMove y (d2, pre ++ (y : Int) :: q2) p).1 z := by
            intro z hz'
            rw [hmv] at hz' ⊢
            have := final_keep (f := N - i) (s := (d, pre ++ (y : Int) :: q)) hs.out hd.out hiN.out hz'
            rw [show N - i + 1 = N + 1 - i by omega, heq.out] at this
            rw [hD.out]
            exact this
          have hes := edges_snoc hp hob2.out
          have hu0 : 0 ≤ dat cs2 y ∧ dat cs2 y ≤ 1 := by rw [hcyv]; omega
          by_cases hneg : dat d2 v < 0
          · have hed := edge_new (p := p) hs.out hd2.out hiN2 hpm (by rw [hva]; exact hneg) hDk
            rw [hed, Bool.and_true] at hes
            have hco := hcol2.out.set (g := (v : Int)) (y := (y : Int)) (by omega) (by omega) (by omega) (by omega) hyd0
            unfold dMove at hmv hsp
            rw [hva] at hmv hsp
            rw [if_pos hneg] at hmv hsp
            have e2 : pre ++ (y : Int) :: q2 ++ [(v : Int)] = pre ++ (y : Int) :: (q2 ++ [(v : Int)]) := by simp
            rw [Int.toNat_natCast, e2] at hmv hsp
            rw [Int.toNat_natCast] at hco
            have hmet2 := hsp.1
            have hlen3 := hmet2.met.len
            rw [List.length_append, List.length_cons, List.length_append, List.length_singleton] at hlen3
            have hdd : decide (dat cs2 v < 0) = true := decide_eq_true (hcvn.2 hneg)
            replace hes := Lib.hid hes
            replace hco := Lib.hid hco
            replace hed := Lib.hid hed
            replace hDk := Lib.hid hDk
            replace hmet2 := Lib.hid hmet2
            replace hmv := Lib.hid hmv
            replace hp := Lib.hid hp
            replace hv := Lib.hid hv
            replace htk := Lib.hid htk
            replace hva := Lib.hid hva
            replace hpr0 := Lib.hid hpr0
            replace hpll := Lib.hid hpll
            replace hiN2 := Lib.hid hiN2
            clear hsp e2 hdl hyd2 hcl hcvn hcyv hneg hyd0
            generalize dat cs2 v = u at *
            generalize dat cs2 y = u2 at *
            have hop' := hop.far (p := ⟨b1, v, none⟩) hb2 (.int .i64 (1 - u2))
            have hss : (wr.setCell ⟨b1, v, none⟩ (.int .i64 (1 - u2))).heap.size = wr.heap.size := World.size_setCell _ _ _
            replace hss := Lib.hid hss
            go_wp2_with fail
            ((with_reducible refine (always_any _ _).mono ?_); rintro e w' ⟨rfl, rfl⟩)
            go_wp2_with (at_builtin; refine wpList_appendQ (wr.setCell ⟨b1, v, none⟩ (.int .i64 (1 - u2))) rfl (.tmp 62) (.tmp 64) 35 rfl w1.heap.size 2 j0 (.int .i64 0) 8 Tryz.underlying35 hj0 hy0 hy1 hy2 rfl (by omega) A3 (q2.length + 1) c3 _ (.int .i64 v) rfl hop' _ rfl (World.size_setCell _ _ _).symm rfl (by omega) (by rw [hss.out]; exact hz) ?_)
            intro A4 c4 w2 hop4 hbe
            have hb4 : Below w.heap.size w w2 := (hb.setCell (p := ⟨b1, v, none⟩) hb1 (.int .i64 (1 - u2))).trans (hbe.mono hz1)
            have ho4 := (ho.setI (b := b1) (k := v) (1 - u2)).below hbe (Nat.le_refl _)
            have hz4 : w1.heap.size ≤ w2.heap.size := by have := hbe.size; have := hss.out; omega
            clear ho hop hop' hb hpc hvc hcv hcy hfr hpr hbe
            go_wp2_with fail
            go_roundw
            case measure => simp [intOf]; omega
            case rel =>
              exact ⟨k + 1, d2.set v (dat d2 y + 1), cs2.set v (1 - u2), q2 ++ [(v : Int)], A4, c4, ob2, rfl, hes, hco, by omega, by go_num, by rw [List.length_append]; rfl, by simp; omega, hmv, hmet2, ho4, by simpa using hop4, hz4, hb4⟩
          · have hed := edge_old (p := p) hs.out hd2.out hiN2 hpm (by rw [hva]; exact hneg) hDk
            rw [hva] at hed
            have hcvv := hcol2.out.val (z := (v : Int)) (by omega) (by omega) (by omega)
            rw [← hcvv, ← hcyv] at hed
            have hv01 : 0 ≤ dat cs2 v ∧ dat cs2 v ≤ 1 := by rw [hcvv]; omega
            have hdd : decide (dat cs2 v < 0) = false := decide_eq_false (by omega)
            unfold dMove at hmv
            rw [hva] at hmv
            rw [if_neg hneg] at hmv
            by_cases hne : dat cs2 v = dat cs2 y
            · have hed2 : edgeB D y p = false := by rw [hed]; exact decide_eq_false (fun hh => hh hne)
              rw [hed2, Bool.and_false] at hes
              have hbn : (dat cs2 v != 1 - dat cs2 y) = true := by simp; omega
              have hbd : decide (dat cs2 v = 1 - dat cs2 y) = false := decide_eq_false (by omega)
              replace hes := Lib.hid hes
              replace hed := Lib.hid hed
              replace hed2 := Lib.hid hed2
              replace hDk := Lib.hid hDk
              replace hmv := Lib.hid hmv
              replace hp := Lib.hid hp
              replace hv := Lib.hid hv
              replace htk := Lib.hid htk
              replace hva := Lib.hid hva
              replace hpr0 := Lib.hid hpr0
              replace hpll := Lib.hid hpll
              replace hiN2 := Lib.hid hiN2
              replace hne := Lib.hid hne
              clear hsp hdl hyd2 hcl hcvn hcyv hneg hyd0 hcvv
              generalize dat cs2 v = u at *
              generalize dat cs2 y = u2 at *
              go_wp2_with fail
              ((with_reducible refine (always_any _ _).mono ?_); rintro e w' ⟨rfl, rfl⟩)
              go_wp2_with fail
              go_roundw
              case measure => simp [intOf]; omega
              case rel => exact ⟨k + 1, d2, cs2, q2, A3, c3, false, rfl, hes, hcol2, by omega, by go_num, rfl, hq2, hmv, hd2, ho, hop, hz, hb⟩
            · have hed2 : edgeB D y p = true := by rw [hed]; exact decide_eq_true hne
              rw [hed2, Bool.and_true] at hes
              have hbn : (dat cs2 v != 1 - dat cs2 y) = false := by simp; omega
              have hbd : decide (dat cs2 v = 1 - dat cs2 y) = true := decide_eq_true (by omega)
              replace hes := Lib.hid hes
              replace hed := Lib.hid hed
              replace hed2 := Lib.hid hed2
              replace hDk := Lib.hid hDk
              replace hmv := Lib.hid hmv
              replace hp := Lib.hid hp
              replace hv := Lib.hid hv
              replace htk := Lib.hid htk
              replace hva := Lib.hid hva
              replace hpr0 := Lib.hid hpr0
              replace hpll := Lib.hid hpll
              replace hiN2 := Lib.hid hiN2
              replace hne := Lib.hid hne
              clear hsp hdl hyd2 hcl hcvn hcyv hneg hyd0 hcvv
              generalize dat cs2 v = u at *
              generalize dat cs2 y = u2 at *
              go_wp2_with fail
              ((with_reducible refine (always_any _ _).mono ?_); rintro e w' ⟨rfl, rfl⟩)
              go_wp2_with fail
              go_roundw
              case measure => simp [intOf]; omega
              case rel => exact ⟨k + 1, d2, cs2, q2, A3, c3, ob2, rfl, hes, hcol2, by omega, by go_num, rfl, hq2, hmv, hd2, ho, hop, hz, hb⟩
        · have hkm' : k = n := by omega
          subst hkm'
          obtain ⟨g4, o4, rfl, hg4, hg5⟩ := hop.addr
          have hcap := hop.cap
          have hcm := hop.max
          replace hiN2 := Lib.hid hiN2
          replace hdl := Lib.hid hdl
          replace hyd2 := Lib.hid hyd2
          have hds2 : (d2, pre ++ (y : Int) :: q2) = dStep xss y (d, pre ++ (y : Int) :: q) := by have := hds.out; rwa [List.take_of_length_le (by have := hl.out; omega)] at this
          have hnx : DMet xss N 0 d2 (pre ++ (y : Int) :: q2) (i + 1) := by
            have := dStep_next (s := (d, pre ++ (y : Int) :: q)) hs.out hd.out hiN.out
            rw [← hds2] at this
            exact this
          have hgo : dGo xss (N + 1 - (i + 1)) (d2, pre ++ (y : Int) :: q2) (i + 1) = dGo xss (N + 1) (dstart N 0) 0 := by
            have h1 := heq.out
            rw [show N + 1 - i = (N - i) + 1 by omega, dGo_step (s := (d, pre ++ (y : Int) :: q)) hiN.out, ← hds2] at h1
            rw [← h1, show N + 1 - (i + 1) = N - i by omega]
          have hob3 : ob2 = (pre ++ [(y : Int)]).all (edgesB xss D) := edges_next (by have := hob2.out; rwa [List.take_of_length_le (by have := hl.out; omega)] at this)
          replace hob3 := Lib.hid hob3
          have e3 : pre ++ (y : Int) :: q2 = (pre ++ [(y : Int)]) ++ q2 := by simp
          rw [e3] at hnx hgo
          replace hds2 := Lib.hid hds2
          replace hnx := Lib.hid hnx
          replace hgo := Lib.hid hgo
          replace e3 := Lib.hid e3
          by_cases hc1 : c3 = 1
          · go_wp2_with fail
            go_roundg f
            case measure => omega
            case rel => exact ⟨i + 1, d2, cs2, pre ++ [(y : Int)], q2, _, c3 - 1, ob2, rfl, by rw [hc1], hob3, hcol2, by omega, by simp; omega, by omega, hgo, hnx, ho, hop.pop (.inr ⟨hc1, rfl⟩), hz, hb⟩
          · go_wp2_with fail
            go_roundg f
            case measure => omega
            case rel => exact ⟨i + 1, d2, cs2, pre ++ [(y : Int)], q2, _, c3 - 1, ob2, rfl, rfl, hob3, hcol2, by omega, by simp; omega, by omega, hgo, hnx, ho, hop.pop (.inl rfl), hz, hb⟩
theorem colB_false {xss : List (List Int)} {n f : Nat} {D p : List Int} (hf : f < n) (hp : p ∈ xss) (h : edgeB D (f : Int) p = false) : colB xss n D = false := by
  cases hq : colB xss n D with
  | false => rfl
  | true =>
    have h1 := List.all_eq_true.1 hq f (by simpa using hf)
    have h2 := List.all_eq_true.1 h1 p hp
    rw [h] at h2
    cases h2
theorem parL_of {D ds : List Int} {n : Nat} (hD : D.length = n) (hl : ds.length = n) (h : ∀ z : Nat, z < n → ds[z]? = some (dat D (z : Int) % 2)) : ds = parL D := by
  unfold parL
  refine List.ext_getElem? fun k => ?_
  by_cases hk : k < n
  · rw [h k hk, List.getElem?_map, get?_getD (xs := D) 0 (by omega)]
    unfold dat
    rw [Int.toNat_natCast]
    rfl
  · rw [List.getElem?_eq_none (by omega), List.getElem?_eq_none (by simp; omega)]
end Go.Proofs.YtbioelmofceaaaaGreat
/- ColX -/
namespace Go.Proofs.YtbioelmofceaaaaGreat
open Go.RowKit
set_option linter.unusedVariables false
set_option maxRecDepth 100000
/-- what IsOrientable returns -/
noncomputable def oriF (xss : List (List Int)) : Bool × Int := if isManB xss = true then (colB xss (flg xss) (dist xss (flg xss) 0), 0) else (false, 1)
/-- what ColouringOf returns -/
noncomputable def colF (xss : List (List Int)) : List Int × Int := if isManB xss = true then (if colB xss (flg xss) (dist xss (flg xss) 0) = true then (parL (dist xss (flg xss) 0), 0) else ([], 5)) else ([], 1)
theorem colouring_any (b : Nat) (A : Option Addr) (n c : Nat) (xss : List (List Int)) (w : World) (hc : w.cell? ⟨b, 0, none⟩ = some (.slice A n c)) (hbs : b < w.heap.size) {lo hi : Nat} (h : RS w lo hi A n xss) (hhi : hi ≤ w.heap.size) (hn : 0 < n) (N : Nat) (hN : flg xss = N) (h4 : N ≤ 400) (hs : SysOf xss N) (hx1 : 0 < N) (hcon : Conn xss N) :
    Calls Tryz.prog 39 #[.pointer (some ⟨b, 0, none⟩)] w fun e w' => ∃ A1, e = .returned (.tuple #[.slice A1 N N, .bool (colB xss N (dist xss N 0))]) ∧ Own w' w.heap.size w'.heap.size 2 A1 N N ((parL (dist xss N 0)).map (Value.int .i64)) ∧ Below w.heap.size w w' := by
  have hcal := coloured_any b A n c xss w hc hbs h hhi hn N hN h4 hs hx1 hcon
  clear hs hcon
  go_enter Tryz.func39, Tryz.ntmps39
  go_wp2_with fail
  ((with_reducible refine hcal.mono ?_); rintro e w9 ⟨A9, rfl, o9, f9⟩)
  go_wp2_with fail
  go_ret2
  exact ⟨A9, rfl, o9, f9⟩
set_option maxHeartbeats 4000000 in
theorem i_IsOrientable_any (w : World) (A : Option Addr) (n c : Nat) (xss : List (List Int)) {lo hi : Nat} (h : RS w lo hi A n xss) (hhi : hi ≤ w.heap.size) (hnc : n ≤ c) :
    Calls Tryz.prog 17 #[.agg #[.slice A n c]] w fun e w' => ∃ (y : Bool) (code : Int), e = .returned (.tuple #[.bool y, .int .i64 code]) ∧ Hid ((y, code) = oriF xss) ∧ Below w.heap.size w w' := by
  have hm := h.max
  have hl := h.len
  have hR := rs_alloc h hhi (.cells #[.slice A n c] 26)
  have hC : (w.alloc (.cells #[.slice A n c] 26)).cell? ⟨w.heap.size, 0, none⟩ = some (.slice A n c) := al_new _ _ _ _ rfl
  have hB : Below w.heap.size w (w.alloc (.cells #[.slice A n c] 26)) := (Below.refl _ _).alloc (Nat.le_refl _) _
  cases hM : isManB xss with
  | false =>
    have hF : oriF xss = (false, 1) := by unfold oriF; rw [hM]; rfl
    replace hF := Lib.hid hF
    replace hM := Lib.hid hM
    replace hl := Lib.hid hl
    go_enter Tryz.func17, Tryz.ntmps17
    go_wp2_with fail
    obtain ⟨W1, hW⟩ : ∃ W1 : World, w.alloc (.cells #[.slice A n c] 26) = W1 := ⟨_, rfl⟩
    have hz1 : W1.heap.size = w.heap.size + 1 := by rw [← hW]; simp
    rw [hW] at hR hC hB ⊢
    clear hW h 
    ((with_reducible refine (isMan_any A n c xss _ hR (by omega) hnc).mono ?_); rintro e w2 ⟨rfl, f2⟩)
    rw [hM.out]
    have y2 := f2.size
    have B2 : Below W1.heap.size W1 w2 := f2
    have C2 := (f2.cell (p := ⟨w.heap.size, 0, none⟩) (by simp; omega)).trans hC
    have R2 := hR.below f2 (by omega)
    go_wp2_with fail
    go_ret2
    exact ⟨_, _, rfl, Lib.hid hF.out.symm, hB.trans (B2.mono (by omega))⟩
  | true =>
    have hP := isManB_iff.1 hM
    have hn1 : 1 ≤ n := by have := hP.r1; omega
    have hn5 : n ≤ 5 := by have := hP.r5; omega
    have hf2 := hP.f2
    have hf4 := hP.f4
    have hS := hP.sys
    replace hP := Lib.hid hP
    replace hS := Lib.hid hS
    have hF : oriF xss = (colB xss (flg xss) (dist xss (flg xss) 0), 0) := by unfold oriF; rw [if_pos hM]
    replace hF := Lib.hid hF
    replace hM := Lib.hid hM
    replace hl := Lib.hid hl
    go_enter Tryz.func17, Tryz.ntmps17
    go_wp2_with fail
    obtain ⟨W1, hW⟩ : ∃ W1 : World, w.alloc (.cells #[.slice A n c] 26) = W1 := ⟨_, rfl⟩
    have hz1 : W1.heap.size = w.heap.size + 1 := by rw [← hW]; simp
    rw [hW] at hR hC hB ⊢
    clear hW h 
    ((with_reducible refine (isMan_any A n c xss _ hR (by omega) hnc).mono ?_); rintro e w2 ⟨rfl, f2⟩)
    rw [hM.out]
    have y2 := f2.size
    have B2 : Below W1.heap.size W1 w2 := f2
    have C2 := (f2.cell (p := ⟨w.heap.size, 0, none⟩) (by simp; omega)).trans hC
    have R2 := hR.below f2 (by omega)
    go_wp2_with fail
    ((with_reducible refine (colouring_any _ A n c xss _ C2 (by omega) R2 (by omega) (by omega) _ rfl hf4 hS.out (by omega) hP.out.conn).mono ?_); rintro e w9 ⟨A9, rfl, o9, f9⟩)
    have B9 : Below W1.heap.size W1 w9 := below_then B2 f9 (by omega)
    go_wp2_with fail
    go_ret2
    exact ⟨_, _, rfl, Lib.hid hF.out.symm, hB.trans (B9.mono (by omega))⟩
end Go.Proofs.YtbioelmofceaaaaGreat
/- RenR -/
namespace Go.Proofs.YtbioelmofceaaaaGreat
set_option linter.unusedVariables false
set_option maxRecDepth 100000
theorem subL_all (xss : List (List Int)) : subL xss 0 xss.length = xss := by unfold subL; simp
theorem ren_facts {xss : List (List Int)} (hP : ManP xss) {N g : Nat} {ps : List Int} (hN : flg xss = N) (hps : isPermP ps) (hl : ps.length = N) (hg : g < N) :
    isManB (xss.map (renL ps)) = true ∧ lstF (xss.map (renL ps)) = (leastGo xss N N, 0) ∧ fcF (xss.map (renL ps)) = (cntsL xss N, 0) ∧ typF (xss.map (renL ps)) = (typL xss N, 0) ∧ oriF (xss.map (renL ps)) = (colB xss N (dist xss N 0), 0) ∧ diaF (xss.map (renL ps)) = (diaGo xss N N, 0) ∧
    isManB (formL xss N (g : Int)) = true ∧ lstF (formL xss N (g : Int)) = (leastGo xss N N, 0) ∧ cmp2 (leastGo xss N N) (formL xss N (g : Int)) ≤ 0 ∧ (leastGo xss N N).length = xss.length ∧ (∀ r ∈ leastGo xss N N, r.length = N) ∧ (∀ r ∈ formL xss N (g : Int), r.length = N) := by
  have hS : SysOf xss N := by rw [← hN]; exact hP.sys
  have hcon : Conn xss N := by rw [← hN]; exact hP.conn
  have hN2 : 2 ≤ N := by rw [← hN]; exact hP.f2
  have hks := ren_sys hS hps hl
  have hI := ren_iso hS hps hl
  have hJ := ren_iso' hS hps hl
  obtain ⟨p0, hp0⟩ : ∃ p, xss[0]? = some p := ⟨_, List.getElem?_eq_getElem hP.r1⟩
  have hfk : flg (xss.map (renL ps)) = N := by
    have h0 : (xss.map (renL ps))[0]? = some (renL ps p0) := by rw [List.getElem?_map, hp0]; rfl
    rw [flg_of h0, renL_length, hl]
  have hMk := man_pull hks hJ hP hN hfk
  obtain ⟨e1, e2, e3, e4, e5⟩ := man_same hMk hP hfk hN hJ hI
  have hkB := isManB_iff.2 hMk
  have hsm := sec_man hP (I := 0) (J := xss.length) (f := (g : Int)) hN hP.r1 (Nat.le_refl _) (by omega) (by omega)
  rw [subL_all, conn_len hS hcon (by omega) (by omega)] at hsm
  obtain ⟨hMf, hff⟩ := hsm
  have hIf := form_iso' hS (show (0 : Int) ≤ (g : Int) by omega) (by omega)
  have hSf := form_sys hS (show (0 : Int) ≤ (g : Int) by omega) (by omega)
  rw [conn_len hS hcon (by omega) (by omega)] at hIf hSf
  obtain ⟨ψ, hJf⟩ := iso_inv hSf hS hIf
  obtain ⟨k1, _⟩ := man_same hMf hP hff hN hIf hJf
  have hfB := isManB_iff.2 hMf
  have hrl : ∀ f : Nat, f < N → ∀ r ∈ formL xss N (f : Int), r.length = N := by
    intro f hf r hr
    obtain ⟨p, _, rfl⟩ := List.mem_map.1 hr
    rw [ixF_length, conn_len hS hcon (by omega) (by omega)]
  obtain ⟨f, hf, ef⟩ := leastGo_form xss N N
  refine ⟨hkB, by unfold lstF; rw [if_pos hkB, hfk, e1], by unfold fcF; rw [if_pos hkB, hfk, e2], by unfold typF; rw [if_pos hkB, hfk, e3], by unfold oriF; rw [if_pos hkB, hfk, e4], by unfold diaF; rw [if_pos hkB, hfk, e5], hfB, by unfold lstF; rw [if_pos hfB, hff, k1], least_le xss N N g (.inl hg), by rw [ef, formL_length], fun r hr => ?_, hrl g hg⟩
  rw [ef] at hr
  exact hrl f (by omega) r hr
end Go.Proofs.YtbioelmofceaaaaGreat
/- RegA -/
namespace Go.Proofs.YtbioelmofceaaaaGreat
open Go.RowKit
set_option linter.unusedVariables false
theorem al_below (w : World) (o : Obj) : Below w.heap.size w (w.alloc o) := (Below.refl _ _).alloc (Nat.le_refl _) _
theorem src_al {w : World} {lo g : Nat} {T : TypeId} {A : Option Addr} {n c : Nat} {bs : List Int} {i h : Nat} (s : Src w lo g T A n c bs i h) (o : Obj) : Src (w.alloc o) lo g T A n c bs i h := s.below (al_below w o) s.lt
theorem al_new2 (w : World) (o : Obj) : (w.alloc o).heap[w.heap.size]? = some o := heap_new _ _ _ rfl
theorem al_kept {v w' : World} {o : Obj} (h : Below (v.alloc o).heap.size (v.alloc o) w') : w'.heap[v.heap.size]? = some o := (h.block _ (by simp)).trans (al_new2 v o)
theorem mz_cell {w : World} {b : Nat} {T : TypeId} {u : Value} (h : w.heap[b]? = some (.cells #[u] T (0, 0))) : w.cell? ⟨b, 0, none⟩ = some u := by rw [cell_of_row _ _ _ _ _ _ h]; rfl
theorem mz_frz {w : World} {b : Nat} {T : TypeId} {u : Value} (h : w.heap[b]? = some (.cells #[u] T (0, 0))) : w.frozen? ⟨b, 0, none⟩ = false := frozen_of_row _ _ _ _ _ h
variable {TM T2 T1 T : TypeId} {A A5 : Option Addr} {wd W : World} {lo5 hi5 n5 c5 n c gd i h b : Nat} {bs : List Int} {u : Value} {yss : List (List Int)}
theorem set_end1 (h1 : T2 ≠ TM) (h2 : T1 ≠ TM) (D : wd.heap[b]? = some (.cells #[u] TM (0, 0))) (hb : W.heap.size ≤ b) (o : OwnS wd lo5 hi5 T2 T1 A5 n5 c5 yss) (C : Chg gd (gd + 1) W wd) (hi : hi5 ≤ wd.heap.size) (v : Value) :
    OwnS (wd.setCell ⟨b, 0, none⟩ v) lo5 hi5 T2 T1 A5 n5 c5 yss ∧ (wd.setCell ⟨b, 0, none⟩ v).cell? ⟨b, 0, none⟩ = some v ∧ b < (wd.setCell ⟨b, 0, none⟩ v).heap.size ∧ hi5 ≤ (wd.setCell ⟨b, 0, none⟩ v).heap.size ∧ Chg gd (gd + 1) W (wd.setCell ⟨b, 0, none⟩ v) :=
  ⟨own_setM h1 h2 o D v, cell_set_same D, by rw [World.size_setCell]; exact (Array.getElem?_eq_some_iff.1 D).1, by rw [World.size_setCell]; exact hi, C.setNew hb v⟩
theorem set_end2 (h1 : T2 ≠ TM) (h2 : T1 ≠ TM) (D : wd.heap[b]? = some (.cells #[u] TM (0, 0))) (hb : W.heap.size ≤ b) (o : OwnS wd lo5 hi5 T2 T1 A5 n5 c5 yss) (C : Chg gd (gd + 1) W wd) (hi : hi5 ≤ wd.heap.size) (sd : Src wd gd gd T A n c bs i h) (hg : gd < W.heap.size) (v : Value) :
    (OwnS (wd.setCell ⟨b, 0, none⟩ v) lo5 hi5 T2 T1 A5 n5 c5 yss ∧ (wd.setCell ⟨b, 0, none⟩ v).cell? ⟨b, 0, none⟩ = some v ∧ b < (wd.setCell ⟨b, 0, none⟩ v).heap.size ∧ hi5 ≤ (wd.setCell ⟨b, 0, none⟩ v).heap.size ∧ Chg gd (gd + 1) W (wd.setCell ⟨b, 0, none⟩ v)) ∧ Src (wd.setCell ⟨b, 0, none⟩ v) gd gd T A n c bs i h :=
  ⟨set_end1 h1 h2 D hb o C hi v, sd.far (p := ⟨b, 0, none⟩) (by simp only; omega) (by simp only; omega) v⟩
end Go.Proofs.YtbioelmofceaaaaGreat
/- Lk5 -/
namespace Go.Proofs.YtbioelmofceaaaaGreat
open Go.RowKit
set_option linter.unusedVariables false
set_option maxRecDepth 100000
set_option maxHeartbeats 2000000 in
theorem likeRows_any (A : Option Addr) (n c : Nat) (xss : List (List Int)) (A' : Option Addr) (n' c' : Nat) (w : World) {lo hi lo' hi' : Nat} (h : RS w lo hi A n xss) (h' : RS w lo' hi' A' n' xss) (hhi : hi ≤ w.heap.size) (hhi' : hi' ≤ w.heap.size) :
    Calls Tryz.prog 29 #[.slice A n c, .slice A' n' c'] w fun e w' => e = .returned (.bool true) ∧ Below w.heap.size w w' := by
  have hm := h.max
  have hl := h.len
  have hl' := h'.len
  obtain rfl : n = n' := by omega
  clear hl hl'
  go_enter Tryz.func29, Tryz.ntmps29
  go_wp2_with fail
  go_loopw [5] (fun iv wq => ∃ k : Nat, k ≤ n ∧ iv = .int .i64 k ∧ Below w.heap.size w wq) (fun iv _ => n - (intOf iv).toNat)
  case atStart => exact ⟨0, by omega, rfl, Below.refl _ _⟩
  case round =>
    obtain ⟨k, hk, rfl, hB⟩ := hrel
    by_cases hlt : k < n
    · have y1 := hB.size
      have Bd := below_drw hB
      obtain ⟨b1, u1, A1, n1, c1, r1, rfl, _, _, hr1, hc1, hR1⟩ := (h.below Bd hhi).at_ hlt
      obtain ⟨b2, u2, A2, n2, c2, r2, rfl, _, _, hr2, hc2, hR2⟩ := (h'.below Bd hhi').at_ hlt
      obtain rfl : r1 = r2 := by rw [hr1] at hr2; exact Option.some.inj hr2
      have hc1' : wr.cell? ⟨b1, u1 + k, none⟩ = some (.slice A1 n1 c1) := hc1
      have hc2' : wr.cell? ⟨b2, u2 + k, none⟩ = some (.slice A2 n2 c2) := hc2
      have hlk := like_any A1 n1 c1 r1 A2 n2 c2 r1 wr.drew _ _ _ _ hR1 hR2 (by simp; omega) (by simp; omega)
      rw [decide_eq_true (rfl : r1 = r1)] at hlk
      replace hr1 := Lib.hid hr1
      replace hr2 := Lib.hid hr2
      replace hlk := Lib.hid hlk
      replace Bd := Lib.hid Bd
      clear hR1 hR2 hc1 hc2
      go_wp2_with fail
      go_region_law? (refine step_call rfl 19 #[.slice A1 n1 c1, .slice A2 n2 c2] (by go_simp) hlk.out ?_; rintro e w6 ⟨rfl, f6⟩; refine ⟨_, rfl, ?_⟩)
      all_goals
        have B6 : Below w.heap.size w w6 := below_then Bd.out f6 (by simp; omega)
        clear f6
        go_wp2_with fail
        go_roundw
        case measure => simp [intOf]; omega
        case rel => exact ⟨k + 1, by omega, by go_num, B6⟩
    · obtain rfl : k = n := by omega
      go_wp2_with fail
      go_ret
      exact ⟨rfl, hB⟩
theorem like5_any (A : Option Addr) (n c : Nat) (xss : List (List Int)) (A' : Option Addr) (n' c' : Nat) (w : World) {lo hi lo' hi' : Nat} (h : RS w lo hi A n xss) (h' : RS w lo' hi' A' n' xss) (hhi : hi ≤ w.heap.size) (hhi' : hi' ≤ w.heap.size) :
    Calls Tryz.prog 8 #[.agg #[.slice A n c], .agg #[.slice A' n' c']] w fun e w' => e = .returned (.bool true) ∧ Below w.heap.size w w' := by
  have hm := h.max
  have hR := rs_alloc (rs_alloc h hhi (.cells #[.slice A n c] 26)) (by simp; omega) (.cells #[.slice A' n' c'] 26)
  have hR' := rs_alloc (rs_alloc h' hhi' (.cells #[.slice A n c] 26)) (by simp; omega) (.cells #[.slice A' n' c'] 26)
  have hB : Below w.heap.size w ((w.alloc (.cells #[.slice A n c] 26)).alloc (.cells #[.slice A' n' c'] 26)) := ((Below.refl _ _).alloc (Nat.le_refl _) _).alloc (by simp) _
  have hC : ((w.alloc (.cells #[.slice A n c] 26)).alloc (.cells #[.slice A' n' c'] 26)).cell? ⟨w.heap.size, 0, none⟩ = some (.slice A n c) := (al_old _ _ _ _ (by simp)).trans (al_new _ _ _ _ rfl)
  have hlk := likeRows_any A n c xss A' n' c' _ hR hR' (by simp; omega) (by simp; omega)
  go_enter Tryz.func8, Tryz.ntmps8
  go_wp2_with fail
  ((with_reducible refine hlk.mono ?_); rintro e w2 ⟨rfl, f2⟩)
  go_wp2_with fail
  go_ret
  exact ⟨rfl, below_then hB f2 (by simp; omega)⟩
end Go.Proofs.YtbioelmofceaaaaGreat
/- Lk6 -/
namespace Go.Proofs.YtbioelmofceaaaaGreat
open Go.RowKit
set_option linter.unusedVariables false
set_option maxRecDepth 100000
theorem same5_any (A : Option Addr) (n c : Nat) (xss : List (List Int)) (A' : Option Addr) (n' c' : Nat) (w : World) {lo hi lo' hi' : Nat} (h : RS w lo hi A n xss) (h' : RS w lo' hi' A' n' xss) (hhi : hi ≤ w.heap.size) (hhi' : hi' ≤ w.heap.size) :
    Calls Tryz.prog 20 #[.slice A n c, .slice A' n' c'] w fun e w' => e = .returned (.bool true) ∧ Below w.heap.size w w' := by
  have hlk := likeRows_any A n c xss A' n' c' w h h' hhi hhi'
  go_enter Tryz.func20, Tryz.ntmps20
  go_wp2_with fail
  ((with_reducible refine hlk.mono ?_); rintro e w2 ⟨rfl, f2⟩)
  go_wp2_with fail
  go_ret
  exact ⟨rfl, f2⟩
set_option maxHeartbeats 4000000 in
theorem least5_any (A : Option Addr) (n c : Nat) (yss : List (List Int)) (A' : Option Addr) (n' c' : Nat) (xss : List (List Int)) (w : World) {lo hi lo' hi' : Nat} (h : RS w lo hi A n yss) (h' : RS w lo' hi' A' n' xss) (hhi : hi ≤ w.heap.size) (hhi' : hi' ≤ w.heap.size) (hnc : n ≤ c) (hnc' : n' ≤ c') (L : List (List Int)) (hL : lstF yss = (L, 0)) (hL' : lstF xss = (L, 0)) :
    Calls Tryz.prog 22 #[.agg #[.slice A n c], .agg #[.slice A' n' c']] w fun e w' => e = .returned (.bool true) ∧ Below w.heap.size w w' := by
  have hm := h.max
  have hm' := h'.max
  have hR := rs_alloc (rs_alloc h hhi (.cells #[.slice A n c] 26)) (by simp; omega) (.cells #[.slice A' n' c'] 26)
  have hR' := rs_alloc (rs_alloc h' hhi' (.cells #[.slice A n c] 26)) (by simp; omega) (.cells #[.slice A' n' c'] 26)
  have hB : Below w.heap.size w ((w.alloc (.cells #[.slice A n c] 26)).alloc (.cells #[.slice A' n' c'] 26)) := ((Below.refl _ _).alloc (Nat.le_refl _) _).alloc (by simp) _
  have hC : ((w.alloc (.cells #[.slice A n c] 26)).alloc (.cells #[.slice A' n' c'] 26)).cell? ⟨w.heap.size, 0, none⟩ = some (.slice A n c) := (al_old _ _ _ _ (by simp)).trans (al_new _ _ _ _ rfl)
  have hC' : ((w.alloc (.cells #[.slice A n c] 26)).alloc (.cells #[.slice A' n' c'] 26)).cell? ⟨w.heap.size + 1, 0, none⟩ = some (.slice A' n' c') := al_new _ _ _ _ (by simp)
  have hl1 := i_LeastForm_any _ A n c yss hR (by simp; omega) hnc
  go_enter Tryz.func22, Tryz.ntmps22
  go_wp2_with fail
  obtain ⟨W1, hW⟩ : ∃ W1 : World, ((w.alloc (.cells #[.slice A n c] 26)).alloc (.cells #[.slice A' n' c'] 26)) = W1 := ⟨_, rfl⟩
  have hz1 : W1.heap.size = w.heap.size + 2 := by rw [← hW]; simp
  rw [hW] at hR hR' hB hC hC' hl1 ⊢
  clear hW h h'
  ((with_reducible refine hl1.mono ?_); rintro e w2 ⟨A2, n2, c2, z2, k2, rfl, H2, o2, hn2, f2⟩)
  obtain ⟨rfl, rfl⟩ := Prod.mk.inj (H2.out.trans hL)
  have y2 := f2.size
  have B2 := below_then hB f2 (by omega)
  have R2 := hR'.below f2 (by omega)
  have Ba : Below w2.heap.size w2 (w2.alloc (.cells #[.slice A2 n2 c2] 26)) := (Below.refl _ _).alloc (Nat.le_refl _) _
  have D2 : (w2.alloc (.cells #[.slice A2 n2 c2] 26)).cell? ⟨w2.heap.size, 0, none⟩ = some (.slice A2 n2 c2) := al_new _ _ _ _ rfl
  have C2 := (f2.cell (p := ⟨w.heap.size + 1, 0, none⟩) (by simp; omega)).trans hC'
  have C3 := (Ba.cell (p := ⟨w.heap.size + 1, 0, none⟩) (by simp; omega)).trans C2
  clear hl1 H2
  go_wp2_with fail
  obtain ⟨w3, hw3⟩ : ∃ w3, w2.alloc (.cells #[.slice A2 n2 c2] 26) = w3 := ⟨_, rfl⟩
  have z3 : w2.heap.size < w3.heap.size := by rw [← hw3]; simp
  rw [hw3] at Ba D2 C3 ⊢
  clear hw3
  have R3 := R2.below Ba (by omega)
  have o3 := o2.below Ba (Nat.le_refl _)
  have B3 := below_then B2 Ba (by omega)
  obtain ⟨b2, hb2⟩ : ∃ b2, w2.heap.size = b2 := ⟨_, rfl⟩
  rw [hb2] at D2 ⊢
  ((with_reducible refine (i_LeastForm_any w3 A' n' c' xss R3 (by omega) hnc').mono ?_); rintro e w4 ⟨A4, n4, c4, z4, k4, rfl, H4, o4, hn4, f4⟩)
  obtain ⟨rfl, rfl⟩ := Prod.mk.inj (H4.out.trans hL').symm
  have y4 := f4.size
  have B4 := below_then B3 f4 (by omega)
  have o5 := o3.below f4 (by omega)
  have Bb : Below w4.heap.size w4 (w4.alloc (.cells #[.slice A4 n4 c4] 26)) := (Below.refl _ _).alloc (Nat.le_refl _) _
  have D4 := (f4.cell (p := ⟨b2, 0, none⟩) (by simp; omega)).trans D2
  have D5 := (Bb.cell (p := ⟨b2, 0, none⟩) (by simp; omega)).trans D4
  have D6 : (w4.alloc (.cells #[.slice A4 n4 c4] 26)).cell? ⟨w4.heap.size, 0, none⟩ = some (.slice A4 n4 c4) := al_new _ _ _ _ rfl
  have hlk := like5_any A2 n2 c2 _ A4 n4 c4 _ (o5.below Bb (by omega)).rs (o4.below Bb (Nat.le_refl _)).rs (by simp; omega) (by simp)
  have B5 := below_then B4 Bb (by omega)
  have y5 := Bb.size
  have e00 : ((0 : Int) == 0) = true := by simp
  clear H4
  go_wp2_with fail
  ((with_reducible refine hlk.mono ?_); rintro e w6 ⟨rfl, f6⟩)
  go_wp2_with fail
  go_ret
  exact ⟨rfl, below_then B5 f6 (by omega)⟩
end Go.Proofs.YtbioelmofceaaaaGreat
