/- Walks: the reference's labels of orbits. Up to 400 points. -/
import Derived.Test.YtbioelmofceaaaaOrbS
namespace Go.Proofs.Ytbioelmofceaaaa
open Go.RowKit
set_option linter.unusedVariables false
set_option maxRecDepth 100000
/-- v at each of the points -/
def mset (ls pts : List Int) (v : Int) : List Int := pts.foldl (fun l y => l.set y.toNat v) ls
theorem mset_snoc (ls pts : List Int) (y v : Int) : mset ls (pts ++ [y]) v = (mset ls pts v).set y.toNat v := by simp [mset]
theorem mset_length (ls pts : List Int) (v : Int) : (mset ls pts v).length = ls.length := by
  unfold mset
  induction pts generalizing ls with
  | nil => rfl
  | cons y t ih => rw [List.foldl_cons, ih]; simp
theorem mset_get {ls pts : List Int} {v : Int} (hp : ∀ y ∈ pts, 0 ≤ y) {z : Nat} (hz : z < ls.length) : (mset ls pts v)[z]? = if (z : Int) ∈ pts then some v else ls[z]? := by
  unfold mset
  induction pts generalizing ls with
  | nil => simp
  | cons y t ih =>
    rw [List.foldl_cons, ih (fun q hq => hp q (by simp [hq])) (by simpa using hz)]
    have hy := hp y (by simp)
    by_cases h1 : (z : Int) ∈ t
    · simp [h1]
    · by_cases h2 : (z : Int) = y
      · subst h2; simp [hz]
      · rw [if_neg h1, if_neg (by simp [h1, h2]), List.getElem?_set_ne (by omega)]
theorem OutI.orbit {list : List (List Int)} {n i : Nat} {ls : List Int} (hs : SysOf list n) (h : OutI list n i ls) (hi : i < n) (ho : ¬ Old list i i) : OutI list n (i + 1) (mset ls (bfs list n i) (cntR list i : Nat)) ∧ cntR list (i + 1) = cntR list i + 1 := by
  have hm := bfs_met hs (show (0 : Int) ≤ i by omega) (show (i : Int) < n by omega)
  have hp : ∀ y ∈ bfs list n i, 0 ≤ y := fun y hy => (hm.rng y hy).1
  have hl := h.len
  have hmem : ∀ z : Nat, (z : Int) ∈ bfs list n i ↔ Rch list i z := fun z => bfs_mem hs (by omega) (by omega)
  refine ⟨⟨by rw [mset_length]; exact hl, fun z hz hzo => ?_, fun z hz hzo => ?_⟩, by rw [cntR_succ, if_pos (root_iff.2 ho)]⟩
  · rw [mset_get hp (by omega)]
    by_cases hr : Rch list i z
    · rw [if_pos ((hmem z).2 hr), labOf_root hs hi ho hr]
    · rw [if_neg (fun hh => hr ((hmem z).1 hh))]
      exact h.old z hz ((Old.new.1 hzo).resolve_right hr)
  · rw [mset_get hp (by omega), if_neg (fun hh => hzo (Old.new.2 (.inr ((hmem z).1 hh))))]
    exact h.new z hz fun hh => hzo (Old.new.2 (.inl hh))
set_option maxHeartbeats 4000000 in
theorem l01Orbits_any (n : Nat) (A : Option Addr) (m c : Nat) (xss : List (List Int)) (w : World) {lo hi : Nat} (h : RS w lo hi A m xss) (hhi : hi ≤ w.heap.size) (hn : n ≤ 400) (hs : SysOf xss n) :
    Calls Try.prog 90 #[.int .i64 n, .slice A m c] w fun e w' => ∃ (A1 : Option Addr) (c1 : Nat), e = .returned (.slice A1 n c1) ∧ Own w' w.heap.size w'.heap.size 2 A1 n c1 ((labL xss n).map (Value.int .i64)) ∧ Below w.heap.size w w' := by
  obtain ⟨j0, hj0, hy0, hy1, hy2⟩ := info_parts infoI
  have hm := h.max
  have hl := Lib.hid h.len
  replace hs := Lib.hid hs
  have h0 := World.ownsRow_lit (e := 2) (base := w.heap.size) (size := 1) w #[] 0 (Nat.le_refl _) (by omega) rfl
  go_enter Try.func90, Try.ntmps90
  go_wp2_with fail
  go_loopw [5, 6] (fun ov iv wr => ∃ (i : Nat) (A1 : Option Addr) (c1 : Nat), i ≤ n ∧ ov = .slice A1 i c1 ∧ iv = .int .i64 i ∧ wr.ownsRow w.heap.size 2 1 (.slice A1 i c1) i ((List.replicate i (-1)).map (Value.int .i64)) ∧ Below w.heap.size w wr) (fun _ iv _ => n - (intOf iv).toNat)
  case atStart => exact ⟨0, _, 0, by omega, rfl, rfl, h0, (Below.refl _ _).alloc (Nat.le_refl _) _⟩
  case round =>
    clear h0
    obtain ⟨i, A1, c1, hi, rfl, rfl, ho, hb⟩ := hrel
    have hsize := hb.size
    by_cases hlt : i < n
    · go_wp2_with (at_builtin; refine wpList_append1 wr rfl (.tmp 17) (.tmp 18) 22 rfl w.heap.size 2 j0 (.int .i64 0) 8 Try.underlying22 hj0 hy0 hy1 hy2 rfl (by omega) _ i c1 _ (.int .i64 (-1)) rfl ho _ rfl rfl rfl (by omega) (by omega) ?_)
      intro g4 c4 w2 ho2 hg2 hlo2 hlt2 hor2
      have hb4 : Below w.heap.size w w2 := hb.grown hg2 hsize (fun q hq => by have := (ho.lt q hq).1; omega)
      clear ho hb hg2
      go_wp2_with fail
      go_roundw
      case measure => simp [intOf]; omega
      case rel => exact ⟨i + 1, _, c4, by omega, rfl, by go_num, by rw [List.replicate_succ']; simpa using ho2, hb4⟩
    · have hin : i = n := by omega
      subst hin
      replace ho := Own.of_row ho
      obtain ⟨w1, rfl⟩ : ∃ w1 : World, w1 = wr := ⟨_, rfl⟩
      go_wp2_with fail
      go_loopw [7, 8] (fun cv iv wr => ∃ (k : Nat) (ls : List Int), k ≤ i ∧ iv = .int .i64 k ∧ cv = .int .i64 (cntR xss k : Nat) ∧ Hid (OutI xss i k ls) ∧ Own wr w.heap.size w1.heap.size 2 A1 i c1 (ls.map (Value.int .i64)) ∧ w1.heap.size ≤ wr.heap.size ∧ Below w.heap.size w wr) (fun _ iv _ => i - (intOf iv).toNat)
      case atStart => exact ⟨0, _, by omega, rfl, rfl, Lib.hid (OutI.zero xss i), ho, Nat.le_refl _, hb⟩
      case round =>
        clear ho hb
        obtain ⟨k, ls, hk, rfl, rfl, hout, ho, hz, hb⟩ := hrel
        have hsize := hb.size
        by_cases hlt : k < i
        · obtain ⟨b, x, rfl, hb1, hb2, hb3, hx, hc, hfr⟩ := ho.atI hlt
          have hcle := cntR_le xss k
          by_cases hold : Old xss k k
          · have hx0 : decide ((0 : Int) ≤ x) = true := by
              have := (hout.out.nonneg hlt).2 hold
              rw [getD_some hx] at this; simpa using this
            obtain ⟨k1, k2⟩ := hout.out.skip hs.out hlt hold
            replace k2 := Lib.hid k2
            replace hx := Lib.hid hx
            clear hold
            go_wp2_with fail
            go_roundw
            case measure => simp [intOf]; omega
            case rel => exact ⟨k + 1, ls, by omega, by go_num, by rw [k2.out], Lib.hid k1, ho, hz, hb⟩
          · have hx0 : decide ((0 : Int) ≤ x) = false := by
              have := mt (hout.out.nonneg hlt).1 hold
              rw [getD_some hx] at this; simpa using this
            obtain ⟨k1, k2⟩ := hout.out.orbit hs.out hlt hold
            replace k1 := Lib.hid k1
            replace k2 := Lib.hid k2
            have hll := hout.out.len
            replace hx := Lib.hid hx
            clear hold
            go_wp2_with fail
            ((with_reducible refine (l01Orbit_any i A m c xss k _ (h.below hb hhi) (by omega) (by omega) hs.out (by omega) (by omega)).mono ?_); rintro e w2 ⟨A2, n2, c2, rfl, ho2, hb2⟩)
            have hz2 := hb2.size
            have hB2 : Below w.heap.size w w2 := hb.trans (hb2.mono hsize)
            have hO2 := ho.below hb2 (by omega)
            have hn2 := ho2.lenI
            have hmet := Lib.hid (bfs_met hs.out (show (0 : Int) ≤ k by omega) (show (k : Int) < i by omega))
            have hnl := hmet.out.len
            clear ho hc hfr hb2 hb
            go_wp2_with fail
            go_loopw [10] (fun qv wq => ∃ (q : Nat), q ≤ n2 ∧ qv = .int .i64 q ∧ Own wq w.heap.size w1.heap.size 2 (some ⟨b, 0, none⟩) i c1 ((mset ls ((bfs xss i k).take q) (cntR xss k : Nat)).map (Value.int .i64)) ∧ Own wq wr.heap.size w2.heap.size 2 A2 n2 c2 ((bfs xss i k).map (Value.int .i64)) ∧ w2.heap.size ≤ wq.heap.size ∧ Below w.heap.size w wq) (fun qv _ => n2 - (intOf qv).toNat)
            case atStart => exact ⟨0, by omega, rfl, hO2, ho2, Nat.le_refl _, hB2⟩
            case round =>
              clear hO2 ho2 hB2
              obtain ⟨q, hq, rfl, ho, ho2, hzq, hb⟩ := hrel
              by_cases hqn : q < n2
              · obtain ⟨b', y, rfl, _, _, _, hy, hyc, _⟩ := ho2.atI hqn
                obtain ⟨hy0', hy1'⟩ := hmet.out.rng y (mem_of_get? hy)
                obtain ⟨y, rfl⟩ : ∃ p : Nat, y = p := ⟨y.toNat, by omega⟩
                have hyi : y < i := by omega
                have hlc := ho.cellI (get?_getD (k := y) 0 (by rw [mset_length]; omega))
                have hfy := ho.frz y
                have hset := ho.setI (b := b) (k := y) (cntR xss k : Nat)
                have hset2 := ho2.far (p := ⟨b, y, none⟩) (.inl (by omega)) (.int .i64 (cntR xss k : Nat))
                have e : (mset ls ((bfs xss i k).take q) (cntR xss k : Nat)).set y (cntR xss k : Nat) = mset ls ((bfs xss i k).take (q + 1)) (cntR xss k : Nat) := by
                  rw [take_succ_of hy, mset_snoc, Int.toNat_natCast]
                rw [e] at hset
                replace hy := Lib.hid hy
                have hb4 : Below w.heap.size w (wr.setCell ⟨b, y, none⟩ (.int .i64 (cntR xss k : Nat))) := hb.setCell (by simp; omega) _
                clear e ho ho2 hb
                go_wp2_with fail
                go_roundw
                case measure => simp [intOf]; omega
                case rel => exact ⟨q + 1, by omega, by go_num, hset, hset2, by simp; omega, hb4⟩
              · have hqe : q = n2 := by omega
                subst hqe
                go_wp2_with fail
                go_roundw
                case measure => simp [intOf]; omega
                case rel =>
                  rw [List.take_of_length_le (by omega)] at ho
                  exact ⟨k + 1, _, by omega, by go_num, by rw [k2.out]; go_num, k1, ho, by omega, hb⟩
        · go_wp2_with fail
          go_ret
          have hke : k = i := by omega
          subst hke
          refine ⟨A1, c1, rfl, ?_, hb⟩
          rw [← hout.out.end_]
          exact ho.more (Nat.le_refl _) hz
end Go.Proofs.Ytbioelmofceaaaa
