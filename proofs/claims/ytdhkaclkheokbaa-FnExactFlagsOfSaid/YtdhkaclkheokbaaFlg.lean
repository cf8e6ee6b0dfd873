/- Walks: the flags of a poset: the program's. No condition but the sizes of memory. -/
import Derived.Test.YtdhkaclkheokbaaFlgG
import Derived.Test.YtdhkaclkheokbaaPos
import Derived.Test.YtdhkaclkheokbaaDf
import Derived.Test.YtdhkaclkheokbaaFormP
import Derived.Deep.RegionHeld3
import Derived.Laws.EntriesVeiled
import Derived.Deep.Cut
import Derived.Deep.CutRange
import Derived.Deep.AppendLies
import Derived.Deep.OwnRows
namespace Go.Proofs.Ytdhkaclkheokbaa
open Go.RowKit
set_option linter.unusedVariables false
set_option maxRecDepth 100000
open Classical
/-- the row of what follows the element f when the elements from F on have been looked at -/
noncomputable def upTo (r : Int) (ps : List Int) (xss : List (List Int)) (n F : Nat) : List (List Int) := (List.range n).map fun f => if F ≤ f then upL r ps xss f n else []
/-- the marks then -/
def reTo (r : Int) (ps : List Int) (xss : List (List Int)) (F j : Nat) : Prop := F ≤ j ∧ Al r ps xss j
/-- within the element e, the elements ahead of f looked at -/
noncomputable def upIn (r : Int) (ps : List Int) (xss : List (List Int)) (n e f : Nat) : List (List Int) := (List.range n).map fun j => if e + 1 ≤ j then upL r ps xss j n else if j = e then upL r ps xss e f else []
def reIn (r : Int) (ps : List Int) (xss : List (List Int)) (e f j : Nat) : Prop := (e + 1 ≤ j ∧ Al r ps xss j) ∨ (j = e ∧ (ps.getD e 0 = r - 1 ∨ upL r ps xss e f ≠ []))
theorem upIn_start {r : Int} {ps : List Int} {xss : List (List Int)} (hp : PosP r ps xss) (n e : Nat) : upTo r ps xss n (e + 1) = upIn r ps xss n e (e + 1) := by
  unfold upTo upIn
  refine List.map_congr_left fun j _ => ?_
  by_cases h : e + 1 ≤ j
  · rw [if_pos h, if_pos h]
  · rw [if_neg h, if_neg h]
    split
    · next h2 => rw [upL_low hp e _ (Nat.le_refl _)]
    · rfl
theorem upIn_end (r : Int) (ps : List Int) (xss : List (List Int)) (n e : Nat) : upIn r ps xss n e n = upTo r ps xss n e := by
  unfold upTo upIn
  refine List.map_congr_left fun j _ => ?_
  by_cases h : e + 1 ≤ j
  · rw [if_pos h, if_pos (by omega)]
  · rw [if_neg h]
    by_cases h2 : j = e
    · rw [if_pos h2, if_pos (by omega), h2]
    · rw [if_neg h2, if_neg (by omega)]
theorem upIn_get {r : Int} {ps : List Int} {xss : List (List Int)} {n e f : Nat} (he : e < n) : (upIn r ps xss n e f)[e]? = some (upL r ps xss e f) := by
  unfold upIn
  rw [List.getElem?_map, List.getElem?_range he]
  have : ¬ e + 1 ≤ e := by omega
  simp [this]
theorem upIn_app {r : Int} {ps : List Int} {xss : List (List Int)} {n e f : Nat} (he : e < n) (h : Up r ps xss e f) : (upIn r ps xss n e f).set e (upL r ps xss e f ++ [(f : Int)]) = upIn r ps xss n e (f + 1) := by
  apply List.ext_getElem?
  intro j
  rw [List.getElem?_set]
  have hl : (upIn r ps xss n e f).length = n := by simp [upIn]
  by_cases hj : j < n
  · by_cases e1 : e = j
    · subst e1
      rw [if_pos rfl, hl, if_pos hj, upIn_get hj, upL_succ, if_pos h]
    · rw [if_neg e1]
      unfold upIn
      rw [List.getElem?_map, List.getElem?_map, List.getElem?_range hj]
      have : ¬ j = e := fun h => e1 h.symm
      simp [this]
  · have hl2 : (upIn r ps xss n e (f + 1)).length = n := by simp [upIn]
    rw [if_neg (by omega), List.getElem?_eq_none (by omega), List.getElem?_eq_none (by omega)]
theorem upIn_pass {r : Int} {ps : List Int} {xss : List (List Int)} {n e f : Nat} (h : ¬ Up r ps xss e f) : upIn r ps xss n e f = upIn r ps xss n e (f + 1) := by
  unfold upIn
  refine List.map_congr_left fun j _ => ?_
  rw [upL_succ, if_neg h, List.append_nil]
theorem reIn_start {r : Int} {ps : List Int} {xss : List (List Int)} (hp : PosP r ps xss) {n e : Nat} (he : e < n) {b : Bool} (hb : b = decide (ps.getD e 0 = r - 1)) : (alR (reTo r ps xss (e + 1)) n).set e b = alR (reIn r ps xss e (e + 1)) n := by
  refine alR_set ?_ fun j hj hne => ?_
  · rw [hb]
    refine decide_eq_decide.2 ⟨fun h => .inr ⟨rfl, .inl h⟩, ?_⟩
    rintro (⟨h, _⟩ | ⟨_, h | h⟩)
    · omega
    · exact h
    · exact absurd (upL_low hp e _ (Nat.le_refl _)) h
  · constructor
    · exact .inl
    · rintro (h | ⟨h, _⟩)
      · exact h
      · exact absurd h hne
theorem reIn_end {r : Int} {ps : List Int} {xss : List (List Int)} {n e : Nat} (hn : ps.length = n) (he : e < n) : alR (reIn r ps xss e n) n = alR (reTo r ps xss e) n := by
  refine alR_congr fun j hj => ?_
  constructor
  · rintro (⟨h1, h2⟩ | ⟨h1, h2⟩)
    · exact ⟨by omega, h2⟩
    · subst h1
      exact ⟨Nat.le_refl _, (al_iff (by omega)).2 (by rw [hn]; exact h2)⟩
  · rintro ⟨h1, h2⟩
    by_cases h3 : j = e
    · subst h3
      exact .inr ⟨rfl, by have := (al_iff (by omega)).1 h2; rwa [hn] at this⟩
    · exact .inl ⟨by omega, h2⟩
theorem reIn_get {r : Int} {ps : List Int} {xss : List (List Int)} {n e f : Nat} (hf : f < n) (hef : e < f) (m : Nat) : (alR (reIn r ps xss e m) n)[f]? = some (decide (Al r ps xss f)) := by
  rw [alR_get hf]
  refine congrArg some (decide_eq_decide.2 ⟨?_, fun h => .inl ⟨by omega, h⟩⟩)
  rintro (⟨_, h⟩ | ⟨h, _⟩)
  · exact h
  · omega
theorem reIn_app {r : Int} {ps : List Int} {xss : List (List Int)} {n e f : Nat} (he : e < n) (h : Up r ps xss e f) : (alR (reIn r ps xss e f) n).set e true = alR (reIn r ps xss e (f + 1)) n := by
  refine alR_set ?_ fun j hj hne => ?_
  · symm
    refine decide_eq_true (.inr ⟨rfl, .inr ?_⟩)
    rw [upL_succ, if_pos h]
    simp
  · constructor
    · rintro (h | ⟨h, _⟩)
      · exact .inl h
      · exact absurd h hne
    · rintro (h | ⟨h, _⟩)
      · exact .inl h
      · exact absurd h hne
theorem reIn_pass {r : Int} {ps : List Int} {xss : List (List Int)} {n e f : Nat} (h : ¬ Up r ps xss e f) : alR (reIn r ps xss e f) n = alR (reIn r ps xss e (f + 1)) n := by
  refine alR_congr fun j hj => ?_
  unfold reIn
  rw [upL_succ, if_neg h, List.append_nil]
theorem allFl_nums {r : Int} {ps : List Int} {xss : List (List Int)} (hr : r ≤ 5) : (allFl r ps xss).length + numsIn (allFl r ps xss) ≤ 1048576 := by
  have h1 := cut4_len (growF r ps xss r.toNat [])
  have h := numsIn_le (xss := allFl r ps xss) (n := 5) (fun p hp => by
    have := growF_len r ps xss r.toNat [] p (List.mem_of_mem_take hp)
    simp at this
    omega)
  unfold allFl at *
  omega
set_option maxHeartbeats 8000000 in
theorem flagsOf_any (w : World) (r : Int) (hr : -9223372036854775808 ≤ r ∧ r ≤ 9223372036854775807) (D : Option Addr) (k e0 : Nat) (ps : List Int) {lo hi : Nat} (g : RI w lo hi D k ps) (hg : hi ≤ w.heap.size) (hke : k ≤ e0) (A : Option Addr) (n c : Nat) (xss : List (List Int)) {lo' hi' : Nat} (h : RS w lo' hi' A n xss) (hhi : hi' ≤ w.heap.size) (hnc : n ≤ c) :
    Calls Try.prog 50 #[.agg #[.int .i64 r, .slice D k e0, .slice A n c]] w fun e' w' => ∃ (A1 : Option Addr) (n1 c1 : Nat) (zss : List (List Int)) (code : Int), e' = .returned (.tuple #[.slice A1 n1 c1, .int .i64 code]) ∧ Hid ((zss, code) = flagF r ps xss) ∧ OwnS w' w.heap.size w'.heap.size 22 2 A1 n1 c1 zss ∧ n1 + numsIn zss ≤ 1048576 ∧ Below w.heap.size w w' := by
  obtain ⟨i0, hi0, hq0, hq1, hq2⟩ := info_parts infoB
  obtain ⟨j0, hj0, hy0, hy1, hy2⟩ := info_parts infoI
  obtain ⟨s0, hs0, hu0, hu1, hu2⟩ := info_parts infoS
  have hl := g.len
  have hl1 := h.len
  have hm := g.max
  have hm1 := h.max
  have hR := rs_alloc h hhi (.cells #[.int .i64 r, .slice D k e0, .slice A n c] 29)
  have hG := ri_alloc g hg (.cells #[.int .i64 r, .slice D k e0, .slice A n c] 29)
  have hB : Below w.heap.size w (w.alloc (.cells #[.int .i64 r, .slice D k e0, .slice A n c] 29)) := (Below.refl _ _).alloc (Nat.le_refl _) _
  have p0 : (w.alloc (.cells #[.int .i64 r, .slice D k e0, .slice A n c] 29)).heap[w.heap.size]? = some (.cells #[.int .i64 r, .slice D k e0, .slice A n c] 29 (0, 0)) := heap_new _ _ _ rfl
  replace p0 := Lib.hid p0
  cases hM : isPosB r ps xss with
  | false =>
    have hF : flagF r ps xss = ([], 1) := by unfold flagF; rw [hM]; rfl
    replace hF := Lib.hid hF
    replace hM := Lib.hid hM
    replace hl := Lib.hid hl
    replace hl1 := Lib.hid hl1
    go_enter Try.func50, Try.ntmps50
    go_wp2_with fail
    obtain ⟨W1, hW⟩ : ∃ W1 : World, (w.alloc (.cells #[.int .i64 r, .slice D k e0, .slice A n c] 29)) = W1 := ⟨_, rfl⟩
    have hz1 : W1.heap.size = w.heap.size + 1 := by rw [← hW]; simp
    rw [hW] at hR hG hB p0 ⊢
    clear hW h g
    ((with_reducible refine (isPoset_any r hr D k e0 ps A n c xss _ hG (by omega) hR (by omega)).mono ?_); rintro e2 w2 ⟨rfl, f2⟩)
    rw [hM.out]
    have y2 := f2.size
    go_wp2_with fail
    go_ret2
    exact ⟨_, 0, _, [], _, rfl, Lib.hid hF.out.symm, OwnS.nil, by simp [numsIn], hB.trans (f2.mono (by omega))⟩
  | true =>
    have hp := isPosB_iff.1 hM
    have hnk : n = k := by have := hp.len; omega
    subst hnk
    have hn5 : n ≤ 500 := by have := hp.n5; omega
    have hr15 : 1 ≤ r ∧ r ≤ 5 := ⟨hp.r1, hp.r5⟩
    have hbig : ∀ (f : Nat) (B : List Int), xss[f]? = some B → B.length ≤ 1048576 := fun f B hB => by have := bel_len (hp.bel f B hB); omega
    have hsrt : ∀ (f : Nat) (B : List Int), xss[f]? = some B → ∀ k, k + 1 < B.length → B.getD k 0 ≤ B.getD (k + 1) 0 := fun f B hB => bel_srt (hp.bel f B hB)
    have hrk : ∀ (k : Nat) (x : Int), ps[k]? = some x → 0 ≤ x ∧ x ≤ r - 1 := fun k x hx => hp.rk x (mem_of_get? hx)
    obtain ⟨R, rfl⟩ : ∃ R : Nat, r = R := ⟨r.toNat, by omega⟩
    have hF : flagF (R : Int) ps xss = if 400 < (allFl (R : Int) ps xss).length then ([], 3) else (allFl (R : Int) ps xss, 0) := by unfold flagF; rw [if_pos hM]
    have hnum := allFl_nums (ps := ps) (xss := xss) hr15.2
    replace hF := Lib.hid hF
    replace hM := Lib.hid hM
    replace hl := Lib.hid hl
    replace hl1 := Lib.hid hl1
    replace hp := Lib.hid hp
    replace hbig := Lib.hid hbig
    replace hsrt := Lib.hid hsrt
    replace hrk := Lib.hid hrk
    replace hnum := Lib.hid hnum
    go_enter Try.func50, Try.ntmps50
    go_wp2_with fail
    obtain ⟨W1, hW⟩ : ∃ W1 : World, (w.alloc (.cells #[.int .i64 (R : Int), .slice D n e0, .slice A n c] 29)) = W1 := ⟨_, rfl⟩
    have hz1 : W1.heap.size = w.heap.size + 1 := by rw [← hW]; simp
    rw [hW] at hR hG hB p0 ⊢
    clear hW h g
    ((with_reducible refine (isPoset_any (R : Int) hr D n e0 ps A n c xss _ hG (by omega) hR (by omega)).mono ?_); rintro e2 w2 ⟨rfl, f2⟩)
    rw [hM.out]
    have y2 := f2.size
    have p2 := (f2.block _ (by omega)).trans p0.out
    have a0 : w2.cell? ⟨w.heap.size, 0, none⟩ = some (.int .i64 (R : Int)) := by rw [cell_of_row _ _ _ _ _ _ p2]; rfl
    have a1 : w2.cell? ⟨w.heap.size, 1, none⟩ = some (.slice D n e0) := by rw [cell_of_row _ _ _ _ _ _ p2]; rfl
    have a2 : w2.cell? ⟨w.heap.size, 2, none⟩ = some (.slice A n c) := by rw [cell_of_row _ _ _ _ _ _ p2]; rfl
    replace p2 := Lib.hid p2
    go_wp2_with fail
    ((with_reducible refine (sizeI_any _ _ _ _ (by omega)).mono ?_); rintro e1 w' ⟨rfl, rfl⟩)
    go_wp2_with (at_make; refine wpList_make_full _ rfl _ _ 23 rfl w2.heap.size 22 s0 (.slice none 0 0) 1 Try.underlying23 hs0 hu0 hu1 _ _ _ _ n rfl rfl rfl rfl ?c1 ?c2 (Nat.le_refl _) ?_)
    case c1 => rw [hu2]; omega
    case c2 => simp only [maxLen]; omega
    intro w3 hown hgw
    have B3 : Below w2.heap.size w2 w3 := (Below.refl _ _).grown hgw (Nat.le_refl _) (by simp)
    have z3 : w2.heap.size < w3.heap.size := (hown.lt w2.heap.size (by simp [Value.ownBlock])).2
    have hown3 : w3.ownsRow w2.heap.size 22 1 (.slice (some ⟨w2.heap.size, 0, none⟩) n n) n (List.replicate n (.slice none 0 0)) := by simpa [toList_madeCells_one, Value.cells] using hown
    clear hown hgw
    have U4 : (w3.alloc (.cells #[.slice (some ⟨w2.heap.size, 0, none⟩) n n] 23)).heap[w3.heap.size]? = some (.cells #[.slice (some ⟨w2.heap.size, 0, none⟩) n n] 23 (0, 0)) := heap_new _ _ _ rfl
    have B4 : Below w2.heap.size w2 (w3.alloc (.cells #[.slice (some ⟨w2.heap.size, 0, none⟩) n n] 23)) := B3.alloc (by omega) _
    have hown4 := hown3.alloc (.cells #[.slice (some ⟨w2.heap.size, 0, none⟩) n n] 23)
    go_upto_region 5 with fail
    obtain ⟨w4, hw4⟩ : ∃ w4 : World, w3.alloc (.cells #[.slice (some ⟨w2.heap.size, 0, none⟩) n n] 23) = w4 := ⟨_, rfl⟩
    have z4 : w4.heap.size = w3.heap.size + 1 := by rw [← hw4]; simp
    rw [hw4] at U4 B4 hown4 ⊢
    clear hw4 hown3 B3
    go_wp2_with (at_make; refine wpList_make_full _ rfl _ _ 88 rfl (w3.heap.size + 1) 4 i0 (.bool false) 1 Try.underlying88 hi0 hq0 hq1 _ _ _ _ n rfl rfl rfl rfl ?c1 ?c2 (by omega) ?_)
    case c1 => rw [hq2]; omega
    case c2 => simp only [maxLen]; omega
    intro w5 hown hgw
    have B5 : Below w4.heap.size w4 w5 := (Below.refl _ _).grown hgw (Nat.le_refl _) (by simp)
    have z5 : w3.heap.size + 1 < w5.heap.size := (hown.lt (w3.heap.size + 1) (by simp [Value.ownBlock])).2
    have oR5 : Own w5 (w3.heap.size + 1) (w3.heap.size + 2) 4 (some ⟨w3.heap.size + 1, 0, none⟩) n n ((alR (reTo (R : Int) ps xss n) n).map Value.bool) := by
      rw [alR_false _ n (fun j hj => by unfold reTo; omega)]
      refine ⟨?_, fun a ha => by cases ha; simp⟩
      simpa [toList_madeCells_one, Value.cells] using hown
    have oU5 : w5.ownsRow w2.heap.size 22 1 (.slice (some ⟨w2.heap.size, 0, none⟩) n n) n (List.replicate n (.slice none 0 0)) := hown4.kept hgw (.inr (by simp [Value.ownBlock]))
    have U5 := (B5.block w3.heap.size (by omega)).trans U4
    have hb5 : Below w2.heap.size w2 w5 := B4.trans (B5.mono (by omega))
    have hV5 : RowsOwn w5 w5.heap.size w5.heap.size 2 (List.replicate n (.slice none 0 0)) (upTo (R : Int) ps xss n n) := RowsOwn.nils _ _ _ _ _ (fun j hj => by simp; omega)
    replace U5 := Lib.hid U5
    clear hown hgw U4 B4 hown4 B5
    go_wp2_with fail
    go_loopw [7] (fun ev wq => ∃ (F : Nat) (v : Int) (vs : List Value), F ≤ n ∧ Hid (v = (F : Int) - 1) ∧ ev = .int .i64 v ∧ -1 ≤ v ∧ v < n ∧ Hid (wq.heap[w3.heap.size]? = some (.cells #[.slice (some ⟨w2.heap.size, 0, none⟩) n n] 23 (0, 0))) ∧ wq.ownsRow w2.heap.size 22 1 (.slice (some ⟨w2.heap.size, 0, none⟩) n n) n vs ∧ RowsOwn wq w5.heap.size wq.heap.size 2 vs (upTo (R : Int) ps xss n F) ∧
      Own wq (w3.heap.size + 1) (w3.heap.size + 2) 4 (some ⟨w3.heap.size + 1, 0, none⟩) n n ((alR (reTo (R : Int) ps xss F) n).map Value.bool) ∧ Below w2.heap.size w2 wq ∧ w5.heap.size ≤ wq.heap.size) (fun ev _ => (intOf ev + 1).toNat)
    case atStart => exact ⟨n, _, _, by omega, Lib.hid rfl, rfl, by omega, by omega, U5, oU5, hV5, oR5, hb5, Nat.le_refl _⟩
    case round =>
      clear U5 oU5 hV5 oR5 hb5 a0 a1 a2
      obtain ⟨F, v, vs, hFn, hv, rfl, hv0, hv1, hub, oU, hV, oR, hb, hzz⟩ := hrel
      have hP := ((hb.block w.heap.size (by omega)).trans p2.out)
      have a0 : wr.cell? ⟨w.heap.size, 0, none⟩ = some (.int .i64 (R : Int)) := by rw [cell_of_row _ _ _ _ _ _ hP]; rfl
      have a1 : wr.cell? ⟨w.heap.size, 1, none⟩ = some (.slice D n e0) := by rw [cell_of_row _ _ _ _ _ _ hP]; rfl
      have a2 : wr.cell? ⟨w.heap.size, 2, none⟩ = some (.slice A n c) := by rw [cell_of_row _ _ _ _ _ _ hP]; rfl
      replace hP := Lib.hid hP
      by_cases h0 : 0 ≤ v
      · obtain ⟨e, rfl⟩ : ∃ z : Nat, v = z := ⟨v.toNat, by omega⟩
        have hFe : F = e + 1 := by have := hv.out; omega
        subst hFe
        have hen : e < n := by omega
        obtain ⟨bD, oD, xe, hDe, _, _, hxe, hcx0⟩ := hG.at_ hen
        subst hDe
        have hcx := (hb.cell (p := ⟨bD, oD + e, none⟩) (by simp; omega)).trans ((f2.cell (p := ⟨bD, oD + e, none⟩) (by simp; omega)).trans hcx0)
        obtain ⟨hx0, hx1⟩ := hrk.out e xe hxe
        have hgx : ps.getD e 0 = xe := getD_some hxe
        have hcm := oR.cellV (k := e) (v := .bool (decide (reTo (R : Int) ps xss (e + 1) e))) (by rw [List.getElem?_map, alR_get hen]; rfl)
        have hfm := oR.frz e
        have hw1 : IntKind.i64.wrap ((R : Int) - 1) = (R : Int) - 1 := by rw [IntKind.wrap_i64]; omega
        have k1 : ∀ v, (wr.setCell ⟨w3.heap.size + 1, e, none⟩ v).cell? ⟨w.heap.size, 0, none⟩ = some (.int .i64 (R : Int)) := fun v => (cell_far_set _ _ _ _ (by simp; omega)).trans a0
        have k2 : ∀ v, (wr.setCell ⟨w3.heap.size + 1, e, none⟩ v).cell? ⟨w.heap.size, 1, none⟩ = some (.slice (some ⟨bD, oD, none⟩) n e0) := fun v => (cell_far_set _ _ _ _ (by simp; omega)).trans a1
        have k3 : ∀ v, (wr.setCell ⟨w3.heap.size + 1, e, none⟩ v).cell? ⟨bD, oD + e, none⟩ = some (.int .i64 xe) := fun v => (cell_far_set _ _ _ _ (by simp; omega)).trans hcx
        have hst := reIn_start (r := (R : Int)) (xss := xss) (n := n) (e := e) (b := (xe == (R : Int) - 1)) hp.out hen (by rw [hgx]; rfl)
        have hus := upIn_start (r := (R : Int)) hp.out n e
        replace hgx := Lib.hid hgx
        replace hxe := Lib.hid hxe
        replace hst := Lib.hid hst
        replace hus := Lib.hid hus
        go_wp2_with fail
        go_region_held3 (fun w' => w'.cell? ⟨w.heap.size, 0, none⟩ = some (.int .i64 (R : Int)) ∧ w'.cell? ⟨w.heap.size, 1, none⟩ = some (.slice (some ⟨bD, oD, none⟩) n e0) ∧ w'.cell? ⟨bD, oD + e, none⟩ = some (.int .i64 xe)) (first | go_keep | exact ⟨k1 _, k2 _, k3 _⟩) (fail)
        have hgro := (oR.1.stored e (.bool (xe == (R : Int) - 1))).2
        have oR2 := oR.set (b := w3.heap.size + 1) (k := e) (.bool (xe == (R : Int) - 1))
        rw [← List.map_set, hst.out] at oR2
        have oU2 := own_kept_ty oU oR.1 (by decide) hgro
        have hV2 := hV.keep (same_set wr ⟨w3.heap.size + 1, e, none⟩ (.bool (xe == (R : Int) - 1)) w5.heap.size wr.heap.size (.inl (by simp; omega)))
        have hub2 : (wr.setCell ⟨w3.heap.size + 1, e, none⟩ (.bool (xe == (R : Int) - 1))).heap[w3.heap.size]? = _ := (heap_setCell_other _ _ _ _ (by simp)).trans hub.out
        have hb2 := hb.setCell (p := ⟨w3.heap.size + 1, e, none⟩) (by simp; omega) (.bool (xe == (R : Int) - 1))
        have hz2 : (wr.setCell ⟨w3.heap.size + 1, e, none⟩ (.bool (xe == (R : Int) - 1))).heap.size = wr.heap.size := World.size_setCell _ _ _
        clear k1 k2 k3 hw1 a0 a1 a2 hcx hcm hfm hgro oR oU hV hub hb
        generalize (wr.setCell ⟨w3.heap.size + 1, e, none⟩ (.bool (xe == (R : Int) - 1))) = wm at *
        rw [← hz2] at hV2 hzz
        clear hz2
        rw [hus.out] at hV2
        replace hub2 := Lib.hid hub2
        clear hst hus
        go_wp2_with fail
        go_loopw [8] (fun fv wq => ∃ (f : Nat) (vs2 : List Value), e + 1 ≤ f ∧ f ≤ n ∧ fv = .int .i64 f ∧ Hid (wq.heap[w3.heap.size]? = some (.cells #[.slice (some ⟨w2.heap.size, 0, none⟩) n n] 23 (0, 0))) ∧ wq.ownsRow w2.heap.size 22 1 (.slice (some ⟨w2.heap.size, 0, none⟩) n n) n vs2 ∧ RowsOwn wq w5.heap.size wq.heap.size 2 vs2 (upIn (R : Int) ps xss n e f) ∧
          Own wq (w3.heap.size + 1) (w3.heap.size + 2) 4 (some ⟨w3.heap.size + 1, 0, none⟩) n n ((alR (reIn (R : Int) ps xss e f) n).map Value.bool) ∧ Below w2.heap.size w2 wq ∧ w5.heap.size ≤ wq.heap.size) (fun fv _ => n - (intOf fv).toNat)
        case atStart => exact ⟨e + 1, vs, by omega, by omega, by go_num, hub2, oU2, hV2, oR2, below_drew hb2, hzz⟩
        case round =>
          clear hub2 oU2 hV2 oR2 hb2 hzz
          obtain ⟨f, vs2, hf1, hf2, rfl, hub, oU, hV, oR, hb, hzz⟩ := hrel
          have hP := ((hb.block w.heap.size (by omega)).trans p2.out)
          have a0 : wr.cell? ⟨w.heap.size, 0, none⟩ = some (.int .i64 (R : Int)) := by rw [cell_of_row _ _ _ _ _ _ hP]; rfl
          have a1 : wr.cell? ⟨w.heap.size, 1, none⟩ = some (.slice (some ⟨bD, oD, none⟩) n e0) := by rw [cell_of_row _ _ _ _ _ _ hP]; rfl
          have a2 : wr.cell? ⟨w.heap.size, 2, none⟩ = some (.slice A n c) := by rw [cell_of_row _ _ _ _ _ _ hP]; rfl
          replace hP := Lib.hid hP
          by_cases hfn : f < n
          · obtain ⟨bD', oD', xf, hDe, _, _, hxf, hcf0⟩ := hG.at_ hfn
            injection hDe with hDe
            injection hDe with hDe1 hDe2 _
            subst hDe1; subst hDe2
            have hcf := (hb.cell (p := ⟨bD, oD + f, none⟩) (by simp; omega)).trans ((f2.cell (p := ⟨bD, oD + f, none⟩) (by simp; omega)).trans hcf0)
            have hce := (hb.cell (p := ⟨bD, oD + e, none⟩) (by simp; omega)).trans ((f2.cell (p := ⟨bD, oD + e, none⟩) (by simp; omega)).trans hcx0)
            obtain ⟨hf0, hf9⟩ := hrk.out f xf hxf
            have hgf : ps.getD f 0 = xf := getD_some hxf
            have hcm := oR.cellV (k := f) (v := .bool (decide (Al (R : Int) ps xss f))) (by rw [List.getElem?_map, reIn_get hfn (by omega)]; rfl)
            have hRw : RS wr lo' hi' A n xss := (hR.below f2 (by omega)).below hb (by omega)
            have hbel : ∀ q, Calls Try.prog 76 #[.pointer (some ⟨w.heap.size, 0, none⟩), .int .i64 (e : Int), .int .i64 (f : Int)] (wr.drewN q) fun e' w' => e' = .returned (.bool (inBl xss (e : Int) (f : Int))) ∧ wr.drewN q = w' := fun q => isBelow_any w.heap.size A n c xss (e : Int) f (wr.drewN q) a2 hRw hfn (hbig.out f) (hsrt.out f)
            replace hgf := Lib.hid hgf
            replace hxf := Lib.hid hxf
            replace hbel := Lib.hid hbel
            have hinb : inBl xss (e : Int) (f : Int) = decide ((e : Int) ∈ xss.getD f []) := by unfold inBl; rw [Int.toNat_natCast]
            go_upto_region 13 with fail
            go_cut [70] from 48 to 83 (fun s70 wx => s70 = .bool (decide (Up (R : Int) ps xss e f)) ∧ ∃ q, wx = wr.drewN q)
            case first =>
              by_cases h1 : Al (R : Int) ps xss f
              · rw [decide_eq_true h1] at hcm
                have hw2 : IntKind.i64.wrap (xe + 1) = xe + 1 := by rw [IntKind.wrap_i64]; omega
                by_cases h2 : xf = xe + 1
                · have hd : (xf == xe + 1) = true := by simp; omega
                  have hF : decide (Up (R : Int) ps xss e f) = inBl xss (e : Int) (f : Int) := by
                    rw [hinb]
                    exact decide_eq_decide.2 ⟨fun h => h.2.1, fun h => ⟨by rw [hgf.out, hgx.out]; exact h2, h, h1⟩⟩
                  replace hF := Lib.hid hF
                  replace h1 := Lib.hid h1
                  replace h2 := Lib.hid h2
                  replace hinb := Lib.hid hinb
                  go_wp2_with fail
                  go_quiet ((go_at_call 76; exact quiet_left (hbel.out _)))
                  go_wp2_with fail
                  go_meet
                  exact ⟨by rw [hF.out], _, rfl⟩
                · have hd : (xf == xe + 1) = false := by simp; omega
                  have hF : decide (Up (R : Int) ps xss e f) = false := decide_eq_false fun h => h2 (by have := h.1; rw [hgf.out, hgx.out] at this; exact this)
                  replace hF := Lib.hid hF
                  replace h1 := Lib.hid h1
                  replace h2 := Lib.hid h2
                  replace hinb := Lib.hid hinb
                  go_wp2_with fail
                  go_quiet (fail)
                  go_wp2_with fail
                  go_meet
                  exact ⟨by rw [hF.out], _, rfl⟩
              · rw [decide_eq_false h1] at hcm
                have hF : decide (Up (R : Int) ps xss e f) = false := decide_eq_false fun h => h1 h.2.2
                replace hF := Lib.hid hF
                replace h1 := Lib.hid h1
                replace hinb := Lib.hid hinb
                go_wp2_with fail
                go_quiet (fail)
                go_wp2_with fail
                go_meet
                exact ⟨by rw [hF.out], _, rfl⟩
            case rest =>
              obtain ⟨rfl, q, rfl⟩ := hcut
              clear hcf hce hcm hbel hinb
              by_cases hU : Up (R : Int) ps xss e f
              · skip
                have hst := reIn_app hen hU
                have hus := upIn_app hen hU
                rw [decide_eq_true hU]
                have hb3 := below_dn hb q
                obtain ⟨wy, hwy⟩ : ∃ wy : World, wr.drewN q = wy := ⟨_, rfl⟩
                have hzy : wy.heap.size = wr.heap.size := by rw [← hwy]; rfl
                have hub' : wy.heap[w3.heap.size]? = some (.cells #[.slice (some ⟨w2.heap.size, 0, none⟩) n n] 23 (0, 0)) := by rw [← hwy]; exact hub.out
                have oU' : wy.ownsRow w2.heap.size 22 1 (.slice (some ⟨w2.heap.size, 0, none⟩) n n) n vs2 := by rw [← hwy]; exact oU
                have hV' : RowsOwn wy w5.heap.size wy.heap.size 2 vs2 (upIn (R : Int) ps xss n e f) := by rw [hzy, ← hwy]; exact hV
                have oR' : Own wy (w3.heap.size + 1) (w3.heap.size + 2) 4 (some ⟨w3.heap.size + 1, 0, none⟩) n n ((alR (reIn (R : Int) ps xss e f) n).map Value.bool) := by rw [← hwy]; exact oR
                rw [hwy] at hb3 ⊢
                have hzzy : w5.heap.size ≤ wy.heap.size := by omega
                clear hwy hub oU hV oR hb hRw hzz hzy
                obtain ⟨vj, hvj⟩ : ∃ v, vs2[e]? = some v := ⟨_, List.getElem?_eq_getElem (by have := oU'.1; simp at this; omega)⟩
                have hyj := upIn_get (r := (R : Int)) (ps := ps) (xss := xss) (f := f) hen
                obtain ⟨Aj, nj, cj, rfl, hoj⟩ := hV'.2.2 e vj _ hvj hyj
                have hcj : wy.cell? ⟨w2.heap.size, e, none⟩ = some (.slice Aj nj cj) := by rw [oU'.cellAt e (by omega)]; exact hvj
                have hcu : wy.cell? ⟨w3.heap.size, 0, none⟩ = some (.slice (some ⟨w2.heap.size, 0, none⟩) n n) := by rw [cell_of_row _ _ _ _ _ _ hub']; rfl
                have hnj : nj ≤ n := by have h1 := hoj.lenI; have h2 := upL_len (R : Int) ps xss e f; omega
                have ob5 : ∀ z, (Value.slice Aj nj cj).ownBlock = some z → w5.heap.size ≤ z ∧ z < wy.heap.size := fun z hz => ⟨(hoj.1.lt z hz).1, (hoj.1.lt z hz).2⟩
                have hown' : Hid ((wy.alloc (.cells #[.int .i64 (f : Int)] 2)).drew.ownsRow w5.heap.size 2 1 (.slice Aj nj cj) nj ((upL (R : Int) ps xss e f).map (Value.int .i64))) := Lib.hid (hoj.1.alloc _)
                have hnew' : Hid (∀ z v, [Value.int .i64 (f : Int)][z]? = some v → (wy.alloc (.cells #[.int .i64 (f : Int)] 2)).drew.cell? ((⟨wy.heap.size, 0, none⟩ : Addr).add z) = some v) := Lib.hid (cell_one_new wy _ _)
                have hml : Hid (nj + 1 ≤ maxLen) := Lib.hid (by simp only [maxLen]; omega)
                have hbs : Hid (w5.heap.size ≤ (wy.alloc (.cells #[.int .i64 (f : Int)] 2)).drew.heap.size) := Lib.hid (by simp; omega)
                have hsa : (wy.alloc (.cells #[.int .i64 (f : Int)] 2)).drew.heap.size = wy.heap.size + 1 := by simp
                have hOa : Hid ((wy.alloc (.cells #[.int .i64 (f : Int)] 2)).drew.heap[w3.heap.size]? = some (.cells #[.slice (some ⟨w2.heap.size, 0, none⟩) n n] 23 (0, 0))) := Lib.hid ((Below.heap_alloc _ _ _ (by omega)).trans hub')
                have oUa : (wy.alloc (.cells #[.int .i64 (f : Int)] 2)).drew.ownsRow w2.heap.size 22 1 (.slice (some ⟨w2.heap.size, 0, none⟩) n n) n vs2 := oU'.alloc _
                have oRa : Own (wy.alloc (.cells #[.int .i64 (f : Int)] 2)).drew (w3.heap.size + 1) (w3.heap.size + 2) 4 (some ⟨w3.heap.size + 1, 0, none⟩) n n ((alR (reIn (R : Int) ps xss e f) n).map Value.bool) := oR'.keep (same_alloc _ _ _ _ (by omega))
                have hVa : RowsOwn (wy.alloc (.cells #[.int .i64 (f : Int)] 2)).drew w5.heap.size wy.heap.size 2 vs2 (upIn (R : Int) ps xss n e f) := hV'.keep (same_alloc _ _ _ _ (Nat.le_refl _))
                have hba : Below w2.heap.size w2 (wy.alloc (.cells #[.int .i64 (f : Int)] 2)).drew := below_drew (hb3.alloc (by omega) _)
                have ya : (wy.alloc (.cells #[.int .i64 (f : Int)] 2)).cell? ⟨w3.heap.size, 0, none⟩ = some (.slice (some ⟨w2.heap.size, 0, none⟩) n n) := (al_old _ _ _ _ (by omega)).trans hcu
                have yb : (wy.alloc (.cells #[.int .i64 (f : Int)] 2)).cell? ⟨w2.heap.size, e, none⟩ = some (.slice Aj nj cj) := (al_old _ _ _ _ (by omega)).trans hcj
                replace oUa := Lib.hid oUa
                replace oRa := Lib.hid oRa
                replace hVa := Lib.hid hVa
                replace hba := Lib.hid hba
                replace hsa := Lib.hid hsa
                replace hvj := Lib.hid hvj
                replace hyj := Lib.hid hyj
                replace hU := Lib.hid hU
                replace hst := Lib.hid hst
                replace hus := Lib.hid hus
                replace hoj := Lib.hid hoj
                replace hV' := Lib.hid hV'
                replace oU' := Lib.hid oU'
                replace oR' := Lib.hid oR'
                replace hub' := Lib.hid hub'
                go_wp2_with fail
                go_region_law (refine step_append_lies _ (by rfl) (.tmp 76) (.tmp 78) 22 (by rfl) w5.heap.size 2 j0 (.int .i64 0) 1 8 Try.underlying22 hj0 hy0 hy1 hy2 rfl (by decide) (.slice Aj nj cj) nj ((upL (R : Int) ps xss e f).map (Value.int .i64)) (by rfl) hown'.out ⟨wy.heap.size, 0, none⟩ 1 1 [.int .i64 (f : Int)] (by rfl) rfl hnew'.out (by simp [Value.oneCell']) (by decide) hml.out (by omega) hbs.out (wy.heap.size + 1) (by simp) ?_; intro g4 c4 w7 ho7 hg7 hor7 hlt7; have hO7 := (hg7.block w3.heap.size (by rw [hsa.out]; omega) (fun e => by have := (ob5 _ e.symm).1; omega)).trans hOa.out; have K5 : w7.cell? ⟨w3.heap.size, 0, none⟩ = some (.slice (some ⟨w2.heap.size, 0, none⟩) n n) := (cell_of_row _ _ _ _ _ _ hO7).trans rfl; have oB7 := own_kept_ty oUa.out hown'.out (by decide) hg7; have K6 : w7.cell? ⟨w2.heap.size, e, none⟩ = some (.slice Aj nj cj) := (oB7.cellAt e (by omega)).trans hvj.out; have F6 : w7.frozen? ⟨w2.heap.size, e, none⟩ = false := oB7.frozenAt e; clear oB7; replace hO7 := Lib.hid hO7)
                all_goals
                  clear hcj hcu K5 K6 F6 hO7 ya yb
                  have hz7 := hg7.size
                  rw [hsa.out] at hz7
                  have hO7 := (hg7.block w3.heap.size (by rw [hsa.out]; omega) (fun e => by have := (ob5 _ e.symm).1; omega)).trans hOa.out
                  have oU7 := own_kept_ty oUa.out hown'.out (by decide) hg7
                  have oR7 := oRa.out.kept_ty hown'.out (by decide) hg7
                  have hV7 := hVa.out.app hvj.out hyj.out (x := (f : Int)) (by rw [List.map_append]; exact ho7) hg7 (by rcases hor7 with h | h; exact .inl h; exact .inr (by omega)) (by omega)
                  have hb7 := hba.out.grown hg7 (by rw [hsa.out]; omega) (fun z hz => by have := (ob5 z hz).1; omega)
                  have hst7 := oU7.stored e (.slice (some ⟨g4, 0, none⟩) (nj + 1) c4)
                  rw [hus.out] at hV7
                  have hO8 : (w7.setCell ⟨w2.heap.size, e, none⟩ (.slice (some ⟨g4, 0, none⟩) (nj + 1) c4)).heap[w3.heap.size]? = some (.cells #[.slice (some ⟨w2.heap.size, 0, none⟩) n n] 23 (0, 0)) := (heap_setCell_other _ _ _ _ (by simp; omega)).trans hO7
                  have oR8 := oR7.kept_ty oU7 (by decide) hst7.2
                  have hV8 := hV7.keep (same_set w7 ⟨w2.heap.size, e, none⟩ (.slice (some ⟨g4, 0, none⟩) (nj + 1) c4) w5.heap.size w7.heap.size (.inl (by simp; omega)))
                  have hb8 := hb7.setCell (p := ⟨w2.heap.size, e, none⟩) (by simp) (.slice (some ⟨g4, 0, none⟩) (nj + 1) c4)
                  have oU8 := hst7.1
                  have hz8 : (w7.setCell ⟨w2.heap.size, e, none⟩ (.slice (some ⟨g4, 0, none⟩) (nj + 1) c4)).heap.size = w7.heap.size := World.size_setCell _ _ _
                  rw [← hz8] at hV8 hz7
                  clear hz8
                  generalize (w7.setCell ⟨w2.heap.size, e, none⟩ (.slice (some ⟨g4, 0, none⟩) (nj + 1) c4)) = w8 at *
                  generalize vs2.set e (.slice (some ⟨g4, 0, none⟩) (nj + 1) c4) = vs3 at *
                  clear hO7 oU7 oR7 hV7 hb7 hst7 ho7 hg7 hor7 hlt7 hV' oU' oR' hVa oUa oRa hba hOa hown' hnew' hub' hb3 hsa hvj hyj hoj hbs
                  have hcm8 := oR8.cellV (k := e) (v := .bool (decide (reIn (R : Int) ps xss e f e))) (by rw [List.getElem?_map, alR_get hen]; rfl)
                  have hfm8 := oR8.frz e
                  have hgro := (oR8.1.stored e (.bool true)).2
                  have oR9 := oR8.set (b := w3.heap.size + 1) (k := e) (.bool true)
                  rw [← List.map_set, hst.out] at oR9
                  have oU9 := own_kept_ty oU8 oR8.1 (by decide) hgro
                  have hV9 := hV8.keep (same_set w8 ⟨w3.heap.size + 1, e, none⟩ (.bool true) w5.heap.size w8.heap.size (.inl (by simp; omega)))
                  have hO9 : (w8.setCell ⟨w3.heap.size + 1, e, none⟩ (.bool true)).heap[w3.heap.size]? = some (.cells #[.slice (some ⟨w2.heap.size, 0, none⟩) n n] 23 (0, 0)) := (heap_setCell_other _ _ _ _ (by simp)).trans hO8
                  have hb9 := hb8.setCell (p := ⟨w3.heap.size + 1, e, none⟩) (by simp; omega) (.bool true)
                  have hz9 : (w8.setCell ⟨w3.heap.size + 1, e, none⟩ (.bool true)).heap.size = w8.heap.size := World.size_setCell _ _ _
                  rw [← hz9] at hV9 hz7
                  replace hO9 := Lib.hid hO9
                  clear oR8 oU8 hV8 hO8 hb8 hgro
                  go_wp2_with fail
                  go_roundw
                  case measure => simp [intOf]; omega
                  case rel => exact ⟨f + 1, vs3, by omega, by omega, by go_num, hO9, oU9, hV9, oR9, hb9, by omega⟩
              · have hst := reIn_pass (n := n) hU
                have hus := upIn_pass (n := n) hU
                rw [hst] at oR
                rw [hus] at hV
                rw [decide_eq_false hU]
                replace hU := Lib.hid hU
                clear hst hus
                have hb3 := below_dn hb q
                go_wp2_with fail
                go_roundw
                case measure => simp [intOf]; omega
                case rel => exact ⟨f + 1, vs2, by omega, by omega, by go_num, hub, oU, hV, oR, hb3, hzz⟩
          · have hfn' : f = n := by omega
            subst hfn'
            rw [reIn_end hl.out hen] at oR
            rw [upIn_end] at hV
            go_wp2_with fail
            go_roundw
            case measure => first | (simp [intOf]; done) | (simp [intOf]; omega)
            case rel => exact ⟨e, _, vs2, by omega, Lib.hid rfl, rfl, by omega, by omega, hub, oU, hV, oR, hb, hzz⟩
      · have hF0 : F = 0 := by have := hv.out; omega
        subst hF0
        have hd0 : decide (v ≥ 0) = false := by simp; omega
        have e1 : alR (reTo (R : Int) ps xss 0) n = alR (Al (R : Int) ps xss) n := alR_congr fun j hj => ⟨fun h => h.2, fun h => ⟨by omega, h⟩⟩
        have e2 : upTo (R : Int) ps xss n 0 = (List.range n).map fun f => upL (R : Int) ps xss f n := List.map_congr_left fun f _ => if_pos (by omega)
        rw [e1] at oR
        rw [e2] at hV
        clear e1 e2
        go_wp2_with fail
        obtain ⟨wo, rfl⟩ : ∃ wo : World, wo = wr := ⟨_, rfl⟩
        have G0 : ((wo.alloc (.cells #[.slice none 0 0] 23)).alloc (.cells #[(.func (.func 77) #[] #[.pointer (some ⟨wo.heap.size, 0, none⟩), .pointer (some ⟨w.heap.size, 0, none⟩), .pointer (some ⟨wo.heap.size + 1, 0, none⟩), .pointer (some ⟨w3.heap.size, 0, none⟩)])] 91)).heap[wo.heap.size]? = some (.cells #[.slice none 0 0] 23 (0, 0)) := (Below.heap_alloc _ _ _ (by simp)).trans (heap_new _ _ _ rfl)
        have Q0 : ((wo.alloc (.cells #[.slice none 0 0] 23)).alloc (.cells #[(.func (.func 77) #[] #[.pointer (some ⟨wo.heap.size, 0, none⟩), .pointer (some ⟨w.heap.size, 0, none⟩), .pointer (some ⟨wo.heap.size + 1, 0, none⟩), .pointer (some ⟨w3.heap.size, 0, none⟩)])] 91)).cell? ⟨wo.heap.size + 1, 0, none⟩ = some (.func (.func 77) #[] #[.pointer (some ⟨wo.heap.size, 0, none⟩), .pointer (some ⟨w.heap.size, 0, none⟩), .pointer (some ⟨wo.heap.size + 1, 0, none⟩), .pointer (some ⟨w3.heap.size, 0, none⟩)]) := al_new _ _ _ _ (by simp)
        have hb7 : Below wo.heap.size wo ((wo.alloc (.cells #[.slice none 0 0] 23)).alloc (.cells #[(.func (.func 77) #[] #[.pointer (some ⟨wo.heap.size, 0, none⟩), .pointer (some ⟨w.heap.size, 0, none⟩), .pointer (some ⟨wo.heap.size + 1, 0, none⟩), .pointer (some ⟨w3.heap.size, 0, none⟩)])] 91)) := ((Below.refl _ _).alloc (Nat.le_refl _) _).alloc (by simp) _
        have hs7 : ((wo.alloc (.cells #[.slice none 0 0] 23)).alloc (.cells #[(.func (.func 77) #[] #[.pointer (some ⟨wo.heap.size, 0, none⟩), .pointer (some ⟨w.heap.size, 0, none⟩), .pointer (some ⟨wo.heap.size + 1, 0, none⟩), .pointer (some ⟨w3.heap.size, 0, none⟩)])] 91)).heap.size = wo.heap.size + 2 := by simp
        obtain ⟨W7, hW7⟩ : ∃ W7 : World, ((wo.alloc (.cells #[.slice none 0 0] 23)).alloc (.cells #[(.func (.func 77) #[] #[.pointer (some ⟨wo.heap.size, 0, none⟩), .pointer (some ⟨w.heap.size, 0, none⟩), .pointer (some ⟨wo.heap.size + 1, 0, none⟩), .pointer (some ⟨w3.heap.size, 0, none⟩)])] 91)) = W7 := ⟨_, rfl⟩
        rw [hW7] at G0 Q0 hb7 hs7 ⊢
        clear hW7
        have U7 := (hb7.block w3.heap.size (by omega)).trans hub.out
        have oU7 : Own W7 w2.heap.size wo.heap.size 22 (some ⟨w2.heap.size, 0, none⟩) n n vs := (Own.of_row oU).below hb7 (Nat.le_refl _)
        have hV7 := hV.keep (Same.of_below hb7 (Nat.le_refl _))
        have oR7 := oR.below hb7 (by omega)
        have hP7 := ((hb.block w.heap.size (by omega)).trans p2.out)
        have hP7 := (hb7.block w.heap.size (by omega)).trans hP7
        have hb27 : Below w2.heap.size w2 W7 := hb.trans (hb7.mono (by omega))
        have hRS : RS W7 w2.heap.size wo.heap.size (some ⟨w2.heap.size, 0, none⟩) n ((List.range n).map fun f => upL (R : Int) ps xss f n) := ⟨vs, oU7.rd, hV7.at.more (by omega) (Nat.le_refl _)⟩
        replace G0 := Lib.hid G0
        replace U7 := Lib.hid U7
        replace hP7 := Lib.hid hP7
        replace Q0 := Lib.hid Q0
        clear oU7 hV7 oU hV oR hub hb a0 a1 a2
        go_loopw [11, 86] (fun lv kv wq => ∃ (i : Nat) (A2 : Option Addr) (n2 c2 : Nat), i ≤ n ∧ n2 ≤ i ∧ lv = .slice A2 n2 c2 ∧ kv = .int .i64 i ∧ Own wq W7.heap.size wq.heap.size 2 A2 n2 c2 ((firstL (R : Int) ps xss i).map (Value.int .i64)) ∧ Below W7.heap.size W7 wq) (fun _ kv _ => n - (intOf kv).toNat)
        case atStart => exact ⟨0, none, 0, 0, by omega, by omega, rfl, rfl, by simpa [firstL] using Own.nil, Below.refl _ _⟩
        case round =>
          obtain ⟨i, A2, n2, c2, hin, hn2, rfl, rfl, o2, b2⟩ := hrel
          have z2 := b2.size
          have hP := (b2.block w.heap.size (by omega)).trans hP7.out
          have a0 : wr.cell? ⟨w.heap.size, 0, none⟩ = some (.int .i64 (R : Int)) := by rw [cell_of_row _ _ _ _ _ _ hP]; rfl
          have a1 : wr.cell? ⟨w.heap.size, 1, none⟩ = some (.slice D n e0) := by rw [cell_of_row _ _ _ _ _ _ hP]; rfl
          replace hP := Lib.hid hP
          by_cases hlt : i < n
          · obtain ⟨bD, oD, xi, hDe, _, _, hxi, hcx0⟩ := hG.at_ hlt
            subst hDe
            have hcx := (b2.cell (p := ⟨bD, oD + i, none⟩) (by simp; omega)).trans ((hb27.cell (p := ⟨bD, oD + i, none⟩) (by simp; omega)).trans ((f2.cell (p := ⟨bD, oD + i, none⟩) (by simp; omega)).trans hcx0))
            have hgx : ps.getD i 0 = xi := getD_some hxi
            have hcm := (oR7.below b2 (by omega)).cellV (k := i) (v := .bool (decide (Al (R : Int) ps xss i))) (by rw [List.getElem?_map, alR_get hlt]; rfl)
            have hst := firstL_succ (R : Int) ps xss i
            rw [hgx] at hst
            replace hxi := Lib.hid hxi
            replace hgx := Lib.hid hgx
            by_cases h1 : xi = 0
            · by_cases h2 : Al (R : Int) ps xss i
              · rw [if_pos ⟨h1, h2⟩] at hst
                rw [decide_eq_true h2] at hcm
                have hd : (xi == 0) = true := by simp; omega
                replace hst := Lib.hid hst
                replace h1 := Lib.hid h1
                replace h2 := Lib.hid h2
                go_wp2_with (at_builtin; refine wpList_append1 wr rfl (.tmp 101) (.tmp 103) 22 rfl W7.heap.size 2 j0 (.int .i64 0) 8 Try.underlying22 hj0 hy0 hy1 hy2 rfl (by omega) A2 n2 c2 _ (.int .i64 (i : Int)) rfl o2.1 _ rfl rfl rfl (by omega) z2 ?_)
                intro g8 c8 w8 ho8 hg8 hlo8 hlt8 hor8
                have b8 := b2.grown hg8 z2 (fun q hq => (o2.1.lt q hq).1)
                have o8 := Own.of_row ho8
                clear o2 hg8 ho8 b2 hcm hcx a0 a1
                go_wp2_with fail
                go_roundw
                case measure => simp [intOf]; omega
                case rel => exact ⟨i + 1, _, n2 + 1, c8, by omega, by omega, rfl, by go_num, by rw [hst.out, List.map_append]; exact o8.more (by omega) (Nat.le_refl _), b8⟩
              · rw [if_neg (fun h => h2 h.2), List.append_nil] at hst
                rw [← hst] at o2
                rw [decide_eq_false h2] at hcm
                have hd : (xi == 0) = true := by simp; omega
                replace hst := Lib.hid hst
                replace h1 := Lib.hid h1
                replace h2 := Lib.hid h2
                go_wp2_with fail
                go_roundw
                case measure => simp [intOf]; omega
                case rel => exact ⟨i + 1, _, n2, c2, by omega, by omega, rfl, by go_num, o2, b2⟩
            · rw [if_neg (fun h => h1 h.1), List.append_nil] at hst
              rw [← hst] at o2
              have hd : (xi == 0) = false := by simp; omega
              replace hst := Lib.hid hst
              replace h1 := Lib.hid h1
              go_wp2_with fail
              go_roundw
              case measure => simp [intOf]; omega
              case rel => exact ⟨i + 1, _, n2, c2, by omega, by omega, rfl, by go_num, o2, b2⟩
          · have hin' : i = n := by omega
            subst hin'
            have Q1 := (b2.cell (p := ⟨wo.heap.size + 1, 0, none⟩) (by simp; omega)).trans Q0.out
            have G1 := (b2.block wo.heap.size (by omega)).trans G0.out
            have U1 : wr.cell? ⟨w3.heap.size, 0, none⟩ = some (.slice (some ⟨w2.heap.size, 0, none⟩) i i) := by rw [cell_of_row _ _ _ _ _ _ ((b2.block w3.heap.size (by omega)).trans U7.out)]; rfl
            have hcall := grow_any R i ps xss wo.heap.size w.heap.size (wo.heap.size + 1) w3.heap.size (some ⟨w2.heap.size, 0, none⟩) i hp.out hl.out (by omega) (by omega) (by omega) (.inr (Nat.le_refl _)) (R - 1) wr wr.heap.size none 0 0 [] A2 n2 c2 (firstL (R : Int) ps xss i) none 0 0 [] 0 0 W7.heap.size wr.heap.size G1 a0 Q1 U1 (hRS.below b2 (by omega)) (by omega) (by omega) (by omega) (by omega) (by omega) (Nat.le_refl _) RI.nil (by omega) (.inr (by omega)) (fun z hz => by simp [Value.ownBlock] at hz) o2.ri (Nat.le_refl _) (.inl (by omega)) (fun z hz => by simp [Value.ownBlock] at hz) ⟨by simp, by simp⟩ (by simp; omega) (fun x hx => by unfold nxL; simpa using hx) (by omega) ⟨[], Own.nil, RowsOwn.nil⟩ (by simp)
            have heq : cut4 ([] ++ growT (R : Int) ps xss (R - 1) [] (firstL (R : Int) ps xss i)) = allFl (R : Int) ps xss := by
              unfold allFl
              obtain ⟨R', rfl⟩ : ∃ R' : Nat, R = R' + 1 := ⟨R - 1, by omega⟩
              rw [Int.toNat_natCast, growF_eq, hl.out]
              rfl
            rw [heq] at hcall
            replace heq := Lib.hid heq
            replace Q1 := Lib.hid Q1
            have Q2 := Q1.out
            clear Q1 Q0 hRS
            go_wp2_with fail
            ((with_reducible refine hcall.mono ?_); rintro e' w8 ⟨rfl, L8, n8, c8, h8, l8, gr8⟩)
            have G8 : w8.cell? ⟨wo.heap.size, 0, none⟩ = some (.slice L8 n8 c8) := by rw [cell_of_row _ _ _ _ _ _ h8]; rfl
            have hn8 := l8.len
            have hB8 : Below w.heap.size w w8 := by
              have hwr : Below w.heap.size w wr := hB.trans ((f2.mono (by omega)).trans ((hb27.mono (by omega)).trans (b2.mono (by omega))))
              exact hwr.trans ⟨gr8.os, gr8.tape, gr8.output, gr8.size, fun z hz => gr8.block z (by omega) (by omega) (by simp [Value.ownBlock])⟩
            obtain ⟨vs8, hH8, hR8⟩ := l8
            have hOS : OwnS w8 w.heap.size w8.heap.size 22 2 L8 n8 c8 (allFl (R : Int) ps xss) := ⟨vs8, hH8.more (by omega) (Nat.le_refl _), hR8.more (by omega) (Nat.le_refl _)⟩
            replace h8 := Lib.hid h8
            replace hn8 := Lib.hid hn8
            clear hH8 hR8 gr8 hcall
            by_cases h4 : 400 < n8
            · have hF' : Hid ((([] : List (List Int)), (3 : Int)) = flagF (R : Int) ps xss) := Lib.hid (by rw [hF.out, if_pos (by rw [hn8.out]; exact h4)])
              have hd : decide ((n8 : Int) > 400) = true := by simp; omega
              go_wp2_with fail
              go_ret2
              exact ⟨_, 0, _, [], _, rfl, hF', OwnS.nil, by simp [numsIn], hB8⟩
            · have hF' : Hid ((allFl (R : Int) ps xss, (0 : Int)) = flagF (R : Int) ps xss) := Lib.hid (by rw [hF.out, if_neg (by rw [hn8.out]; exact h4)])
              have hd : decide ((n8 : Int) > 400) = false := by simp; omega
              have hnm : n8 + numsIn (allFl (R : Int) ps xss) ≤ 1048576 := by have := hnum.out; rw [hn8.out] at this; exact this
              go_wp2_with fail
              go_ret2
              exact ⟨L8, n8, c8, _, _, rfl, hF', hOS, hnm, hB8⟩
end Go.Proofs.Ytdhkaclkheokbaa
