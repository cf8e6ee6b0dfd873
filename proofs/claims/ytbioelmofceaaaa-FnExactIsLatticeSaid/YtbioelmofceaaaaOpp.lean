/- Walk: the program's opposite poset. No condition but the sizes of memory. -/
import Derived.Test.YtbioelmofceaaaaOppP
import Derived.Test.YtbioelmofceaaaaLawP
import Derived.Test.YtbioelmofceaaaaPos
import Derived.Test.YtbioelmofceaaaaRow
import Derived.Deep.Cut
import Derived.Deep.CutRange
import Derived.Deep.RegionHeld3
import Derived.Deep.AppendLies
import Derived.Deep.OwnRows
namespace Go.Proofs.Ytbioelmofceaaaa
open Go.RowKit
set_option linter.unusedVariables false
set_option maxRecDepth 100000
/-- the rows when the first k numbers of the row of t have been met -/
def midRow (xss : List (List Int)) (B : List Int) (t k j : Nat) : List Int := oppRow xss t j ++ (if ((xss.length - 1 - j : Nat) : Int) ∈ B.take k then [(t : Int)] else [])
theorem midRow_zero (xss : List (List Int)) (B : List Int) (t j : Nat) : midRow xss B t 0 j = oppRow xss t j := by simp [midRow]
theorem midRow_all {xss : List (List Int)} {B : List Int} {t : Nat} (h : xss[xss.length - 1 - t]? = some B) (j : Nat) : midRow xss B t B.length j = oppRow xss (t + 1) j := by
  unfold midRow
  rw [oppRow_succ, List.take_length, List.getD_eq_getElem?_getD, h]
  rfl
theorem midRow_set {xss : List (List Int)} {B : List Int} {t k : Nat} {f : Nat} (hf : B[k]? = some (f : Int)) (hl : f < xss.length) :
    ((List.range xss.length).map (midRow xss B t k)).set (xss.length - 1 - f) (oppRow xss t (xss.length - 1 - f) ++ [(t : Int)]) = (List.range xss.length).map (midRow xss B t (k + 1)) := by
  apply List.ext_getElem?
  intro i
  rw [List.getElem?_set]
  by_cases e : xss.length - 1 - f = i
  · subst e
    rw [if_pos rfl, if_pos (by simp; omega)]
    have h1 : xss.length - 1 - f < xss.length := by omega
    simp only [List.getElem?_map, List.getElem?_range h1, Option.map_some]
    congr 1
    unfold midRow
    rw [if_pos]
    rw [show xss.length - 1 - (xss.length - 1 - f) = f by omega, take_succ_of hf]
    simp
  · rw [if_neg e]
    by_cases hi : i < xss.length
    · simp only [List.getElem?_map, List.getElem?_range hi, Option.map_some]
      congr 1
      unfold midRow
      congr 1
      rw [take_succ_of hf]
      have : ((xss.length - 1 - i : Nat) : Int) ∈ B.take k ++ [(f : Int)] ↔ ((xss.length - 1 - i : Nat) : Int) ∈ B.take k := by
        simp only [List.mem_append, List.mem_singleton]
        constructor
        · rintro (h | h)
          · exact h
          · omega
        · exact fun h => .inl h
      simp only [this]
    · rw [List.getElem?_eq_none (by simp; omega), List.getElem?_eq_none (by simp; omega)]
set_option maxHeartbeats 8000000 in
theorem oppositePoset_any (r : Int) (D : Option Addr) (e n : Nat) (ps : List Int) (A : Option Addr) (c : Nat) (xss : List (List Int)) (w : World) {lo hi lo' hi' : Nat} (g : RI w lo hi D n ps) (hg : hi ≤ w.heap.size) (h : RS w lo' hi' A n xss) (hhi : hi' ≤ w.heap.size) (hp : PosP r ps xss) :
    Calls Try.prog 32 #[.agg #[.int .i64 r, .slice D n e, .slice A n c]] w fun e' w' => ∃ D' A' m, e' = .returned (.agg #[.int .i64 r, .slice D' n n, .slice A' n n]) ∧ OwnP w' w.heap.size m w'.heap.size D' n n (oppR r ps) A' n n (oppB xss) ∧ Below w.heap.size w w' := by
  obtain ⟨j0, hj0, hy0, hy1, hy2⟩ := info_parts infoI
  obtain ⟨s0, hs0, hu0, hu1, hu2⟩ := info_parts infoS
  have hl := g.len
  have hl1 := h.len
  have hn5 : n ≤ 500 := by have := hp.n5; omega
  have hr1 := hp.r1
  have hr5 := hp.r5
  have hR := rs_alloc (rs_alloc h hhi (.cells #[.int .i64 r, .slice D n e, .slice A n c] 29)) (by simp; omega) (.cells #[.int .i64 0, .slice none 0 0, .slice none 0 0] 29)
  have hG := ri_alloc (ri_alloc g hg (.cells #[.int .i64 r, .slice D n e, .slice A n c] 29)) (by simp; omega) (.cells #[.int .i64 0, .slice none 0 0, .slice none 0 0] 29)
  have hB : Below w.heap.size w ((w.alloc (.cells #[.int .i64 r, .slice D n e, .slice A n c] 29)).alloc (.cells #[.int .i64 0, .slice none 0 0, .slice none 0 0] 29)) := ((Below.refl _ _).alloc (Nat.le_refl _) _).alloc (by simp) _
  have p0 : ((w.alloc (.cells #[.int .i64 r, .slice D n e, .slice A n c] 29)).alloc (.cells #[.int .i64 0, .slice none 0 0, .slice none 0 0] 29)).heap[w.heap.size]? = some (.cells #[.int .i64 r, .slice D n e, .slice A n c] 29 (0, 0)) := (Below.heap_alloc _ _ _ (by simp)).trans (heap_new _ _ _ rfl)
  have p1 : ((w.alloc (.cells #[.int .i64 r, .slice D n e, .slice A n c] 29)).alloc (.cells #[.int .i64 0, .slice none 0 0, .slice none 0 0] 29)).heap[w.heap.size + 1]? = some (.cells #[.int .i64 0, .slice none 0 0, .slice none 0 0] 29 (0, 0)) := heap_new _ _ _ (by simp)
  have mk1 := run_make_row' (P := Try.prog) 22 2 (.int .i64 0) 8 Try.underlying22 infoI rfl .i64 .i64 n (by omega) (by omega)
  have mk2 := run_make_row' (P := Try.prog) 23 22 (.slice none 0 0) 24 Try.underlying23 infoS rfl .i64 .i64 n (by omega) (by omega)
  replace hl := Lib.hid hl
  replace hl1 := Lib.hid hl1
  replace hp := Lib.hid hp
  go_enter Try.func32, Try.ntmps32
  go_wp2_with fail
  obtain ⟨W1, hW⟩ : ∃ W1 : World, ((w.alloc (.cells #[.int .i64 r, .slice D n e, .slice A n c] 29)).alloc (.cells #[.int .i64 0, .slice none 0 0, .slice none 0 0] 29)) = W1 := ⟨_, rfl⟩
  have hz1 : W1.heap.size = w.heap.size + 2 := by rw [← hW]; simp
  rw [hW] at hR hG hB p0 p1 ⊢
  clear hW h g
  have c0 : W1.cell? ⟨w.heap.size, 0, none⟩ = some (.int .i64 r) := by rw [cell_of_row _ _ _ _ _ _ p0]; rfl
  have c1 : W1.cell? ⟨w.heap.size, 1, none⟩ = some (.slice D n e) := by rw [cell_of_row _ _ _ _ _ _ p0]; rfl
  replace p0 := Lib.hid p0
  replace p1 := Lib.hid p1
  ((with_reducible refine (sizeI_any _ _ _ _ (by omega)).mono ?_); rintro e1 w' ⟨rfl, rfl⟩)
  go_wp2_with fail
  go_cut [4] from 11 (fun s4 wx => ∃ gO gR gB : Nat, s4 = .pointer (some ⟨gO, 0, none⟩) ∧ gO ≠ gR ∧ gO ≠ gB ∧ gR ≠ gB ∧ w.heap.size + 2 ≤ gO ∧ gO < w.heap.size + 5 ∧ gR < w.heap.size + 5 ∧ gB < w.heap.size + 5 ∧ wx.heap[gO]? = some (.cells #[.int .i64 r, .slice (some ⟨gR, 0, none⟩) n n, .slice (some ⟨gB, 0, none⟩) n n] 29 (0, 0)) ∧
    wx.ownsRow (w.heap.size + 2) 2 1 (.slice (some ⟨gR, 0, none⟩) n n) n ((List.replicate n 0).map (Value.int .i64)) ∧ wx.ownsRow (w.heap.size + 2) 22 1 (.slice (some ⟨gB, 0, none⟩) n n) n (List.replicate n (.slice none 0 0)) ∧ Below (w.heap.size + 2) W1 wx ∧ wx.heap.size = w.heap.size + 5)
  case first =>
    go_region
    all_goals (go_wp2_with fail; go_meet)
    all_goals
      have hNN : w.heap.size + 2 = W1.heap.size := hz1.symm
      have hbb : ∀ a b c : Obj, Below (w.heap.size + 2) W1 (((W1.alloc a).alloc b).alloc c).drew := fun a b c => below_drew ((((Below.refl _ _).alloc (by omega) _).alloc (by simp; omega) _).alloc (by simp; omega) _)
      have hml : n ≤ maxLen := by simp only [maxLen]; omega
      first
        | exact ⟨_, w.heap.size + 2, w.heap.size + 2 + 1, rfl, by omega, by omega, by omega, by omega, by omega, by omega, by omega, a3_2 _ _ _ _ _ hNN, by simpa using made_own rfl (a3_0 _ _ _ _ _ hNN) (by omega) hml, made_own rfl (a3_1 _ _ _ _ _ hNN) (by omega) hml, hbb _ _ _, by simp; omega⟩
        | exact ⟨_, w.heap.size + 2, w.heap.size + 2 + 1 + 1, rfl, by omega, by omega, by omega, by omega, by omega, by omega, by omega, a3_1 _ _ _ _ _ hNN, by simpa using made_own rfl (a3_0 _ _ _ _ _ hNN) (by omega) hml, made_own rfl (a3_2 _ _ _ _ _ hNN) (by omega) hml, hbb _ _ _, by simp; omega⟩
        | exact ⟨_, w.heap.size + 2 + 1, w.heap.size + 2, rfl, by omega, by omega, by omega, by omega, by omega, by omega, by omega, a3_2 _ _ _ _ _ hNN, by simpa using made_own rfl (a3_1 _ _ _ _ _ hNN) (by omega) hml, made_own rfl (a3_0 _ _ _ _ _ hNN) (by omega) hml, hbb _ _ _, by simp; omega⟩
        | exact ⟨_, w.heap.size + 2 + 1 + 1, w.heap.size + 2, rfl, by omega, by omega, by omega, by omega, by omega, by omega, by omega, a3_1 _ _ _ _ _ hNN, by simpa using made_own rfl (a3_2 _ _ _ _ _ hNN) (by omega) hml, made_own rfl (a3_0 _ _ _ _ _ hNN) (by omega) hml, hbb _ _ _, by simp; omega⟩
        | exact ⟨_, w.heap.size + 2 + 1, w.heap.size + 2 + 1 + 1, rfl, by omega, by omega, by omega, by omega, by omega, by omega, by omega, a3_0 _ _ _ _ _ hNN, by simpa using made_own rfl (a3_1 _ _ _ _ _ hNN) (by omega) hml, made_own rfl (a3_2 _ _ _ _ _ hNN) (by omega) hml, hbb _ _ _, by simp; omega⟩
        | exact ⟨_, w.heap.size + 2 + 1 + 1, w.heap.size + 2 + 1, rfl, by omega, by omega, by omega, by omega, by omega, by omega, by omega, a3_0 _ _ _ _ _ hNN, by simpa using made_own rfl (a3_2 _ _ _ _ _ hNN) (by omega) hml, made_own rfl (a3_1 _ _ _ _ _ hNN) (by omega) hml, hbb _ _ _, by simp; omega⟩
  case rest =>
    obtain ⟨gO, gR, gB, rfl, d1, d2, d3, hO1, hO2, hR5, hB5, hO, oR, oB, hb, hsz⟩ := hcut
    clear mk1 mk2 c0 c1
    replace hO := Lib.hid hO
    go_wp2_with fail
    go_loopw [5] (fun ev wq => ∃ (t : Nat) (zs : List Int) (vs : List Value), t ≤ n ∧ ev = .int .i64 ((n : Int) - 1 - t) ∧ Hid (zs.length = n ∧ ∀ j, j < t → zs[j]? = (oppR r ps)[j]?) ∧ Hid (wq.heap[gO]? = some (.cells #[.int .i64 r, .slice (some ⟨gR, 0, none⟩) n n, .slice (some ⟨gB, 0, none⟩) n n] 29 (0, 0))) ∧
      wq.ownsRow (w.heap.size + 2) 2 1 (.slice (some ⟨gR, 0, none⟩) n n) n (zs.map (Value.int .i64)) ∧ wq.ownsRow (w.heap.size + 2) 22 1 (.slice (some ⟨gB, 0, none⟩) n n) n vs ∧ RowsOwn wq (w.heap.size + 5) wq.heap.size 2 vs ((List.range n).map (oppRow xss t)) ∧ Below (w.heap.size + 2) W1 wq ∧ w.heap.size + 5 ≤ wq.heap.size) (fun ev _ => (intOf ev + 1).toNat)
    case atStart =>
      refine ⟨0, List.replicate n 0, List.replicate n (.slice none 0 0), by omega, by simp, Lib.hid ⟨by simp, fun j hj => by omega⟩, hO, oR, oB, ?_, hb, by omega⟩
      exact RowsOwn.nils _ _ _ _ _ (fun j hj => by simp [oppRow])
    case round =>
      clear oR oB hO hb hsz
      obtain ⟨t, zs, vs, ht, rfl, hzs, hO, oR, oB, hV, hb, hsz⟩ := hrel
      by_cases htn : t < n
      · obtain ⟨q, hq⟩ : ∃ q : Nat, q + 1 + t = n := ⟨n - 1 - t, by omega⟩
        have hev : ((n : Int) - 1 - (t : Int)) = (q : Int) := by omega
        rw [hev]
        have hqn : q < n := by omega
        obtain ⟨bp, op, pq, rfl, _, _, hpq, hcpq0⟩ := hG.at_ hqn
        obtain ⟨b, o, Ak, nk, ck, B, rfl, _, _, hBq, hcB0, hrB⟩ := hR.at_ hqn
        have hcpq := (hb.cell (p := ⟨bp, op + q, none⟩) (by simp; omega)).trans hcpq0
        have hcB := (hb.cell (p := ⟨b, o + q, none⟩) (by simp; omega)).trans hcB0
        have a0 : wr.cell? ⟨w.heap.size, 0, none⟩ = some (.int .i64 r) := by rw [cell_of_row _ _ _ _ _ _ ((hb.block _ (by omega)).trans p0.out)]; rfl
        have a1 : wr.cell? ⟨w.heap.size, 1, none⟩ = some (.slice (some ⟨bp, op, none⟩) n e) := by rw [cell_of_row _ _ _ _ _ _ ((hb.block _ (by omega)).trans p0.out)]; rfl
        have a2 : wr.cell? ⟨w.heap.size, 2, none⟩ = some (.slice (some ⟨b, o, none⟩) n c) := by rw [cell_of_row _ _ _ _ _ _ ((hb.block _ (by omega)).trans p0.out)]; rfl
        have x1 : wr.cell? ⟨gO, 1, none⟩ = some (.slice (some ⟨gR, 0, none⟩) n n) := by rw [cell_of_row _ _ _ _ _ _ hO.out]; rfl
        have hr15 := hp.out.rk pq (mem_of_get? hpq)
        have hzl : zs.length = n := hzs.out.1
        have hct : wr.cell? ⟨gR, t, none⟩ = some (.int .i64 (zs.getD t 0)) := by rw [oR.cellAt t (by simp; omega)]; simp [List.getD, hzl, htn]
        have hft : wr.frozen? ⟨gR, t, none⟩ = false := oR.frozenAt t
        have hw1 : IntKind.i64.wrap ((n : Int) - 1) = (n : Int) - 1 := by rw [IntKind.wrap_i64]; omega
        have hw2 : IntKind.i64.wrap ((n : Int) - 1 - (q : Int)) = (t : Int) := by rw [IntKind.wrap_i64]; omega
        have hw3 : IntKind.i64.wrap (r - 1) = r - 1 := by rw [IntKind.wrap_i64]; omega
        have hw4 : IntKind.i64.wrap (r - 1 - pq) = r - 1 - pq := by rw [IntKind.wrap_i64]; omega
        have t0 : (0 : Int) ≤ (t : Int) := by omega
        have t1 : (t : Int) < (n : Int) := by omega
        have q0 : (0 : Int) ≤ (q : Int) := by omega
        have q1 : (q : Int) < (n : Int) := by omega
        replace hpq := Lib.hid hpq
        replace hBq := Lib.hid hBq
        replace hzl := Lib.hid hzl
        replace hq := Lib.hid hq
        clear hev
        generalize zs.getD t 0 = z0 at *
        have k1 : ∀ v, (wr.setCell ⟨gR, t, none⟩ v).cell? ⟨gO, 1, none⟩ = some (.slice (some ⟨gR, 0, none⟩) n n) := fun v => (cell_far_set _ _ _ _ d1).trans x1
        have oRb := (oR.lt gR (by simp [Value.ownBlock])).1
        have k2 : ∀ v, (wr.setCell ⟨gR, t, none⟩ v).cell? ⟨w.heap.size, 0, none⟩ = some (.int .i64 r) := fun v => (cell_far_set _ _ _ _ (by simp; omega)).trans a0
        have k3 : ∀ v, (wr.setCell ⟨gR, t, none⟩ v).cell? ⟨w.heap.size, 1, none⟩ = some (.slice (some ⟨bp, op, none⟩) n e) := fun v => (cell_far_set _ _ _ _ (by simp; omega)).trans a1
        have k4 : ∀ v, (wr.setCell ⟨gR, t, none⟩ v).cell? ⟨bp, op + q, none⟩ = some (.int .i64 pq) := fun v => (cell_far_set _ _ _ _ (by simp; omega)).trans hcpq
        go_wp2_with fail
        go_region_held3 (fun w' => w'.cell? ⟨gO, 1, none⟩ = some (.slice (some ⟨gR, 0, none⟩) n n) ∧ w'.cell? ⟨w.heap.size, 0, none⟩ = some (.int .i64 r) ∧ w'.cell? ⟨w.heap.size, 1, none⟩ = some (.slice (some ⟨bp, op, none⟩) n e) ∧ w'.cell? ⟨bp, op + q, none⟩ = some (.int .i64 pq)) (first | go_keep | exact ⟨k1 _, k2 _, k3 _, k4 _⟩) (fail)
        clear k1 k2 k3 k4 hw1 hw2 hw3 hw4 a1 x1 hcpq hct hft
        have hst := oR.stored t (.int .i64 (r - 1 - pq))
        have oR2 : (wr.setCell ⟨gR, t, none⟩ (.int .i64 (r - 1 - pq))).ownsRow (w.heap.size + 2) 2 1 (.slice (some ⟨gR, 0, none⟩) n n) n ((zs.set t (r - 1 - pq)).map (Value.int .i64)) := by rw [List.map_set]; exact hst.1
        have oB2 : (wr.setCell ⟨gR, t, none⟩ (.int .i64 (r - 1 - pq))).ownsRow (w.heap.size + 2) 22 1 (.slice (some ⟨gB, 0, none⟩) n n) n vs := own_kept_ty oB oR (by decide) hst.2
        have hgR5 : gR < w.heap.size + 5 := by omega
        have hV2 := hV.keep (same_set wr ⟨gR, t, none⟩ (.int .i64 (r - 1 - pq)) (w.heap.size + 5) wr.heap.size (.inl (by simp; omega)))
        have hO2 : (wr.setCell ⟨gR, t, none⟩ (.int .i64 (r - 1 - pq))).heap[gO]? = some (.cells #[.int .i64 r, .slice (some ⟨gR, 0, none⟩) n n, .slice (some ⟨gB, 0, none⟩) n n] 29 (0, 0)) := (heap_setCell_other _ _ _ _ (by simpa using d1)).trans hO.out
        have hb2 : Below (w.heap.size + 2) W1 (wr.setCell ⟨gR, t, none⟩ (.int .i64 (r - 1 - pq))) := hb.setCell (by simp; omega) _
        have hz2 : (wr.setCell ⟨gR, t, none⟩ (.int .i64 (r - 1 - pq))).heap.size = wr.heap.size := World.size_setCell _ _ _
        have hzs2 : Hid ((zs.set t (r - 1 - pq)).length = n ∧ ∀ j, j < t + 1 → (zs.set t (r - 1 - pq))[j]? = (oppR r ps)[j]?) := Lib.hid ⟨by rw [List.length_set]; exact hzl.out, fun j hj => by
          rw [List.getElem?_set]
          by_cases e1 : t = j
          · subst e1
            rw [if_pos rfl, if_pos (by rw [hzl.out]; exact htn), oppR_get (by rw [hl.out]; exact htn), hl.out, show n - 1 - t = q by have := hq.out; omega, getD_some hpq.out]
          · rw [if_neg e1]; exact hzs.out.2 j (by omega)⟩
        have a2m : (wr.setCell ⟨gR, t, none⟩ (.int .i64 (r - 1 - pq))).cell? ⟨w.heap.size, 2, none⟩ = some (.slice (some ⟨b, o, none⟩) n c) := (cell_far_set _ _ _ _ (by simp; omega)).trans a2
        have hcBm : (wr.setCell ⟨gR, t, none⟩ (.int .i64 (r - 1 - pq))).cell? ⟨b, o + q, none⟩ = some (.slice Ak nk ck) := (cell_far_set _ _ _ _ (by simp; omega)).trans hcB
        clear a0 a2 hcB
        generalize (wr.setCell ⟨gR, t, none⟩ (.int .i64 (r - 1 - pq))) = wm at *
        clear hst oR oB hV hO hb
        generalize zs.set t (r - 1 - pq) = zs2 at *
        rw [← hz2] at hV2 hsz
        clear hz2
        have hBel := hp.out.bel q B hBq.out
        have hBlt : ∀ (k : Nat) (f : Int), B[k]? = some f → 0 ≤ f ∧ f < q := fun k f hf => ⟨(hBel k f hf).1, bel_lt hp.out.srt (hBel k f hf)⟩
        have hBnd := bel_nodup hBel
        have hnk := hrB.len
        have hnkm := hrB.max
        replace hBel := Lib.hid hBel
        replace hBlt := Lib.hid hBlt
        replace hBnd := Lib.hid hBnd
        replace hnk := Lib.hid hnk
        replace hO2 := Lib.hid hO2
        go_wp2_with fail
        go_loopw [46] (fun kv wq => ∃ (k : Nat) (vs2 : List Value), k ≤ nk ∧ kv = .int .i64 k ∧ Hid (wq.heap[gO]? = some (.cells #[.int .i64 r, .slice (some ⟨gR, 0, none⟩) n n, .slice (some ⟨gB, 0, none⟩) n n] 29 (0, 0))) ∧
          wq.ownsRow (w.heap.size + 2) 2 1 (.slice (some ⟨gR, 0, none⟩) n n) n (zs2.map (Value.int .i64)) ∧ wq.ownsRow (w.heap.size + 2) 22 1 (.slice (some ⟨gB, 0, none⟩) n n) n vs2 ∧ RowsOwn wq (w.heap.size + 5) wq.heap.size 2 vs2 ((List.range n).map (midRow xss B t k)) ∧ Below (w.heap.size + 2) W1 wq ∧ w.heap.size + 5 ≤ wq.heap.size) (fun kv _ => nk - (intOf kv).toNat)
        case atStart =>
          refine ⟨0, vs, by omega, rfl, hO2, oR2, oB2, ?_, below_drew hb2, hsz⟩
          have e0 : (List.range n).map (midRow xss B t 0) = (List.range n).map (oppRow xss t) := List.map_congr_left (fun j _ => midRow_zero xss B t j)
          rw [e0]
          exact hV2
        case round =>
          clear oR2 oB2 hO2 hV2 hb2 hsz a2m hcBm
          obtain ⟨k, vs2, hk, rfl, hO, oR, oB, hV, hb, hsz⟩ := hrel
          by_cases hkn : k < nk
          · obtain ⟨bf, of, f, rfl, _, _, hf, hcf0⟩ := hrB.at_ hkn
            have hcf := (hb.cell (p := ⟨bf, of + k, none⟩) (by simp; omega)).trans hcf0
            obtain ⟨hf0, hf1⟩ := hBlt.out k f hf
            obtain ⟨f, rfl⟩ : ∃ z : Nat, f = z := ⟨f.toNat, by omega⟩
            obtain ⟨j, hj⟩ : ∃ z : Nat, f + 1 + z = n := ⟨n - 1 - f, by omega⟩
            have hjn : j < n := by omega
            have x2 : wr.cell? ⟨gO, 2, none⟩ = some (.slice (some ⟨gB, 0, none⟩) n n) := by rw [cell_of_row _ _ _ _ _ _ hO.out]; rfl
            have hvl : vs2.length = n := by have := oB.1; simpa using this
            obtain ⟨vj, hvj⟩ : ∃ v, vs2[j]? = some v := ⟨_, List.getElem?_eq_getElem (by omega)⟩
            have hyj : ((List.range n).map (midRow xss B t k))[j]? = some (midRow xss B t k j) := by simp [hjn]
            obtain ⟨Aj, nj, cj, rfl, hoj⟩ := hV.2.2 j vj _ hvj hyj
            have hcj : wr.cell? ⟨gB, j, none⟩ = some (.slice Aj nj cj) := by rw [oB.cellAt j (by omega)]; exact hvj
            have hfj : wr.frozen? ⟨gB, j, none⟩ = false := oB.frozenAt j
            have hw5 : IntKind.i64.wrap ((n : Int) - 1) = (n : Int) - 1 := by rw [IntKind.wrap_i64]; omega
            have hw6 : IntKind.i64.wrap ((n : Int) - 1 - (f : Int)) = (j : Int) := by rw [IntKind.wrap_i64]; omega
            have hw7 : IntKind.i64.wrap ((n : Int) - 1 - (q : Int)) = (t : Int) := by have := hq.out; rw [IntKind.wrap_i64]; omega
            have j0' : (0 : Int) ≤ (j : Int) := by omega
            have j1' : (j : Int) < (n : Int) := by omega
            have hmr : midRow xss B t k j = oppRow xss t j := by
              unfold midRow
              rw [if_neg, List.append_nil]
              rw [show xss.length - 1 - j = f by rw [hl1.out]; omega]
              exact hBnd.out k _ hf
            rw [hmr] at hoj
            have hnj : nj ≤ n := by have h1 := hoj.lenI; have h2 := oppRow_le xss t j; omega
            have ob5 : ∀ z, (Value.slice Aj nj cj).ownBlock = some z → w.heap.size + 5 ≤ z ∧ z < wr.heap.size := fun z hz => ⟨(hoj.1.lt z hz).1, (hoj.1.lt z hz).2⟩
            have hown' : Hid ((wr.alloc (.cells #[.int .i64 (t : Int)] 2)).drew.ownsRow (w.heap.size + 5) 2 1 (.slice Aj nj cj) nj ((oppRow xss t j).map (Value.int .i64))) := Lib.hid (hoj.1.alloc _)
            have hnew' : Hid (∀ z v, [Value.int .i64 (t : Int)][z]? = some v → (wr.alloc (.cells #[.int .i64 (t : Int)] 2)).drew.cell? ((⟨wr.heap.size, 0, none⟩ : Addr).add z) = some v) := Lib.hid (cell_one_new wr _ _)
            have hml : Hid (nj + 1 ≤ maxLen) := Lib.hid (by simp only [maxLen]; omega)
            have hbs : Hid (w.heap.size + 5 ≤ (wr.alloc (.cells #[.int .i64 (t : Int)] 2)).drew.heap.size) := Lib.hid (by simp; omega)
            have hOa : Hid ((wr.alloc (.cells #[.int .i64 (t : Int)] 2)).drew.heap[gO]? = some (.cells #[.int .i64 r, .slice (some ⟨gR, 0, none⟩) n n, .slice (some ⟨gB, 0, none⟩) n n] 29 (0, 0))) := Lib.hid ((Below.heap_alloc _ _ _ (by omega)).trans hO.out)
            have oBa : (wr.alloc (.cells #[.int .i64 (t : Int)] 2)).drew.ownsRow (w.heap.size + 2) 22 1 (.slice (some ⟨gB, 0, none⟩) n n) n vs2 := oB.alloc _
            have oRa : (wr.alloc (.cells #[.int .i64 (t : Int)] 2)).drew.ownsRow (w.heap.size + 2) 2 1 (.slice (some ⟨gR, 0, none⟩) n n) n (zs2.map (Value.int .i64)) := oR.alloc _
            have hVa : RowsOwn (wr.alloc (.cells #[.int .i64 (t : Int)] 2)).drew (w.heap.size + 5) wr.heap.size 2 vs2 ((List.range n).map (midRow xss B t k)) := hV.keep (same_alloc _ _ _ _ (Nat.le_refl _))
            have hba : Below (w.heap.size + 2) W1 (wr.alloc (.cells #[.int .i64 (t : Int)] 2)).drew := below_drew (hb.alloc (by omega) _)
            have hsa : (wr.alloc (.cells #[.int .i64 (t : Int)] 2)).drew.heap.size = wr.heap.size + 1 := by simp
            have ya : (wr.alloc (.cells #[.int .i64 (t : Int)] 2)).cell? ⟨gO, 2, none⟩ = some (.slice (some ⟨gB, 0, none⟩) n n) := (al_old _ _ _ _ (by omega)).trans x2
            have yb : (wr.alloc (.cells #[.int .i64 (t : Int)] 2)).cell? ⟨gB, j, none⟩ = some (.slice Aj nj cj) := (al_old _ _ _ _ (by omega)).trans hcj
            replace oBa := Lib.hid oBa
            replace oRa := Lib.hid oRa
            replace hVa := Lib.hid hVa
            replace hba := Lib.hid hba
            replace hsa := Lib.hid hsa
            replace hf := Lib.hid hf
            replace hvj := Lib.hid hvj
            replace hyj := Lib.hid hyj
            replace hvl := Lib.hid hvl
            replace hmr := Lib.hid hmr
            replace hj := Lib.hid hj
            replace hoj := Lib.hid hoj
            replace hV := Lib.hid hV
            replace oB := Lib.hid oB
            replace oR := Lib.hid oR
            have hfx : Hid (vs2[j]? = some (.slice Aj nj cj)) := hvj
            go_wp2_with fail
            go_region_law (refine step_append_lies _ (by rfl) (.tmp 63) (.tmp 68) 22 (by rfl) (w.heap.size + 5) 2 j0 (.int .i64 0) 1 8 Try.underlying22 hj0 hy0 hy1 hy2 rfl (by decide) (.slice Aj nj cj) nj ((oppRow xss t j).map (Value.int .i64)) (by rfl) hown'.out ⟨wr.heap.size, 0, none⟩ 1 1 [.int .i64 (t : Int)] (by rfl) rfl hnew'.out (by simp [Value.oneCell']) (by decide) hml.out (by omega) hbs.out (wr.heap.size + 1) (by simp) ?_; intro g4 c4 w5 ho5 hg5 hor5 hlt5; have hO5 := (hg5.block gO (by rw [hsa.out]; omega) (fun e => by have := (ob5 _ e.symm).1; omega)).trans hOa.out; have K5 : w5.cell? ⟨gO, 2, none⟩ = some (.slice (some ⟨gB, 0, none⟩) n n) := (cell_of_row _ _ _ _ _ _ hO5).trans rfl; have oB5 := own_kept_ty oBa.out hown'.out (by decide) hg5; have K6 : w5.cell? ⟨gB, j, none⟩ = some (.slice Aj nj cj) := (oB5.cellAt j (by omega)).trans hfx.out; have F6 : w5.frozen? ⟨gB, j, none⟩ = false := oB5.frozenAt j; clear oB5; replace hO5 := Lib.hid hO5)
            all_goals
              clear x2 hcj hfj hw5 hw6 hw7 hcf K5 K6 F6 hO5 ya yb
              have hz5 := hg5.size
              rw [hsa.out] at hz5
              have hO5 := (hg5.block gO (by rw [hsa.out]; omega) (fun e => by have := (ob5 _ e.symm).1; omega)).trans hOa.out
              have oB5 := own_kept_ty oBa.out hown'.out (by decide) hg5
              have oR5 := oRa.out.kept hg5 (.inr (fun e => by have := (ob5 gR e.symm).1; omega))
              have hV5 := hVa.out.app hvj.out hyj.out (x := (t : Int)) (by rw [hmr.out, List.map_append]; exact ho5) hg5 (by rcases hor5 with h | h; exact .inl h; exact .inr (by omega)) (by omega)
              have hb5 := hba.out.grown hg5 (by rw [hsa.out]; omega) (fun z hz => by have := (ob5 z hz).1; omega)
              have hgB2 := (oB5.lt gB (by simp [Value.ownBlock])).1
              have hst5 := oB5.stored j (.slice (some ⟨g4, 0, none⟩) (nj + 1) c4)
              have e1 : ((List.range n).map (midRow xss B t k)).set j (midRow xss B t k j ++ [(t : Int)]) = (List.range n).map (midRow xss B t (k + 1)) := by
                have h1 := midRow_set (t := t) hf.out (show f < xss.length by rw [hl1.out]; omega)
                rw [hl1.out, show n - 1 - f = j by have := hj.out; omega] at h1
                rw [hmr.out]
                exact h1
              rw [e1] at hV5
              have hO6 : (w5.setCell ⟨gB, j, none⟩ (.slice (some ⟨g4, 0, none⟩) (nj + 1) c4)).heap[gO]? = some (.cells #[.int .i64 r, .slice (some ⟨gR, 0, none⟩) n n, .slice (some ⟨gB, 0, none⟩) n n] 29 (0, 0)) := (heap_setCell_other _ _ _ _ (by simpa using d2)).trans hO5
              have oR6 := own_kept_ty oR5 oB5 (by decide) hst5.2
              have hV6 := hV5.keep (same_set w5 ⟨gB, j, none⟩ (.slice (some ⟨g4, 0, none⟩) (nj + 1) c4) (w.heap.size + 5) w5.heap.size (.inl (by simp; omega)))
              have hb6 := hb5.setCell (p := ⟨gB, j, none⟩) (by simp; omega) (.slice (some ⟨g4, 0, none⟩) (nj + 1) c4)
              replace hO6 := Lib.hid hO6
              have oB6 := hst5.1
              have hz6 : (w5.setCell ⟨gB, j, none⟩ (.slice (some ⟨g4, 0, none⟩) (nj + 1) c4)).heap.size = w5.heap.size := World.size_setCell _ _ _
              rw [← hz6] at hV6 hz5
              clear hz6
              generalize (w5.setCell ⟨gB, j, none⟩ (.slice (some ⟨g4, 0, none⟩) (nj + 1) c4)) = w6 at *
              generalize vs2.set j (.slice (some ⟨g4, 0, none⟩) (nj + 1) c4) = vs3 at *
              clear hO5 oB5 oR5 hV5 hb5 hst5 ho5 hg5 hor5 hlt5 hV oB oR hVa oBa oRa hba hOa hown' hnew' hO hb
              (try go_wp2_with fail)
              go_roundw
              case measure => simp [intOf]; omega
              case rel => exact ⟨k + 1, vs3, by omega, by go_num, hO6, oR6, oB6, hV6, hb6, by omega⟩
          · have hkk : k = nk := by omega
            subst hkk
            have e1 : (List.range n).map (midRow xss B t k) = (List.range n).map (oppRow xss (t + 1)) := by
              refine List.map_congr_left (fun i _ => ?_)
              have h1 := midRow_all (t := t) (xss := xss) (B := B) (by rw [hl1.out, show n - 1 - t = q by have := hq.out; omega]; exact hBq.out) i
              rw [hnk.out] at h1
              exact h1
            rw [e1] at hV
            have hw8 : IntKind.i64.wrap ((q : Int) - 1) = (q : Int) - 1 := by rw [IntKind.wrap_i64]; omega
            go_wp2_with fail
            clear hw8
            go_roundw
            case measure => first | (simp [intOf]; done) | (simp [intOf]; omega)
            case rel => exact ⟨t + 1, zs2, vs2, by omega, by have := hq.out; rw [show (q : Int) - 1 = (n : Int) - 1 - ((t + 1 : Nat) : Int) by omega], hzs2, hO, oR, oB, hV, hb, hsz⟩
      · have htn2 : t = n := by omega
        subst htn2
        have hev : ((t : Int) - 1 - (t : Int)) = -1 := by omega
        rw [hev]
        have e1 : (List.range t).map (oppRow xss t) = oppB xss := by
          unfold oppB
          rw [hl1.out]
          refine List.map_congr_left (fun i hi => ?_)
          have h1 := oppRow_all (xss := xss) (fun e2 B2 hB2 f hf => by
            obtain ⟨k, hk⟩ := List.mem_iff_getElem?.1 hf
            exact bel_lt hp.out.srt (hp.out.bel e2 B2 hB2 k f hk)) (j := i) (by rw [hl1.out]; exact List.mem_range.1 hi)
          rw [hl1.out] at h1
          exact h1
        have e2 : zs = oppR r ps := by
          apply list_ext_upto t (by have := hzs.out.1; omega) (by rw [oppR_length, hl.out]; exact Nat.le_refl _)
          exact hzs.out.2
        subst e2
        rw [e1] at hV
        have P1 := (hb.block (w.heap.size + 1) (by omega)).trans p1.out
        have x0 : wr.cell? ⟨gO, 0, none⟩ = some (.int .i64 r) := by rw [cell_of_row _ _ _ _ _ _ hO.out]; rfl
        have x1 : wr.cell? ⟨gO, 1, none⟩ = some (.slice (some ⟨gR, 0, none⟩) t t) := by rw [cell_of_row _ _ _ _ _ _ hO.out]; rfl
        have x2 : wr.cell? ⟨gO, 2, none⟩ = some (.slice (some ⟨gB, 0, none⟩) t t) := by rw [cell_of_row _ _ _ _ _ _ hO.out]; rfl
        have y0 : wr.cell? ⟨w.heap.size + 1, 0, none⟩ = some (.int .i64 0) := by rw [cell_of_row _ _ _ _ _ _ P1]; rfl
        have y1 : wr.cell? ⟨w.heap.size + 1, 1, none⟩ = some (.slice none 0 0) := by rw [cell_of_row _ _ _ _ _ _ P1]; rfl
        have y2 : wr.cell? ⟨w.heap.size + 1, 2, none⟩ = some (.slice none 0 0) := by rw [cell_of_row _ _ _ _ _ _ P1]; rfl
        have z0 : wr.frozen? ⟨w.heap.size + 1, 0, none⟩ = false := frozen_of_row _ _ _ _ _ P1
        have z1 : wr.frozen? ⟨w.heap.size + 1, 1, none⟩ = false := frozen_of_row _ _ _ _ _ P1
        have z2 : wr.frozen? ⟨w.heap.size + 1, 2, none⟩ = false := frozen_of_row _ _ _ _ _ P1
        replace P1 := Lib.hid P1
        go_wp2_with fail
        have h1 := heap_setCell_same _ _ 0 _ _ (Value.int .i64 r) P1.out
        have h2 := heap_setCell_same _ _ 1 _ _ (Value.slice (some ⟨gR, 0, none⟩) t t) h1
        have h3 := heap_setCell_same _ _ 2 _ _ (Value.slice (some ⟨gB, 0, none⟩) t t) h2
        (try simp only [Exit.inBlock, Exit.then])
        refine bodyPost_ret (v := .agg #[.int .i64 r, .slice (some ⟨gR, 0, none⟩) t t, .slice (some ⟨gB, 0, none⟩) t t]) ?_ rfl ?_
        · exact results_cell_row rfl _ _ (w.heap.size + 1) 29 #[.int .i64 r, .slice (some ⟨gR, 0, none⟩) t t, .slice (some ⟨gB, 0, none⟩) t t] (0, 0) _ rfl (by simpa using h3) Try.underlying29 rfl (by kernel_rfl)
        · have oR1 : Own wr (w.heap.size + 2) (w.heap.size + 5) 2 (some ⟨gR, 0, none⟩) t t ((oppR r ps).map (Value.int .i64)) := ⟨oR, fun a ha => by cases ha; exact hR5⟩
          have oB1 : Own wr (w.heap.size + 2) wr.heap.size 22 (some ⟨gB, 0, none⟩) t t vs := Own.of_row oB
          have S3 : ∀ (v0 v1 v2 : Value) (hi : Nat), Same (w.heap.size + 2) hi wr (((wr.setCell ⟨w.heap.size + 1, 0, none⟩ v0).setCell ⟨w.heap.size + 1, 1, none⟩ v1).setCell ⟨w.heap.size + 1, 2, none⟩ v2) := fun v0 v1 v2 hi => ((same_set _ _ _ _ _ (.inl (by simp))).trans (same_set _ _ _ _ _ (.inl (by simp)))).trans (same_set _ _ _ _ _ (.inl (by simp)))
          refine ⟨_, _, rfl, ⟨w.heap.size + 5, by omega, by simp; omega, (oR1.keep (S3 _ _ _ _)).more (by omega) (Nat.le_refl _), vs, ?_, ?_⟩, (((hB.trans (hb.mono (by omega))).setCell (by simp) _).setCell (by simp) _).setCell (by simp) _⟩
          · exact (oB1.keep (S3 _ _ _ _)).more (by omega) (by simp)
          · exact ((hV.keep ((S3 _ _ _ _).mono (by omega) (Nat.le_refl _)))).more (Nat.le_refl _) (by simp)
end Go.Proofs.Ytbioelmofceaaaa
