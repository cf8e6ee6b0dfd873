/- Walks: OppositePoset, the program's and the reference's. No condition but the sizes of memory. -/
import Derived.Test.YtbioelmofceaaaaOpp
import Derived.Test.YtbioelmofceaaaaPosS
import Derived.Test.YtbioelmofceaaaaFormS
namespace Go.Proofs.Ytbioelmofceaaaa
open Go.RowKit
set_option linter.unusedVariables false
set_option maxRecDepth 100000
theorem oppB_nums (xss : List (List Int)) : numsIn (oppB xss) ≤ xss.length * xss.length := by
  have := numsIn_le (n := xss.length) (xss := oppB xss) (fun x hx => by
    unfold oppB at hx
    simp only [List.mem_map, List.mem_range] at hx
    obtain ⟨j, hj, rfl⟩ := hx
    have := oppRow_le xss j j
    omega)
  rwa [oppB_length] at this
set_option maxHeartbeats 4000000 in
theorem s_OppositePoset_any (w : World) (r : Int) (hr : -9223372036854775808 ≤ r ∧ r ≤ 9223372036854775807) (D : Option Addr) (k e : Nat) (ps : List Int) {lo hi : Nat} (g : RI w lo hi D k ps) (hg : hi ≤ w.heap.size) (hke : k ≤ e) (A : Option Addr) (n c : Nat) (xss : List (List Int)) {lo' hi' : Nat} (h : RS w lo' hi' A n xss) (hhi : hi' ≤ w.heap.size) (hnc : n ≤ c) :
    Calls Try.prog 26 #[.agg #[.int .i64 r, .slice D k e, .slice A n c]] w fun e' w' => ∃ (r1 : Int) (D1 : Option Addr) (k1 e1 : Nat) (ds : List Int) (A1 : Option Addr) (n1 c1 : Nat) (zss : List (List Int)) (code : Int), e' = .returned (.tuple #[.agg #[.int .i64 r1, .slice D1 k1 e1, .slice A1 n1 c1], .int .i64 code]) ∧ Hid ((r1, ds, zss, code) = oppF r ps xss) ∧ ReadP w' w.heap.size w'.heap.size D1 k1 ds A1 n1 zss ∧ k1 + (n1 + numsIn zss) ≤ 1048576 ∧ Below w.heap.size w w' := by
  have hl := g.len
  have hl1 := h.len
  have hm := g.max
  have hm1 := h.max
  have hR := rs_alloc (rs_alloc h hhi (.cells #[.int .i64 r, .slice D k e, .slice A n c] 29)) (by simp; omega) (.cells #[.int .i64 0, .slice none 0 0, .slice none 0 0] 29)
  have hG := ri_alloc (ri_alloc g hg (.cells #[.int .i64 r, .slice D k e, .slice A n c] 29)) (by simp; omega) (.cells #[.int .i64 0, .slice none 0 0, .slice none 0 0] 29)
  have hB : Below w.heap.size w ((w.alloc (.cells #[.int .i64 r, .slice D k e, .slice A n c] 29)).alloc (.cells #[.int .i64 0, .slice none 0 0, .slice none 0 0] 29)) := ((Below.refl _ _).alloc (Nat.le_refl _) _).alloc (by simp) _
  have p0 : ((w.alloc (.cells #[.int .i64 r, .slice D k e, .slice A n c] 29)).alloc (.cells #[.int .i64 0, .slice none 0 0, .slice none 0 0] 29)).heap[w.heap.size]? = some (.cells #[.int .i64 r, .slice D k e, .slice A n c] 29 (0, 0)) := (Below.heap_alloc _ _ _ (by simp)).trans (heap_new _ _ _ rfl)
  have p1 : ((w.alloc (.cells #[.int .i64 r, .slice D k e, .slice A n c] 29)).alloc (.cells #[.int .i64 0, .slice none 0 0, .slice none 0 0] 29)).heap[w.heap.size + 1]? = some (.cells #[.int .i64 0, .slice none 0 0, .slice none 0 0] 29 (0, 0)) := heap_new _ _ _ (by simp)
  replace p0 := Lib.hid p0
  replace p1 := Lib.hid p1
  cases hM : isPosB r ps xss with
  | false =>
    have hF : oppF r ps xss = (0, [], [], 1) := by unfold oppF; rw [hM]; rfl
    replace hF := Lib.hid hF
    replace hM := Lib.hid hM
    replace hl := Lib.hid hl
    replace hl1 := Lib.hid hl1
    go_enter Try.func26, Try.ntmps26
    go_wp2_with fail
    obtain ⟨W1, hW⟩ : ∃ W1 : World, ((w.alloc (.cells #[.int .i64 r, .slice D k e, .slice A n c] 29)).alloc (.cells #[.int .i64 0, .slice none 0 0, .slice none 0 0] 29)) = W1 := ⟨_, rfl⟩
    have hz1 : W1.heap.size = w.heap.size + 2 := by rw [← hW]; simp
    rw [hW] at hR hG hB p0 p1 ⊢
    clear hW h g
    ((with_reducible refine (l03Is_any r hr D k e ps A n c xss _ hG (by omega) hR (by omega)).mono ?_); rintro e2 w2 ⟨rfl, f2⟩)
    rw [hM.out]
    have y2 := f2.size
    have a0 : w2.cell? ⟨w.heap.size, 0, none⟩ = some (.int .i64 r) := by rw [cell_of_row _ _ _ _ _ _ ((f2.block _ (by omega)).trans p0.out)]; rfl
    have a1 : w2.cell? ⟨w.heap.size, 1, none⟩ = some (.slice D k e) := by rw [cell_of_row _ _ _ _ _ _ ((f2.block _ (by omega)).trans p0.out)]; rfl
    have a2 : w2.cell? ⟨w.heap.size, 2, none⟩ = some (.slice A n c) := by rw [cell_of_row _ _ _ _ _ _ ((f2.block _ (by omega)).trans p0.out)]; rfl
    have Q := (f2.block (w.heap.size + 1) (by omega)).trans p1.out
    have y0r : w2.cell? ⟨w.heap.size + 1, 0, none⟩ = some (.int .i64 0) := by rw [cell_of_row _ _ _ _ _ _ Q]; rfl
    have z0r : w2.frozen? ⟨w.heap.size + 1, 0, none⟩ = false := frozen_of_row _ _ _ _ _ Q
    have y1r : w2.cell? ⟨w.heap.size + 1, 1, none⟩ = some (.slice none 0 0) := by rw [cell_of_row _ _ _ _ _ _ Q]; rfl
    have z1r : w2.frozen? ⟨w.heap.size + 1, 1, none⟩ = false := frozen_of_row _ _ _ _ _ Q
    have y2r : w2.cell? ⟨w.heap.size + 1, 2, none⟩ = some (.slice none 0 0) := by rw [cell_of_row _ _ _ _ _ _ Q]; rfl
    have z2r : w2.frozen? ⟨w.heap.size + 1, 2, none⟩ = false := frozen_of_row _ _ _ _ _ Q
    replace Q := Lib.hid Q
    go_wp2_with fail
    (try simp only [Exit.inBlock, Exit.then])
    have h1 := heap_setCell_same _ _ 0 _ _ (Value.int .i64 0) Q.out
    have h2 := heap_setCell_same _ _ 1 _ _ (Value.slice none 0 0) h1
    have h3 := heap_setCell_same _ _ 2 _ _ (Value.slice none 0 0) h2
    refine bodyPost_ret (v := .tuple #[.agg #[.int .i64 0, .slice none 0 0, .slice none 0 0], .int .i64 1]) ?_ rfl ?_
    · exact results_cell_row2 rfl _ _ (w.heap.size + 1) 29 #[.int .i64 0, .slice none 0 0, .slice none 0 0] (0, 0) _ rfl (by simpa using h3) Try.underlying29 rfl (by kernel_rfl) _ rfl
    · exact ⟨_, _, _, _, [], _, _, _, [], _, rfl, Lib.hid hF.out.symm, ⟨RI.nil, RS.nil⟩, by simp [numsIn], (((hB.trans (f2.mono (by omega))).setCell (by simp) _).setCell (by simp) _).setCell (by simp) _⟩
  | true =>
    have hp := isPosB_iff.1 hM
    have hnk : n = k := by have := hp.len; omega
    subst hnk
    have hn5 : n ≤ 500 := by have := hp.n5; omega
    have hbig : n + (n + numsIn (oppB xss)) ≤ 1048576 := by
      have h1 := oppB_nums xss
      rw [hl1] at h1
      have := Nat.mul_le_mul hn5 hn5
      omega
    have hF : oppF r ps xss = (r, oppR r ps, oppB xss, 0) := by unfold oppF; rw [if_pos hM]
    replace hF := Lib.hid hF
    replace hM := Lib.hid hM
    replace hl := Lib.hid hl
    replace hl1 := Lib.hid hl1
    obtain ⟨j0, hj0, hy0, hy1, hy2⟩ := info_parts infoI
    obtain ⟨s0, hs0, hu0, hu1, hu2⟩ := info_parts infoS
    replace hp := Lib.hid hp
    go_enter Try.func26, Try.ntmps26
    go_wp2_with fail
    obtain ⟨W1, hW⟩ : ∃ W1 : World, ((w.alloc (.cells #[.int .i64 r, .slice D n e, .slice A n c] 29)).alloc (.cells #[.int .i64 0, .slice none 0 0, .slice none 0 0] 29)) = W1 := ⟨_, rfl⟩
    have hz1 : W1.heap.size = w.heap.size + 2 := by rw [← hW]; simp
    rw [hW] at hR hG hB p0 p1 ⊢
    clear hW h g
    ((with_reducible refine (l03Is_any r hr D n e ps A n c xss _ hG (by omega) hR (by omega)).mono ?_); rintro e2 w2 ⟨rfl, f2⟩)
    rw [hM.out]
    have y2 := f2.size
    have P0 := (f2.block _ (by omega)).trans p0.out
    have a1 : w2.cell? ⟨w.heap.size, 1, none⟩ = some (.slice D n e) := by rw [cell_of_row _ _ _ _ _ _ P0]; rfl
    have a0 : w2.cell? ⟨w.heap.size, 0, none⟩ = some (.int .i64 r) := by rw [cell_of_row _ _ _ _ _ _ P0]; rfl
    have hw1 : IntKind.i64.wrap ((n : Int) - 1) = (n : Int) - 1 := by rw [IntKind.wrap_i64]; omega
    replace P0 := Lib.hid P0
    go_wp2_with fail
    clear hw1 a0 a1
    have hOO : (w2.alloc (.cells #[.int .i64 r, .slice none 0 0, .slice none 0 0] 29)).heap[w2.heap.size]? = some (.cells #[.int .i64 r, .slice none 0 0, .slice none 0 0] 29 (0, 0)) := heap_new _ _ _ rfl
    go_loopw [6] (fun ev wq => ∃ (t : Nat) (A4 : Option Addr) (c4 : Nat) (A5 : Option Addr) (c5 : Nat) (vs : List Value) (zs : List Int), t ≤ n ∧ ev = .int .i64 ((n : Int) - 1 - t) ∧ Hid (wq.heap[w2.heap.size]? = some (.cells #[.int .i64 r, .slice A4 t c4, .slice A5 t c5] 29 (0, 0))) ∧
      Hid (zs = (oppR r ps).take t) ∧ Own wq (w2.heap.size + 1) wq.heap.size 2 A4 t c4 (zs.map (Value.int .i64)) ∧ Own wq (w2.heap.size + 1) wq.heap.size 22 A5 t c5 vs ∧ RowsOwn wq (w2.heap.size + 1) wq.heap.size 2 vs ((oppB xss).take t) ∧ Hid (∀ v ∈ vs, Apart (.slice A4 t c4) v) ∧ Below w2.heap.size w2 wq ∧ w2.heap.size + 1 ≤ wq.heap.size) (fun ev _ => (intOf ev + 1).toNat)
    case atStart => exact ⟨0, none, 0, none, 0, [], [], by omega, by simp, Lib.hid hOO, Lib.hid (by simp), Own.nil, Own.nil, by simpa using RowsOwn.nil, Lib.hid (by simp), (Below.refl _ _).alloc (Nat.le_refl _) _, by simp⟩
    case round =>
      clear hOO
      obtain ⟨t, A4, c4, A5, c5, vs, zs, ht, rfl, hO, hzs, oR, oB, hV, hap, hb, hsz⟩ := hrel
      have hb1 : Below W1.heap.size W1 wr := below_then f2 hb (by omega)
      by_cases htn : t < n
      · obtain ⟨q, hq⟩ : ∃ q : Nat, q + 1 + t = n := ⟨n - 1 - t, by omega⟩
        have hev : ((n : Int) - 1 - (t : Int)) = (q : Int) := by omega
        rw [hev]
        have hqn : q < n := by omega
        obtain ⟨bp, op, pq, rfl, _, _, hpq, hcpq0⟩ := hG.at_ hqn
        have hcpq := (hb1.cell (p := ⟨bp, op + q, none⟩) (by simp; omega)).trans hcpq0
        have P1 := (hb1.block (w.heap.size) (by omega)).trans p0.out
        have a0 : wr.cell? ⟨w.heap.size, 0, none⟩ = some (.int .i64 r) := by rw [cell_of_row _ _ _ _ _ _ P1]; rfl
        have a1 : wr.cell? ⟨w.heap.size, 1, none⟩ = some (.slice (some ⟨bp, op, none⟩) n e) := by rw [cell_of_row _ _ _ _ _ _ P1]; rfl
        have x1 : wr.cell? ⟨w2.heap.size, 1, none⟩ = some (.slice A4 t c4) := by rw [cell_of_row _ _ _ _ _ _ hO.out]; rfl
        have hr15 := hp.out.rk pq (mem_of_get? hpq)
        have hr1 := hp.out.r1
        have hr5 := hp.out.r5
        have hw3 : IntKind.i64.wrap (r - 1) = r - 1 := by rw [IntKind.wrap_i64]; omega
        have hw4 : IntKind.i64.wrap (r - 1 - pq) = r - 1 - pq := by rw [IntKind.wrap_i64]; omega
        have q0 : (0 : Int) ≤ (q : Int) := by omega
        have q1 : (q : Int) < (n : Int) := by omega
        replace P1 := Lib.hid P1
        replace hpq := Lib.hid hpq
        replace hq := Lib.hid hq
        clear hev
        have ya : (wr.alloc (.cells #[.int .i64 (r - 1 - pq)] 2)).cell? ⟨w2.heap.size, 1, none⟩ = some (.slice A4 t c4) := (al_old _ _ _ _ (by omega)).trans x1
        have hd : (wr.alloc (.cells #[.int .i64 (r - 1 - pq)] 2)).drew.heap.size = wr.heap.size + 1 := by simp
        have oR2 : Own (wr.alloc (.cells #[.int .i64 (r - 1 - pq)] 2)).drew (w2.heap.size + 1) wr.heap.size 2 A4 t c4 (zs.map (Value.int .i64)) := oR.keep (same_alloc _ _ _ _ (Nat.le_refl _))
        have oB2 : Own (wr.alloc (.cells #[.int .i64 (r - 1 - pq)] 2)).drew (w2.heap.size + 1) wr.heap.size 22 A5 t c5 vs := oB.keep (same_alloc _ _ _ _ (Nat.le_refl _))
        have hV2 : RowsOwn (wr.alloc (.cells #[.int .i64 (r - 1 - pq)] 2)).drew (w2.heap.size + 1) wr.heap.size 2 vs ((oppB xss).take t) := hV.keep (same_alloc _ _ _ _ (Nat.le_refl _))
        have hO2 : Hid ((wr.alloc (.cells #[.int .i64 (r - 1 - pq)] 2)).drew.heap[w2.heap.size]? = some (.cells #[.int .i64 r, .slice A4 t c4, .slice A5 t c5] 29 (0, 0))) := Lib.hid ((Below.heap_alloc _ _ _ (by omega)).trans hO.out)
        have hb2 : Below w2.heap.size w2 (wr.alloc (.cells #[.int .i64 (r - 1 - pq)] 2)).drew := below_drew (hb.alloc (by omega) _)
        have hnew' : Hid (∀ z v, [Value.int .i64 (r - 1 - pq)][z]? = some v → (wr.alloc (.cells #[.int .i64 (r - 1 - pq)] 2)).drew.cell? ((⟨wr.heap.size, 0, none⟩ : Addr).add z) = some v) := Lib.hid (cell_one_new wr _ _)
        have hml : Hid (t + 1 ≤ maxLen) := Lib.hid (by simp only [maxLen]; omega)
        have hbl : ∀ z, (Value.slice A4 t c4).ownBlock = some z → w2.heap.size + 1 ≤ z ∧ z < wr.heap.size := fun z hz => oR.1.lt z hz
        replace hd := Lib.hid hd
        replace oR2 := Lib.hid oR2
        replace oB2 := Lib.hid oB2
        replace hV2 := Lib.hid hV2
        replace hb2 := Lib.hid hb2
        replace hbl := Lib.hid hbl
        go_wp2_with fail
        go_cut [] from 21 to 66 (fun wx => ∃ (g4 c6 : Nat) (w5 : World), wx = w5.setCell ⟨w2.heap.size, 1, none⟩ (.slice (some ⟨g4, 0, none⟩) (t + 1) c6) ∧ w5.ownsRow (w2.heap.size + 1) 2 1 (.slice (some ⟨g4, 0, none⟩) (t + 1) c6) (t + 1) (zs.map (Value.int .i64) ++ [.int .i64 (r - 1 - pq)]) ∧ (wr.alloc (.cells #[.int .i64 (r - 1 - pq)] 2)).drew.grownBy w5 (Value.slice A4 t c4).ownBlock ∧ ((Value.slice A4 t c4).ownBlock = some g4 ∨ g4 = wr.heap.size + 1) ∧ g4 < w5.heap.size)
        case first =>
          go_region_law (refine step_append_lies _ (by rfl) (.tmp 26) (.tmp 36) 22 (by rfl) (w2.heap.size + 1) 2 j0 (.int .i64 0) 1 8 Try.underlying22 hj0 hy0 hy1 hy2 rfl (by decide) (.slice A4 t c4) t (zs.map (Value.int .i64)) (by rfl) oR2.out.1 ⟨wr.heap.size, 0, none⟩ 1 1 [.int .i64 (r - 1 - pq)] (by rfl) rfl hnew'.out (by simp [Value.oneCell']) (by decide) hml.out (by omega) (by rw [hd.out]; omega) (wr.heap.size + 1) (by simp) ?_; intro g4 c6 w5 ho5 hg5 hor5 hlt5; have hO5 := (hg5.block w2.heap.size (by rw [hd.out]; omega) (fun e => by have := (hbl.out _ e.symm).1; omega)).trans hO2.out; have K5 : w5.cell? ⟨w2.heap.size, 1, none⟩ = some (.slice A4 t c4) := (cell_of_row _ _ _ _ _ _ hO5).trans rfl; have F5 : w5.frozen? ⟨w2.heap.size, 1, none⟩ = false := frozen_of_row _ _ _ _ _ hO5; replace hO5 := Lib.hid hO5)
          all_goals (go_wp2_with fail; go_meet)
          all_goals exact ⟨g4, c6, w5, rfl, ho5, hg5, hor5, hlt5⟩
        case rest =>
        obtain ⟨g4, c6, w5, rfl, ho5, hg5, hor5, hlt5⟩ := hcut
        replace hd := hd.out
        replace oR2 := oR2.out
        replace oB2 := oB2.out
        replace hV2 := hV2.out
        replace hb2 := hb2.out
        replace hbl := hbl.out
        obtain ⟨w3, e3⟩ : ∃ w3 : World, (wr.alloc (.cells #[.int .i64 (r - 1 - pq)] 2)).drew = w3 := ⟨_, rfl⟩
        rw [e3] at hd oR2 oB2 hV2 hO2 hb2 hnew' hg5
        clear e3 ya hnew' hml oR oB hV hO hb x1 a0 a1 hcpq hb1 hw3 hw4
        have y5 := hg5.size
        have hs5 : w2.heap.size + 1 ≤ w5.heap.size := by omega
        have O5 := (hg5.block w2.heap.size (by omega) (fun e => by have := (hbl _ e.symm).1; omega)).trans hO2.out
        have oB5 : Own w5 (w2.heap.size + 1) w5.heap.size 22 A5 t c5 vs := (oB2.kept_ty oR2.1 (by decide) hg5).more (Nat.le_refl _) (by omega)
        have hV5 := (hV2.kept_apart hg5 (fun v hv z hz hz2 => hap.out v hv z hz hz2)).more (Nat.le_refl _) (show wr.heap.size ≤ w5.heap.size by omega)
        have hap5 : ∀ v ∈ vs, Apart (.slice (some ⟨g4, 0, none⟩) (t + 1) c6) v := fun v hv z hz hz2 => by
          simp [Value.ownBlock] at hz
          subst hz
          rcases hor5 with h | h
          · exact hap.out v hv g4 h hz2
          · have := hV2.block_lt hv hz2; omega
        have hb5 := hb2.grown hg5 (by omega) (fun z hz => by have := (hbl z hz).1; omega)
        have oR5 := Own.of_row ho5
        have etk : zs ++ [r - 1 - pq] = (oppR r ps).take (t + 1) := by
          have h1 := oppR_get (r := r) (ps := ps) (j := t) (by rw [hl.out]; omega)
          rw [hl.out, show n - 1 - t = q by have := hq.out; omega, getD_some hpq.out] at h1
          rw [take_succ_of h1, hzs.out]
        rw [show zs.map (Value.int .i64) ++ [.int .i64 (r - 1 - pq)] = (zs ++ [r - 1 - pq]).map (Value.int .i64) by simp] at oR5
        generalize zs ++ [r - 1 - pq] = zs2 at *
        replace etk := Lib.hid etk
        have K5 : w5.cell? ⟨w2.heap.size, 1, none⟩ = some (.slice A4 t c4) := by rw [cell_of_row _ _ _ _ _ _ O5]; rfl
        have F5 : w5.frozen? ⟨w2.heap.size, 1, none⟩ = false := frozen_of_row _ _ _ _ _ O5
        have O6 := heap_setCell_same _ _ 1 _ _ (Value.slice (some ⟨g4, 0, none⟩) (t + 1) c6) O5
        have O6 : (w5.setCell ⟨w2.heap.size, 1, none⟩ (.slice (some ⟨g4, 0, none⟩) (t + 1) c6)).heap[w2.heap.size]? = some (.cells #[.int .i64 r, .slice (some ⟨g4, 0, none⟩) (t + 1) c6, .slice A5 t c5] 29 (0, 0)) := by simpa using O6
        have hS : ∀ hi, Same (w2.heap.size + 1) hi w5 (w5.setCell ⟨w2.heap.size, 1, none⟩ (.slice (some ⟨g4, 0, none⟩) (t + 1) c6)) := fun hi => same_set _ _ _ _ _ (.inl (by simp))
        have oR6 := oR5.keep (hS _)
        have oB6 := oB5.keep (hS _)
        have hV6 := hV5.keep (hS _)
        have hb6 := hb5.setCell (p := ⟨w2.heap.size, 1, none⟩) (by simp) (.slice (some ⟨g4, 0, none⟩) (t + 1) c6)
        have hz6 : (w5.setCell ⟨w2.heap.size, 1, none⟩ (.slice (some ⟨g4, 0, none⟩) (t + 1) c6)).heap.size = w5.heap.size := World.size_setCell _ _ _
        clear O5 K5 F5
        clear hS oR5 oB5 hV5 hb5 ho5 hg5 hor5 oR2 oB2 hV2 hO2 hb2 hap hbl hd
        have hw1 : IntKind.i64.wrap ((n : Int) - 1) = (n : Int) - 1 := by rw [IntKind.wrap_i64]; omega
        replace hap5 := Lib.hid hap5
        replace O6 := Lib.hid O6
        go_wp2_with (skip; fail)
        clear hw1
        obtain ⟨w6, e6⟩ : ∃ w6 : World, w5.setCell ⟨w2.heap.size, 1, none⟩ (.slice (some ⟨g4, 0, none⟩) (t + 1) c6) = w6 := ⟨_, rfl⟩
        rw [e6] at oR6 oB6 hV6 hb6 hz6 O6 ⊢
        clear e6
        have B6 : Below W1.heap.size W1 w6 := below_then f2 hb6 (by omega)
        have y6 := hb6.size
        rw [← hz6] at oR6 oB6 hV6 y5 hs5 hlt5 ⊢
        replace hz6 := Lib.hid hz6
        go_loopw [7, 8] (fun bv fv wq => ∃ (s m : Nat) (A6 : Option Addr) (c7 : Nat) (ys : List Int), s ≤ t ∧ m ≤ s ∧ fv = .int .i64 ((n : Int) - 1 - s) ∧ bv = .slice A6 m c7 ∧ Hid (ys = oppRow xss s t) ∧ Own wq w6.heap.size wq.heap.size 2 A6 m c7 (ys.map (Value.int .i64)) ∧ w6.heap.size ≤ wq.heap.size ∧ Below w6.heap.size w6 wq) (fun _ fv _ => (intOf fv - (q : Int)).toNat)
        case atStart => exact ⟨0, 0, _, 0, [], by omega, by omega, by simp, rfl, Lib.hid (by simp [oppRow]), (own_lit0 w6 2 (Nat.le_refl _)).more (Nat.le_refl _) (by simp), by simp, (Below.refl _ _).alloc (Nat.le_refl _) _⟩
        case round =>
          obtain ⟨s, m, A6, c7, ys, hst, hms, rfl, rfl, hys, oY, hz7, hb7⟩ := hrel
          have B7 : Below W1.heap.size W1 wr := below_then B6 hb7 (by omega)
          by_cases hs : s < t
          · obtain ⟨f, hf⟩ : ∃ f : Nat, f + 1 + s = n := ⟨n - 1 - s, by omega⟩
            have hev : ((n : Int) - 1 - (s : Int)) = (f : Int) := by omega
            rw [hev]
            have hfn : f < n := by omega
            have hfq : q < f := by have := hq.out; omega
            obtain ⟨b, o, Ak, nk, ck, C, rfl, _, _, hCf, hcC0, hrC⟩ := hR.at_ hfn
            have hcC := (B7.cell (p := ⟨b, o + f, none⟩) (by simp; omega)).trans hcC0
            have P1 := (B7.block (w.heap.size) (by omega)).trans p0.out
            have a2 : wr.cell? ⟨w.heap.size, 2, none⟩ = some (.slice (some ⟨b, o, none⟩) n c) := by rw [cell_of_row _ _ _ _ _ _ P1]; rfl
            have hgt : decide ((f : Int) > (q : Int)) = true := by simp; omega
            have hstep := oppRow_succ xss s t
            rw [hl1.out, show n - 1 - t = q by have := hq.out; omega, show n - 1 - s = f by omega, List.getD_eq_getElem?_getD, hCf, Option.getD_some, ← hys.out] at hstep
            have hw5 : IntKind.i64.wrap ((n : Int) - 1) = (n : Int) - 1 := by rw [IntKind.wrap_i64]; omega
            have hw6 : IntKind.i64.wrap ((n : Int) - 1 - (f : Int)) = (s : Int) := by rw [IntKind.wrap_i64]; omega
            have hw7 : IntKind.i64.wrap ((f : Int) - 1) = (f : Int) - 1 := by rw [IntKind.wrap_i64]; omega
            have f0 : (0 : Int) ≤ (f : Int) := by omega
            have f1 : (f : Int) < (n : Int) := by omega
            have hfs : (f : Int) - 1 = (n : Int) - 1 - ((s + 1 : Nat) : Int) := by omega
            replace P1 := Lib.hid P1
            replace hCf := Lib.hid hCf
            replace hf := Lib.hid hf
            replace hfs := Lib.hid hfs
            clear hev
            cases hmem : decide ((q : Int) ∈ C) with
            | false =>
              rw [if_neg (of_decide_eq_false hmem), List.append_nil] at hstep
              replace hstep := Lib.hid hstep
              replace hmem := Lib.hid hmem
              go_wp2_with fail
              ((with_reducible refine (l01Has_any Ak nk ck C (q : Int) _ (hrC.below B7 (by omega))).mono ?_); rintro e w' ⟨rfl, rfl⟩)
              rw [hmem.out]
              go_wp2_with fail
              clear hw5 hw6 hw7
              go_roundw
              case measure => first | (simp [intOf]; done) | (simp [intOf]; omega)
              case rel => first | exact ⟨s + 1, m, A6, c7, ys, by omega, by omega, by rw [hfs.out], rfl, Lib.hid (by rw [hstep.out]), oY, hz7, hb7⟩ | (repeat (first | exact ⟨⟨s + 1, m, A6, c7, ys, by omega, by omega, by rw [hfs.out], rfl, Lib.hid (by rw [hstep.out]), oY, hz7, hb7⟩, rfl⟩ | refine Exists.intro _ ?_))
            | true =>
              rw [if_pos (of_decide_eq_true hmem)] at hstep
              replace hstep := Lib.hid hstep
              replace hmem := Lib.hid hmem
              go_wp2_with fail
              ((with_reducible refine (l01Has_any Ak nk ck C (q : Int) _ (hrC.below B7 (by omega))).mono ?_); rintro e w' ⟨rfl, rfl⟩)
              rw [hmem.out]
              go_wp2_with (at_builtin; refine wpList_append1 wr rfl (.tmp 54) (.tmp 59) 22 rfl w6.heap.size 2 j0 (.int .i64 0) 8 Try.underlying22 hj0 hy0 hy1 hy2 rfl (by omega) A6 m c7 _ (.int .i64 (s : Int)) rfl oY.1 _ rfl rfl rfl (by omega) hz7 ?_)
              intro g8 c8 w8 ho8 hg8 hlo8 hlt8 hor8
              have hb8 := hb7.grown hg8 hz7 (fun z hz => (oY.1.lt z hz).1)
              have hz8 := hg8.size
              have oY8 := Own.of_row ho8
              rw [show ys.map (Value.int .i64) ++ [.int .i64 (s : Int)] = (ys ++ [(s : Int)]).map (Value.int .i64) by simp] at oY8
              generalize ys ++ [(s : Int)] = ys2 at *
              clear ho8 hg8 hor8 a2 hcC oY hb7 B7
              go_wp2_with fail
              clear hw5 hw6 hw7
              go_roundw
              case measure => first | (simp [intOf]; done) | (simp [intOf]; omega)
              case rel => first | exact ⟨s + 1, m + 1, _, c8, ys2, by omega, by omega, by rw [hfs.out], rfl, Lib.hid (by rw [hstep.out]), oY8, by omega, hb8⟩ | (repeat (first | exact ⟨⟨s + 1, m + 1, _, c8, ys2, by omega, by omega, by rw [hfs.out], rfl, Lib.hid (by rw [hstep.out]), oY8, by omega, hb8⟩, rfl⟩ | refine Exists.intro _ ?_))
          · have hst2 : s = t := by omega
            subst hst2
            have hev : ((n : Int) - 1 - (s : Int)) = (q : Int) := by have := hq.out; omega
            rw [hev]
            have hgt : decide ((q : Int) > (q : Int)) = false := by simp
            have O7 := (hb7.block w2.heap.size (by omega)).trans O6.out
            have x2 : wr.cell? ⟨w2.heap.size, 2, none⟩ = some (.slice A5 s c5) := by rw [cell_of_row _ _ _ _ _ _ O7]; rfl
            have oR7 := oR6.below hb7 (Nat.le_refl _)
            have oB7 := oB6.below hb7 (Nat.le_refl _)
            have hV7 := hV6.keep (Same.of_below hb7 (Nat.le_refl _))
            have b7 := hb6.trans (hb7.mono (by omega))
            have hw8 : IntKind.i64.wrap ((q : Int) - 1) = (q : Int) - 1 := by rw [IntKind.wrap_i64]; omega
            replace O7 := Lib.hid O7
            clear hev
            go_wp2_with (at_builtin; refine wpList_append1 wr rfl (.tmp 62) (.tmp 64) 23 rfl (w2.heap.size + 1) 22 s0 (.slice none 0 0) 24 Try.underlying23 hs0 hu0 hu1 hu2 rfl (by omega) A5 s c5 _ (.slice A6 m c7) rfl oB7.1 _ rfl rfl rfl (by omega) (by omega) ?_)
            intro g8 c8 w8 ho8 hg8 hlo8 hlt8 hor8
            have hz8 := hg8.size
            have bl8 : ∀ z, (Value.slice A5 s c5).ownBlock = some z → w2.heap.size + 1 ≤ z := fun z hz => (oB7.1.lt z hz).1
            have O8 := (hg8.block w2.heap.size (by omega) (fun e => by have := bl8 _ e.symm; omega)).trans O7.out
            have oR8 := (oR7.kept_ty oB7.1 (by decide) hg8).more (Nat.le_refl _) (show w6.heap.size ≤ w8.heap.size by omega)
            have oY8 := oY.kept_ty oB7.1 (by decide) hg8
            have hV8 := (hV7.kept_ty oB7.1 (by decide) hg8).snoc oY8 (by omega) hz7
            have b8 := b7.grown hg8 (by omega) (fun z hz => by have := bl8 z hz; omega)
            have oB8 := Own.of_row ho8
            have x8 : w8.cell? ⟨w2.heap.size, 2, none⟩ = some (.slice A5 s c5) := by rw [cell_of_row _ _ _ _ _ _ O8]; rfl
            have z8 : w8.frozen? ⟨w2.heap.size, 2, none⟩ = false := frozen_of_row _ _ _ _ _ O8
            have O9 := heap_setCell_same _ _ 2 _ _ (Value.slice (some ⟨g8, 0, none⟩) (s + 1) c8) O8
            have O9 : Hid ((w8.setCell ⟨w2.heap.size, 2, none⟩ (.slice (some ⟨g8, 0, none⟩) (s + 1) c8)).heap[w2.heap.size]? = some (.cells #[.int .i64 r, .slice (some ⟨g4, 0, none⟩) (s + 1) c6, .slice (some ⟨g8, 0, none⟩) (s + 1) c8] 29 (0, 0))) := Lib.hid (by simpa using O9)
            have hS : ∀ hi, Same (w2.heap.size + 1) hi w8 (w8.setCell ⟨w2.heap.size, 2, none⟩ (.slice (some ⟨g8, 0, none⟩) (s + 1) c8)) := fun hi => same_set _ _ _ _ _ (.inl (by simp))
            have oR9 := oR8.keep (hS _)
            have oB9 := oB8.keep (hS _)
            have eV : (oppB xss).take s ++ [ys] = (oppB xss).take (s + 1) := by
              rw [take_succ_of (oppB_get (xss := xss) (j := s) (by rw [hl1.out]; exact htn)), hys.out]
            rw [eV] at hV8
            have hV9 := (hV8.more (Nat.le_refl _) hz8).keep (hS _)
            have b9 := b8.setCell (p := ⟨w2.heap.size, 2, none⟩) (by simp) (.slice (some ⟨g8, 0, none⟩) (s + 1) c8)
            have hz9 : (w8.setCell ⟨w2.heap.size, 2, none⟩ (.slice (some ⟨g8, 0, none⟩) (s + 1) c8)).heap.size = w8.heap.size := World.size_setCell _ _ _
            have hap9 : Hid (∀ v ∈ vs ++ [Value.slice A6 m c7], Apart (.slice (some ⟨g4, 0, none⟩) (s + 1) c6) v) := Lib.hid (fun v hv => by
              rcases List.mem_append.1 hv with hv | hv
              · exact hap5.out v hv
              · rw [List.mem_singleton.1 hv]
                intro z hz hz2
                simp [Value.ownBlock] at hz
                subst hz
                have := (oY.1.lt _ hz2).1
                omega)
            clear hS O8 oR7 oB7 hV7 b7 oR8 oB8 oY8 hV8 b8 ho8 hg8 hor8 eV hap5 oY hb7 B7 x2
            go_wp2_with fail
            clear x8 z8
            obtain ⟨w9, e9⟩ : ∃ w9 : World, w8.setCell ⟨w2.heap.size, 2, none⟩ (.slice (some ⟨g8, 0, none⟩) (s + 1) c8) = w9 := ⟨_, rfl⟩
            rw [e9] at O9 oR9 oB9 hV9 b9 hz9 ⊢
            rw [← hz9] at oR9 oB9 hV9
            clear e9 hw8
            go_roundw
            case measure => have := hq.out; first | (simp [intOf]; done) | (simp [intOf]; omega)
            case rel => first | exact ⟨s + 1, _, _, _, _, _, _, by omega, by have := hq.out; rw [show (q : Int) - 1 = (n : Int) - 1 - ((s + 1 : Nat) : Int) by omega], O9, etk, oR9, oB9, hV9, hap9, b9, by omega⟩ | (repeat (first | exact ⟨⟨s + 1, _, _, _, _, _, _, by omega, by have := hq.out; rw [show (q : Int) - 1 = (n : Int) - 1 - ((s + 1 : Nat) : Int) by omega], O9, etk, oR9, oB9, hV9, hap9, b9, by omega⟩, rfl⟩ | refine Exists.intro _ ?_))
      · have htn2 : t = n := by omega
        subst htn2
        have hev : ((t : Int) - 1 - (t : Int)) = -1 := by omega
        rw [hev]
        have e1 : (oppB xss).take t = oppB xss := List.take_of_length_le (by rw [oppB_length, hl1.out]; exact Nat.le_refl _)
        have e2 : zs = oppR r ps := by rw [hzs.out]; exact List.take_of_length_le (by rw [oppR_length, hl.out]; exact Nat.le_refl _)
        rw [e1] at hV
        subst e2
        have Q0 := hO.out
        have u0 : wr.cell? ⟨w2.heap.size, 0, none⟩ = some (.int .i64 r) := by rw [cell_of_row _ _ _ _ _ _ Q0]; rfl
        have u1 : wr.cell? ⟨w2.heap.size, 1, none⟩ = some (.slice A4 t c4) := by rw [cell_of_row _ _ _ _ _ _ Q0]; rfl
        have u2 : wr.cell? ⟨w2.heap.size, 2, none⟩ = some (.slice A5 t c5) := by rw [cell_of_row _ _ _ _ _ _ Q0]; rfl
        clear Q0
        have Q := (hb1.block (w.heap.size + 1) (by omega)).trans p1.out
        have y0r : wr.cell? ⟨w.heap.size + 1, 0, none⟩ = some (.int .i64 0) := by rw [cell_of_row _ _ _ _ _ _ Q]; rfl
        have z0r : wr.frozen? ⟨w.heap.size + 1, 0, none⟩ = false := frozen_of_row _ _ _ _ _ Q
        have y1r : wr.cell? ⟨w.heap.size + 1, 1, none⟩ = some (.slice none 0 0) := by rw [cell_of_row _ _ _ _ _ _ Q]; rfl
        have z1r : wr.frozen? ⟨w.heap.size + 1, 1, none⟩ = false := frozen_of_row _ _ _ _ _ Q
        have y2r : wr.cell? ⟨w.heap.size + 1, 2, none⟩ = some (.slice none 0 0) := by rw [cell_of_row _ _ _ _ _ _ Q]; rfl
        have z2r : wr.frozen? ⟨w.heap.size + 1, 2, none⟩ = false := frozen_of_row _ _ _ _ _ Q
        replace Q := Lib.hid Q
        go_wp2_with fail
        (try simp only [Exit.inBlock, Exit.then])
        have h1 := heap_setCell_same _ _ 0 _ _ (Value.int .i64 r) Q.out
        have h2 := heap_setCell_same _ _ 1 _ _ (Value.slice A4 t c4) h1
        have h3 := heap_setCell_same _ _ 2 _ _ (Value.slice A5 t c5) h2
        refine bodyPost_ret (v := .tuple #[.agg #[.int .i64 r, .slice A4 t c4, .slice A5 t c5], .int .i64 0]) ?_ rfl ?_
        · exact results_cell_row2 rfl _ _ (w.heap.size + 1) 29 #[.int .i64 r, .slice A4 t c4, .slice A5 t c5] (0, 0) _ rfl (by simpa using h3) Try.underlying29 rfl (by kernel_rfl) _ rfl
        · have S3 : ∀ (v0 v1 v2 : Value) (hi : Nat), Same w2.heap.size hi wr (((wr.setCell ⟨w.heap.size + 1, 0, none⟩ v0).setCell ⟨w.heap.size + 1, 1, none⟩ v1).setCell ⟨w.heap.size + 1, 2, none⟩ v2) := fun v0 v1 v2 hi => ((same_set _ _ _ _ _ (.inl (by simp; omega))).trans (same_set _ _ _ _ _ (.inl (by simp; omega)))).trans (same_set _ _ _ _ _ (.inl (by simp; omega)))
          have oS : OwnS wr (w2.heap.size + 1) wr.heap.size 22 2 A5 t c5 (oppB xss) := ⟨vs, oB, hV⟩
          exact ⟨_, _, _, _, _, _, _, _, _, _, rfl, Lib.hid hF.out.symm, ⟨(oR.ri.keep ((S3 _ _ _ _).mono (by omega) (Nat.le_refl _))).more (by omega) (by simp), (oS.rs.keep ((S3 _ _ _ _).mono (by omega) (Nat.le_refl _))).more (by omega) (by simp)⟩, hbig, (((hB.trans (hb1.mono (by omega))).setCell (by simp) _).setCell (by simp) _).setCell (by simp) _⟩

end Go.Proofs.Ytbioelmofceaaaa
