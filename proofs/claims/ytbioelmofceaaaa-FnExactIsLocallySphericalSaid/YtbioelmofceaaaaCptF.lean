/- slices.CompactFunc at []impl.Maniplex over a row of the call's own. No condition but the sizes of memory. -/
import Derived.Test.YtbioelmofceaaaaCptP
import Derived.Test.YtbioelmofceaaaaSam
import Derived.Lib.SliceRun
namespace Go.Proofs.Ytbioelmofceaaaa
open Go.RowKit
set_option linter.unusedVariables false
set_option maxRecDepth 100000
theorem run_clear1 {P : Program} (w : World) (t e ty : TypeId) (z z1 : Value) (ht : P.underlying t = some (.slice e)) (hv : ∀ w, (zeroValue e).run P w = .ok z w) (hz : z.cells = #[z1]) (h1 : z1.oneCell' = true) (b o n c : Nat) (hn : 0 < n)
    (hc : ∀ j, j < n → (w.cell? ⟨b, o + j, none⟩).isSome = true) (hf : ∀ j, j < n → w.frozen? ⟨b, o + j, none⟩ = false) :
    (Builtin.clear_ #[t] ty #[.slice (some ⟨b, o, none⟩) n c]).run P w = .ok (.tuple #[]) (w.setCells b o (List.replicate n z1)) := by
  have hzc : (Builtin.zeroCells z.cells n).toList = List.replicate n z1 := by
    rw [hz]
    simp [Builtin.zeroCells]
    apply List.ext_getElem
    · simp
    · intro i h1 h2
      simp [Nat.mod_one]
  have hst := run_storeCells_cells (P := P) b o (List.replicate n z1) 0 w (by simpa using hc) (by simpa using hf) (by intro v hv'; rw [List.eq_of_mem_replicate hv']; exact h1)
  simp only [Nat.add_zero] at hst
  obtain ⟨m, rfl⟩ : ∃ m, n = m + 1 := ⟨n - 1, by omega⟩
  simp [Builtin.clear_, run_underlying ht, hv, hzc, hst]
theorem cells_other (vs : List Value) : ∀ (w : World) (b o : Nat) (p : Addr), (p.block ≠ b ∨ p.off < o) → (w.setCells b o vs).cell? p = w.cell? p := by
  induction vs with
  | nil => intro w b o p _; rfl
  | cons v r ih =>
    intro w b o p h
    rw [World.setCells, ih _ _ _ _ (by omega), World.cell?_setCell_other _ _ _ _ (by rintro rfl; simp at h)]
theorem cells_block (vs : List Value) : ∀ (w : World) (b o : Nat), (w.setCells b o vs).heap.size = w.heap.size ∧ (w.setCells b o vs).os = w.os ∧ (w.setCells b o vs).tape = w.tape ∧ (w.setCells b o vs).output = w.output ∧ ∀ k, k ≠ b → (w.setCells b o vs).heap[k]? = w.heap[k]? := by
  induction vs with
  | nil => intro w b o; exact ⟨rfl, rfl, rfl, rfl, fun _ _ => rfl⟩
  | cons v r ih =>
    intro w b o
    obtain ⟨h1, h2, h3, h4, h5⟩ := ih (w.setCell ⟨b, o, none⟩ v) b (o + 1)
    refine ⟨by rw [World.setCells, h1, World.size_setCell], h2, h3, h4, fun k hk => ?_⟩
    rw [World.setCells, h5 k hk]
    exact Below.heap_setCell _ _ _ _ (by simpa using hk)
/-- the row behind some steps of the inner loop: k cells are right, the cells from j - 1 on are as they were -/
structure Cpt (wq : World) (b : Nat) (ps : List VF) (k j : Nat) : Prop where
  kj : k < j
  jn : j ≤ ps.length
  len : (dnF ps j).length = k
  done : ∀ i q, (dnF ps j)[i]? = some q → wq.cell? ⟨b, i, none⟩ = some q.1
  rest : ∀ i q, j - 1 ≤ i → ps[i]? = some q → wq.cell? ⟨b, i, none⟩ = some q.1
  has : ∀ i, i < ps.length → ∃ v, wq.cell? ⟨b, i, none⟩ = some v
theorem dnF_skip {ps : List VF} {j : Nat} {x y : VF} (h0 : 0 < j) (hx : ps[j]? = some x) (hy : ps[j - 1]? = some y) (e : x.2 = y.2) : dnF ps (j + 1) = dnF ps j := by
  show (if 0 < j ∧ (ps[j]?).map (·.2) = (ps[j - 1]?).map (·.2) then dnF ps j else dnF ps j ++ (ps[j]?).toList) = _
  rw [if_pos ⟨h0, by rw [hx, hy]; simp [e]⟩]
theorem dnF_take {ps : List VF} {j : Nat} {x y : VF} (hx : ps[j]? = some x) (hy : ps[j - 1]? = some y) (e : x.2 ≠ y.2) : dnF ps (j + 1) = dnF ps j ++ [x] := by
  show (if 0 < j ∧ (ps[j]?).map (·.2) = (ps[j - 1]?).map (·.2) then dnF ps j else dnF ps j ++ (ps[j]?).toList) = _
  rw [if_neg (fun c => e (by have := c.2; rw [hx, hy] at this; simpa using this)), hx]
  rfl
theorem Cpt.start {wq : World} {b : Nat} {ps : List VF} {k : Nat} {x y : VF} (h0 : 0 < k) (hk : ps[k]? = some x) (hy : ps[k - 1]? = some y) (e : x.2 = y.2) (hne : ∀ j, 0 < j → j < k → (ps[j]?).map (·.2) ≠ (ps[j - 1]?).map (·.2)) (hc : ∀ i q, ps[i]? = some q → wq.cell? ⟨b, i, none⟩ = some q.1) : Cpt wq b ps k (k + 1) := by
  have hl := (List.getElem?_eq_some_iff.1 hk).1
  have ef := dnF_full (ps := ps) (k := k) (by omega) hne
  have es := dnF_skip h0 hk hy e
  refine ⟨by omega, by omega, by rw [es, ef, List.length_take]; omega, fun i q hq => ?_, fun i q _ hq => hc i q hq, fun i hi => ⟨_, hc i _ (List.getElem?_eq_getElem hi)⟩⟩
  rw [es, ef] at hq
  have hi : i < k := by have := (List.getElem?_eq_some_iff.1 hq).1; rw [List.length_take] at this; omega
  rw [List.getElem?_take_of_lt hi] at hq
  exact hc i q hq
theorem Cpt.skip {wq w2 : World} {b : Nat} {ps : List VF} {k j : Nat} {x y : VF} (h : Cpt wq b ps k j) (hx : ps[j]? = some x) (hy : ps[j - 1]? = some y) (e : x.2 = y.2) (hw : ∀ i, w2.cell? ⟨b, i, none⟩ = wq.cell? ⟨b, i, none⟩) : Cpt w2 b ps k (j + 1) := by
  have hl := (List.getElem?_eq_some_iff.1 hx).1
  have es := dnF_skip (by have := h.kj; omega) hx hy e
  exact ⟨by have := h.kj; omega, by omega, by rw [es]; exact h.len, fun i q hq => by rw [es] at hq; rw [hw]; exact h.done i q hq, fun i q hi hq => by rw [hw]; exact h.rest i q (by omega) hq, fun i hi => by rw [hw]; exact h.has i hi⟩
theorem Cpt.take {wq w2 : World} {b : Nat} {ps : List VF} {k j : Nat} {x y : VF} (h : Cpt wq b ps k j) (hx : ps[j]? = some x) (hy : ps[j - 1]? = some y) (e : x.2 ≠ y.2) (hw : ∀ i, i ≠ k → w2.cell? ⟨b, i, none⟩ = wq.cell? ⟨b, i, none⟩) (hk : w2.cell? ⟨b, k, none⟩ = some x.1) : Cpt w2 b ps (k + 1) (j + 1) := by
  have hl := (List.getElem?_eq_some_iff.1 hx).1
  have es := dnF_take hx hy e
  have hkj := h.kj
  refine ⟨by omega, by omega, by rw [es, List.length_append, h.len]; rfl, fun i q hq => ?_, fun i q hi hq => by rw [hw i (by omega)]; exact h.rest i q (by omega) hq, fun i hi => by
    by_cases e : i = k
    · exact ⟨_, e ▸ hk⟩
    · rw [hw i e]; exact h.has i hi⟩
  rw [es] at hq
  by_cases hi : i < k
  · rw [List.getElem?_append_left (by rw [h.len]; exact hi)] at hq
    rw [hw i (by omega)]
    exact h.done i q hq
  · rw [List.getElem?_append_right (by rw [h.len]; omega), h.len] at hq
    have : i = k := by
      have := (List.getElem?_eq_some_iff.1 hq).1
      simp at this; omega
    subst this
    simp at hq
    subst hq
    exact hk
theorem sameM_below (A : Option Addr) (n c : Nat) (xss : List (List Int)) (A' : Option Addr) (n' c' : Nat) (yss : List (List Int)) (w : World) {lo hi lo' hi' : Nat} (h : RS w lo hi A n xss) (hhi : hi ≤ w.heap.size) (h' : RS w lo' hi' A' n' yss) (hhi' : hi' ≤ w.heap.size) :
    Calls Try.prog 80 #[.agg #[.slice A n c], .agg #[.slice A' n' c']] w fun e w' => e = .returned (.bool (decide (xss = yss))) ∧ Below w.heap.size w w' :=
  (sameM_any A n c xss A' n' c' yss w h hhi h' hhi').mono fun e w' ⟨h1, h2⟩ => ⟨h1, h2.below⟩
set_option maxHeartbeats 8000000 in
theorem compactF_any (A : Option Addr) (n c : Nat) (ps : List VF) (w : World) {lo hi lo0 hi0 : Nat} (h : Own w lo hi 38 A n c (ps.map (·.1))) (hn : n ≤ 1048576) (hlo : hi ≤ w.heap.size) (hF : ∀ p ∈ ps, GoodF w lo0 hi0 p) (hh : hi0 ≤ lo) (hlw : lo ≤ w.heap.size) :
    Calls Try.prog 102 #[.slice A n c, .func (.func 80) #[] #[]] w fun e w' => ∃ A', e = .returned (.slice A' (dnF ps n).length c) ∧ Rd w' lo hi A' (dnF ps n).length ((dnF ps n).map (·.1)) ∧ Below lo w w' := by
  have hl : ps.length = n := by have := h.len; simpa using this
  have hcap := h.1.2
  by_cases h2 : n < 2
  · have e0 : dnF ps n = ps := by rw [dnF_full (by omega) (fun j a b => by omega), ← hl, List.take_length]
    have hrd := h.rd
    rw [e0, hl]
    replace hrd := Lib.hid hrd
    clear hcap h
    go_enter Try.func102, Try.ntmps102
    go_wp2_with fail
    go_ret
    exact ⟨A, rfl, hrd.out, Below.refl _ _⟩
  · obtain ⟨b, v0, rfl, hb1, hb2, hb3, -, -, -, hfr⟩ := h.at_ (k := 0) (by omega)
    have hc : ∀ i q, ps[i]? = some q → w.cell? ⟨b, i, none⟩ = some q.1 := fun i q hq => by
      have := h.rd.cell (k := i) (v := q.1) (by simp [hq])
      simpa using this
    have hnc : n ≤ c := by
      rcases hcap with ⟨hv, hn⟩ | ⟨g, cap, cur, hv, _, _, hnc, _, _, _⟩
      · cases hv
      · cases hv; exact hnc
    have hrd := h.rd
    clear hcap h
    replace hc := Lib.hid hc
    replace hF := Lib.hid hF
    replace hrd := Lib.hid hrd
    replace hfr := Lib.hid hfr
    go_enter Try.func102, Try.ntmps102
    go_wp2_with fail
    go_loopw [5] (fun kv wq => ∃ q : Nat, q + 1 ≤ n ∧ kv = .int .i64 (q + 1 : Nat) ∧ Hid (∀ j, 0 < j → j < q + 1 → (ps[j]?).map (·.2) ≠ (ps[j - 1]?).map (·.2)) ∧ Below w.heap.size w wq) (fun kv _ => n - (intOf kv).toNat)
    case atStart => exact ⟨0, by omega, rfl, Lib.hid (fun j a b => by omega), Below.refl _ _⟩
    case round =>
      obtain ⟨q, hq, rfl, hne, hB⟩ := hrel
      have yB := hB.size
      by_cases hlt : q + 1 < n
      · obtain ⟨x, hx⟩ : ∃ x, ps[q + 1]? = some x := ⟨_, List.getElem?_eq_getElem (by omega)⟩
        obtain ⟨y, hy⟩ : ∃ y, ps[q]? = some y := ⟨_, List.getElem?_eq_getElem (by omega)⟩
        obtain ⟨Ax, nx, cx, ex, px, _, rx⟩ := hF.out x (List.mem_of_getElem? hx)
        obtain ⟨Ay, ny, cy, ey, py, _, ry⟩ := hF.out y (List.mem_of_getElem? hy)
        have rx := rx.below hB (by omega)
        have ry := ry.below hB (by omega)
        haveI := Since.ne wr
        have u1 : ∀ u : Since wr, u.val.cell? ⟨b, q + 1, none⟩ = some (.slice Ax nx cx) := fun u => (u.ok.cell (p := ⟨b, q + 1, none⟩) (by simp; omega)).trans ((hB.cell (p := ⟨b, q + 1, none⟩) (by simp; omega)).trans (ex ▸ hc.out _ _ hx))
        have u2 : ∀ u : Since wr, u.val.cell? ⟨b, q, none⟩ = some (.slice Ay ny cy) := fun u => (u.ok.cell (p := ⟨b, q, none⟩) (by simp; omega)).trans ((hB.cell (p := ⟨b, q, none⟩) (by simp; omega)).trans (ey ▸ hc.out _ _ hy))
        have hh1 : hi0 ≤ wr.heap.size := by omega
        have hpn : 0 < n := by omega
        have hpn2 : ¬ n = 0 := by omega
        replace hx := Lib.hid hx
        replace hy := Lib.hid hy
        clear ex ey px py
        by_cases hxy : x.2 = y.2
        · have hsm : decide (x.2 = y.2) = true := decide_eq_true hxy
          replace hxy := Lib.hid hxy
          replace hsm := Lib.hid hsm
          go_wp2_with fail
          refine wp_region_since_lit (by kernel_rfl) (by kernel_rfl) ?_
          repeat (go_big_quiet_step ((go_at_call 80; refine since_call (hsm.out ▸ sameM_below _ _ _ x.2 _ _ _ y.2 _ (rx.below (Since.ok _) hh1) ?_ (ry.below (Since.ok _) hh1) ?_); exact Nat.le_trans hh1 (Since.ok _).size; exact Nat.le_trans hh1 (Since.ok _).size)))
          refine wpQuiet_nil ?_
          intro w2 hw2
          have hb2' : Below wr.heap.size wr w2 := by obtain ⟨u, hu⟩ := hw2; rw [hu]; exact u.ok
          clear hw2 u1 u2
          have hB2 := below_then hB hb2' yB
          have yB2 := hB2.size
          clear hb2' rx ry hB
          have hcs : Cpt w2 b ps (q + 1) (q + 1 + 1) := Cpt.start (by omega) hx.out hy.out hxy.out hne.out (fun i z hz => (hB2.cell (p := ⟨b, i, none⟩) hb3).trans (hc.out i z hz))
          have hfr2 : ∀ i, w2.frozen? ⟨b, i, none⟩ = false := fun i => (World.frozen?_of_block (a := ⟨b, i, none⟩) (hB2.block b hb3)).trans (hfr.out i)
          have hcs := Lib.hid hcs
          have hB3 : Below lo w w2 := hB2.mono hlw
          clear hB2
          go_wp2_with fail
          go_loopw [5, 7] (fun v5 v7 wq => ∃ k t : Nat, v5 = .int .i64 k ∧ v7 = .int .i64 (t + 1 : Nat) ∧ q + 1 + (t + 1) ≤ n ∧ 1 ≤ k ∧ Hid (Cpt wq b ps k (q + 1 + (t + 1))) ∧ Hid (∀ i, wq.frozen? ⟨b, i, none⟩ = false) ∧ Below lo w wq) (fun v5 v7 _ => n - (intOf v7).toNat)
          case atStart => exact ⟨q + 1, 0, by go_num, rfl, by omega, by omega, hcs, Lib.hid hfr2, hB3⟩
          case round =>
            obtain ⟨k, t, rfl, rfl, ht, hk1, hC, hfz, hB4⟩ := hrel
            have yB4 := hB4.size
            have hkj := hC.out.kj
            have hh4 : hi0 ≤ wr.heap.size := by omega
            have hbr : b < wr.heap.size := by omega
            by_cases hlt2 : q + 1 + (t + 1) < n
            · obtain ⟨x2, hx2⟩ : ∃ x, ps[q + 1 + (t + 1)]? = some x := ⟨_, List.getElem?_eq_getElem (by omega)⟩
              obtain ⟨y2, hy2⟩ : ∃ y, ps[q + 1 + t]? = some y := ⟨_, List.getElem?_eq_getElem (by omega)⟩
              obtain ⟨A3, n3, c3, e3, -, -, r3⟩ := hF.out x2 (List.mem_of_getElem? hx2)
              obtain ⟨A4, n4, c4, e4, -, -, r4⟩ := hF.out y2 (List.mem_of_getElem? hy2)
              have r3 := r3.below hB4 (by omega)
              have r4 := r4.below hB4 (by omega)
              haveI := Since.ne wr
              have d1 : ∀ u : Since wr, u.val.cell? ⟨b, q + 1 + (t + 1), none⟩ = some (.slice A3 n3 c3) := fun u => (u.ok.cell (p := ⟨b, q + 1 + (t + 1), none⟩) hbr).trans (e3 ▸ hC.out.rest _ _ (by omega) hx2)
              have d2 : ∀ u : Since wr, u.val.cell? ⟨b, q + 1 + t, none⟩ = some (.slice A4 n4 c4) := fun u => (u.ok.cell (p := ⟨b, q + 1 + t, none⟩) hbr).trans (e4 ▸ hC.out.rest _ _ (by omega) hy2)
              have hq4 : 0 < n - (q + 1) := by omega
              have hq5 : ¬ n - (q + 1) = 0 := by omega
              replace hx2 := Lib.hid hx2
              replace hy2 := Lib.hid hy2
              by_cases hxy2 : x2.2 = y2.2
              · have hsm : decide (x2.2 = y2.2) = true := decide_eq_true hxy2
                replace hxy2 := Lib.hid hxy2
                replace hsm := Lib.hid hsm
                clear e3 e4
                go_wp2_with fail
                refine wp_region_since_lit (by kernel_rfl) (by kernel_rfl) ?_
                repeat (go_big_quiet_step ((go_at_call 80; refine since_call (hsm.out ▸ sameM_below _ _ _ x2.2 _ _ _ y2.2 _ (r3.below (Since.ok _) hh4) ?_ (r4.below (Since.ok _) hh4) ?_); exact Nat.le_trans hh4 (Since.ok _).size; exact Nat.le_trans hh4 (Since.ok _).size)))
                refine wpQuiet_nil ?_
                intro w3 hw3
                have hb3' : Below wr.heap.size wr w3 := by obtain ⟨u, hu⟩ := hw3; rw [hu]; exact u.ok
                clear hw3 d1 d2
                have hC3 := Lib.hid (hC.out.skip (w2 := w3) hx2.out hy2.out hxy2.out (fun i => hb3'.cell (p := ⟨b, i, none⟩) hbr))
                have hfz3 := Lib.hid (fun i => (World.frozen?_of_block (a := ⟨b, i, none⟩) (hb3'.block b hbr)).trans (hfz.out i))
                have hB5 := hB4.trans (hb3'.mono (by omega))
                go_wp2_with fail
                go_roundw
                case measure => simp [intOf]; omega
                case rel => exact ⟨k, t + 1, rfl, by go_num, by omega, by omega, hC3, hfz3, hB5⟩
              · have hsm : decide (x2.2 = y2.2) = false := decide_eq_false hxy2
                replace hxy2 := Lib.hid hxy2
                replace hsm := Lib.hid hsm
                replace e3 := Lib.hid e3
                clear e4
                go_wp2_with fail
                refine wp_region_since_lit (by kernel_rfl) (by kernel_rfl) ?_
                repeat (go_big_quiet_step ((go_at_call 80; refine since_call (hsm.out ▸ sameM_below _ _ _ x2.2 _ _ _ y2.2 _ (r3.below (Since.ok _) hh4) ?_ (r4.below (Since.ok _) hh4) ?_); exact Nat.le_trans hh4 (Since.ok _).size; exact Nat.le_trans hh4 (Since.ok _).size)))
                refine wpQuiet_nil ?_
                intro w3 hw3
                have hb3' : Below wr.heap.size wr w3 := by obtain ⟨u, hu⟩ := hw3; rw [hu]; exact u.ok
                have d3 : w3.cell? ⟨b, q + 1 + (t + 1), none⟩ = some (.slice A3 n3 c3) := by obtain ⟨u, hu⟩ := hw3; rw [hu]; exact d1 u
                clear hw3 d1 d2
                obtain ⟨v5, hv5⟩ := hC.out.has k (by omega)
                have d5 : w3.cell? ⟨b, k, none⟩ = some v5 := (hb3'.cell (p := ⟨b, k, none⟩) hbr).trans hv5
                have d6 : w3.frozen? ⟨b, k, none⟩ = false := (World.frozen?_of_block (a := ⟨b, k, none⟩) (hb3'.block b hbr)).trans (hfz.out k)
                have hB5 := hB4.trans (hb3'.mono (by omega))
                have hC6 := Lib.hid (hC.out.take (w2 := w3.setCell ⟨b, k, none⟩ (.slice A3 n3 c3)) hx2.out hy2.out hxy2.out (fun i hi => (World.cell?_setCell_other _ _ _ _ (by rintro e; cases e; exact hi rfl)).trans (hb3'.cell (p := ⟨b, i, none⟩) hbr)) (by rw [e3.out]; exact World.cell?_setCell_same _ _ _ d5))
                have hfz6 : Hid (∀ i, (w3.setCell ⟨b, k, none⟩ (.slice A3 n3 c3)).frozen? ⟨b, i, none⟩ = false) := Lib.hid (fun i => (World.frozen?_setCell _ _ _ _).trans ((World.frozen?_of_block (a := ⟨b, i, none⟩) (hb3'.block b hbr)).trans (hfz.out i)))
                have hB6 : Below lo w (w3.setCell ⟨b, k, none⟩ (.slice A3 n3 c3)) := hB5.setCell (by simp; omega) _
                go_wp2_with fail
                exact ⟨⟨k + 1, t + 1, by go_num, by go_num, by omega, by omega, hC6, hfz6, hB6⟩, by simp [intOf]; omega⟩
            · have hjn : q + 1 + (t + 1) = n := by omega
              rw [hjn] at hC hkj
              have hcl : ∀ ty, (Builtin.clear_ #[63] ty #[.slice (some ⟨b, k, none⟩) (n - k) (c - k)]).run Try.prog wr = .ok (.tuple #[]) (wr.setCells b k (List.replicate (n - k) (.slice none 0 0))) :=
                fun ty => run_clear1 wr _ _ ty _ _ Try.underlying63 Try.zeroValue38 rfl rfl b k _ _ (by omega) (fun i hi => by obtain ⟨v, hv⟩ := hC.out.has (k + i) (by omega); rw [hv]; rfl) (fun i hi => hfz.out _)
              obtain ⟨z1, z2, z3, z4, z5⟩ := cells_block (List.replicate (n - k) (.slice none 0 0)) wr b k
              have hB7 : Below lo wr (wr.setCells b k (List.replicate (n - k) (.slice none 0 0))) := ⟨z2, z3, z4, by omega, fun i hi => z5 i (by omega)⟩
              have hB8 := hB4.trans hB7
              have hR : Rd (wr.setCells b k (List.replicate (n - k) (.slice none 0 0))) lo hi (some ⟨b, 0, none⟩) (dnF ps n).length ((dnF ps n).map (·.1)) := by
                have hlen := hC.out.len
                refine ⟨by simp, by omega, fun _ => ⟨b, 0, rfl, hb1, hb2, fun i v hv => ?_⟩⟩
                rw [List.getElem?_map, Option.map_eq_some_iff] at hv
                obtain ⟨z, hz, rfl⟩ := hv
                have hik : i < k := by have := (List.getElem?_eq_some_iff.1 hz).1; omega
                rw [Nat.zero_add]
                exact (cells_other _ _ _ _ _ (.inr hik)).trans (hC.out.done i z hz)
              replace hR := Lib.hid hR
              replace hB8 := Lib.hid hB8
              clear z1 z2 z3 z4 z5 hB7
              have hlen := Lib.hid hC.out.len
              go_wp2_with fail
              go_ret
              exact ⟨_, by rw [hlen.out]; rfl, hR.out, hB8.out⟩
        · have hsm : decide (x.2 = y.2) = false := decide_eq_false hxy
          have hst : Hid (∀ j, 0 < j → j < q + 1 + 1 → (ps[j]?).map (·.2) ≠ (ps[j - 1]?).map (·.2)) := Lib.hid fun j a b => by
            by_cases e : j = q + 1
            · subst e
              rw [Nat.add_sub_cancel, hx.out, hy.out]
              simpa using hxy
            · exact hne.out j a (by omega)
          replace hxy := Lib.hid hxy
          replace hsm := Lib.hid hsm
          go_wp2_with fail
          refine wp_region_since_lit (by kernel_rfl) (by kernel_rfl) ?_
          repeat (go_big_quiet_step ((go_at_call 80; refine since_call (hsm.out ▸ sameM_below _ _ _ x.2 _ _ _ y.2 _ (rx.below (Since.ok _) hh1) ?_ (ry.below (Since.ok _) hh1) ?_); exact Nat.le_trans hh1 (Since.ok _).size; exact Nat.le_trans hh1 (Since.ok _).size)))
          refine wpQuiet_nil ?_
          intro w2 hw2
          have hb2' : Below wr.heap.size wr w2 := by obtain ⟨u, hu⟩ := hw2; rw [hu]; exact u.ok
          clear hw2 u1 u2
          have hB2 := below_then hB hb2' yB
          go_wp2_with fail
          go_roundw
          case measure => simp [intOf]; omega
          case rel => exact ⟨q + 1, by omega, by go_num, hst, hB2⟩
      · have e0 : dnF ps n = ps := by rw [dnF_full (by omega) (fun j a b => hne.out j a (by omega)), ← hl, List.take_length]
        have hrd2 : Hid (Rd wr lo hi (some ⟨b, 0, none⟩) (dnF ps n).length ((dnF ps n).map (·.1))) := by rw [e0, hl]; exact Lib.hid (hrd.out.below hB hlo)
        have e1 : Hid ((dnF ps n).length = n) := Lib.hid (by rw [e0]; exact hl)
        clear e0
        go_wp2_with fail
        go_ret
        exact ⟨_, by rw [e1.out]; rfl, hrd2.out, hB.mono hlw⟩
end Go.Proofs.Ytbioelmofceaaaa
