/- Copies of maniplexes; the closure that looks for a form. No condition but the sizes of memory. -/
import Derived.Test.YtbioelmofceaaaaSecF
import Derived.Test.YtbioelmofceaaaaStep
namespace Go.Proofs.Ytbioelmofceaaaa
open Go.RowKit
set_option linter.unusedVariables false
set_option maxRecDepth 100000
set_option maxHeartbeats 2000000 in
theorem secF1_any (A : Option Addr) (n c : Nat) (xss : List (List Int)) (b1 b2 b3 o3 l no co : Nat) (A2 : Option Addr) (n2 c2 : Nat) (yss : List (List Int)) (w : World) {lo hi lo2 hi2 : Nat} (h : RS w lo hi A n xss) (hhi : hi ≤ w.heap.size)
    (h1 : w.cell? ⟨b1, 0, none⟩ = some (.slice (some ⟨b3, o3, none⟩) no co)) (hb1 : b1 < w.heap.size) (h2 : w.cell? ⟨b2, 0, none⟩ = some (.int .i64 (l : Nat))) (hb2 : b2 < w.heap.size) (hl : l < no) (hno : no ≤ 1048576)
    (h3 : w.cell? ⟨b3, o3 + l, none⟩ = some (.slice A2 n2 c2)) (hb3 : b3 < w.heap.size) (h4 : RS w lo2 hi2 A2 n2 yss) (hhi2 : hi2 ≤ w.heap.size) :
    Calls Try.prog 79 #[.agg #[.slice A n c], .pointer (some ⟨b1, 0, none⟩), .pointer (some ⟨b2, 0, none⟩)] w fun e w' => (∃ t : Bool, e = .returned (.bool t)) ∧ Below w.heap.size w w' := by
  have B0 : Below w.heap.size w (w.alloc (.cells #[.slice A n c] 38)) := (Below.refl _ _).alloc (Nat.le_refl _) _
  have k1 := (B0.cell (p := ⟨b1, 0, none⟩) hb1).trans h1
  have k2 := (B0.cell (p := ⟨b2, 0, none⟩) hb2).trans h2
  have k3 := (B0.cell (p := ⟨b3, o3 + l, none⟩) hb3).trans h3
  have k0 : (w.alloc (.cells #[.slice A n c] 38)).cell? ⟨w.heap.size, 0, none⟩ = some (.slice A n c) := al_new _ _ _ _ rfl
  have hR := h.below B0 hhi
  have hR4 := h4.below B0 hhi2
  go_enter Try.func79, Try.ntmps79
  go_wp2_with fail
  obtain ⟨W1, hW⟩ : ∃ W1 : World, (w.alloc (.cells #[.slice A n c] 38)) = W1 := ⟨_, rfl⟩
  have hz1 : w.heap.size < W1.heap.size := by rw [← hW]; simp
  rw [hW] at B0 k0 k1 k2 k3 hR hR4 ⊢
  clear hW h h4 h1 h2 h3
  haveI := Since.ne W1
  have u0 : ∀ u : Since W1, u.val.cell? ⟨w.heap.size, 0, none⟩ = some (.slice A n c) := fun u => (u.ok.cell (p := ⟨w.heap.size, 0, none⟩) hz1).trans k0
  have d1 : ∀ u : Since W1, u.val.cell? ⟨b1, 0, none⟩ = some (.slice (some ⟨b3, o3, none⟩) no co) := fun u => (u.ok.cell (p := ⟨b1, 0, none⟩) (by simp; omega)).trans k1
  have d2 : ∀ u : Since W1, u.val.cell? ⟨b2, 0, none⟩ = some (.int .i64 (l : Nat)) := fun u => (u.ok.cell (p := ⟨b2, 0, none⟩) (by simp; omega)).trans k2
  have d3 : ∀ u : Since W1, u.val.cell? ⟨b3, o3 + l, none⟩ = some (.slice A2 n2 c2) := fun u => (u.ok.cell (p := ⟨b3, o3 + l, none⟩) (by simp; omega)).trans k3
  have hh1 : hi ≤ W1.heap.size := by omega
  have hh2 : hi2 ≤ W1.heap.size := by omega
  have hp : 0 < no := by omega
  have hp2 : ¬ no = 0 := by omega
  refine wp_region_since_lit (by kernel_rfl) (by kernel_rfl) ?_
  repeat (go_big_quiet_step ((go_at_call 80; refine since_call (sameM_below _ _ _ xss _ _ _ yss _ (hR.below (Since.ok _) hh1) ?_ (hR4.below (Since.ok _) hh2) ?_); exact Nat.le_trans hh1 (Since.ok _).size; exact Nat.le_trans hh2 (Since.ok _).size)))
  refine wpQuiet_nil ?_
  intro w2 hw2
  have hb2' : Below W1.heap.size W1 w2 := by obtain ⟨u, hu⟩ := hw2; rw [hu]; exact u.ok
  clear hw2 u0 d1 d2 d3
  have hB2 : Below w.heap.size w w2 := B0.trans (hb2'.mono (by omega))
  go_wp2_with fail
  go_ret
  exact ⟨⟨_, rfl⟩, hB2⟩
theorem cloneR_any (A : Option Addr) (n c : Nat) (xs : List Int) (w : World) {lo hi : Nat} (h : RI w lo hi A n xs) (hhi : hi ≤ w.heap.size) (hn2 : n ≤ 1048576) :
    Calls Try.prog 105 #[.slice A n c] w fun e w' => ∃ (A1 : Option Addr) (c1 : Nat), e = .returned (.slice A1 n c1) ∧ Own w' w.heap.size w'.heap.size 2 A1 n c1 (xs.map (Value.int .i64)) ∧ Below w.heap.size w w' := by
  obtain ⟨j0, hj0, hy0, hy1, hy2⟩ := info_parts infoI
  have hl := h.len
  have h0 := World.ownsRow_lit (e := 2) (base := w.heap.size) (size := 1) w #[] 0 (Nat.le_refl _) (by omega) rfl
  have hr : RI (w.alloc (.cells #[] 2)) lo hi A n xs := h.keep (same_alloc w (.cells #[] 2) lo hi hhi)
  rcases A with _ | ⟨b, o, q⟩
  · have hn0 : n = 0 := by
      rcases Nat.eq_zero_or_pos n with h1 | h1
      · exact h1
      · obtain ⟨b, o, e, _⟩ := h.2.2 h1
        cases e
    subst hn0
    have hx : xs = [] := List.eq_nil_of_length_eq_zero hl
    subst hx
    have heq : ∀ w' : World, (binOp .eql 22 (.slice none 0 c) (.slice none 0 0)).run Try.prog w' = .ok (.bool true) w' := fun w' => Lib.run_eql_slice_nil w' _ _ _ _ _ _ _ Try.underlying22
    go_enter Try.func105, Try.ntmps105
    go_wp2_with fail
    go_ret
    exact ⟨none, 0, rfl, Own.nil, Below.refl _ _⟩
  · have heq : ∀ w' : World, (binOp .eql 22 (.slice (some ⟨b, o, q⟩) n c) (.slice none 0 0)).run Try.prog w' = .ok (.bool false) w' := fun w' => Lib.run_eql_slice_nil w' _ _ _ _ _ _ _ Try.underlying22
    replace hl := Lib.hid hl
    go_enter Try.func105, Try.ntmps105
    go_wp2_with (at_builtin; refine wpList_appendL (w.alloc (.cells #[] 2)) rfl (.tmp 5) (.tmp 6) 22 rfl w.heap.size 2 j0 (.int .i64 0) 8 Try.underlying22 hj0 hy0 hy1 hy2 rfl (by omega) _ 0 0 [] rfl h0 _ n c (xs.map (Value.int .i64)) lo hi rfl hr (ints_oneCell _ _) (by omega) (by simp) ?_)
    intro A2 c2 w2 ho hg hor
    have hb : Below w.heap.size w w2 := ((Below.refl _ _).alloc (Nat.le_refl _) _).grown hg (by simp) (fun q hq => by have := (h0.lt q hq).1; omega)
    go_wp2_with fail
    go_ret
    exact ⟨A2, c2, by simp, Own.of_row (by simpa using ho), hb⟩
end Go.Proofs.Ytbioelmofceaaaa
