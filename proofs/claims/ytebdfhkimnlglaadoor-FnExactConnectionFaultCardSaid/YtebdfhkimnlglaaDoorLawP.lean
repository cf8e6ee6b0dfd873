/- The laws' helpers at a poset: as at its rank, its ranks and its rows. No condition but the sizes. -/
import Derived.Test.YtebdfhkimnlglaaDoorLawM
namespace Go.Proofs.YtebdfhkimnlglaaDoor
open Go.RowKit
set_option linter.unusedVariables false
set_option maxRecDepth 100000
theorem ri_drew {w : World} {lo hi n : Nat} {A : Option Addr} {xs : List Int} (h : RI w lo hi A n xs) : RI w.drew lo hi A n xs := h.keep fun _ _ _ => rfl
theorem ri_alloc {w : World} {lo hi n : Nat} {A : Option Addr} {xs : List Int} (h : RI w lo hi A n xs) (hhi : hi ≤ w.heap.size) (o : Obj) : RI (w.alloc o) lo hi A n xs := h.keep (same_alloc w o _ _ hhi)
theorem al3_0 (w : World) (v0 v1 v2 : Value) (T : TypeId) (k : Nat) (hk : k = w.heap.size) : (w.alloc (.cells #[v0, v1, v2] T)).cell? ⟨k, 0, none⟩ = some v0 := by subst hk; simp
theorem al3_1 (w : World) (v0 v1 v2 : Value) (T : TypeId) (k : Nat) (hk : k = w.heap.size) : (w.alloc (.cells #[v0, v1, v2] T)).cell? ⟨k, 1, none⟩ = some v1 := by subst hk; simp
theorem al3_2 (w : World) (v0 v1 v2 : Value) (T : TypeId) (k : Nat) (hk : k = w.heap.size) : (w.alloc (.cells #[v0, v1, v2] T)).cell? ⟨k, 2, none⟩ = some v2 := by subst hk; simp
/-- ranks and rows of the call's own: the ranks lie below m, the rows from m on; the row of rows lies somewhere -/
def OwnP (w : World) (lo m hi : Nat) (D : Option Addr) (k e : Nat) (ps : List Int) (A : Option Addr) (n c : Nat) (xss : List (List Int)) : Prop :=
  lo ≤ m ∧ m ≤ hi ∧ Own w lo m 2 D k e (ps.map (Value.int .i64)) ∧ ∃ vs, Own w lo hi 22 A n c vs ∧ RowsOwn w m hi 2 vs xss
/-- ranks and rows that are read -/
def ReadP (w : World) (lo hi : Nat) (D : Option Addr) (k : Nat) (ps : List Int) (A : Option Addr) (n : Nat) (xss : List (List Int)) : Prop := RI w lo hi D k ps ∧ RS w lo hi A n xss
section
variable {w w' : World} {lo m hi k e n c lo' hi' : Nat} {D A : Option Addr} {ps : List Int} {xss : List (List Int)}
theorem OwnS.hdr {TS T : TypeId} (h : OwnS w m hi TS T A n c xss) (hl : lo ≤ m) : ∃ vs, Own w lo hi TS A n c vs ∧ RowsOwn w m hi T vs xss := by
  obtain ⟨vs, h1, h2⟩ := h
  exact ⟨vs, h1.more hl (Nat.le_refl _), h2⟩
theorem OwnP.ri (h : OwnP w lo m hi D k e ps A n c xss) : RI w lo hi D k ps := h.2.2.1.ri.more (Nat.le_refl _) h.2.1
theorem OwnP.rs (h : OwnP w lo m hi D k e ps A n c xss) : RS w lo hi A n xss := by
  obtain ⟨h1, h2, _, vs, h4, h5⟩ := h
  exact ⟨vs, h4.rd, h5.at.more h1 (Nat.le_refl _)⟩
theorem OwnP.keep (h : OwnP w lo m hi D k e ps A n c xss) (hs : Same lo hi w w') : OwnP w' lo m hi D k e ps A n c xss := by
  obtain ⟨h1, h2, h3, vs, h4, h5⟩ := h
  exact ⟨h1, h2, h3.keep (hs.mono (Nat.le_refl _) h2), vs, h4.keep hs, h5.keep (hs.mono h1 (Nat.le_refl _))⟩
theorem OwnP.below {B : Nat} (h : OwnP w lo m hi D k e ps A n c xss) (hb : Below B w w') (hB : hi ≤ B) : OwnP w' lo m hi D k e ps A n c xss := h.keep (Same.of_below hb hB)
theorem OwnP.read (h : OwnP w lo m hi D k e ps A n c xss) : ReadP w lo hi D k ps A n xss := ⟨h.ri, h.rs⟩
theorem ReadP.ri (h : ReadP w lo hi D k ps A n xss) : RI w lo hi D k ps := h.1
theorem ReadP.rs (h : ReadP w lo hi D k ps A n xss) : RS w lo hi A n xss := h.2
theorem ReadP.keep (h : ReadP w lo hi D k ps A n xss) (hs : Same lo hi w w') : ReadP w' lo hi D k ps A n xss := ⟨h.1.keep hs, h.2.keep hs⟩
theorem ReadP.below {B : Nat} (h : ReadP w lo hi D k ps A n xss) (hb : Below B w w') (hB : hi ≤ B) : ReadP w' lo hi D k ps A n xss := h.keep (Same.of_below hb hB)
end
theorem szP_any (r : Int) (D : Option Addr) (k e left : Nat) (ps : List Int) (A : Option Addr) (n c : Nat) (xss : List (List Int)) (w : World) {lo hi lo' hi' : Nat} (g : RI w lo' hi' D k ps) (h : RS w lo hi A n xss) (hg : hi' ≤ w.heap.size) (hhi : hi ≤ w.heap.size) (hl : left ≤ 1048576) :
    Calls Tryd.prog 4 #[.agg #[.int .i64 r, .slice D k e, .slice A n c], .int .i64 left] w fun e w' => e = .returned (.int .i64 (leftOf left (k + (n + numsIn xss)))) ∧ Below w.heap.size w w' := by
  have hm := g.max
  have hR := rs_alloc h hhi (.cells #[.int .i64 r, .slice D k e, .slice A n c] 25)
  have hB : Below w.heap.size w (w.alloc (.cells #[.int .i64 r, .slice D k e, .slice A n c] 25)) := (Below.refl _ _).alloc (Nat.le_refl _) _
  by_cases h1 : k ≤ left
  · have e1 := leftOf_pos h1
    replace e1 := Lib.hid e1
    by_cases h2 : n + numsIn xss ≤ left - k
    · have e2 := leftOf_pos h2
      have e3 : leftOf left (k + (n + numsIn xss)) = ((left - k - (n + numsIn xss) : Nat) : Int) := by rw [leftOf_pos (by omega)]; omega
      replace e2 := Lib.hid e2
      replace e3 := Lib.hid e3
      go_enter Tryd.func4, Tryd.ntmps4
      go_wp2_with fail
      ((with_reducible refine (szI_any D k e left _ hm hl).mono ?_); rintro e w' ⟨rfl, rfl⟩)
      rw [e1.out]
      go_wp2_with fail
      ((with_reducible refine (szS_any A n c (left - k) xss _ hR (by omega)).mono ?_); rintro e w' ⟨rfl, rfl⟩)
      rw [e2.out]
      go_wp2_with fail
      go_ret
      exact ⟨ret_int e3.out.symm, hB⟩
    · have e2 := leftOf_neg h2
      have e3 : leftOf left (k + (n + numsIn xss)) = -1 := leftOf_neg (by omega)
      replace e2 := Lib.hid e2
      replace e3 := Lib.hid e3
      go_enter Tryd.func4, Tryd.ntmps4
      go_wp2_with fail
      ((with_reducible refine (szI_any D k e left _ hm hl).mono ?_); rintro e w' ⟨rfl, rfl⟩)
      rw [e1.out]
      go_wp2_with fail
      ((with_reducible refine (szS_any A n c (left - k) xss _ hR (by omega)).mono ?_); rintro e w' ⟨rfl, rfl⟩)
      rw [e2.out]
      go_wp2_with fail
      go_ret
      exact ⟨ret_int e3.out.symm, hB⟩
  · have e1 := leftOf_neg h1
    have e3 : leftOf left (k + (n + numsIn xss)) = -1 := leftOf_neg (by omega)
    replace e1 := Lib.hid e1
    replace e3 := Lib.hid e3
    go_enter Tryd.func4, Tryd.ntmps4
    go_wp2_with fail
    ((with_reducible refine (szI_any D k e left _ hm hl).mono ?_); rintro e w' ⟨rfl, rfl⟩)
    rw [e1.out]
    go_wp2_with fail
    go_ret
    exact ⟨ret_int e3.out.symm, hB⟩
theorem szP0_any (r : Int) (D : Option Addr) (k e : Nat) (ps : List Int) (A : Option Addr) (n c : Nat) (xss : List (List Int)) (w : World) {lo hi lo' hi' : Nat} (g : RI w lo' hi' D k ps) (h : RS w lo hi A n xss) (hg : hi' ≤ w.heap.size) (hhi : hi ≤ w.heap.size) :
    Calls Tryd.prog 4 #[.agg #[.int .i64 r, .slice D k e, .slice A n c], .int .i64 1048576] w fun e w' => e = .returned (.int .i64 (leftOf 1048576 (k + (n + numsIn xss)))) ∧ Below w.heap.size w w' :=
  szP_any r D k e 1048576 ps A n c xss w g h hg hhi (Nat.le_refl _)
theorem toP_any (r : Int) (D : Option Addr) (k e : Nat) (ps : List Int) (A : Option Addr) (n c : Nat) (xss : List (List Int)) (w : World) {lo hi lo' hi' : Nat} (g : RI w lo' hi' D k ps) (h : RS w lo hi A n xss) (hg : hi' ≤ w.heap.size) (hhi : hi ≤ w.heap.size) (hn : k + (n + numsIn xss) ≤ 1048576) :
    Calls Tryd.prog 6 #[.agg #[.int .i64 r, .slice D k e, .slice A n c]] w fun e w' => ∃ D' A' m, e = .returned (.agg #[.int .i64 r, .slice D' k k, .slice A' n n]) ∧ OwnP w' w.heap.size m w'.heap.size D' k k ps A' n n xss ∧ Below w.heap.size w w' := by
  have hR := rs_alloc (rs_alloc (rs_alloc h hhi (.cells #[.int .i64 r, .slice D k e, .slice A n c] 25)) (by simp; omega) (.cells #[.int .i64 0, .slice none 0 0, .slice none 0 0] 29)) (by simp; omega) (.cells #[.int .i64 r, .slice none 0 0, .slice none 0 0] 29)
  have hG := ri_alloc (ri_alloc (ri_alloc g hg (.cells #[.int .i64 r, .slice D k e, .slice A n c] 25)) (by simp; omega) (.cells #[.int .i64 0, .slice none 0 0, .slice none 0 0] 29)) (by simp; omega) (.cells #[.int .i64 r, .slice none 0 0, .slice none 0 0] 29)
  have hB : Below w.heap.size w (((w.alloc (.cells #[.int .i64 r, .slice D k e, .slice A n c] 25)).alloc (.cells #[.int .i64 0, .slice none 0 0, .slice none 0 0] 29)).alloc (.cells #[.int .i64 r, .slice none 0 0, .slice none 0 0] 29)) := (((Below.refl _ _).alloc (Nat.le_refl _) _).alloc (by simp) _).alloc (by simp; omega) _
  have p0 : (((w.alloc (.cells #[.int .i64 r, .slice D k e, .slice A n c] 25)).alloc (.cells #[.int .i64 0, .slice none 0 0, .slice none 0 0] 29)).alloc (.cells #[.int .i64 r, .slice none 0 0, .slice none 0 0] 29)).heap[w.heap.size]? = some (.cells #[.int .i64 r, .slice D k e, .slice A n c] 25 (0, 0)) := (Below.heap_alloc _ _ _ (by simp; omega)).trans ((Below.heap_alloc _ _ _ (by simp)).trans (heap_new _ _ _ rfl))
  have p1 : (((w.alloc (.cells #[.int .i64 r, .slice D k e, .slice A n c] 25)).alloc (.cells #[.int .i64 0, .slice none 0 0, .slice none 0 0] 29)).alloc (.cells #[.int .i64 r, .slice none 0 0, .slice none 0 0] 29)).heap[w.heap.size + 1]? = some (.cells #[.int .i64 0, .slice none 0 0, .slice none 0 0] 29 (0, 0)) := (Below.heap_alloc _ _ _ (by simp)).trans (heap_new _ _ _ (by simp))
  have p2 : (((w.alloc (.cells #[.int .i64 r, .slice D k e, .slice A n c] 25)).alloc (.cells #[.int .i64 0, .slice none 0 0, .slice none 0 0] 29)).alloc (.cells #[.int .i64 r, .slice none 0 0, .slice none 0 0] 29)).heap[w.heap.size + 1 + 1]? = some (.cells #[.int .i64 r, .slice none 0 0, .slice none 0 0] 29 (0, 0)) := heap_new _ _ _ (by simp)
  go_enter Tryd.func6, Tryd.ntmps6
  go_wp2_with fail
  obtain ⟨W1, hW⟩ : ∃ W1 : World, (((w.alloc (.cells #[.int .i64 r, .slice D k e, .slice A n c] 25)).alloc (.cells #[.int .i64 0, .slice none 0 0, .slice none 0 0] 29)).alloc (.cells #[.int .i64 r, .slice none 0 0, .slice none 0 0] 29)) = W1 := ⟨_, rfl⟩
  have hz1 : W1.heap.size = w.heap.size + 3 := by rw [← hW]; simp
  rw [hW] at hR hG hB p0 p1 p2 ⊢
  clear hW h g
  ((with_reducible refine (toI_any D k e ps W1 _ _ hG (by omega) (by omega)).mono ?_); rintro e1 w1 ⟨D', rfl, o1, f1⟩)
  have y1 := f1.size
  have q0 := (f1.block _ (by omega)).trans p0
  have q1 := (f1.block _ (by omega)).trans p1
  have q2 := (f1.block _ (by omega)).trans p2
  have a2 : w1.cell? ⟨w.heap.size, 2, none⟩ = some (.slice A n c) := by rw [cell_of_row _ _ _ _ _ _ q0]; rfl
  have c1 : w1.cell? ⟨w.heap.size + 1 + 1, 1, none⟩ = some (.slice none 0 0) := by rw [cell_of_row _ _ _ _ _ _ q2]; rfl
  have v1 : w1.frozen? ⟨w.heap.size + 1 + 1, 1, none⟩ = false := frozen_of_row _ _ _ _ _ q2
  replace q0 := Lib.hid q0
  replace q1 := Lib.hid q1
  replace q2 := Lib.hid q2
  replace p0 := Lib.hid p0
  replace p1 := Lib.hid p1
  replace p2 := Lib.hid p2
  have R2 := (hR.below f1 (by omega)).keep (same_set w1 ⟨w.heap.size + 1 + 1, 1, none⟩ (.slice D' k k) _ _ (.inr (by simp; omega)))
  have y2 : (w1.setCell ⟨w.heap.size + 1 + 1, 1, none⟩ (.slice D' k k)).heap.size = w1.heap.size := World.size_setCell _ _ _
  go_wp2_with fail
  ((with_reducible refine (toS_any A n c xss _ R2 (by rw [y2]; omega) (by omega)).mono ?_); rintro e2 w2 ⟨A', rfl, o2, f2⟩)
  have y3 := f2.size
  rw [y2] at y3
  have e1 : w1.setCell ⟨w.heap.size + 1 + 1, 1, none⟩ (.slice D' k k) = w1.setCell ⟨w.heap.size + 1 + 1, 1, none⟩ (.slice D' k k) := rfl
  have g1 := (f2.block (w.heap.size + 1) (by rw [y2]; omega)).trans ((heap_setCell_other _ _ _ _ (by simp)).trans q1.out)
  have g2 := (f2.block (w.heap.size + 1 + 1) (by rw [y2]; omega)).trans (heap_setCell_same w1 (w.heap.size + 1 + 1) 1 _ _ (.slice D' k k) q2.out)
  have d0 : w2.cell? ⟨w.heap.size + 1 + 1, 0, none⟩ = some (.int .i64 r) := by rw [cell_of_row _ _ _ _ _ _ g2]; rfl
  have d1 : w2.cell? ⟨w.heap.size + 1 + 1, 1, none⟩ = some (.slice D' k k) := by rw [cell_of_row _ _ _ _ _ _ g2]; rfl
  have d2 : w2.cell? ⟨w.heap.size + 1 + 1, 2, none⟩ = some (.slice none 0 0) := by rw [cell_of_row _ _ _ _ _ _ g2]; rfl
  have v2 : w2.frozen? ⟨w.heap.size + 1 + 1, 2, none⟩ = false := frozen_of_row _ _ _ _ _ g2
  have r0 : w2.cell? ⟨w.heap.size + 1, 0, none⟩ = some (.int .i64 0) := by rw [cell_of_row _ _ _ _ _ _ g1]; rfl
  have r1 : w2.cell? ⟨w.heap.size + 1, 1, none⟩ = some (.slice none 0 0) := by rw [cell_of_row _ _ _ _ _ _ g1]; rfl
  have r2 : w2.cell? ⟨w.heap.size + 1, 2, none⟩ = some (.slice none 0 0) := by rw [cell_of_row _ _ _ _ _ _ g1]; rfl
  have x0 : ∀ j, w2.frozen? ⟨w.heap.size + 1, j, none⟩ = false := fun j => frozen_of_row _ _ _ _ _ g1
  have x1 := x0 1
  have x2 := x0 2
  have x3 := x0 0
  clear x0
  replace g1 := Lib.hid g1
  replace g2 := Lib.hid g2
  go_wp2_with fail
  have h0 : (w2.setCell ⟨w.heap.size + 1 + 1, 2, none⟩ (.slice A' n n)).heap[w.heap.size + 1]? = some (.cells #[.int .i64 0, .slice none 0 0, .slice none 0 0] 29 (0, 0)) := (heap_setCell_other _ _ _ _ (by simp)).trans g1.out
  have h1 := heap_setCell_same _ _ 0 _ _ (Value.int .i64 r) h0
  have h2 := heap_setCell_same _ _ 1 _ _ (Value.slice D' k k) h1
  have h3 := heap_setCell_same _ _ 2 _ _ (Value.slice A' n n) h2
  (try simp only [Exit.inBlock, Exit.then])
  refine bodyPost_ret (v := .agg #[.int .i64 r, .slice D' k k, .slice A' n n]) ?_ rfl ?_
  · exact results_cell_row rfl _ _ (w.heap.size + 1) 29 #[.int .i64 r, .slice D' k k, .slice A' n n] (0, 0) _ rfl (by simpa using h3) Tryd.underlying29 rfl (by kernel_rfl)
  · rw [y2] at o2
    have F1 : Below w.heap.size w (w1.setCell ⟨w.heap.size + 1 + 1, 1, none⟩ (.slice D' k k)) := (hB.trans (f1.mono (by omega))).setCell (by simp; omega) _
    have F2 : Below w.heap.size w w2 := F1.trans (f2.mono (by rw [y2]; omega))
    refine ⟨D', A', w1.heap.size, rfl, ⟨by omega, by simpa using y3, ?_, ?_⟩, (((F2.setCell (by simp; omega) _).setCell (by simp) _).setCell (by simp) _).setCell (by simp) _⟩
    · have a1 := (o1.keep (same_set w1 ⟨w.heap.size + 1 + 1, 1, none⟩ (.slice D' k k) _ _ (.inl (by simp; omega)))).below f2 (by rw [y2]; exact Nat.le_refl _)
      refine (((((a1.keep (same_set _ _ _ _ _ (.inl (by simp; omega)))).keep (same_set _ _ _ _ _ (.inl (by simp; omega)))).keep (same_set _ _ _ _ _ (.inl (by simp; omega)))).keep (same_set _ _ _ _ _ (.inl (by simp; omega)))).more (by omega) (Nat.le_refl _))
    · refine OwnS.hdr ?_ (by omega)
      exact (((((o2.keep (same_set _ _ _ _ _ (.inl (by simp; omega)))).keep (same_set _ _ _ _ _ (.inl (by simp; omega)))).keep (same_set _ _ _ _ _ (.inl (by simp; omega)))).keep (same_set _ _ _ _ _ (.inl (by simp; omega)))).more (Nat.le_refl _) (by simp))
theorem eqP_any (r : Int) (D : Option Addr) (k e : Nat) (ps : List Int) (A : Option Addr) (n c : Nat) (xss : List (List Int)) (r' : Int) (D' : Option Addr) (k' e' : Nat) (ps' : List Int) (A' : Option Addr) (n' c' : Nat) (yss : List (List Int)) (w : World) {lo hi lo' hi' l2 h2 l3 h3 : Nat}
    (g : RI w lo' hi' D k ps) (h : RS w lo hi A n xss) (g' : RI w l2 h2 D' k' ps') (h' : RS w l3 h3 A' n' yss) (hg : hi' ≤ w.heap.size) (hhi : hi ≤ w.heap.size) (hg' : h2 ≤ w.heap.size) (hhi' : h3 ≤ w.heap.size) :
    Calls Tryd.prog 9 #[.agg #[.int .i64 r, .slice D k e, .slice A n c], .agg #[.int .i64 r', .slice D' k' e', .slice A' n' c']] w fun e w' => e = .returned (.bool (decide (r = r') && (decide (ps = ps') && decide (xss = yss)))) ∧ Below w.heap.size w w' := by
  have hR := rs_alloc (rs_alloc h hhi (.cells #[.int .i64 r, .slice D k e, .slice A n c] 29)) (by simp; omega) (.cells #[.int .i64 r', .slice D' k' e', .slice A' n' c'] 29)
  have hR' := rs_alloc (rs_alloc h' hhi' (.cells #[.int .i64 r, .slice D k e, .slice A n c] 29)) (by simp; omega) (.cells #[.int .i64 r', .slice D' k' e', .slice A' n' c'] 29)
  have hG := ri_alloc (ri_alloc g hg (.cells #[.int .i64 r, .slice D k e, .slice A n c] 29)) (by simp; omega) (.cells #[.int .i64 r', .slice D' k' e', .slice A' n' c'] 29)
  have hG' := ri_alloc (ri_alloc g' hg' (.cells #[.int .i64 r, .slice D k e, .slice A n c] 29)) (by simp; omega) (.cells #[.int .i64 r', .slice D' k' e', .slice A' n' c'] 29)
  have hB : Below w.heap.size w ((w.alloc (.cells #[.int .i64 r, .slice D k e, .slice A n c] 29)).alloc (.cells #[.int .i64 r', .slice D' k' e', .slice A' n' c'] 29)) := ((Below.refl _ _).alloc (Nat.le_refl _) _).alloc (by simp) _
  have p0 : ((w.alloc (.cells #[.int .i64 r, .slice D k e, .slice A n c] 29)).alloc (.cells #[.int .i64 r', .slice D' k' e', .slice A' n' c'] 29)).heap[w.heap.size]? = some (.cells #[.int .i64 r, .slice D k e, .slice A n c] 29 (0, 0)) := (Below.heap_alloc _ _ _ (by simp)).trans (heap_new _ _ _ rfl)
  have p1 : ((w.alloc (.cells #[.int .i64 r, .slice D k e, .slice A n c] 29)).alloc (.cells #[.int .i64 r', .slice D' k' e', .slice A' n' c'] 29)).heap[w.heap.size + 1]? = some (.cells #[.int .i64 r', .slice D' k' e', .slice A' n' c'] 29 (0, 0)) := heap_new _ _ _ (by simp)
  cases hr : decide (r = r') with
  | false =>
    have hne : (r != r') = true := by simpa using hr
    replace p0 := Lib.hid p0
    replace p1 := Lib.hid p1
    go_enter Tryd.func9, Tryd.ntmps9
    go_wp2_with fail
    go_ret
    exact ⟨ret_bool (by simp), hB⟩
  | true =>
    have hne : (r != r') = false := by simpa using hr
    cases hd : decide (ps = ps') with
    | false =>
      replace hr := Lib.hid hr
      replace hd := Lib.hid hd
      replace p0 := Lib.hid p0
      replace p1 := Lib.hid p1
      go_enter Tryd.func9, Tryd.ntmps9
      go_wp2_with fail
      obtain ⟨W1, hW⟩ : ∃ W1 : World, ((w.alloc (.cells #[.int .i64 r, .slice D k e, .slice A n c] 29)).alloc (.cells #[.int .i64 r', .slice D' k' e', .slice A' n' c'] 29)) = W1 := ⟨_, rfl⟩
      have hz1 : W1.heap.size = w.heap.size + 2 := by rw [← hW]; simp
      rw [hW] at hR hR' hG hG' hB p0 p1 ⊢
      clear hW h g h' g'
      ((with_reducible refine (eqI_any D k e ps D' k' e' ps' W1 _ _ _ _ hG hG' (by omega) (by omega)).mono ?_); rintro e1 w1 ⟨rfl, f1⟩)
      rw [hd.out]
      have y1 := f1.size
      replace p0 := (f1.block _ (by omega)).trans p0.out
      replace p1 := (f1.block _ (by omega)).trans p1.out
      have a2 : w1.cell? ⟨w.heap.size, 2, none⟩ = some (.slice A n c) := by rw [cell_of_row _ _ _ _ _ _ p0]; rfl
      have b2 : w1.cell? ⟨w.heap.size + 1, 2, none⟩ = some (.slice A' n' c') := by rw [cell_of_row _ _ _ _ _ _ p1]; rfl
      replace p0 := Lib.hid p0
      replace p1 := Lib.hid p1
      go_wp2_with fail
      go_ret
      exact ⟨ret_bool (by simp), hB.trans (f1.mono (by omega))⟩
    | true =>
      cases hx : decide (xss = yss) with
      | false =>
        replace hr := Lib.hid hr
        replace hx := Lib.hid hx
        replace hd := Lib.hid hd
        replace p0 := Lib.hid p0
        replace p1 := Lib.hid p1
        go_enter Tryd.func9, Tryd.ntmps9
        go_wp2_with fail
        obtain ⟨W1, hW⟩ : ∃ W1 : World, ((w.alloc (.cells #[.int .i64 r, .slice D k e, .slice A n c] 29)).alloc (.cells #[.int .i64 r', .slice D' k' e', .slice A' n' c'] 29)) = W1 := ⟨_, rfl⟩
        have hz1 : W1.heap.size = w.heap.size + 2 := by rw [← hW]; simp
        rw [hW] at hR hR' hG hG' hB p0 p1 ⊢
        clear hW h g h' g'
        ((with_reducible refine (eqI_any D k e ps D' k' e' ps' W1 _ _ _ _ hG hG' (by omega) (by omega)).mono ?_); rintro e1 w1 ⟨rfl, f1⟩)
        rw [hd.out]
        have y1 := f1.size
        replace p0 := (f1.block _ (by omega)).trans p0.out
        replace p1 := (f1.block _ (by omega)).trans p1.out
        have a2 : w1.cell? ⟨w.heap.size, 2, none⟩ = some (.slice A n c) := by rw [cell_of_row _ _ _ _ _ _ p0]; rfl
        have b2 : w1.cell? ⟨w.heap.size + 1, 2, none⟩ = some (.slice A' n' c') := by rw [cell_of_row _ _ _ _ _ _ p1]; rfl
        replace p0 := Lib.hid p0
        replace p1 := Lib.hid p1
        go_wp2_with fail
        ((with_reducible refine (eqS_any A n c xss A' n' c' yss w1 (hR.below f1 (by omega)) (hR'.below f1 (by omega)) (by omega) (by omega)).mono ?_); rintro e2 w2 ⟨rfl, f2⟩)
        rw [hx.out]
        go_wp2_with fail
        go_ret
        exact ⟨ret_bool (by simp), hB.trans ((below_then f1 f2 (by omega)).mono (by omega))⟩
      | true =>
        replace hr := Lib.hid hr
        replace hx := Lib.hid hx
        replace hd := Lib.hid hd
        replace p0 := Lib.hid p0
        replace p1 := Lib.hid p1
        go_enter Tryd.func9, Tryd.ntmps9
        go_wp2_with fail
        obtain ⟨W1, hW⟩ : ∃ W1 : World, ((w.alloc (.cells #[.int .i64 r, .slice D k e, .slice A n c] 29)).alloc (.cells #[.int .i64 r', .slice D' k' e', .slice A' n' c'] 29)) = W1 := ⟨_, rfl⟩
        have hz1 : W1.heap.size = w.heap.size + 2 := by rw [← hW]; simp
        rw [hW] at hR hR' hG hG' hB p0 p1 ⊢
        clear hW h g h' g'
        ((with_reducible refine (eqI_any D k e ps D' k' e' ps' W1 _ _ _ _ hG hG' (by omega) (by omega)).mono ?_); rintro e1 w1 ⟨rfl, f1⟩)
        rw [hd.out]
        have y1 := f1.size
        replace p0 := (f1.block _ (by omega)).trans p0.out
        replace p1 := (f1.block _ (by omega)).trans p1.out
        have a2 : w1.cell? ⟨w.heap.size, 2, none⟩ = some (.slice A n c) := by rw [cell_of_row _ _ _ _ _ _ p0]; rfl
        have b2 : w1.cell? ⟨w.heap.size + 1, 2, none⟩ = some (.slice A' n' c') := by rw [cell_of_row _ _ _ _ _ _ p1]; rfl
        replace p0 := Lib.hid p0
        replace p1 := Lib.hid p1
        go_wp2_with fail
        ((with_reducible refine (eqS_any A n c xss A' n' c' yss w1 (hR.below f1 (by omega)) (hR'.below f1 (by omega)) (by omega) (by omega)).mono ?_); rintro e2 w2 ⟨rfl, f2⟩)
        rw [hx.out]
        go_wp2_with fail
        go_ret
        exact ⟨ret_bool (by simp), hB.trans ((below_then f1 f2 (by omega)).mono (by omega))⟩
set_option maxHeartbeats 1000000 in
theorem markS2_any (A : Option Addr) (n c : Nat) (xss : List (List Int)) (k0 : Int) (w : World) (lo hi l2 h2 : Nat) (vs : List Value) (hh : Own w l2 h2 22 A n c vs) (hr : RowsOwn w lo hi 2 vs xss) (hhi : hi ≤ w.heap.size) (h0 : 0 ≤ k0) (h1 : k0 + numsIn xss ≤ 4611686018427387904) :
    Calls Tryd.prog 22 #[.slice A n c, .int .i64 k0] w fun e w' => e = .returned (.int .i64 (k0 + numsIn xss)) ∧ Own w' l2 h2 22 A n c vs ∧ RowsOwn w' lo hi 2 vs (mkSS k0 xss) ∧ Chg lo hi w w' := by
  have hm := hh.rd.2.1
  have hl : xss.length = n := by rw [← hr.1, hh.len]
  have hvl : vs.length = n := hh.len
  replace hl := Lib.hid hl
  replace hvl := Lib.hid hvl
  go_enter Tryd.func22, Tryd.ntmps22
  go_wp2_with fail
  go_loopw [1, 5] (fun kk i wr => ∃ (k q : Nat) (zss : List (List Int)), k ≤ n ∧ i = .int .i64 k ∧ kk = .int .i64 (k0 + q) ∧ Hid (q = numsIn (xss.take k)) ∧ Hid (∀ j, zss[j]? = if j < k then (mkSS k0 xss)[j]? else xss[j]?) ∧ Own wr l2 h2 22 A n c vs ∧ RowsOwn wr lo hi 2 vs zss ∧ w.heap.size ≤ wr.heap.size ∧ Chg lo hi w wr) (fun _ i wr => n - (intOf i).toNat)
  case atStart => exact ⟨0, 0, xss, by omega, rfl, by simp, Lib.hid (by simp [numsIn]), Lib.hid (fun j => by simp), hh, hr, Nat.le_refl _, Chg.refl _ _ _⟩
  case round =>
    obtain ⟨k, q, zss, hk, rfl, rfl, hq, hz, hh, hr, hsz, hb⟩ := hrel
    by_cases hlt : k < n
    · obtain ⟨b, v, rfl, hb1, hb2, hb3, hx, -, hc, hfr⟩ := hh.at_ hlt
      clear hfr
      have hxs : xss[k]? = some (xss.getD k []) := by
        have hl := hl.out
        simp [List.getD, show k < xss.length by omega]
      have hzk := hz.out k
      rw [if_neg (by omega), hxs] at hzk
      obtain ⟨Ak, nk, ck, rfl, ho⟩ := hr.2.2 k v _ hx hzk
      have hnk := ho.ri.len
      have hnx := numsIn_take_succ hxs
      have hle := numsIn_take_le xss (k + 1)
      rw [hnk] at hnx
      have hq' := hq.out
      have hbound : k0 + (q : Int) + (nk : Int) ≤ 4611686018427387904 := by omega
      clear hq'
      have hmk := mkSS_get (k := k0) hxs
      rw [hnk] at hmk
      generalize xss.getD k [] = r at *
      replace hxs := Lib.hid hxs
      replace hzk := Lib.hid hzk
      replace hx := Lib.hid hx
      replace hnk := Lib.hid hnk
      replace hnx := Lib.hid hnx
      replace hmk := Lib.hid hmk
      go_wp2_with fail
      ((with_reducible refine (markI_g _ _ _ r _ _ lo hi ho (by omega) (by omega) (by omega)).mono ?_); rintro e w2 ⟨rfl, ho2, hg2⟩)
      have hh2 := hh.kept_ty ho.1 (by decide) hg2
      have hr2 := hr.upd hx.out ho2 hg2
      have hgs := hg2.size
      go_wp2_with fail
      go_roundw
      case rel =>
        refine ⟨k + 1, q + nk, zss.set k (mkI (k0 + q) nk), by omega, by go_num, by go_num, Lib.hid (by rw [hnx.out, hq.out]), Lib.hid (fun j => ?_), hh2, hr2, by omega, hb.trans (Chg.of_grown hg2 (fun g hg => ⟨(ho.1.lt g hg).1, ?_⟩)) ⟨Nat.le_refl _, Nat.le_refl _⟩ ⟨Nat.le_refl _, Nat.le_refl _⟩⟩
        · rw [List.getElem?_set]
          by_cases e : k = j
          · subst e
            have := (List.getElem?_eq_some_iff.1 hzk.out).1
            rw [if_pos rfl, if_pos this, if_pos (by omega), hmk.out, hq.out]
          · rw [if_neg e, hz.out j]
            by_cases e2 : j < k
            · rw [if_pos e2, if_pos (by omega)]
            · rw [if_neg e2, if_neg (by omega)]
        · rcases Ak with _ | ad
          · simp [Value.ownBlock] at hg
          · have := ho.2 ad rfl; simp [Value.ownBlock] at hg; omega
      case measure => simp [intOf]; omega
    · go_wp2_with fail
      go_ret
      have hkn : k = n := by omega
      subst hkn
      have hq := hq.out
      rw [List.take_of_length_le (by have := hl.out; omega)] at hq
      have e : zss = mkSS k0 xss := list_ext_upto k (by have := hr.1; have := hvl.out; omega) (by rw [mkSS_len]; have := hl.out; omega) fun j hj => by rw [hz.out j, if_pos hj]
      exact ⟨ret_int (by rw [hq]), hh, e ▸ hr, hb⟩
theorem markP_any (r : Int) (D : Option Addr) (k e : Nat) (ps : List Int) (A : Option Addr) (n c : Nat) (xss : List (List Int)) (k0 : Int) (w : World) (lo m hi : Nat) (h : OwnP w lo m hi D k e ps A n c xss) (hhi : hi ≤ w.heap.size) (h0 : 0 ≤ k0) (h1 : k0 + (k + numsIn xss) ≤ 4611686018427387904) :
    Calls Tryd.prog 10 #[.agg #[.int .i64 r, .slice D k e, .slice A n c], .int .i64 k0] w fun e' w' => e' = .returned (.int .i64 (k0 + (k + numsIn xss))) ∧ OwnP w' lo m hi D k e (mkI k0 k) A n c (mkSS (k0 + k) xss) ∧ Chg lo hi w w' := by
  have hR := h.keep (same_alloc w (.cells #[.int .i64 r, .slice D k e, .slice A n c] 29) _ _ hhi)
  have hB : Chg lo hi w (w.alloc (.cells #[.int .i64 r, .slice D k e, .slice A n c] 29)) := (Chg.refl _ _ _).alloc _
  have p0 : (w.alloc (.cells #[.int .i64 r, .slice D k e, .slice A n c] 29)).heap[w.heap.size]? = some (.cells #[.int .i64 r, .slice D k e, .slice A n c] 29 (0, 0)) := heap_new _ _ _ rfl
  replace p0 := Lib.hid p0
  go_enter Tryd.func10, Tryd.ntmps10
  go_wp2_with fail
  obtain ⟨W1, hW⟩ : ∃ W1 : World, w.alloc (.cells #[.int .i64 r, .slice D k e, .slice A n c] 29) = W1 := ⟨_, rfl⟩
  have hz1 : W1.heap.size = w.heap.size + 1 := by rw [← hW]; simp
  rw [hW] at hR hB p0 ⊢
  clear hW h
  obtain ⟨hlm, hmh, hG, vs, hH, hV⟩ := hR
  ((with_reducible refine (markI_g D k e ps k0 W1 lo m hG (by omega) h0 (by omega)).mono ?_); rintro e1 w1 ⟨rfl, o1, g1⟩)
  have hbl : ∀ g, (Value.slice D k e).ownBlock = some g → lo ≤ g ∧ g < m := fun g hg => ⟨(hG.1.lt g hg).1, by
    rcases D with _ | ad
    · simp [Value.ownBlock] at hg
    · have := hG.2 ad rfl; simp [Value.ownBlock] at hg; omega⟩
  have f1 : Chg lo m W1 w1 := Chg.of_grown g1 hbl
  have y1 := f1.size
  have hH1 := hH.kept_ty hG.1 (by decide) g1
  have hV1 := hV.keep (Same.of_chg f1 (by omega) (.inr (Nat.le_refl _)))
  have q0 := (f1.block w.heap.size (by omega) (.inr (by omega))).trans p0.out
  have a2 : w1.cell? ⟨w.heap.size, 2, none⟩ = some (.slice A n c) := by rw [cell_of_row _ _ _ _ _ _ q0]; rfl
  replace q0 := Lib.hid q0
  go_wp2_with fail
  ((with_reducible refine (markS2_any A n c xss (k0 + k) w1 m hi lo hi vs hH1 hV1 (by omega) (by omega) (by omega)).mono ?_); rintro e2 w2 ⟨rfl, o2, o3, f2⟩)
  go_wp2_with fail
  go_ret
  refine ⟨ret_int (by omega), ⟨hlm, hmh, o1.keep (Same.of_chg f2 (by omega) (.inl (Nat.le_refl _))), vs, o2, o3⟩, (hB.trans f1 ⟨Nat.le_refl _, Nat.le_refl _⟩ ⟨Nat.le_refl _, hmh⟩).trans f2 ⟨Nat.le_refl _, Nat.le_refl _⟩ ⟨hlm, Nat.le_refl _⟩⟩
section
open Go.ChangeShapes Go.WideShapes Go.ChangeAt Go.RowKit Go.Deep
theorem open_RP {H : Type} {enc : TypeId × Value → H} {P : Program} {w : World} {r : Reach} {b0 : Nat} {m t e q : TypeId} {v : Value} {d : DataW H} {p : List MemPlace} {f0 f1 f2 : Field} (hs : P.underlying m = some (.struct #[f0, f1, f2])) (hone : oneCellFields P #[f0, f1, f2] = true) (hC : P.cellsOf m = 3) (hf0 : f0.type = q) (hf1 : f1.type = e) (hf2 : f2.type = t)
    (ht : P.underlying t = some (.slice e)) (he : P.underlying e = some (.slice q)) (hq : P.underlying q = some (.int .i64)) (ce : P.cellsOf e = 1) (cq : P.cellsOf q = 1)
    (hv : Value.okWide P w r b0 m v) (h : DataW.Trod enc P w 0 (fun _ => true) true m v d p) :
    ∃ (z : Int) (D : Option Addr) (k k' : Nat) (ps : List Int) (a : Option Addr) (len cap : Nat) (xss : List (List Int)), v = .agg #[.int .i64 z, .slice D k k', .slice a len cap] ∧ I64 z ∧ RI w 0 w.heap.size D k ps ∧ (∀ x ∈ ps, I64 x) ∧ RS w 0 w.heap.size a len xss ∧ ∀ xs ∈ xss, ∀ x ∈ xs, I64 x := by
  obtain ⟨cs, rfl, hsz⟩ := okWide_struct hs hv
  obtain ⟨l⟩ := cs
  match l, hsz.trans hC with
  | [c0, c1, c2], _ =>
    obtain ⟨fuel, hf⟩ := h
    obtain ⟨xs, n, _, hx, _, hlen, hg⟩ := DataW.trod_struct hs hf
    obtain ⟨o0, k0⟩ := hone_of hone 0 f0 rfl
    obtain ⟨o1, k1⟩ := hone_of hone 1 f1 rfl
    obtain ⟨o2, k2⟩ := hone_of hone 2 f2 rfl
    match xs, hlen with
    | [y0, y1, y2], _ =>
      have h0 : DataW.trod enc P w 0 (fun _ => true) true n f0.type [c0] = some y0 := by simpa [Value.cells, o0, k0] using hg 0 f0 rfl
      have h1 : DataW.trod enc P w 0 (fun _ => true) true n f1.type [c1] = some y1 := by simpa [Value.cells, o1, k1] using hg 1 f1 rfl
      have h2 : DataW.trod enc P w 0 (fun _ => true) true n f2.type [c2] = some y2 := by simpa [Value.cells, o2, k2] using hg 2 f2 rfl
      rw [hf0] at h0
      rw [hf1] at h1
      rw [hf2] at h2
      obtain ⟨z, hz, _, hw⟩ := DataW.trod_int hq h0
      simp at hz
      subst hz
      obtain ⟨D, k, k', rfl⟩ : ∃ D k k', c1 = .slice D k k' := by
        rcases open_slice he h1 with ⟨hcs, _⟩ | ⟨a, len, cap, _, _, _, _, hcs, _⟩
        · simp at hcs; exact ⟨_, _, _, hcs⟩
        · simp at hcs; exact ⟨_, _, _, hcs⟩
      obtain ⟨a, len, cap, rfl⟩ : ∃ D k k', c2 = .slice D k k' := by
        rcases open_slice ht h2 with ⟨hcs, _⟩ | ⟨a, len, cap, _, _, _, _, hcs, _⟩
        · simp at hcs; exact ⟨_, _, _, hcs⟩
        · simp at hcs; exact ⟨_, _, _, hcs⟩
      obtain ⟨ps, g1, g2⟩ := open_RI (d := y1.1) (p := y1.2) he hq cq ⟨n, by simpa [Value.cells] using h1⟩
      obtain ⟨xss, g3, g4⟩ := rows_open ht he hq ce cq h2
      exact ⟨z, D, k, k', ps, a, len, cap, xss, rfl, bounds_i64 hw, g1, g2, g3, g4⟩
end
end Go.Proofs.YtebdfhkimnlglaaDoor
