/- The laws' helpers at a maniplex: as at its moves. No condition but the sizes. -/
import Derived.Test.YtbioelmofceaaaaDoorLawS
import Derived.Lib.SmallJoins
import Derived.Laws.Rows
import Derived.Test.YtbioelmofceaaaaDoorOpenS
namespace Go.Proofs.YtbioelmofceaaaaDoor
open Go.RowKit
set_option linter.unusedVariables false
set_option maxRecDepth 100000
theorem leftOf_neg {left k : Nat} (h : ¬ k ≤ left) : leftOf left k = -1 := by unfold leftOf; rw [if_neg h]
theorem leftOf_pos {left k : Nat} (h : k ≤ left) : leftOf left k = ((left - k : Nat) : Int) := by unfold leftOf; rw [if_pos h]; omega
theorem al_new (w : World) (v : Value) (T : TypeId) (k : Nat) (hk : k = w.heap.size) : (w.alloc (.cells #[v] T)).cell? ⟨k, 0, none⟩ = some v := by subst hk; simp
theorem fr_new (w : World) (v : Value) (T : TypeId) (k : Nat) (hk : k = w.heap.size) : (w.alloc (.cells #[v] T)).frozen? ⟨k, 0, none⟩ = false := by subst hk; simp
theorem al_old (w : World) (o : Obj) (k j : Nat) (hk : k < w.heap.size) : (w.alloc o).cell? ⟨k, j, none⟩ = w.cell? ⟨k, j, none⟩ := ((Below.refl w.heap.size w).alloc (Nat.le_refl _) o).cell (p := ⟨k, j, none⟩) hk
theorem fr_old (w : World) (o : Obj) (k j : Nat) (hk : k < w.heap.size) : (w.alloc o).frozen? ⟨k, j, none⟩ = w.frozen? ⟨k, j, none⟩ := ((Below.refl w.heap.size w).alloc (Nat.le_refl _) o).frozen (p := ⟨k, j, none⟩) hk
theorem heap_new (w : World) (o : Obj) (k : Nat) (hk : k = w.heap.size) : (w.alloc o).heap[k]? = some o := by subst hk; exact Array.getElem?_push_size
theorem rs_alloc {w : World} {lo hi n : Nat} {A : Option Addr} {xss : List (List Int)} (h : RS w lo hi A n xss) (hhi : hi ≤ w.heap.size) (o : Obj) : RS (w.alloc o) lo hi A n xss := h.keep (same_alloc w o _ _ hhi)
theorem szM_any (A : Option Addr) (n c left : Nat) (xss : List (List Int)) (w : World) {lo hi : Nat} (h : RS w lo hi A n xss) (hhi : hi ≤ w.heap.size) (hl : left ≤ 1048576) :
    Calls Tryd.prog 20 #[.agg #[.slice A n c], .int .i64 left] w fun e w' => e = .returned (.int .i64 (leftOf left (n + numsIn xss))) ∧ Below w.heap.size w w' := by
  have hR := rs_alloc h hhi (.cells #[.slice A n c] 41)
  have hB : Below w.heap.size w (w.alloc (.cells #[.slice A n c] 41)) := (Below.refl _ _).alloc (Nat.le_refl _) _
  by_cases hk : n + numsIn xss ≤ left
  · have e0 := leftOf_pos hk
    replace e0 := Lib.hid e0
    go_enter Tryd.func20, Tryd.ntmps20
    go_wp2_with fail
    ((with_reducible refine (szS_any A n c left xss _ hR hl).mono ?_); rintro e w' ⟨rfl, rfl⟩)
    rw [e0.out]
    go_wp2_with fail
    go_ret
    exact ⟨ret_int e0.out.symm, hB⟩
  · have e0 := leftOf_neg hk
    replace e0 := Lib.hid e0
    go_enter Tryd.func20, Tryd.ntmps20
    go_wp2_with fail
    ((with_reducible refine (szS_any A n c left xss _ hR hl).mono ?_); rintro e w' ⟨rfl, rfl⟩)
    rw [e0.out]
    go_wp2_with fail
    go_ret
    exact ⟨ret_int e0.out.symm, hB⟩
theorem szM0_any (A : Option Addr) (n c : Nat) (xss : List (List Int)) (w : World) {lo hi : Nat} (h : RS w lo hi A n xss) (hhi : hi ≤ w.heap.size) :
    Calls Tryd.prog 20 #[.agg #[.slice A n c], .int .i64 1048576] w fun e w' => e = .returned (.int .i64 (leftOf 1048576 (n + numsIn xss))) ∧ Below w.heap.size w w' :=
  szM_any A n c 1048576 xss w h hhi (Nat.le_refl _)
theorem toM_any (A : Option Addr) (n c : Nat) (xss : List (List Int)) (w : World) {lo hi : Nat} (h : RS w lo hi A n xss) (hhi : hi ≤ w.heap.size) (hn : n + numsIn xss ≤ 1048576) :
    Calls Tryd.prog 22 #[.agg #[.slice A n c]] w fun e w' => ∃ A', e = .returned (.agg #[.slice A' n n]) ∧ OwnS w' w.heap.size w'.heap.size 22 2 A' n n xss ∧ Below w.heap.size w w' := by
  go_enter Tryd.func22, Tryd.ntmps22
  go_wp2_with fail
  refine (toS_any A n c xss _ (h.below ?hb hhi) ?hs hn).mono ?_
  case hb => exact (((Below.refl _ _).alloc (Nat.le_refl _) _).alloc (by simp) _).alloc (by simp; omega) _
  case hs => simp; omega
  rintro e w1 ⟨A', rfl, ho, hb1⟩
  have c2 : w1.cell? ⟨w.heap.size + 1 + 1, 0, none⟩ = some (.slice none 0 0) := (hb1.cell (p := ⟨w.heap.size + 1 + 1, 0, none⟩) (by simp)).trans (al_new _ _ _ _ (by simp))
  have c1 : w1.cell? ⟨w.heap.size + 1, 0, none⟩ = some (.slice none 0 0) := (hb1.cell (p := ⟨w.heap.size + 1, 0, none⟩) (by simp)).trans ((al_old _ _ _ _ (by simp)).trans (al_new _ _ _ _ (by simp)))
  have f2 : w1.frozen? ⟨w.heap.size + 1 + 1, 0, none⟩ = false := (hb1.frozen (p := ⟨w.heap.size + 1 + 1, 0, none⟩) (by simp)).trans (fr_new _ _ _ _ (by simp))
  have f1 : w1.frozen? ⟨w.heap.size + 1, 0, none⟩ = false := (hb1.frozen (p := ⟨w.heap.size + 1, 0, none⟩) (by simp)).trans ((fr_old _ _ _ _ (by simp)).trans (fr_new _ _ _ _ (by simp)))
  have hz1 := hb1.size
  simp at hz1
  go_wp2_with fail
  have g1 : w1.heap[w.heap.size + 1]? = some (.cells #[.slice none 0 0] 44 (0, 0)) := (hb1.block _ (by simp)).trans ((Below.heap_alloc _ _ _ (by simp)).trans (heap_new _ _ _ (by simp)))
  have g2 : (w1.setCell ⟨w.heap.size + 1 + 1, 0, none⟩ (.slice A' n n)).heap[w.heap.size + 1]? = some (.cells #[.slice none 0 0] 44 (0, 0)) := (heap_setCell_other _ _ _ _ (by simp)).trans g1
  have g3 := heap_setCell_same _ _ 0 _ _ (Value.slice A' n n) g2
  (try simp only [Exit.inBlock, Exit.then])
  refine bodyPost_ret (v := .agg #[.slice A' n n]) ?_ rfl ?_
  · exact results_cell_row rfl _ _ (w.heap.size + 1) 44 #[.slice A' n n] (0, 0) _ rfl (by simpa using g3) Tryd.underlying44 rfl (by kernel_rfl)
  · have hbw : Below w.heap.size w w1 := ((((Below.refl _ _).alloc (Nat.le_refl _) _).alloc (by simp) _).alloc (by simp; omega) _).trans (hb1.mono (by simp; omega))
    refine ⟨A', rfl, ?_, (hbw.setCell (by simp; omega) _).setCell (by simp) _⟩
    refine (((ho.keep (same_set _ _ _ _ _ (by simp))).keep (same_set _ _ _ _ _ (by simp))).more (by simp; omega) (by simp))
theorem eqM_any (A : Option Addr) (n c : Nat) (xss : List (List Int)) (A' : Option Addr) (n' c' : Nat) (yss : List (List Int)) (w : World) {lo hi lo' hi' : Nat} (h : RS w lo hi A n xss) (h' : RS w lo' hi' A' n' yss) (hhi : hi ≤ w.heap.size) (hhi' : hi' ≤ w.heap.size) :
    Calls Tryd.prog 24 #[.agg #[.slice A n c], .agg #[.slice A' n' c']] w fun e w' => e = .returned (.bool (decide (xss = yss))) ∧ Below w.heap.size w w' := by
  have hR := rs_alloc (rs_alloc h hhi (.cells #[.slice A n c] 44)) (by simp; omega) (.cells #[.slice A' n' c'] 44)
  have hR' := rs_alloc (rs_alloc h' hhi' (.cells #[.slice A n c] 44)) (by simp; omega) (.cells #[.slice A' n' c'] 44)
  have hB : Below w.heap.size w ((w.alloc (.cells #[.slice A n c] 44)).alloc (.cells #[.slice A' n' c'] 44)) := ((Below.refl _ _).alloc (Nat.le_refl _) _).alloc (by simp) _
  by_cases he : xss = yss
  · have hd : decide (xss = yss) = true := decide_eq_true he
    replace hd := Lib.hid hd
    clear he
    go_enter Tryd.func24, Tryd.ntmps24
    go_wp2_with fail
    ((with_reducible refine (eqS_any A n c xss A' n' c' yss _ hR hR' (by simp; omega) (by simp; omega)).mono ?_); rintro e w1 ⟨rfl, hb1⟩)
    rw [hd.out]
    go_wp2_with fail
    go_ret
    exact ⟨ret_bool hd.out.symm, hB.trans (hb1.mono (by simp; omega))⟩
  · have hd : decide (xss = yss) = false := decide_eq_false he
    replace hd := Lib.hid hd
    clear he
    go_enter Tryd.func24, Tryd.ntmps24
    go_wp2_with fail
    ((with_reducible refine (eqS_any A n c xss A' n' c' yss _ hR hR' (by simp; omega) (by simp; omega)).mono ?_); rintro e w1 ⟨rfl, hb1⟩)
    rw [hd.out]
    go_wp2_with fail
    go_ret
    exact ⟨ret_bool hd.out.symm, hB.trans (hb1.mono (by simp; omega))⟩
section
open Go.ChangeShapes Go.WideShapes Go.ChangeAt Go.RowKit Go.Deep
theorem open_RM {H : Type} {enc : TypeId × Value → H} {P : Program} {w : World} {r : Reach} {b0 : Nat} {m t e q : TypeId} {v : Value} {d : DataW H} {p : List MemPlace} {f : Field} (hs : P.underlying m = some (.struct #[f])) (hone : oneCellFields P #[f] = true) (hC : P.cellsOf m = 1) (hft : f.type = t)
    (ht : P.underlying t = some (.slice e)) (he : P.underlying e = some (.slice q)) (hq : P.underlying q = some (.int .i64)) (ce : P.cellsOf e = 1) (cq : P.cellsOf q = 1)
    (hv : Value.okWide P w r b0 m v) (h : DataW.Trod enc P w 0 (fun _ => true) true m v d p) :
    ∃ a len cap xss, v = .agg #[.slice a len cap] ∧ RS w 0 w.heap.size a len xss ∧ ∀ xs ∈ xss, ∀ x ∈ xs, I64 x := by
  obtain ⟨cs, rfl, hsz⟩ := okWide_struct hs hv
  obtain ⟨l⟩ := cs
  match l, hsz.trans hC with
  | [c0], _ =>
    obtain ⟨fuel, hf⟩ := h
    obtain ⟨xs, n, _, hx, _, hlen, hg⟩ := DataW.trod_struct hs hf
    obtain ⟨o0, k0⟩ := hone_of hone 0 f rfl
    match xs, hlen with
    | [y0], _ =>
      have h0 : DataW.trod enc P w 0 (fun _ => true) true n f.type [c0] = some y0 := by simpa [Value.cells, o0, k0] using hg 0 f rfl
      rw [hft] at h0
      rcases open_slice ht h0 with ⟨hcs, _⟩ | ⟨a, len, cap, _, _, _, _, hcs, _⟩
      · simp at hcs; subst hcs
        obtain ⟨xss, g1, g2⟩ := rows_open ht he hq ce cq h0
        exact ⟨_, _, _, xss, rfl, g1, g2⟩
      · simp at hcs; subst hcs
        obtain ⟨xss, g1, g2⟩ := rows_open ht he hq ce cq h0
        exact ⟨_, _, _, xss, rfl, g1, g2⟩
end
end Go.Proofs.YtbioelmofceaaaaDoor
