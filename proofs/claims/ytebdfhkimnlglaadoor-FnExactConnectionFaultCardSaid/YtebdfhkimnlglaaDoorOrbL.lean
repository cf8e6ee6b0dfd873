/- Walks: the program's labels of orbits. Up to 400 points. -/
import Derived.Test.YtebdfhkimnlglaaDoorOrbD
import Derived.Test.YtebdfhkimnlglaaDoorRep
import Derived.Test.YtebdfhkimnlglaaDoorSls
import Derived.Test.YtebdfhkimnlglaaDoorApp
import Derived.Deep.LoopGhost
namespace Go.Proofs.YtebdfhkimnlglaaDoor
open Go.RowKit
set_option linter.unusedVariables false
set_option maxRecDepth 100000
section
variable {w : World} {lo hi n c : Nat} {T : TypeId} {A : Option Addr} {xs : List Int}
theorem Own.atI {k : Nat} (h : Own w lo hi T A n c (xs.map (Value.int .i64))) (hk : k < n) : ∃ b x, A = some ⟨b, 0, none⟩ ∧ lo ≤ b ∧ b < hi ∧ b < w.heap.size ∧ xs[k]? = some x ∧ w.cell? ⟨b, k, none⟩ = some (.int .i64 x) ∧ ∀ j, w.frozen? ⟨b, j, none⟩ = false := by
  obtain ⟨b, v, e, h1, h2, h3, h4, _, h6, h7⟩ := h.at_ hk
  simp only [List.getElem?_map, Option.map_eq_some_iff] at h4
  obtain ⟨x, hx, rfl⟩ := h4
  exact ⟨b, x, e, h1, h2, h3, hx, h6, h7⟩
theorem Own.cellI {b k : Nat} {x : Int} (h : Own w lo hi T (some ⟨b, 0, none⟩) n c (xs.map (Value.int .i64))) (hx : xs[k]? = some x) : w.cell? ⟨b, k, none⟩ = some (.int .i64 x) := by
  have := RI.cell h.ri hx
  simpa using this
theorem Own.frz {b : Nat} {vs : List Value} (h : Own w lo hi T (some ⟨b, 0, none⟩) n c vs) (k : Nat) : w.frozen? ⟨b, k, none⟩ = false := h.1.frozenAt k
theorem Own.lenI (h : Own w lo hi T A n c (xs.map (Value.int .i64))) : xs.length = n := by have := h.len; simpa using this
theorem Own.setI {b k : Nat} (h : Own w lo hi T (some ⟨b, 0, none⟩) n c (xs.map (Value.int .i64))) (u : Int) : Own (w.setCell ⟨b, k, none⟩ (.int .i64 u)) lo hi T (some ⟨b, 0, none⟩) n c ((xs.set k u).map (Value.int .i64)) := by
  rw [List.map_set]; exact h.set _
theorem Own.cap {vs : List Value} (h : Own w lo hi T A n c vs) : n ≤ c := by
  rcases h.1.2 with ⟨hv, h0⟩ | ⟨g, cap, cur, hv, hb, hg, hnc, hcm, hcs, htake⟩
  · omega
  · injection hv with _ _ h3
    omega
/-- the last element falls away -/
theorem Own.popI {b : Nat} {x : Int} (h : Own w lo hi T (some ⟨b, 0, none⟩) (n + 1) c ((xs ++ [x]).map (Value.int .i64))) : Own w lo hi T (some ⟨b, 0, none⟩) n c (xs.map (Value.int .i64)) := by
  have hl := h.lenI
  simp at hl
  refine ⟨⟨by simp [hl], ?_⟩, h.2⟩
  rcases h.1.2 with ⟨hv, h0⟩ | ⟨g, cap, cur, hv, hb, hg, hnc, hcm, hcs, htake⟩
  · cases hv
  · injection hv with h1 _ h3
    injection h1 with h1
    injection h1 with h1 _ _
    subst h1; subst h3
    refine .inr ⟨b, c, cur, rfl, hb, hg, by omega, hcm, hcs, ?_⟩
    have e : cur.toList.take (n * 1) = (cur.toList.take ((n + 1) * 1)).take (n * 1) := by rw [List.take_take]; congr 1; omega
    rw [e, htake, List.map_append, List.take_append_of_le_length (by simp [hl]), List.take_of_length_le (by simp [hl])]
theorem ri_lit1 (w : World) (T : TypeId) (v : Int) : RI (w.alloc (.cells #[.int .i64 v] T)) w.heap.size (w.heap.size + 1) (some ⟨w.heap.size, 0, none⟩) 1 [v] := by
  refine ⟨rfl, by omega, fun _ => ⟨w.heap.size, 0, rfl, Nat.le_refl _, by omega, fun k u hk => ?_⟩⟩
  have h0 := (List.getElem?_eq_some_iff.1 hk).1
  simp at h0
  subst h0
  simp at hk
  subst hk
  simp
theorem own_lit1 (w : World) (T : TypeId) (v : Int) {lo : Nat} (hlo : lo ≤ w.heap.size) : Own (w.alloc (.cells #[.int .i64 v] T)) lo (w.heap.size + 1) T (some ⟨w.heap.size, 0, none⟩) 1 1 ([v].map (Value.int .i64)) :=
  ⟨World.ownsRow_lit (e := T) (base := lo) (size := 1) w #[.int .i64 v] 1 hlo (by simp only [maxLen]; omega) rfl, fun a e => by injection e with e; subst e; simp⟩
end
theorem count_app_set {ls : List Int} {y : Nat} {u : Int} (h : ls[y]? = some (-1)) (hu : 0 ≤ u) : (ls.set y u).count (-1) + 1 = ls.count (-1) := count_set_ne h (by omega)
end Go.Proofs.YtebdfhkimnlglaaDoor
