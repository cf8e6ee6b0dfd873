/- A slice of the call's own that may begin within its row (a queue): its first element is read, it is cut away, and elements are appended. -/
import Derived.Test.YtpbkdjkgaalegaaOrbL
import Derived.ArgAppend
namespace Go.Proofs.Ytpbkdjkgaalegaa
open Go.RowKit
set_option linter.unusedVariables false
set_option maxRecDepth 100000
/-- '.slice A n c' holds vs; it lies in a block from lo on; what lies behind it, up to c, may be written -/
def Que (w : World) (lo : Nat) (A : Option Addr) (n c : Nat) (vs : List Value) : Prop :=
  vs.length = n ∧ n ≤ c ∧ c ≤ maxLen ∧ ∃ g o, A = some ⟨g, o, none⟩ ∧ lo ≤ g ∧ g < w.heap.size ∧ (∀ k v, vs[k]? = some v → w.cell? ⟨g, o + k, none⟩ = some v) ∧ (∀ k, k < c → (w.cell? ⟨g, o + k, none⟩).isSome = true) ∧ ∀ k, w.frozen? ⟨g, k, none⟩ = false
section
variable {w w' : World} {lo hi n c : Nat} {T : TypeId} {A : Option Addr} {vs : List Value}
theorem Que.keep (h : Que w lo A n c vs) (hs : ∀ k, lo ≤ k → k < w.heap.size → w'.heap[k]? = w.heap[k]?) (hz : w.heap.size ≤ w'.heap.size) : Que w' lo A n c vs := by
  obtain ⟨h1, h2, h3, g, o, e, h4, h5, h6, h7, h8⟩ := h
  refine ⟨h1, h2, h3, g, o, e, h4, by omega, fun k v hv => ?_, fun k hk => ?_, fun k => ?_⟩
  · exact (World.cell?_of_block (w := w) (a := ⟨g, o + k, none⟩) (hs g h4 h5)).trans (h6 k v hv)
  · rw [World.cell?_of_block (w := w) (a := ⟨g, o + k, none⟩) (hs g h4 h5)]; exact h7 k hk
  · rw [World.frozen?_of_block (w := w) (a := ⟨g, k, none⟩) (hs g h4 h5)]; exact h8 k
theorem Que.far (h : Que w lo A n c vs) {p : Addr} (hp : p.block < lo) (u : Value) : Que (w.setCell p u) lo A n c vs :=
  h.keep (fun k h1 h2 => Below.heap_setCell _ _ _ _ (by omega)) (by simp)
theorem Que.drewN (h : Que w lo A n c vs) (k : Nat) : Que (w.drewN k) lo A n c vs := h
theorem Que.len (h : Que w lo A n c vs) : vs.length = n := h.1
theorem Que.cap (h : Que w lo A n c vs) : n ≤ c := h.2.1
theorem Que.max (h : Que w lo A n c vs) : c ≤ 9223372036854775807 := by have := h.2.2.1; simp only [maxLen] at this; omega
theorem Que.more {lo' : Nat} (h : Que w lo A n c vs) (h' : lo' ≤ lo) : Que w lo' A n c vs := by
  obtain ⟨h1, h2, h3, g, o, e, h4, h5, h6, h7, h8⟩ := h
  exact ⟨h1, h2, h3, g, o, e, by omega, h5, h6, h7, h8⟩
theorem Que.addr (h : Que w lo A n c vs) : ∃ g o, A = some ⟨g, o, none⟩ ∧ lo ≤ g ∧ g < w.heap.size := by
  obtain ⟨_, _, _, g, o, e, h4, h5, _⟩ := h
  exact ⟨g, o, e, h4, h5⟩
theorem Que.cell {g o k : Nat} {v : Value} (h : Que w lo (some ⟨g, o, none⟩) n c vs) (hv : vs[k]? = some v) : w.cell? ⟨g, o + k, none⟩ = some v := by
  obtain ⟨_, _, _, g', o', e, _, _, h6, _⟩ := h
  injection e with e; injection e with e1 e2 _; subst e1; subst e2
  exact h6 k v hv
/-- the first element is cut away -/
theorem Que.pop {g o : Nat} {v : Value} {vs : List Value} {A' : Option Addr} (h : Que w lo (some ⟨g, o, none⟩) (n + 1) c (v :: vs)) (hA : A' = some ⟨g, o + 1, none⟩ ∨ (c = 1 ∧ A' = some ⟨g, o, none⟩)) : Que w lo A' n (c - 1) vs := by
  obtain ⟨h1, h2, h3, g', o', e, h4, h5, h6, h7, h8⟩ := h
  injection e with e; injection e with e1 e2 _; subst e1; subst e2
  simp at h1
  refine ⟨h1, by omega, by omega, ?_⟩
  rcases hA with rfl | ⟨rfl, rfl⟩
  · refine ⟨g, o + 1, rfl, h4, h5, fun k u hu => ?_, fun k hk => ?_, h8⟩
    · rw [show o + 1 + k = o + (k + 1) by omega]; exact h6 (k + 1) u (by simpa using hu)
    · rw [show o + 1 + k = o + (k + 1) by omega]; exact h7 (k + 1) (by omega)
  · have : vs = [] := List.eq_nil_of_length_eq_zero (by omega)
    subst this
    exact ⟨g, o, rfl, h4, h5, fun k u hu => by simp at hu, fun k hk => by omega, h8⟩
theorem Que.of_row {g : Nat} (h : w.ownsRow lo T 1 (.slice (some ⟨g, 0, none⟩) n c) n vs) : Que w lo (some ⟨g, 0, none⟩) n c vs := by
  have hl := h.1
  rcases h.2 with ⟨hv, _⟩ | ⟨g', cap, cur, hv, hb, hg, hnc, hcm, hcs, htake⟩
  · cases hv
  · injection hv with e1 _ e3
    injection e1 with e1
    injection e1 with e1 _ _
    subst e1; subst e3
    refine ⟨by omega, hnc, hcm, g, 0, rfl, hb, (Array.getElem?_eq_some_iff.1 hg).1, fun k v hv => ?_, fun k hk => ?_, fun k => frozen_of_row w g k cur T hg⟩
    · rw [Nat.zero_add, cell_of_row w g k cur T _ hg]
      have hk := (List.getElem?_eq_some_iff.1 hv).1
      rw [← htake, List.getElem?_take_of_lt (by omega)] at hv
      simpa using hv
    · rw [Nat.zero_add, cell_of_row w g k cur T _ hg]
      simp; omega
theorem Que.of_own {g : Nat} (h : Own w lo hi T (some ⟨g, 0, none⟩) n c vs) : Que w lo (some ⟨g, 0, none⟩) n c vs := Que.of_row h.1
end
section
variable {P : Program}
/-- 'append(s, x)' at a queue -/
theorem wpList_appendQ (w : World) {ops : Array Oper} {rest : List Oper} {o : Oper} {a : Act} {Q : Exit → Act → World → Prop} (hgd : o.guard = none) (s x : Operand) (t : TypeId)
    (ho : o.op = .call { callee := .builtin .append, args := #[s, x], argTypes := #[t, t] })
    (lo : Nat) (e : TypeId) (i : TypeInfo) (z : Value) (bytes : Nat) (ht : P.underlying t = some (.slice e)) (hi : P.info? e = some i) (hz : i.zero = some z)
    (hsize : i.size = 1) (hby : i.bytes = bytes) (hzs : z.cells.size = 1) (hbs : bytes ≤ 64)
    (A : Option Addr) (n c : Nat) (vs : List Value) (u : Value) (hs : a.eval s = .slice A n c) (hq : Que w lo A n c vs)
    (N : Nat) (hx : a.eval x = .slice (some ⟨N, 0, none⟩) 1 1) (hN : N = w.heap.size) (h1 : u.oneCell' = true) (h63 : n < 1099511627776) (hlo : lo ≤ w.heap.size)
    (h : ∀ A' c' w', Que w' lo A' (n + 1) c' (vs ++ [u]) → Below lo w w' → wpList P ops Q rest (a.put o.dst (.slice A' (n + 1) c')) w') :
    wpList P ops Q (o :: rest) a (w.alloc (.cells #[u] e)) := by
  subst hN
  refine wpList_plain hgd fun K hK => ?_
  have hnews : ∀ j v, [u][j]? = some v → (w.alloc (.cells #[u] e)).cell? ((⟨w.heap.size, 0, none⟩ : Addr).add j) = some v := by
    intro j v hv
    have : j = 0 := by have := (List.getElem?_eq_some_iff.1 hv).1; simp at this; omega
    subst this
    simp at hv
    subst hv
    simp [Addr.add_lit]
  have hq' : Que (w.alloc (.cells #[u] e)) lo A n c vs := hq.keep (fun k _ hk => Below.heap_alloc _ _ _ hk) (by simp)
  have hb' : Below lo w (w.alloc (.cells #[u] e)) := (Below.refl _ _).alloc hlo _
  obtain ⟨q1, q2, q3, g, off, rfl, q4, q5, q6, q7, q8⟩ := hq'
  by_cases hr : n + 1 ≤ c
  · have hrun := run_append_room_cells (P := P) (w.alloc (.cells #[u] e)) t o.type e i ht hi g off n c ⟨w.heap.size, 0, none⟩ 1 1 [u] (by simp [hsize]) hnews (by simpa using h1) hr
      (fun j hj => by simp at hj; subst hj; rw [hsize]; exact q7 _ (by omega)) (fun j hj => q8 _)
    rw [hsize, Nat.mul_one] at hrun
    unfold Oper.wp execOp
    simp only [ho, resolve, invoke, builtin, Sem.run_bind, Sem.run_pure, Result.andThen_ok, List.map_toArray, List.map_cons, List.map_nil, hs, hx, hrun]
    have hset : (w.alloc (.cells #[u] e)).setCells g (off + n) [u] = (w.alloc (.cells #[u] e)).setCell ⟨g, off + n, none⟩ u := by simp [World.setCells]
    rw [hset]
    have hsome : ((w.alloc (.cells #[u] e)).cell? ⟨g, off + n, none⟩).isSome = true := q7 n (by omega)
    refine hK _ _ (h _ c _ ⟨by simp [q1], hr, q3, g, off, rfl, q4, by simpa using q5, fun k v hv => ?_, fun k hk => ?_, fun k => ?_⟩ (hb'.setCell q4 _))
    · by_cases hk : k < n
      · rw [List.getElem?_append_left (by omega)] at hv
        exact (World.cell?_setCell_other _ _ _ _ (by intro e; injection e with _ e _; omega)).trans (q6 k v hv)
      · have hk2 := (List.getElem?_eq_some_iff.1 hv).1
        simp at hk2
        have e : k = n := by omega
        subst e
        rw [List.getElem?_append_right (by omega)] at hv
        simp [q1] at hv
        subst hv
        exact World.cell?_setCell_same _ _ _ (Option.isSome_iff_exists.1 hsome).choose_spec
    · by_cases e : k = n
      · subst e; rw [World.cell?_setCell_same _ _ _ (Option.isSome_iff_exists.1 hsome).choose_spec]; rfl
      · exact (congrArg Option.isSome (World.cell?_setCell_other _ _ _ _ (by intro e'; injection e' with _ e' _; omega))).trans (q7 k (by omega))
    · rw [World.frozen?_setCell]; exact q8 k
  · obtain ⟨v', w', hrun, r1, r2⟩ := run_append_arg_grows (P := P) (w.alloc (.cells #[u] e)) t o.type e i z 1 bytes ht hi hz hsize hby hzs (by omega) ⟨g, off, none⟩ n c vs (by omega) (fun j v hv => by rw [Addr.add_lit]; exact q6 j v hv)
      ⟨w.heap.size, 0, none⟩ 1 1 [u] rfl hnews (by omega) (by simp only [maxLen]; omega) (by have := Nat.mul_le_mul (show n + 1 ≤ 1099511627776 by omega) hbs; omega)
    obtain ⟨g', c', rfl, hg1, hg2⟩ := slice_of_own r1 (by omega)
    unfold Oper.wp execOp
    simp only [ho, resolve, invoke, builtin, Sem.run_bind, Sem.run_pure, Result.andThen_ok, List.map_toArray, List.map_cons, List.map_nil, hs, hx, hrun]
    refine hK _ _ (h _ c' w' ((Que.of_row r1).more (by simp; omega)) (hb'.grown r2 (by simp; omega) (fun q hq => by cases hq)))
end
end Go.Proofs.Ytpbkdjkgaalegaa
