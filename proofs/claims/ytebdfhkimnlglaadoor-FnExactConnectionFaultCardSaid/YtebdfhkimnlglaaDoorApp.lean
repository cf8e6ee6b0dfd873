/- Laws of the walk for append onto a row of the call's own: one element at a time, and whole slices. The lengths stay below 2^40. -/
import Derived.Test.YtebdfhkimnlglaaDoorVoc
import Derived.Maps.AppendAt
namespace Go.Proofs.YtebdfhkimnlglaaDoor
open Go.RowKit
set_option linter.unusedVariables false
set_option maxRecDepth 100000

section
variable {P : Program}
theorem slice_of_own {w : World} {lo : Nat} {e : TypeId} {v : Value} {n : Nat} {vs : List Value} (h : w.ownsRow lo e 1 v n vs) (hn : 0 < n) : ∃ g cap, v = .slice (some ⟨g, 0, none⟩) n cap ∧ lo ≤ g ∧ g < w.heap.size := by
  rcases h.2 with ⟨hv, h0⟩ | ⟨g, cap, cur, hv, hb, hg, _⟩
  · omega
  · exact ⟨g, cap, hv, hb, (Array.getElem?_eq_some_iff.1 hg).1⟩

/-- 'append(s, x)': the new element has just been laid in a block of its own -/
theorem wpList_append1 (w : World) {ops : Array Oper} {rest : List Oper} {o : Oper} {a : Act} {Q : Exit → Act → World → Prop} (hgd : o.guard = none) (s x : Operand) (t : TypeId)
    (ho : o.op = .call { callee := .builtin .append, args := #[s, x], argTypes := #[t, t] })
    (lo : Nat) (e : TypeId) (i : TypeInfo) (z : Value) (bytes : Nat) (ht : P.underlying t = some (.slice e)) (hi : P.info? e = some i) (hz : i.zero = some z)
    (hsize : i.size = 1) (hby : i.bytes = bytes) (hzs : z.cells.size = 1) (hbs : bytes ≤ 64)
    (A : Option Addr) (n c : Nat) (vs : List Value) (u : Value) (hs : a.eval s = .slice A n c) (hown : w.ownsRow lo e 1 (.slice A n c) n vs)
    (N : Nat) (hx : a.eval x = .slice (some ⟨N, 0, none⟩) 1 1) (hN : N = w.heap.size) (h1 : u.oneCell' = true) (h63 : n < 1099511627776) (hlo : lo ≤ w.heap.size)
    (h : ∀ g c' w', w'.ownsRow lo e 1 (.slice (some ⟨g, 0, none⟩) (n + 1) c') (n + 1) (vs ++ [u]) → w.grownBy w' (Value.slice A n c).ownBlock → lo ≤ g → g < w'.heap.size →
      (A = some ⟨g, 0, none⟩ ∨ w.heap.size ≤ g) → wpList P ops Q rest (a.put o.dst (.slice (some ⟨g, 0, none⟩) (n + 1) c')) w') :
    wpList P ops Q (o :: rest) a (w.alloc (.cells #[u] e)) := by
  subst hN
  refine wpList_plain hgd fun K hK => ?_
  have hnews : ∀ j v, [u][j]? = some v → (w.alloc (.cells #[u] e)).cell? ((⟨w.heap.size, 0, none⟩ : Addr).add j) = some v := by
    intro j v hv
    have : j = 0 := by have := (List.getElem?_eq_some_iff.1 hv).1; simp at this; omega
    subst this
    simp at hv
    subst hv
    simp [Addr.add_lit]
  obtain ⟨v', w', hrun, r1, r2, r3, r4⟩ := run_append_own_at (P := P) (w.alloc (.cells #[u] e)) lo t o.type e i z 1 bytes ht hi hz hsize hby hzs (by omega) (.slice A n c) n vs (hown.alloc _)
    ⟨w.heap.size, 0, none⟩ 1 1 [u] rfl hnews (by simpa using h1) (by simp only [maxLen]; omega) (by have := Nat.mul_le_mul (show n + 1 ≤ 1099511627776 by omega) hbs; omega) (by simp; omega)
  obtain ⟨g, c', rfl, hg1, hg2⟩ := slice_of_own r1 (by omega)
  unfold Oper.wp execOp
  simp only [ho, resolve, invoke, builtin, Sem.run_bind, Sem.run_pure, Result.andThen_ok, List.map_toArray, List.map_cons, List.map_nil, hs, hx, hrun]
  refine hK _ _ (h g c' w' r1 ?_ hg1 hg2 ?_)
  · have ha := World.grownBy_alloc w (.cells #[u] e) (Value.slice A n c).ownBlock
    exact ⟨r2.os.trans ha.os, r2.tape.trans ha.tape, r2.output.trans ha.output, Nat.le_trans ha.size r2.size, fun k hk hne => (r2.block k (by simp; omega) hne).trans (ha.block k hk hne)⟩
  · rcases r4 with r4 | r4
    · left
      rcases A with _ | ad
      · simp [Value.ownBlock] at r4
      · have hn : ad = ⟨g, 0, none⟩ := by
          rcases hown.2 with ⟨hv, _⟩ | ⟨g', cap', cur', hv, _⟩
          · cases hv
          · injection hv with hv _ _
            simp [Value.ownBlock] at r4
            injection hv with hv
            subst hv
            simp at r4
            subst r4
            rfl
        rw [hn]
    · right
      simp [Value.ownBlock] at r4
      omega

/-- a row of the call's own is a slice -/
theorem slice_of_own' {w : World} {lo : Nat} {e : TypeId} {v : Value} {n : Nat} {vs : List Value} (h : w.ownsRow lo e 1 v n vs) : ∃ A c, v = .slice A n c := by
  rcases h.2 with ⟨hv, h0⟩ | ⟨g, cap, cur, hv, hb, hg, _⟩
  · subst h0; exact ⟨none, 0, hv⟩
  · exact ⟨_, cap, hv⟩

/-- 'append(s, xs...)': whole slices -/
theorem wpList_appendL (w : World) {ops : Array Oper} {rest : List Oper} {o : Oper} {a : Act} {Q : Exit → Act → World → Prop} (hgd : o.guard = none) (s x : Operand) (t : TypeId)
    (ho : o.op = .call { callee := .builtin .append, args := #[s, x], argTypes := #[t, t] })
    (lo : Nat) (e : TypeId) (i : TypeInfo) (z : Value) (bytes : Nat) (ht : P.underlying t = some (.slice e)) (hi : P.info? e = some i) (hz : i.zero = some z)
    (hsize : i.size = 1) (hby : i.bytes = bytes) (hzs : z.cells.size = 1) (hbs : bytes ≤ 64)
    (A : Option Addr) (n c : Nat) (vs : List Value) (hs : a.eval s = .slice A n c) (hown : w.ownsRow lo e 1 (.slice A n c) n vs)
    (A' : Option Addr) (m c' : Nat) (us : List Value) (l1 l2 : Nat) (hx : a.eval x = .slice A' m c') (hr : Rd w l1 l2 A' m us) (h1 : ∀ u ∈ us, u.oneCell' = true) (h63 : n + m ≤ 1099511627776) (hlo : lo ≤ w.heap.size)
    (h : ∀ A2 c2 w', w'.ownsRow lo e 1 (.slice A2 (n + m) c2) (n + m) (vs ++ us) → w.grownBy w' (Value.slice A n c).ownBlock →
      ((Value.slice A2 (n + m) c2).ownBlock = (Value.slice A n c).ownBlock ∨ (Value.slice A2 (n + m) c2).ownBlock = some w.heap.size) → wpList P ops Q rest (a.put o.dst (.slice A2 (n + m) c2)) w') :
    wpList P ops Q (o :: rest) a w := by
  have hl : us.length = m := hr.1
  have key : ∃ v' w', (Builtin.append_ #[t, t] o.type #[.slice A n c, .slice A' m c']).run P w = .ok v' w' ∧ w'.ownsRow lo e 1 v' (n + m) (vs ++ us) ∧ w.grownBy w' (Value.slice A n c).ownBlock ∧
      (v'.ownBlock = (Value.slice A n c).ownBlock ∨ v'.ownBlock = some w.heap.size) := by
    have hb : (n + m) * bytes ≤ 140737488355328 := by have := Nat.mul_le_mul h63 hbs; omega
    rcases Nat.eq_zero_or_pos m with h0 | h0
    · subst h0
      have hn : us = [] := List.eq_nil_of_length_eq_zero hl
      subst hn
      rcases A' with _ | ad
      · refine ⟨_, w, ?_, by simpa using hown, World.grownBy.refl w _, .inl rfl⟩
        rcases hown.2 with ⟨hv, hn⟩ | ⟨g, cap, cur, hv, _, _, hnc, _⟩
        · subst hn
          injection hv with h1 _ h3
          subst h1; subst h3
          simp [Builtin.append_, run_underlying ht, sizeOf, typeInfo, hi, Builtin.lenOf, Builtin.firstCells]
        · injection hv with h1 _ h3
          subst h1; subst h3
          simp [Builtin.append_, run_underlying ht, sizeOf, typeInfo, hi, Builtin.lenOf, Builtin.firstCells, hnc, storeCells]
      · obtain ⟨v', w', q1, q2, q3, _, q5⟩ := run_append_own_at (P := P) w lo t o.type e i z 1 bytes ht hi hz hsize hby hzs (by omega) (.slice A n c) n vs hown ad 0 c' [] rfl (by simp) (by simp) (by simp only [maxLen]; omega) hb hlo
        exact ⟨v', w', q1, q2, q3, q5⟩
    · obtain ⟨b, off, rfl, _, _, hc⟩ := hr.2.2 h0
      obtain ⟨v', w', q1, q2, q3, _, q5⟩ := run_append_own_at (P := P) w lo t o.type e i z 1 bytes ht hi hz hsize hby hzs (by omega) (.slice A n c) n vs hown ⟨b, off, none⟩ m c' us (by omega) (fun j u hu => by rw [Addr.add_lit]; exact hc j u hu) h1 (by simp only [maxLen]; omega) hb hlo
      exact ⟨v', w', q1, q2, q3, q5⟩
  obtain ⟨v', w', hrun, r1, r2, r3⟩ := key
  obtain ⟨A2, c2, rfl⟩ := slice_of_own' r1
  refine wpList_plain hgd fun K hK => ?_
  unfold Oper.wp execOp
  simp only [ho, resolve, invoke, builtin, Sem.run_bind, Sem.run_pure, Result.andThen_ok, List.map_toArray, List.map_cons, List.map_nil, hs, hx, hrun]
  exact hK _ _ (h A2 c2 w' r1 r2 r3)
end
end Go.Proofs.YtebdfhkimnlglaaDoor
