/- A law for a call of a Go function inside a region that draws its order, for 'go_region_law': beside the laws for append. No condition. -/
import Derived.Test.YtebdfhkimnlglaaDoorVoc
import Derived.Test.YtebdfhkimnlglaaDoorApp
import Derived.Deep.RegionLaw
import Derived.Deep.AppendLies
namespace Go.Proofs.YtebdfhkimnlglaaDoor
open Go.RowKit
set_option linter.unusedVariables false
theorem step_call {P : Program} {w : World} {ops : Array Oper} {o : Oper} {a : Act} {K : Act → World → Prop} {Q : Exit → Act → World → Prop} {E : Prop} (hgd : o.guard = none) (f : FuncId) (vs : Array Value)
    (hrun : (execOp a.eval o).run P w = .ok (.enter f vs) w) {R : Ending → World → Prop} (h : Calls P f vs w R)
    (hK : ∀ e w', R e w' → ∃ u, e = .returned u ∧ K (a.put o.dst u) w') :
    if Region.wanted o (yielded ops a.tmps) = true then Oper.wp P o a w K Q else E := by
  have hw : Region.wanted o (yielded ops a.tmps) = true := by simp [Region.wanted, hgd]
  rw [if_pos hw]
  unfold Oper.wp
  rw [hrun, Oper.upon_enter]
  refine h.mono fun e w' hr => ?_
  obtain ⟨u, rfl, hk⟩ := hK e w' hr
  exact hk
/-- 'append(s, xs...)': whole slices, inside a region that draws -/
theorem step_appendL {P : Program} (w : World) {ops : Array Oper} {o : Oper} {a : Act} {K : Act → World → Prop} {Q : Exit → Act → World → Prop} {E : Prop} (hgd : o.guard = none) (s x : Operand) (t : TypeId)
    (ho : o.op = .call { callee := .builtin .append, args := #[s, x], argTypes := #[t, t] })
    (lo : Nat) (e : TypeId) (i : TypeInfo) (z : Value) (bytes : Nat) (ht : P.underlying t = some (.slice e)) (hi : P.info? e = some i) (hz : i.zero = some z)
    (hsize : i.size = 1) (hby : i.bytes = bytes) (hzs : z.cells.size = 1) (hbs : bytes ≤ 64)
    (A : Option Addr) (n c : Nat) (vs : List Value) (hs : a.eval s = .slice A n c) (hown : w.ownsRow lo e 1 (.slice A n c) n vs)
    (A' : Option Addr) (m c' : Nat) (us : List Value) (l1 l2 : Nat) (hx : a.eval x = .slice A' m c') (hr : Rd w l1 l2 A' m us) (h1 : ∀ u ∈ us, u.oneCell' = true) (h63 : n + m ≤ 1099511627776) (hlo : lo ≤ w.heap.size)
    (h : ∀ A2 c2 w', w'.ownsRow lo e 1 (.slice A2 (n + m) c2) (n + m) (vs ++ us) → w.grownBy w' (Value.slice A n c).ownBlock →
      ((Value.slice A2 (n + m) c2).ownBlock = (Value.slice A n c).ownBlock ∨ (Value.slice A2 (n + m) c2).ownBlock = some w.heap.size) → K (a.put o.dst (.slice A2 (n + m) c2)) w') :
    if Region.wanted o (yielded ops a.tmps) = true then Oper.wp P o a w K Q else E := by
  have hl : us.length = m := hr.1
  have key : ∃ v' w', (Builtin.append_ #[t, t] o.type #[.slice A n c, .slice A' m c']).run P w = .ok v' w' ∧ w'.ownsRow lo e 1 v' (n + m) (vs ++ us) ∧ w.grownBy w' (Value.slice A n c).ownBlock ∧
      (v'.ownBlock = (Value.slice A n c).ownBlock ∨ v'.ownBlock = some w.heap.size) := by
    have hb : (n + m) * bytes ≤ 140737488355328 := by have := Nat.mul_le_mul h63 hbs; omega
    rcases Nat.eq_zero_or_pos m with h0 | h0
    · subst h0
      have hn : us = [] := List.eq_nil_of_length_eq_zero hl
      subst hn
      rcases A' with _ | ad
      · refine ⟨_, w, ?_, by simpa using hown, World.grownBy.refl w _, .inl rfl⟩
        rcases hown.2 with ⟨hv, hn⟩ | ⟨g, cap, cur, hv, _, _, hnc, _⟩
        · subst hn
          injection hv with h1 _ h3
          subst h1; subst h3
          simp [Builtin.append_, run_underlying ht, sizeOf, typeInfo, hi, Builtin.lenOf, Builtin.firstCells]
        · injection hv with h1 _ h3
          subst h1; subst h3
          simp [Builtin.append_, run_underlying ht, sizeOf, typeInfo, hi, Builtin.lenOf, Builtin.firstCells, hnc, storeCells]
      · obtain ⟨v', w', q1, q2, q3, _, q5⟩ := run_append_own_at (P := P) w lo t o.type e i z 1 bytes ht hi hz hsize hby hzs (by omega) (.slice A n c) n vs hown ad 0 c' [] rfl (by simp) (by simp) (by simp only [maxLen]; omega) hb hlo
        exact ⟨v', w', q1, q2, q3, q5⟩
    · obtain ⟨b, off, rfl, _, _, hc⟩ := hr.2.2 h0
      obtain ⟨v', w', q1, q2, q3, _, q5⟩ := run_append_own_at (P := P) w lo t o.type e i z 1 bytes ht hi hz hsize hby hzs (by omega) (.slice A n c) n vs hown ⟨b, off, none⟩ m c' us (by omega) (fun j u hu => by rw [Addr.add_lit]; exact hc j u hu) h1 (by simp only [maxLen]; omega) hb hlo
      exact ⟨v', w', q1, q2, q3, q5⟩
  obtain ⟨v', w', hrun, r1, r2, r3⟩ := key
  obtain ⟨A2, c2, rfl⟩ := slice_of_own' r1
  have hw : Region.wanted o (yielded ops a.tmps) = true := by simp [Region.wanted, hgd]
  rw [if_pos hw]
  unfold Oper.wp execOp
  simp only [ho, resolve, invoke, builtin, Sem.run_bind, Sem.run_pure, Result.andThen_ok, List.map_toArray, List.map_cons, List.map_nil, hs, hx, hrun]
  exact h A2 c2 w' r1 r2 r3
end Go.Proofs.YtebdfhkimnlglaaDoor
