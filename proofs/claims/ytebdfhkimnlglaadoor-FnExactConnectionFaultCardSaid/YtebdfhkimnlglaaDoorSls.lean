/- Vocabulary for slices of slices: header rows whose cells are slices of numbers, read or owned. No condition. -/
import Derived.Test.YtebdfhkimnlglaaDoorVoc
import Derived.Test.YtebdfhkimnlglaaDoorApp
namespace Go.Proofs.YtebdfhkimnlglaaDoor
open Go.RowKit
set_option linter.unusedVariables false
set_option maxRecDepth 100000

/-- the cells vs are slices that read as the lists xss, each in blocks from lo on, below hi -/
def RowsAt (w : World) (lo hi : Nat) (vs : List Value) (xss : List (List Int)) : Prop :=
  vs.length = xss.length ∧ ∀ (k : Nat) (v : Value) (xs : List Int), vs[k]? = some v → xss[k]? = some xs → ∃ A n c, v = .slice A n c ∧ RI w lo hi A n xs
/-- the slice '.slice A n c' reads as the lists xss -/
def RS (w : World) (lo hi : Nat) (A : Option Addr) (n : Nat) (xss : List (List Int)) : Prop := ∃ vs, Rd w lo hi A n vs ∧ RowsAt w lo hi vs xss

section
variable {w w' : World} {lo hi lo' hi' n : Nat} {A : Option Addr} {vs : List Value} {xss : List (List Int)}
theorem RowsAt.keep (h : RowsAt w lo hi vs xss) (hs : Same lo hi w w') : RowsAt w' lo hi vs xss := by
  refine ⟨h.1, fun k v xs h1 h2 => ?_⟩
  obtain ⟨A, n, c, e, hr⟩ := h.2 k v xs h1 h2
  exact ⟨A, n, c, e, hr.keep hs⟩
theorem RowsAt.more (h : RowsAt w lo hi vs xss) (h1 : lo' ≤ lo) (h2 : hi ≤ hi') : RowsAt w lo' hi' vs xss := by
  refine ⟨h.1, fun k v xs g1 g2 => ?_⟩
  obtain ⟨A, n, c, e, hr⟩ := h.2 k v xs g1 g2
  exact ⟨A, n, c, e, hr.more h1 h2⟩
theorem RS.nil : RS w lo hi A 0 [] := ⟨[], ⟨rfl, by omega, fun h => absurd h (by omega)⟩, rfl, fun k v xs h => by simp at h⟩
theorem RS.keep (h : RS w lo hi A n xss) (hs : Same lo hi w w') : RS w' lo hi A n xss := by
  obtain ⟨vs, h1, h2⟩ := h
  exact ⟨vs, h1.keep hs, h2.keep hs⟩
theorem RS.more (h : RS w lo hi A n xss) (h1 : lo' ≤ lo) (h2 : hi ≤ hi') : RS w lo' hi' A n xss := by
  obtain ⟨vs, g1, g2⟩ := h
  exact ⟨vs, g1.more h1 h2, g2.more h1 h2⟩
theorem RS.below {B : Nat} (h : RS w lo hi A n xss) (hb : Below B w w') (hB : hi ≤ B) : RS w' lo hi A n xss := h.keep (Same.of_below hb hB)
theorem RS.len (h : RS w lo hi A n xss) : xss.length = n := by
  obtain ⟨vs, g1, g2⟩ := h
  have := g1.1; have := g2.1; omega
theorem RS.max (h : RS w lo hi A n xss) : n ≤ 9223372036854775807 := by
  obtain ⟨vs, g1, g2⟩ := h
  exact g1.2.1
theorem RS.at_ {k : Nat} (h : RS w lo hi A n xss) (hk : k < n) : ∃ b o Ak nk ck xs, A = some ⟨b, o, none⟩ ∧ lo ≤ b ∧ b < hi ∧ xss[k]? = some xs ∧ w.cell? ⟨b, o + k, none⟩ = some (.slice Ak nk ck) ∧ RI w lo hi Ak nk xs := by
  have hl := h.len
  obtain ⟨vs, g1, g2⟩ := h
  obtain ⟨b, o, v, e, h1, h2, hv, hc⟩ := g1.at_ hk
  have hx : xss[k]? = some xss[k] := List.getElem?_eq_getElem (by omega)
  obtain ⟨Ak, nk, ck, rfl, hr⟩ := g2.2 k v _ hv hx
  exact ⟨b, o, Ak, nk, ck, _, e, h1, h2, hx, hc, hr⟩

/-- two values that own no block together -/
def Apart (v v' : Value) : Prop := ∀ g, v.ownBlock = some g → v'.ownBlock ≠ some g
/-- the cells vs are slices of the call's own, with the numbers xss -/
def RowsOwn (w : World) (lo hi : Nat) (T : TypeId) (vs : List Value) (xss : List (List Int)) : Prop :=
  vs.length = xss.length ∧ vs.Pairwise Apart ∧ ∀ (k : Nat) (v : Value) (xs : List Int), vs[k]? = some v → xss[k]? = some xs → ∃ A n c, v = .slice A n c ∧ Own w lo hi T A n c (xs.map (Value.int .i64))
variable {T e : TypeId} {v : Value} {m : Nat} {us : List Value} {row : Option Nat}
theorem RowsOwn.nil : RowsOwn w lo hi T [] [] := ⟨rfl, List.Pairwise.nil, fun k v xs h => by simp at h⟩
theorem RowsOwn.keep (h : RowsOwn w lo hi T vs xss) (hs : Same lo hi w w') : RowsOwn w' lo hi T vs xss := by
  refine ⟨h.1, h.2.1, fun k v xs h1 h2 => ?_⟩
  obtain ⟨A, n, c, e, hr⟩ := h.2.2 k v xs h1 h2
  exact ⟨A, n, c, e, hr.keep hs⟩
theorem RowsOwn.more (h : RowsOwn w lo hi T vs xss) (h1 : lo' ≤ lo) (h2 : hi ≤ hi') : RowsOwn w lo' hi' T vs xss := by
  refine ⟨h.1, h.2.1, fun k v xs g1 g2 => ?_⟩
  obtain ⟨A, n, c, e, hr⟩ := h.2.2 k v xs g1 g2
  exact ⟨A, n, c, e, hr.more h1 h2⟩
theorem RowsOwn.at (h : RowsOwn w lo hi T vs xss) : RowsAt w lo hi vs xss := by
  refine ⟨h.1, fun k v xs h1 h2 => ?_⟩
  obtain ⟨A, n, c, e, hr⟩ := h.2.2 k v xs h1 h2
  exact ⟨A, n, c, e, hr.ri⟩
/-- rows of different element types share no block -/
theorem own_apart {base base' : Nat} {e e' : TypeId} {v v' : Value} {n n' : Nat} {xs ys : List Value} (h : w.ownsRow base e 1 v n xs) (h' : w.ownsRow base' e' 1 v' n' ys) (hne : e ≠ e') : ∀ g, v.ownBlock = some g → v'.ownBlock ≠ some g := by
  intro g hg hg'
  rcases h.2 with ⟨rfl, _⟩ | ⟨g1, cap, cur, rfl, _, hh, _⟩
  · simp [Value.ownBlock] at hg
  · rcases h'.2 with ⟨rfl, _⟩ | ⟨g2, cap', cur', rfl, _, hh', _⟩
    · simp [Value.ownBlock] at hg'
    · simp [Value.ownBlock] at hg hg'
      subst hg; subst hg'
      rw [hh] at hh'
      injection hh' with hh'
      injection hh' with _ ht
      exact hne ht
theorem own_kept_ty {base base' : Nat} {e e' : TypeId} {v v' : Value} {n n' : Nat} {xs ys : List Value} (h : w.ownsRow base e 1 v n xs) (h' : w.ownsRow base' e' 1 v' n' ys) (hne : e ≠ e') (hg : w.grownBy w' v'.ownBlock) : w'.ownsRow base e 1 v n xs := by
  refine h.kept hg ?_
  cases hv : v.ownBlock with
  | none => exact .inl rfl
  | some g => exact .inr fun hx => own_apart h h' hne g hv hx.symm
theorem Own.kept_ty {c : Nat} {base' : Nat} {e' : TypeId} {v' : Value} {n' : Nat} {ys : List Value} (h : Own w lo hi T A n c us) (h' : w.ownsRow base' e' 1 v' n' ys) (hne : T ≠ e') (hg : w.grownBy w' v'.ownBlock) : Own w' lo hi T A n c us :=
  ⟨own_kept_ty h.1 h' hne hg, h.2⟩
theorem RowsOwn.kept_ty {base' : Nat} {e' : TypeId} {v' : Value} {n' : Nat} {ys : List Value} (h : RowsOwn w lo hi T vs xss) (h' : w.ownsRow base' e' 1 v' n' ys) (hne : T ≠ e') (hg : w.grownBy w' v'.ownBlock) : RowsOwn w' lo hi T vs xss := by
  refine ⟨h.1, h.2.1, fun k v xs h1 h2 => ?_⟩
  obtain ⟨A, n, c, e, hr⟩ := h.2.2 k v xs h1 h2
  exact ⟨A, n, c, e, hr.kept_ty h' hne hg⟩
theorem RowsOwn.snoc {c : Nat} {xs : List Int} (h : RowsOwn w lo hi T vs xss) (ho : Own w hi hi' T A n c (xs.map (Value.int .i64))) (h1 : lo ≤ hi) (h2 : hi ≤ hi') : RowsOwn w lo hi' T (vs ++ [.slice A n c]) (xss ++ [xs]) := by
  refine ⟨by simp [h.1], ?_, fun k v ys g1 g2 => ?_⟩
  · rw [List.pairwise_append]
    refine ⟨h.2.1, by simp, fun a ha b hb => ?_⟩
    simp at hb
    subst hb
    intro g hg hg'
    obtain ⟨k, hk⟩ := List.mem_iff_getElem?.1 ha
    have hkl : k < xss.length := by have := (List.getElem?_eq_some_iff.1 hk).1; have := h.1; omega
    obtain ⟨A1, n1, c1, rfl, hr⟩ := h.2.2 k a _ hk (List.getElem?_eq_getElem hkl)
    have hlt := hr.2
    have hge := (ho.1.lt g hg').1
    rcases A1 with _ | ad
    · simp [Value.ownBlock] at hg
    · have := hlt ad rfl
      simp [Value.ownBlock] at hg
      omega
  · by_cases hk : k < vs.length
    · rw [List.getElem?_append_left hk] at g1
      rw [List.getElem?_append_left (by have := h.1; omega)] at g2
      obtain ⟨A1, n1, c1, e, hr⟩ := h.2.2 k v ys g1 g2
      exact ⟨A1, n1, c1, e, hr.more (Nat.le_refl _) h2⟩
    · rw [List.getElem?_append_right (by omega)] at g1
      rw [List.getElem?_append_right (by have := h.1; omega)] at g2
      have hk0 : k - vs.length = 0 := by have := (List.getElem?_eq_some_iff.1 g1).1; simp at this; omega
      have hk1 : k - xss.length = 0 := by have := h.1; omega
      rw [hk0] at g1
      rw [hk1] at g2
      simp at g1 g2
      subst g1; subst g2
      exact ⟨A, n, c, rfl, ho.more h1 (Nat.le_refl _)⟩
/-- one row has been written, whatever its numbers are now -/
theorem RowsOwn.upd {i c : Nat} {ys : List Int} (h : RowsOwn w lo hi T vs xss) (hv : vs[i]? = some (.slice A n c)) (ho : Own w' lo hi T A n c (ys.map (Value.int .i64))) (hg : w.grownBy w' (Value.slice A n c).ownBlock) : RowsOwn w' lo hi T vs (xss.set i ys) := by
  refine ⟨by simp [h.1], h.2.1, fun k v xs h1 h2 => ?_⟩
  rw [List.getElem?_set] at h2
  by_cases e : i = k
  · subst e
    have hi : i < xss.length := by have := (List.getElem?_eq_some_iff.1 hv).1; have := h.1; omega
    rw [if_pos rfl, if_pos hi] at h2
    rw [hv] at h1
    have e1 := Option.some.inj h1
    have e2 := Option.some.inj h2
    subst e1; subst e2
    exact ⟨A, n, c, rfl, ho⟩
  · rw [if_neg e] at h2
    obtain ⟨A1, n1, c1, rfl, hr⟩ := h.2.2 k v xs h1 h2
    refine ⟨A1, n1, c1, rfl, ⟨hr.1.kept hg ?_, hr.2⟩⟩
    cases hq : (Value.slice A1 n1 c1).ownBlock with
    | none => exact .inl rfl
    | some g =>
      refine .inr fun hx => ?_
      obtain ⟨hi, hiv⟩ := List.getElem?_eq_some_iff.1 hv
      obtain ⟨hk, hkv⟩ := List.getElem?_eq_some_iff.1 h1
      have hp := List.pairwise_iff_getElem.1 h.2.1
      rcases Nat.lt_or_gt_of_ne e with hlt | hlt
      · have := hp i k hi hk hlt
        rw [hiv, hkv] at this
        exact this g hx.symm hq
      · have := hp k i hk hi hlt
        rw [hiv, hkv] at this
        exact this g hq hx.symm
/-- a slice of slices of the call's own -/
def OwnS (w : World) (lo hi : Nat) (TS T : TypeId) (A : Option Addr) (n c : Nat) (xss : List (List Int)) : Prop := ∃ vs, Own w lo hi TS A n c vs ∧ RowsOwn w lo hi T vs xss
variable {TS : TypeId} {c : Nat}
theorem OwnS.rs (h : OwnS w lo hi TS T A n c xss) : RS w lo hi A n xss := by
  obtain ⟨vs, h1, h2⟩ := h
  exact ⟨vs, h1.rd, h2.at⟩
theorem OwnS.nil : OwnS w lo hi TS T none 0 0 [] := ⟨[], Own.nil, RowsOwn.nil⟩
theorem OwnS.keep (h : OwnS w lo hi TS T A n c xss) (hs : Same lo hi w w') : OwnS w' lo hi TS T A n c xss := by
  obtain ⟨vs, h1, h2⟩ := h
  exact ⟨vs, h1.keep hs, h2.keep hs⟩
theorem OwnS.below {B : Nat} (h : OwnS w lo hi TS T A n c xss) (hb : Below B w w') (hB : hi ≤ B) : OwnS w' lo hi TS T A n c xss := h.keep (Same.of_below hb hB)
theorem OwnS.more (h : OwnS w lo hi TS T A n c xss) (h1 : lo' ≤ lo) (h2 : hi ≤ hi') : OwnS w lo' hi' TS T A n c xss := by
  obtain ⟨vs, g1, g2⟩ := h
  exact ⟨vs, g1.more h1 h2, g2.more h1 h2⟩
theorem OwnS.len (h : OwnS w lo hi TS T A n c xss) : xss.length = n := h.rs.len
end

theorem same_alloc (w : World) (o : Obj) (lo hi : Nat) (h : hi ≤ w.heap.size) : Same lo hi w (w.alloc o) := fun k _ hk => Below.heap_alloc w o k (by omega)
theorem same_set (w : World) (p : Addr) (u : Value) (lo hi : Nat) (h : p.block < lo ∨ hi ≤ p.block) : Same lo hi w (w.setCell p u) := fun k h1 h2 => Below.heap_setCell w p u k (by omega)
theorem same_grown {w w' : World} {row : Option Nat} (hg : w.grownBy w' row) {lo hi : Nat} (h : hi ≤ w.heap.size) (hr : ∀ g, row = some g → g < lo ∨ hi ≤ g) : Same lo hi w w' :=
  fun k h1 h2 => hg.block k (by omega) (fun e => by have := hr k e.symm; omega)
end Go.Proofs.YtebdfhkimnlglaaDoor
