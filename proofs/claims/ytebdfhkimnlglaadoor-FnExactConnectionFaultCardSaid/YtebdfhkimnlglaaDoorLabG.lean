/- Plain: labels of the parts of a graph by their least points, found by a search. No program in sight. No condition. -/
import Derived.Test.YtebdfhkimnlglaaDoorVoc
namespace Go.Proofs.YtebdfhkimnlglaaDoor
set_option linter.unusedVariables false
set_option maxRecDepth 100000
/-- what steps lead to -/
inductive Rc (S : Nat → Nat → Prop) (x : Nat) : Nat → Prop
  | refl : Rc S x x
  | step {y z : Nat} : Rc S x y → S y z → Rc S x z
theorem Rc.trans {S : Nat → Nat → Prop} {x y z : Nat} (h : Rc S x y) (k : Rc S y z) : Rc S x z := by
  induction k with
  | refl => exact h
  | step _ hs ih => exact ih.step hs
/-- steps stay among the points of V, which are below n, and lead back -/
structure SV (S : Nat → Nat → Prop) (V : Nat → Prop) (n : Nat) : Prop where
  inn : ∀ x y, V x → S x y → V y
  sym : ∀ x y, V x → S x y → S y x
  lt : ∀ x, V x → x < n
section
variable {S : Nat → Nat → Prop} {V : Nat → Prop} {n : Nat}
theorem Rc.inn (h : SV S V n) {x y : Nat} (hx : V x) (r : Rc S x y) : V y := by
  induction r with
  | refl => exact hx
  | step _ hs ih => exact h.inn _ _ ih hs
theorem Rc.symm (h : SV S V n) {x y : Nat} (hx : V x) (r : Rc S x y) : Rc S y x := by
  induction r with
  | refl => exact .refl
  | step r hs ih => exact (Rc.refl.step (h.sym _ _ (r.inn h hx) hs)).trans ih
/-- all parts of points below f are labelled -/
structure LabD (S : Nat → Nat → Prop) (V : Nat → Prop) (n f : Nat) (ls : List Int) : Prop where
  len : ls.length = n
  out : ∀ x, x < n → ¬ V x → ls[x]? = some (-1)
  val : ∀ x, V x → ls[x]? = some (-1) ∨ ∃ y : Nat, ls[x]? = some (y : Int) ∧ V y ∧ Rc S y x ∧ ∀ z, V z → Rc S z x → y ≤ z
  done : ∀ x, x < f → V x → ls[x]? ≠ some (-1)
  clo : ∀ x y, V x → S x y → ls[x]? ≠ some (-1) → ls[y]? ≠ some (-1)
/-- the part of f is being labelled: the points of P are still to be looked at -/
structure LabW (S : Nat → Nat → Prop) (V : Nat → Prop) (n f : Nat) (P : List Nat) (ls : List Int) : Prop where
  len : ls.length = n
  out : ∀ x, x < n → ¬ V x → ls[x]? = some (-1)
  val : ∀ x, V x → ls[x]? = some (-1) ∨ ∃ y : Nat, ls[x]? = some (y : Int) ∧ V y ∧ Rc S y x ∧ ∀ z, V z → Rc S z x → y ≤ z
  done : ∀ x, x < f → V x → ls[x]? ≠ some (-1)
  root : V f ∧ ls[f]? = some (f : Int)
  pend : ∀ x ∈ P, V x ∧ Rc S f x ∧ ls[x]? = some (f : Int)
  clo : ∀ x y, V x → S x y → ls[x]? ≠ some (-1) → x ∉ P → ls[y]? ≠ some (-1)
  least : ∀ z, V z → Rc S z f → f ≤ z
theorem LabD.zero (h : SV S V n) : LabD S V n 0 (List.replicate n (-1)) :=
  ⟨by simp, fun x hx _ => by simp [hx], fun x hx => .inl (by simp [h.lt x hx]), fun x hx => by omega, fun x y hx _ hne => absurd (by simp [h.lt x hx]) hne⟩
theorem LabD.up {f f' : Nat} {ls : List Int} (d : LabD S V n f ls) (h : ∀ x, V x → x < f' → x < f) : LabD S V n f' ls := ⟨d.len, d.out, d.val, fun x hx hv => d.done x (h x hv hx) hv, d.clo⟩
theorem LabD.skip {f : Nat} {ls : List Int} (d : LabD S V n f ls) (h : V f → ls[f]? ≠ some (-1)) : LabD S V n (f + 1) ls :=
  ⟨d.len, d.out, d.val, fun x hx hv => by
    by_cases e : x = f
    · subst e; exact h hv
    · exact d.done x (by omega) hv, d.clo⟩
theorem LabD.back (h : SV S V n) {f : Nat} {ls : List Int} (d : LabD S V n f ls) {x y : Nat} (hx : V x) (r : Rc S x y) (hl : ls[x]? ≠ some (-1)) : ls[y]? ≠ some (-1) := by
  induction r with
  | refl => exact hl
  | step r hs ih => exact d.clo _ _ (r.inn h hx) hs ih
theorem set_get {ls : List Int} {x y : Nat} {v : Int} (hx : x < ls.length) : (ls.set x v)[y]? = if x = y then some v else ls[y]? := by
  rw [List.getElem?_set]
  by_cases e : x = y
  · rw [if_pos e, if_pos e, if_pos hx]
  · rw [if_neg e, if_neg e]
theorem LabD.start (h : SV S V n) {f : Nat} {ls : List Int} (d : LabD S V n f ls) (hv : V f) (hf : ls[f]? = some (-1)) : LabW S V n f [f] (ls.set f (f : Int)) := by
  have hfl : f < ls.length := (List.getElem?_eq_some_iff.1 hf).1
  have hleast : ∀ z, V z → Rc S z f → f ≤ z := fun z hz r => by
    apply Nat.le_of_not_lt
    intro hlt
    exact d.back h hz r (d.done z hlt hz) hf
  have hne : ∀ x, ls[x]? ≠ some (-1) → (ls.set f (f : Int))[x]? ≠ some (-1) := fun x hx => by
    rw [set_get hfl]
    by_cases e : f = x
    · rw [if_pos e]; intro e2; injection e2 with e2; omega
    · rw [if_neg e]; exact hx
  refine ⟨by rw [List.length_set]; exact d.len, fun x hx hnv => ?_, fun x hx => ?_, fun x hx hvx => hne x (d.done x hx hvx), ⟨hv, by rw [set_get hfl, if_pos rfl]⟩, fun x hx => ?_, fun x y hx hs hl hnp => ?_, hleast⟩
  · rw [set_get hfl, if_neg (show ¬ f = x from fun e => hnv (by rw [← e]; exact hv))]; exact d.out x hx hnv
  · rw [set_get hfl]
    by_cases e : f = x
    · subst e
      rw [if_pos rfl]
      exact .inr ⟨f, rfl, hv, .refl, hleast⟩
    · rw [if_neg e]; exact d.val x hx
  · simp at hx; subst hx; exact ⟨hv, .refl, by rw [set_get hfl, if_pos rfl]⟩
  · rw [set_get hfl] at hl
    by_cases e : f = x
    · exact absurd (by simp [e]) hnp
    · rw [if_neg e] at hl
      exact hne y (d.clo x y hx hs hl)
/-- one more point of the part -/
theorem LabW.add (h : SV S V n) {f : Nat} {P : List Nat} {ls : List Int} (w : LabW S V n f P ls) {x y : Nat} (hx : V x) (hr : Rc S f x) (hs : S x y) (hy : ls[y]? = some (-1)) : LabW S V n f (P ++ [y]) (ls.set y (f : Int)) := by
  have hyl : y < ls.length := (List.getElem?_eq_some_iff.1 hy).1
  have hvy := h.inn x y hx hs
  have hry : Rc S f y := hr.step hs
  have hne : ∀ u, ls[u]? ≠ some (-1) → (ls.set y (f : Int))[u]? ≠ some (-1) := fun u hu => by
    rw [set_get hyl]
    by_cases e : y = u
    · rw [if_pos e]; intro e2; injection e2 with e2; omega
    · rw [if_neg e]; exact hu
  refine ⟨by rw [List.length_set]; exact w.len, fun u hu hnv => ?_, fun u hu => ?_, fun u hu hvu => hne u (w.done u hu hvu), ⟨w.root.1, ?_⟩, fun u hu => ?_, fun u v hu hsu hl hnp => ?_, w.least⟩
  · rw [set_get hyl, if_neg (show ¬ y = u from fun e => hnv (by rw [← e]; exact hvy))]; exact w.out u hu hnv
  · rw [set_get hyl]
    by_cases e : y = u
    · subst e
      rw [if_pos rfl]
      exact .inr ⟨f, rfl, w.root.1, hry, fun z hz r => w.least z hz (r.trans (hry.symm h w.root.1))⟩
    · rw [if_neg e]; exact w.val u hu
  · rw [set_get hyl]
    by_cases e : y = f
    · rw [if_pos e]
    · rw [if_neg e]; exact w.root.2
  · rcases List.mem_append.1 hu with hu | hu
    · obtain ⟨p1, p2, p3⟩ := w.pend u hu
      refine ⟨p1, p2, ?_⟩
      rw [set_get hyl]
      by_cases e : y = u
      · rw [if_pos e]
      · rw [if_neg e]; exact p3
    · simp at hu; subst hu; exact ⟨hvy, hry, by rw [set_get hyl, if_pos rfl]⟩
  · rw [set_get hyl] at hl
    by_cases e : y = u
    · exact absurd (by simp [e]) hnp
    · rw [if_neg e] at hl
      exact hne v (w.clo u v hu hsu hl (fun hm => hnp (by simp [hm])))
/-- a point has been looked at -/
theorem LabW.pop {f x : Nat} {P : List Nat} {ls : List Int} (w : LabW S V n f (x :: P) ls) (hx : ∀ y, S x y → ls[y]? ≠ some (-1)) : LabW S V n f P ls :=
  ⟨w.len, w.out, w.val, w.done, w.root, fun u hu => w.pend u (by simp [hu]), fun u v hu hs hl hnp => by
    by_cases e : u = x
    · subst e; exact hx v hs
    · exact w.clo u v hu hs hl (by simp [e, hnp]), w.least⟩
theorem LabW.fin {f : Nat} {ls : List Int} (w : LabW S V n f [] ls) : LabD S V n (f + 1) ls :=
  ⟨w.len, w.out, w.val, fun x hx hv => by
    by_cases e : x = f
    · subst e; rw [w.root.2]; intro e2; injection e2 with e2; omega
    · exact w.done x (by omega) hv, fun x y hx hs hl => w.clo x y hx hs hl (by simp)⟩
/-- two points have the same label exactly if steps lead from one to the other -/
theorem LabD.same (h : SV S V n) {ls : List Int} (d : LabD S V n n ls) {a b : Nat} (ha : V a) (hb : V b) : ls[a]? = ls[b]? ↔ Rc S a b := by
  obtain ⟨y, e1, v1, r1, m1⟩ := (d.val a ha).resolve_left (d.done a (h.lt a ha) ha)
  obtain ⟨z, e2, v2, r2, m2⟩ := (d.val b hb).resolve_left (d.done b (h.lt b hb) hb)
  rw [e1, e2]
  constructor
  · intro e
    injection e with e
    have : y = z := by omega
    subst this
    exact (r1.symm h v1).trans r2
  · intro r
    have h1 := m1 z v2 (r2.trans (r.symm h ha))
    have h2 := m2 y v1 (r1.trans r)
    have : y = z := by omega
    rw [this]
theorem LabD.get {ls : List Int} (h : SV S V n) (d : LabD S V n n ls) {a : Nat} (ha : V a) : ∃ y : Nat, ls[a]? = some (y : Int) := by
  obtain ⟨y, e1, _⟩ := (d.val a ha).resolve_left (d.done a (h.lt a ha) ha)
  exact ⟨y, e1⟩
theorem LabW.neg {f x : Nat} {P : List Nat} {ls : List Int} (w : LabW S V n f P ls) (hx : V x) {v : Int} (hv : ls[x]? = some v) : v < 0 ↔ ls[x]? = some (-1) := by
  rcases w.val x hx with e | ⟨y, e, _⟩
  · rw [hv] at e ⊢; injection e with e; subst e; simp
  · rw [hv] at e ⊢; injection e with e; subst e
    constructor
    · intro hlt; omega
    · intro e2; injection e2 with e2; omega
theorem LabD.neg {f x : Nat} {ls : List Int} (d : LabD S V n f ls) (hx : V x) {v : Int} (hv : ls[x]? = some v) : v < 0 ↔ ls[x]? = some (-1) := by
  rcases d.val x hx with e | ⟨y, e, _⟩
  · rw [hv] at e ⊢; injection e with e; subst e; simp
  · rw [hv] at e ⊢; injection e with e; subst e
    constructor
    · intro hlt; omega
    · intro e2; injection e2 with e2; omega
/-- of how many points the label is wanting -/
def wantN (ls : List Int) : Nat := ls.count (-1)
theorem wantN_set {ls : List Int} {y : Nat} {f : Nat} (hy : ls[y]? = some (-1)) : wantN (ls.set y (f : Int)) + 1 = wantN ls := by
  unfold wantN
  obtain ⟨hl, e⟩ := List.getElem?_eq_some_iff.1 hy
  rw [List.count_set hl, e]
  have h1 : 0 < ls.count (-1) := List.count_pos_iff.2 (e ▸ List.getElem_mem hl)
  have h2 : ((f : Int) == -1) = false := by simp <;> omega
  simp [h2] <;> omega
end
end Go.Proofs.YtebdfhkimnlglaaDoor
